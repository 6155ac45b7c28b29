/-
  Polynomials: what is drawn, validity, cutting of zeros, quotients of series: contracts.
-/
import Derived.Test.YtljlcbichimhaaaGreatDoorDrw
import Derived.Test.YtljlcbichimhaaaGreatDoorPolyT
import Derived.Test.YtljlcbichimhaaaGreatDoorCopy
import Derived.Deep.RegionWith
import Derived.Deep.RegionLaw
import Derived.StillTailTactics
import Derived.Deep.RegionHeld3
namespace Go.Proofs.YtljlcbichimhaaaGreatDoor
open Go.ChangeShapes Go.WideShapes Go.ChangeAt Go.RowKit
set_option linter.unusedVariables false
set_option linter.unusedSimpArgs false

theorem RdI.take {w : World} {p : Option Addr} {xs : List Int} (h : RdI w p xs) (n : Nat) : RdI w p (xs.take n) := by
  refine ⟨by have := h.len; rw [List.length_take]; omega, ?_⟩
  rcases h.cells with rfl | ⟨b, o, e, hc⟩
  · left; simp
  · right
    refine ⟨b, o, e, fun i hi => ?_⟩
    rw [List.length_take] at hi
    rw [hc i (by omega), List.getElem_take]
set_option maxHeartbeats 2000000 in
theorem l04Trim_any {p : Option Addr} {c : Nat} {xs : List Int} (w : World) (h : RdI w p xs) (hl : xs.length ≤ 1048576) (hcap : xs.length ≤ c) :
    Calls Tryz.prog 65 #[.slice p xs.length c] w fun e w' => ∃ v, e = .returned v ∧ OwnI w.heap.size w' v (trimL xs) ∧ Below w.heap.size w w' := by
  by_cases h0 : xs.length = 0
  · have hx : xs = [] := List.eq_nil_of_length_eq_zero h0
    subst hx
    have ho := Lib.hid (OwnI.lit (B := w.heap.size) w [0] (Nat.le_refl _) (by simp [maxLen]))
    go_enter Tryz.func65, Tryz.ntmps65
    go_wp2_with fail
    go_loop [3] (fun n => n = .int .i64 0) (fun n => (intOf n).toNat)
    case atStart => exact rfl
    case round =>
      obtain rfl := hrel
      go_wp2_with fail
      go_ret
      exact ⟨_, rfl, ho.out, (Below.refl _ _).alloc (Nat.le_refl _) _⟩
  have hT : Hid (trimL xs = xs.take (tn xs xs.length)) := by unfold Hid trimL; rw [if_neg h0]
  have ho1 := Lib.hid (OwnI.lit (B := w.heap.size) w [0] (Nat.le_refl _) (by simp [maxLen]))
  go_enter Tryz.func65, Tryz.ntmps65
  go_wp2_with fail
  go_loop [3] (fun n => ∃ k : Nat, 1 ≤ k ∧ k ≤ xs.length ∧ n = .int .i64 (k : Int) ∧ tn xs xs.length = tn xs k) (fun n => (intOf n).toNat)
  case atStart => exact ⟨xs.length, by omega, Nat.le_refl _, rfl, rfl⟩
  case round =>
    obtain ⟨k, hk1, hk, rfl, hinv⟩ := hrel
    have HI := Lib.hid hinv
    clear hinv
    by_cases h1 : k = 1
    · subst h1
      have hd : decide ((1 : Int) < (1 : Int)) = false := rfl
      have hr1 := h.take 1
      have e1 : (xs.take 1).length = 1 := by rw [List.length_take]; omega
      have OC : Hid (Calls Tryz.prog 80 #[.slice p 1 c] w fun e w' => ∃ v, e = .returned v ∧ OwnI w.heap.size w' v (trimL xs) ∧ Below w.heap.size w w') := by
        have := l00Own_any (c := c) w hr1 (by omega)
        rw [e1] at this
        rw [hT.out, HI.out]
        exact this
      go_wp2_with (go_at_call 80; refine OC.out.mono ?_; rintro e w1 ⟨v, rfl, ho, hb⟩)
      go_ret
      exact ⟨_, rfl, ho, hb⟩
    · obtain ⟨j, rfl⟩ : ∃ j, k = j + 2 := ⟨k - 2, by omega⟩
      obtain ⟨b, o, rfl, hb1, hc⟩ := h.pos (k := j + 1) (by omega)
      have hck := hc (j + 1) (by omega)
      have HG : Hid (xs.getD (j + 1) 0 = xs[j + 1]'(by omega)) := by
        unfold Hid; rw [List.getD_eq_getElem?_getD, List.getElem?_eq_getElem (by omega)]; rfl
      generalize xs[j + 1]'(by omega) = x at hck HG
      clear hc
      have e2 : ((j : Int) + 2 - 1) = (j : Int) + 1 := by omega
      have e3 : ((j : Int) + 1).toNat = j + 1 := by omega
      have hlt : (j : Int) + 1 < (xs.length : Int) := by omega
      by_cases hx : x = 0
      · have q : (x == 0) = true := by rw [beq_iff_eq]; exact hx
        have HN : Hid (tn xs xs.length = tn xs (j + 1)) := by unfold Hid; rw [HI.out, tn, if_pos (by rw [HG.out]; exact hx)]
        clear hx
        go_wp2_with fail
        go_round
        case rel => exact ⟨j + 1, by omega, by omega, by first | rfl | go_num, HN.out⟩
        case measure => simp [intOf] <;> omega
      · have q : (x == 0) = false := by rw [beq_eq_false_iff_ne]; exact hx
        have HN : Hid (tn xs xs.length = j + 2) := by unfold Hid; rw [HI.out, tn, if_neg (by rw [HG.out]; exact hx)]
        have hr1 := h.take (j + 2)
        have e1 : (xs.take (j + 2)).length = j + 2 := by rw [List.length_take]; omega
        have OC : Hid (Calls Tryz.prog 80 #[.slice (some ⟨b, o, none⟩) (j + 2) c] w fun e w' => ∃ v, e = .returned v ∧ OwnI w.heap.size w' v (trimL xs) ∧ Below w.heap.size w w') := by
          have := l00Own_any (c := c) w hr1 (by omega)
          rw [e1] at this
          rw [hT.out, HN.out]
          exact this
        clear hx e1
        go_wp2_with (go_at_call 80; refine OC.out.mono ?_; rintro e w1 ⟨v, rfl, ho, hb⟩)
        go_ret
        exact ⟨_, rfl, ho, hb⟩
end Go.Proofs.YtljlcbichimhaaaGreatDoor
