/-
  Contracts of small functions on lists: samples, equality, tables of numbers.
-/
import Derived.Test.YtljlcbichimhaaaGreatDoorOwn
import Derived.Test.YtljlcbichimhaaaGreatDoorScal
namespace Go.Proofs.YtljlcbichimhaaaGreatDoor
open Go.ChangeShapes Go.WideShapes Go.ChangeAt Go.RowKit
set_option linter.unusedVariables false

theorem all_false {α : Type} {f : α → Bool} {xs : List α} {k : Nat} (h : k < xs.length) (hf : f xs[k] = false) : xs.all f = false := by
  rw [List.all_eq_false]
  exact ⟨xs[k], List.getElem_mem h, by rw [hf]; simp⟩
theorem all_step {α : Type} {f : α → Bool} {xs : List α} {k : Nat} (h : k < xs.length) (ht : (xs.take k).all f = true) (hf : f xs[k] = true) : (xs.take (k + 1)).all f = true := by
  rw [List.take_succ_eq_append_getElem h, List.all_append, ht]
  simp [hf]
theorem all_done {α : Type} {f : α → Bool} {xs : List α} (ht : (xs.take xs.length).all f = true) : xs.all f = true := by rwa [List.take_length] at ht
theorem eqq_false {α : Type} [DecidableEq α] {xs ys : List α} {k : Nat} (h1 : k < xs.length) (h2 : k < ys.length) (h : xs[k] ≠ ys[k]) : decide (xs = ys) = false := by
  rw [decide_eq_false_iff_not]
  rintro rfl
  exact h rfl
theorem eqq_true {α : Type} [DecidableEq α] {xs ys : List α} (hl : xs.length = ys.length) (h : xs.take xs.length = ys.take xs.length) : decide (xs = ys) = true := by
  rw [List.take_length, hl, List.take_length] at h
  simp [h]
theorem eqq_step {α : Type} {xs ys : List α} {k : Nat} (h1 : k < xs.length) (h2 : k < ys.length) (h : xs.take k = ys.take k) (he : xs[k] = ys[k]) : xs.take (k + 1) = ys.take (k + 1) := by
  rw [List.take_succ_eq_append_getElem h1, List.take_succ_eq_append_getElem h2, h, he]

set_option maxHeartbeats 400000 in
theorem areSamples_any {p : Option Addr} {c : Nat} {xs : List Int} (w : World) (h : RdI w p xs) :
    Calls Tryz.prog 52 #[.slice p xs.length c] w fun e w' => e = .returned (.bool (xs.all isSmp)) ∧ w = w' := by
  have hlen := h.len
  unfold maxLen at hlen
  go_enter Tryz.func52, Tryz.ntmps52
  go_wp2_with fail
  go_loop [7] (fun i => ∃ k : Nat, k ≤ xs.length ∧ i = .int .i64 k ∧ (xs.take k).all isSmp = true) (fun i => xs.length - (intOf i).toNat)
  case atStart => exact ⟨0, Nat.zero_le _, rfl, by simp⟩
  case round =>
    obtain ⟨k, hk, rfl, hall⟩ := hrel
    have HA := Lib.hid hall; clear hall
    by_cases hlt : k < xs.length
    · obtain ⟨b, o, rfl, hb, hc⟩ := h.pos hlt
      have hck := hc k hlt
      clear hc
      generalize hx : xs[k] = x at hck
      have HX := Lib.hid hx; clear hx
      cases hs : isSmp x
      · go_wp2_with (go_at_call 72; refine (isSample_any _ _).mono ?_; rintro e w' ⟨rfl, rfl⟩)
        go_ret
        exact ⟨ret_bool (all_false hlt (by rw [HX.out]; exact hs)).symm, rfl⟩
      · go_wp2_with (go_at_call 72; refine (isSample_any _ _).mono ?_; rintro e w' ⟨rfl, rfl⟩)
        go_round
        case rel => exact ⟨k + 1, by omega, by go_num, all_step hlt HA.out (by rw [HX.out]; exact hs)⟩
        case measure => simp [intOf] <;> omega
    · obtain rfl : k = xs.length := by omega
      go_wp2_with fail
      go_ret
      exact ⟨ret_bool (all_done HA.out).symm, rfl⟩
set_option maxHeartbeats 400000 in
theorem l04Samples_any {p : Option Addr} {c : Nat} {xs : List Int} (w : World) (h : RdI w p xs) :
    Calls Tryz.prog 70 #[.slice p xs.length c] w fun e w' => e = .returned (.bool (xs.all isSmp)) ∧ w = w' := by
  have hlen := h.len
  unfold maxLen at hlen
  go_enter Tryz.func70, Tryz.ntmps70
  go_wp2_with fail
  go_loop [3] (fun i => ∃ k : Nat, k ≤ xs.length ∧ i = .int .i64 k ∧ (xs.take k).all isSmp = true) (fun i => xs.length - (intOf i).toNat)
  case atStart => exact ⟨0, Nat.zero_le _, rfl, by simp⟩
  case round =>
    obtain ⟨k, hk, rfl, hall⟩ := hrel
    have HA := Lib.hid hall; clear hall
    by_cases hlt : k < xs.length
    · obtain ⟨b, o, rfl, hb, hc⟩ := h.pos hlt
      have hck := hc k hlt
      clear hc
      generalize hx : xs[k] = x at hck
      have HX := Lib.hid hx; clear hx
      cases hs : isSmp x
      · go_wp2_with (go_at_call 54; refine (l01Sample_any _ _).mono ?_; rintro e w' ⟨rfl, rfl⟩)
        go_ret
        exact ⟨ret_bool (all_false hlt (by rw [HX.out]; exact hs)).symm, rfl⟩
      · go_wp2_with (go_at_call 54; refine (l01Sample_any _ _).mono ?_; rintro e w' ⟨rfl, rfl⟩)
        go_round
        case rel => exact ⟨k + 1, by omega, by go_num, all_step hlt HA.out (by rw [HX.out]; exact hs)⟩
        case measure => simp [intOf] <;> omega
    · obtain rfl : k = xs.length := by omega
      go_wp2_with fail
      go_ret
      exact ⟨ret_bool (all_done HA.out).symm, rfl⟩
theorem sizeI_any (p : Option Addr) (n c : Nat) (w : World) (hn : n ≤ maxLen) :
    Calls Tryz.prog 32 #[.slice p n c] w fun e w' => e = .returned (.int .i64 n) ∧ w = w' := by
  unfold maxLen at hn
  go_enter Tryz.func32, Tryz.ntmps32
  go_wp2
  go_ret
  exact ⟨rfl, rfl⟩
set_option maxHeartbeats 400000 in
theorem same_any {p q : Option Addr} {c d : Nat} {xs ys : List Int} (w : World) (h : RdI w p xs) (h' : RdI w q ys) :
    Calls Tryz.prog 40 #[.slice p xs.length c, .slice q ys.length d] w fun e w' => e = .returned (.bool (decide (xs = ys))) ∧ w = w' := by
  have hl1 := h.len
  have hl2 := h'.len
  unfold maxLen at hl1 hl2
  by_cases hl : xs.length = ys.length
  · have HL := Lib.hid hl
    have hb : (((xs.length : Int) != (ys.length : Int))) = false := by rw [bne_eq_false_iff_eq]; omega
    clear hl
    go_enter Tryz.func40, Tryz.ntmps40
    go_wp2_with fail
    go_loop [14] (fun i => ∃ k : Nat, k ≤ xs.length ∧ i = .int .i64 k ∧ xs.take k = ys.take k) (fun i => xs.length - (intOf i).toNat)
    case atStart => exact ⟨0, Nat.zero_le _, rfl, rfl⟩
    case round =>
      obtain ⟨k, hk, rfl, ht⟩ := hrel
      have HT := Lib.hid ht; clear ht
      by_cases hlt : k < xs.length
      · obtain ⟨b, o, rfl, hb1, hc⟩ := h.pos hlt
        obtain ⟨b', o', rfl, hb2, hc'⟩ := h'.pos (k := k) (by have := HL.out; omega)
        have hlt2 : k < ys.length := by have := HL.out; omega
        have hck := hc k hlt
        have hck' := hc' k hlt2
        clear hc hc'
        generalize hx : xs[k] = x at hck
        generalize hy : ys[k] = y at hck'
        have HX := Lib.hid hx; clear hx
        have HY := Lib.hid hy; clear hy
        by_cases hxy : x = y
        · have hne : (x != y) = false := by rw [bne_eq_false_iff_eq]; exact hxy
          have HXY := Lib.hid hxy; clear hxy
          go_wp2_with fail
          go_round
          case rel => exact ⟨k + 1, by omega, by go_num, eqq_step hlt hlt2 HT.out (by rw [HX.out, HY.out, HXY.out])⟩
          case measure => simp [intOf] <;> omega
        · have hne : (x != y) = true := by rw [bne_iff_ne]; exact hxy
          have HXY := Lib.hid hxy; clear hxy
          go_wp2_with fail
          go_ret
          exact ⟨ret_bool (eqq_false hlt hlt2 (by rw [HX.out, HY.out]; exact HXY.out)).symm, rfl⟩
      · obtain rfl : k = xs.length := by omega
        go_wp2_with fail
        go_ret
        exact ⟨ret_bool (eqq_true HL.out HT.out).symm, rfl⟩
  · have hb : (((xs.length : Int) != (ys.length : Int))) = true := by rw [bne_iff_ne]; omega
    have he : decide (xs = ys) = false := by rw [decide_eq_false_iff_not]; rintro rfl; exact hl rfl
    rw [he]
    clear he hl
    go_enter Tryz.func40, Tryz.ntmps40
    go_wp2_with fail
    go_ret
    exact ⟨rfl, rfl⟩
set_option maxHeartbeats 400000 in
theorem l00Same_any {p q : Option Addr} {c d : Nat} {xs ys : List Int} (w : World) (h : RdI w p xs) (h' : RdI w q ys) :
    Calls Tryz.prog 41 #[.slice p xs.length c, .slice q ys.length d] w fun e w' => e = .returned (.bool (decide (xs = ys))) ∧ Drawn w w' := by
  have hl1 := h.len
  have hl2 := h'.len
  unfold maxLen at hl1 hl2
  by_cases hl : xs.length = ys.length
  · have HL := Lib.hid hl
    have hb : (((xs.length : Int) != (ys.length : Int))) = false := by rw [bne_eq_false_iff_eq]; omega
    clear hl
    go_enter Tryz.func41, Tryz.ntmps41
    go_wp2_with fail
    go_loopw [5] (fun i wr => ∃ k : Nat, k ≤ xs.length ∧ i = .int .i64 k ∧ xs.take k = ys.take k ∧ Drawn w wr) (fun i _ => xs.length - (intOf i).toNat)
    case atStart => exact ⟨0, Nat.zero_le _, rfl, rfl, Drawn.refl w⟩
    case round =>
      obtain ⟨k, hk, rfl, ht, hdr⟩ := hrel
      have HT := Lib.hid ht; clear ht
      have h1 := hdr.rdI h
      have h2 := hdr.rdI h'
      clear h h'
      by_cases hlt : k < xs.length
      · obtain ⟨b, o, rfl, hb1, hc⟩ := h1.pos hlt
        obtain ⟨b', o', rfl, hb2, hc'⟩ := h2.pos (k := k) (by have := HL.out; omega)
        have hlt2 : k < ys.length := by have := HL.out; omega
        have hck := hc k hlt
        have hck' := hc' k hlt2
        clear hc hc'
        generalize hx : xs[k] = x at hck
        generalize hy : ys[k] = y at hck'
        have HX := Lib.hid hx; clear hx
        have HY := Lib.hid hy; clear hy
        by_cases hxy : x = y
        · have hne : (x != y) = false := by rw [bne_eq_false_iff_eq]; exact hxy
          have HXY := Lib.hid hxy; clear hxy
          go_wp2_with fail
          go_quiet (fail)
          go_wp2_with fail
          go_roundw
          case rel => exact ⟨k + 1, by omega, by go_num, eqq_step hlt hlt2 HT.out (by rw [HX.out, HY.out, HXY.out]), hdr.on _⟩
          case measure => simp [intOf] <;> omega
        · have hne : (x != y) = true := by rw [bne_iff_ne]; exact hxy
          have HXY := Lib.hid hxy; clear hxy
          go_wp2_with fail
          go_quiet (fail)
          go_wp2_with fail
          go_ret
          exact ⟨ret_bool (eqq_false hlt hlt2 (by rw [HX.out, HY.out]; exact HXY.out)).symm, hdr.on _⟩
      · obtain rfl : k = xs.length := by omega
        go_wp2_with fail
        go_ret
        exact ⟨ret_bool (eqq_true HL.out HT.out).symm, hdr⟩
  · have hb : (((xs.length : Int) != (ys.length : Int))) = true := by rw [bne_iff_ne]; omega
    have he : decide (xs = ys) = false := by rw [decide_eq_false_iff_not]; rintro rfl; exact hl rfl
    rw [he]
    clear he hl
    go_enter Tryz.func41, Tryz.ntmps41
    go_wp2_with fail
    go_ret
    exact ⟨rfl, Drawn.refl w⟩
/-- so many rows of so many samples each -/
def rowB (c : Int) (xs : List Int) : Bool := decide ((xs.length : Int) = c) && xs.all isSmp
def tabB (xss : List (List Int)) (r c : Int) : Bool := decide ((xss.length : Int) = r) && xss.all (rowB c)
theorem tabB_iff {xss : List (List Int)} {r c : Int} : tabB xss r c = true ↔ (xss.length : Int) = r ∧ ∀ xs ∈ xss, (xs.length : Int) = c ∧ ∀ x ∈ xs, isSmp x = true := by
  simp [tabB, rowB]
def matB (xss : List (List Int)) : Bool := decide ((xss.length : Int) ≤ 24) && tabB xss xss.length xss.length
end Go.Proofs.YtljlcbichimhaaaGreatDoor
