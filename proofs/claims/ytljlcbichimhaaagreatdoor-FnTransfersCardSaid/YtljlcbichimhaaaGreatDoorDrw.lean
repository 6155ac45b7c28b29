/-
  What is drawn: one of some numbers, a sample.
-/
import Derived.Test.YtljlcbichimhaaaGreatDoorSrc
import Derived.Test.YtljlcbichimhaaaGreatDoorPolyM
namespace Go.Proofs.YtljlcbichimhaaaGreatDoor
open Go.ChangeShapes Go.WideShapes Go.ChangeAt Go.RowKit
set_option linter.unusedVariables false
set_option linter.unusedSimpArgs false

def AllS (xs : List Int) : Prop := ∀ x ∈ xs, isSmp x = true
/-- a literal of integers, as a slice that reads it -/
theorem rdI_lit (w : World) (xs : List Int) (hm : xs.length ≤ 1048576) : RdI (w.alloc (.cells (xs.map (Value.int .i64)).toArray 2)) (some ⟨w.heap.size, 0, none⟩) xs := by
  have ho := OwnI.lit (B := w.heap.size) w xs (Nat.le_refl _) (by unfold maxLen; omega)
  rcases ho.cases with ⟨h, _⟩ | ⟨g, cap, hv, _, _, _, hr⟩
  · simp at h
  · simp only [Value.slice.injEq, Option.some.injEq, Addr.mk.injEq, and_true] at hv
    obtain ⟨rfl, -, -⟩ := hv
    exact hr
theorem amongLit_any {g m : Nat} (xs : List Int) (w : World) (h : SrcAt w g m) (hl0 : 0 < xs.length) (hl : xs.length ≤ 1024) (hm : m + 1 ≤ 1099511627776) :
    Calls Tryz.prog 66 #[.pointer (some ⟨g, 0, none⟩), .slice (some ⟨w.heap.size, 0, none⟩) xs.length xs.length] (w.alloc (.cells (xs.map (Value.int .i64)).toArray 2)) fun e w' => ∃ x, x ∈ xs ∧ e = .returned (.int .i64 x) ∧ SrcAt w' g (m + 2) ∧ Off (· = g) w w' := by
  have hb : Below w.heap.size w (w.alloc (.cells (xs.map (Value.int .i64)).toArray 2)) := (Below.refl _ _).alloc (Nat.le_refl _) _
  have hlt := h.lt
  refine (among_any _ (h.below hb) (rdI_lit w xs (by omega)) (fun b o e => by simp only [Option.some.injEq, Addr.mk.injEq, and_true] at e; omega) hl0 hl hm).mono ?_
  rintro e w' ⟨x, hx, rfl, hs, ho⟩
  exact ⟨x, hx, rfl, hs, (Off.of_below _ hb).trans ho⟩
set_option maxHeartbeats 2000000 in
theorem l01Draw_any {g m : Nat} (w : World) (h : SrcAt w g m) (hm : m + 20 ≤ 1099511627776) :
    Calls Tryz.prog 43 #[.pointer (some ⟨g, 0, none⟩)] w (Draws w g (m + 8) fun x => isSmp x = true) := by
  go_enter Tryz.func43, Tryz.ntmps43
  go_wp2_with fail
  refine (pick_any 8 w h (by omega) (by omega)).mono ?_
  rintro e w1 ⟨x, hx, rfl, hs1, ho1⟩
  have hx1 := (pickP_pos hx (by omega)).1
  have hx2 := (pickP_pos hx (by omega)).2
  have HS1 := Lib.hid hs1
  have HO1 := Lib.hid ho1
  clear hx h hs1 ho1
  by_cases x0 : x = 0
  · subst x0
    have A1 := Lib.hid (amongLit_any [-2147483648, 2147483647, -2147483647, 65536, -65536, 1073741824] w1 HS1.out (by simp) (by simp) (by omega))
    go_wp2_with (go_at_call 66; refine A1.out.mono ?_; rintro e w2 ⟨y, hy, rfl, hs2, ho2⟩)
    go_ret
    refine ⟨y, ?_, rfl, hs2.mono (by omega), HO1.out.trans ho2⟩
    simp only [List.mem_cons, List.not_mem_nil, or_false] at hy
    exact isSmp_iff.2 (by omega)
  have q0 : (x == 0) = false := by rw [beq_eq_false_iff_ne]; exact x0
  by_cases x1 : x = 1
  · subst x1
    go_wp2_with fail
    refine (next_any w1 HS1.out (by omega)).mono ?_
    rintro e w2 ⟨y, hy, rfl, hs2, ho2⟩
    have hy1 := hy.1
    have hy2 := hy.2
    have HO2 := Lib.hid (HO1.out.trans ho2)
    clear hy ho2
    go_wp2_with fail
    go_loopw [3, 4] (fun n k wr => ∃ (j : Nat) (z : Int), j ≤ 3 ∧ k = .int .i64 (j : Int) ∧ n = .int .i64 z ∧ 0 ≤ z ∧ z < 256 ^ (j + 1) ∧ SrcAt wr g (m + 3 + j) ∧ Off (· = g) w wr) (fun _ k _ => (3 - intOf k).toNat)
    case atStart => exact ⟨0, y, by omega, rfl, rfl, hy1, by omega, hs2.mono (by omega), HO2.out⟩
    case round =>
      obtain ⟨j, z, hj, rfl, rfl, hz1, hz2, hs, ho⟩ := hrel
      have hzb : z < 4294967296 := by
        have : j = 0 ∨ j = 1 ∨ j = 2 ∨ j = 3 := by omega
        rcases this with rfl | rfl | rfl | rfl <;> simp at hz2 <;> omega
      have HS := Lib.hid hs
      have HO := Lib.hid ho
      have HZ := Lib.hid hz2
      clear hs ho hz2
      obtain ⟨wi, rfl⟩ : ∃ wi : World, wi = wr := ⟨_, rfl⟩
      by_cases hjt : j < 3
      · go_wp2_with fail
        refine (next_any wi HS.out (by omega)).mono ?_
        rintro e w3 ⟨t, ht, rfl, hs3, ho3⟩
        have ht1 := ht.1
        have ht2 := ht.2
        have HN : Hid (256 * z + t < 256 ^ (j + 1 + 1)) := by
          unfold Hid
          have h1 := HZ.out
          have : j = 0 ∨ j = 1 ∨ j = 2 := by omega
          rcases this with rfl | rfl | rfl <;> simp at h1 ⊢ <;> omega
        have HO3 := Lib.hid (HO.out.trans ho3)
        have HS3 : Hid (SrcAt w3 g (m + 3 + (j + 1))) := hs3.mono (by omega)
        clear ht ho3 hs3
        go_wp2_with fail
        go_roundw
        case rel => exact ⟨j + 1, 256 * z + t, by omega, by go_num, rfl, by omega, HN.out, HS3.out, HO3.out⟩
        case measure => simp [intOf] <;> omega
      · obtain rfl : j = 3 := by omega
        go_wp2_with (go_at_call 68; refine (l01Wrap_any _ _).mono ?_; rintro e w' ⟨rfl, rfl⟩)
        go_ret
        exact ⟨_, smp_isSmp _, rfl, HS.out.mono (by omega), HO.out⟩
  have q1 : (x == 1) = false := by rw [beq_eq_false_iff_ne]; exact x1
  by_cases x2 : x = 2
  · subst x2
    go_wp2_with fail
    go_ret
    exact ⟨0, isSmp_iff.2 (by omega), rfl, HS1.out.mono (by omega), HO1.out⟩
  have q2 : (x == 2) = false := by rw [beq_eq_false_iff_ne]; exact x2
  go_wp2_with fail
  refine (pick_any 41 w1 HS1.out (by omega) (by omega)).mono ?_
  rintro e w2 ⟨y, hy, rfl, hs2, ho2⟩
  have hy1 := (pickP_pos hy (by omega)).1
  have hy2 := (pickP_pos hy (by omega)).2
  go_wp2_with fail
  go_ret
  exact ⟨_, isSmp_iff.2 (by omega), rfl, hs2.mono (by omega), HO1.out.trans ho2⟩
end Go.Proofs.YtljlcbichimhaaaGreatDoor
