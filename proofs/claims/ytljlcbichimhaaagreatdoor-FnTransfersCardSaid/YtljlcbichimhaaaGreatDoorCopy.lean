/-
  Copies of lists: contracts of both sides' functions.
-/
import Derived.Test.YtljlcbichimhaaaGreatDoorOwn
import Derived.Deep.LoopGhost
namespace Go.Proofs.YtljlcbichimhaaaGreatDoor
open Go.ChangeShapes Go.WideShapes Go.ChangeAt Go.RowKit
set_option linter.unusedVariables false

theorem l00Own_any {p : Option Addr} {c : Nat} {xs : List Int} (w : World) (h : RdI w p xs) (hl : xs.length ≤ 1048576) :
    Calls Tryz.prog 80 #[.slice p xs.length c] w fun e w' => ∃ v, e = .returned v ∧ OwnI w.heap.size w' v xs ∧ Below w.heap.size w w' := by
  have h0 := OwnI.lit (B := w.heap.size) w [] (Nat.le_refl _) (by simp [maxLen])
  have hb := (Below.refl w.heap.size w).alloc (Nat.le_refl _) (.cells #[] 2)
  have h1 := h.below hb
  have hsz : w.heap.size ≤ (w.alloc (.cells #[] 2)).heap.size := hb.size
  go_enter Tryz.func80, Tryz.ntmps80
  go_wp2_with (at_builtin; refine wpList_append_int rfl _ _ rfl rfl h0 h1 rfl rfl (by simp; omega) hsz ?_; intro v' w1 hown1 hg1)
  go_ret
  exact ⟨_, rfl, by simpa using hown1, below_appended hb h0 hsz hg1⟩
theorem clone_any {p : Option Addr} {c : Nat} {xs : List Int} (w : World) (h : RdI w p xs) (hl : xs.length ≤ 1048576) :
    Calls Tryz.prog 48 #[.slice p xs.length c] w fun e w' => ∃ v, e = .returned v ∧ OwnI w.heap.size w' v xs ∧ Below w.heap.size w w' := by
  have h0 := OwnI.lit (B := w.heap.size) w [] (Nat.le_refl _) (by simp [maxLen])
  have hb := (Below.refl w.heap.size w).alloc (Nat.le_refl _) (.cells #[] 2)
  have h1 := h.below hb
  have hsz : w.heap.size ≤ (w.alloc (.cells #[] 2)).heap.size := hb.size
  go_enter Tryz.func48, Tryz.ntmps48
  go_wp2_with (at_builtin; refine wpList_append_int rfl _ _ rfl rfl h0 h1 rfl rfl (by simp; omega) hsz ?_; intro v' w1 hown1 hg1)
  go_ret
  exact ⟨_, rfl, by simpa using hown1, below_appended hb h0 hsz hg1⟩
end Go.Proofs.YtljlcbichimhaaaGreatDoor
