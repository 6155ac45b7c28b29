/-
  Patches with some nodes only: the reference's side.
-/
import Derived.Test.YtonkdndpfnapjaaCopyP
import Derived.Test.YtonkdndpfnapjaaKeepM
import Derived.Test.YtonkdndpfnapjaaNeed2
namespace Go.Proofs.Ytonkdndpfnapjaa
open Go.ChangeShapes Go.WideShapes Go.ChangeAt Go.RowKit
set_option linter.unusedVariables false

theorem formed_small {x : PatchD} (h : formedB x = true) : Small x := by
  have hf := formed_iff.1 h
  have ok := formed_src h
  have ht := hf.2.1
  unfold tablesB at ht
  simp only [Bool.and_eq_true, List.all_eq_true, decide_eq_true_eq] at ht
  refine ⟨by omega, fun t ht' => ?_, by omega, fun n hn => by have := ok.len n hn; omega, by omega⟩
  have := ht.1 t ht'
  unfold tblB at this
  simp only [Bool.and_eq_true, Bool.or_eq_true, decide_eq_true_eq] at this
  omega
theorem OwnN.empty {B : Nat} (w : World) (hB : B ≤ w.heap.size) : OwnN B (w.alloc (.cells #[] 70)) (.slice (some ⟨w.heap.size, 0, none⟩) 0 0) [] [] := by
  have h := World.ownsRow_lit (base := B) (e := 70) (size := 4) w #[] 0 hB (by simp [maxLen]) (by simp)
  exact ⟨rfl, by simpa [nodeCells] using h⟩
theorem nodeAt_eq {nodes : List NodeD} {m : Nat} (h : m < nodes.length) : nodeAt nodes (m : Int) = nodes[m] := by
  unfold nodeAt; rw [Int.toNat_natCast, List.getD_eq_getElem?_getD, List.getElem?_eq_getElem h]; rfl
end Go.Proofs.Ytonkdndpfnapjaa
