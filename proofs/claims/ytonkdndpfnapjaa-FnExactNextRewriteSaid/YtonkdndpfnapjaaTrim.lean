/-
  The patch with the needed nodes only: the program's side; both functions TrimPatch.
-/
import Derived.Test.YtonkdndpfnapjaaTrimS
namespace Go.Proofs.Ytonkdndpfnapjaa
open Go.ChangeShapes Go.WideShapes Go.ChangeAt Go.RowKit
set_option linter.unusedVariables false

theorem sepB {B : Nat} {W F : World} {v v' : Value} {xs ys : List Int} (h : OwnI B W v xs) (h' : OwnI W.heap.size F v' ys) : ∀ k, v.ownBlock = some k → v'.ownBlock ≠ some k := fun k hk hk' => by
  have h1 := (h.lt hk).2
  have h2 := (h'.lt hk').1
  omega
theorem sepB' {B : Nat} {W F : World} {v v' : Value} {xs ys : List Int} (h : OwnI B W v' ys) (h' : OwnI W.heap.size F v xs) : ∀ k, v.ownBlock = some k → v'.ownBlock ≠ some k := fun k hk hk' => by
  have h1 := (h.lt hk').2
  have h2 := (h'.lt hk).1
  omega
theorem OwnP.done {B : Nat} {w W2 : World} {r : Nat} {inp : Int} {v1 v2 v3 : Value} {ts : List (List Int)} {ns : List NodeD} {os : List Int} {L1 L : List Value} (hop : OwnP B W2 v1 v2 v3 ts ns os L1 L) (bri : Box W2 r zPatch 32) (hb : Below w.heap.size w W2) (hr : w.heap.size ≤ r) (hB : w.heap.size ≤ B) :
    Box ((((W2.setCell ⟨r, 0, none⟩ (.int .i64 inp)).setCell ⟨r, 1, none⟩ v1).setCell ⟨r, 2, none⟩ v2).setCell ⟨r, 3, none⟩ v3) r [.int .i64 inp, v1, v2, v3] 32 ∧
    OwnP w.heap.size ((((W2.setCell ⟨r, 0, none⟩ (.int .i64 inp)).setCell ⟨r, 1, none⟩ v1).setCell ⟨r, 2, none⟩ v2).setCell ⟨r, 3, none⟩ v3) v1 v2 v3 ts ns os L1 L ∧
    Below w.heap.size w ((((W2.setCell ⟨r, 0, none⟩ (.int .i64 inp)).setCell ⟨r, 1, none⟩ v1).setCell ⟨r, 2, none⟩ v2).setCell ⟨r, 3, none⟩ v3) := by
  have b0 := bri.set 0 (.int .i64 inp)
  have b1 := b0.set 1 v1
  have b2 := b1.set 2 v2
  have b3 := b2.set 3 v3
  exact ⟨by simpa [zPatch] using b3, (((((hop.setBox bri patchT 0 _).setBox b0 patchT 1 _).setBox b1 patchT 2 _).setBox b2 patchT 3 _)).mono hB,
    (((hb.setCell (p := ⟨r, 0, none⟩) hr _).setCell (p := ⟨r, 1, none⟩) hr _).setCell (p := ⟨r, 2, none⟩) hr _).setCell (p := ⟨r, 3, none⟩) hr _⟩
end Go.Proofs.Ytonkdndpfnapjaa
