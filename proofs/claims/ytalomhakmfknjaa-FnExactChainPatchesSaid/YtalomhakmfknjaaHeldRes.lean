/-
  A patch that a drawn region stores into a new variable.
-/
import Derived.Test.YtalomhakmfknjaaTrim2
namespace Go.Proofs.Ytalomhakmfknjaa
open Go.ChangeShapes Go.WideShapes Go.ChangeAt Go.RowKit
set_option linter.unusedVariables false

/-- a patch x, owned, that stands in box s; nothing older is touched -/
def HeldP (E w : World) (s : Nat) (x : PatchD) (v1 v2 v3 : Value) (L : List Value) : Prop :=
  Box w s [.int .i64 x.inputs, v1, v2, v3] 34 ∧ OwnPatch E.heap.size w (.agg #[.int .i64 x.inputs, v1, v2, v3]) x L ∧ Dis L ∧ Below E.heap.size E w
theorem HeldP.new {E F : World} {x : PatchD} {v1 v2 v3 : Value} {L : List Value} {B : Nat} (h : OwnPatch B F (.agg #[.int .i64 x.inputs, v1, v2, v3]) x L) (hd : Dis L) (hc : Below E.heap.size E F) (hB : E.heap.size ≤ B) :
    HeldP E (F.alloc (.cells #[.int .i64 x.inputs, v1, v2, v3] 34)) F.heap.size x v1 v2 v3 L :=
  ⟨Box.newAt _ [.int .i64 x.inputs, v1, v2, v3] _ rfl, (h.mono hB).below ((Below.refl _ _).alloc (Nat.le_refl _) _), hd, hc.alloc hc.size _⟩
theorem HeldP.box {E F : World} {x : PatchD} {v1 v2 v3 : Value} {L : List Value} {B s : Nat} (h : OwnPatch B F (.agg #[.int .i64 x.inputs, v1, v2, v3]) x L) (hd : Dis L) (hc : Below E.heap.size E F) (bq : Box F s zPatch 34) (hs : E.heap.size ≤ s) (hs2 : s < B) :
    HeldP E ((((F.setCell ⟨s, 0, none⟩ (.int .i64 x.inputs)).setCell ⟨s, 1, none⟩ v1).setCell ⟨s, 2, none⟩ v2).setCell ⟨s, 3, none⟩ v3) s x v1 v2 v3 L := by
  have b0 := bq.set 0 (.int .i64 x.inputs)
  have b1 := b0.set 1 v1
  have b2 := b1.set 2 v2
  have b3 := b2.set 3 v3
  refine ⟨by simpa [zPatch] using b3, OwnPatch.mono ?_ (Nat.le_trans hs (Nat.le_of_lt hs2)), hd, (((hc.setCell hs _).setCell hs _).setCell hs _).setCell hs _⟩
  have hne : ∀ k, B ≤ k → k ≠ s := fun k hk e => by omega
  exact (((h.keeps (w' := F.setCell ⟨s, 0, none⟩ (.int .i64 x.inputs)) fun k hk _ => Below.heap_setCell _ _ _ _ (hne k hk)).keeps (w' := (F.setCell ⟨s, 0, none⟩ (.int .i64 x.inputs)).setCell ⟨s, 1, none⟩ v1) fun k hk _ => Below.heap_setCell _ _ _ _ (hne k hk)).keeps (w' := ((F.setCell ⟨s, 0, none⟩ (.int .i64 x.inputs)).setCell ⟨s, 1, none⟩ v1).setCell ⟨s, 2, none⟩ v2) fun k hk _ => Below.heap_setCell _ _ _ _ (hne k hk)).keeps fun k hk _ => Below.heap_setCell _ _ _ _ (hne k hk)
end Go.Proofs.Ytalomhakmfknjaa
