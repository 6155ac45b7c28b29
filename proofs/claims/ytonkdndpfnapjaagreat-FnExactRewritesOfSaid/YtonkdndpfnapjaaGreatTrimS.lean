/-
  The patch with the needed nodes only: the reference's side; is it linear, how many cells has it.
-/
import Derived.Test.YtonkdndpfnapjaaGreatKeep
import Derived.Test.YtonkdndpfnapjaaGreatPatK
namespace Go.Proofs.YtonkdndpfnapjaaGreat
open Go.ChangeShapes Go.WideShapes Go.ChangeAt Go.RowKit
set_option linter.unusedVariables false

/-- a patch behind a pointer, out of its parts -/
theorem OwnP.vpatch {B : Nat} {w : World} {v1 v2 v3 : Value} {ts : List (List Int)} {ns : List NodeD} {os : List Int} {L1 L : List Value} (h : OwnP B w v1 v2 v3 ts ns os L1 L) (inp : Int) : VPatch w (.agg #[.int .i64 inp, v1, v2, v3]) ⟨inp, ts, ns, os⟩ := (h.patch inp).1.rd
theorem pp_of {w : World} {s : Nat} {inp : Int} {v1 v2 v3 : Value} {x : PatchD} (hv : VPatch w (.agg #[.int .i64 inp, v1, v2, v3]) x) (bx : Box w s [.int .i64 inp, v1, v2, v3] 32) : PPatch w s x := by
  obtain ⟨p1, c1, p2, c2, p3, c3, e, r1, r2, r3⟩ := hv
  simp only [Value.agg.injEq, Array.mk.injEq, List.cons.injEq, and_true] at e
  obtain ⟨e0, rfl, rfl, rfl⟩ := e
  rw [e0] at bx
  exact ⟨p1, c1, p2, c2, p3, c3, bx, r1, r2, r3⟩
end Go.Proofs.YtonkdndpfnapjaaGreat
