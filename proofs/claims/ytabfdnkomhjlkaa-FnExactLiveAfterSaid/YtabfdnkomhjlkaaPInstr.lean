/-
  Instructions behind a pointer.
-/
import Derived.Test.YtabfdnkomhjlkaaTyInstr
namespace Go.Proofs.Ytabfdnkomhjlkaa
open Go.ChangeShapes Go.WideShapes Go.ChangeAt Go.RowKit
set_option linter.unusedVariables false

/-- an instruction lies at a place of memory -/
structure PInstr (w : World) (b o : Nat) (x : InstrD) : Prop where
  c0 : w.cell? ⟨b, o, none⟩ = some (.int .i64 x.kind)
  c1 : w.cell? ⟨b, o + 1, none⟩ = some (.int .i64 x.a)
  c2 : w.cell? ⟨b, o + 2, none⟩ = some (.int .i64 x.b)
  c3 : w.cell? ⟨b, o + 3, none⟩ = some (.int .i64 x.node)
  c4 : ∃ p c, w.cell? ⟨b, o + 4, none⟩ = some (.slice p x.src.length c) ∧ RdI w p x.src
  c5 : w.cell? ⟨b, o + 5, none⟩ = some (.int .i64 x.dest)
theorem PInstr.lt {w : World} {b o : Nat} {x : InstrD} (h : PInstr w b o x) : b < w.heap.size := World.block_lt_of_cell? w _ h.c0
theorem PInstr.below {w w' : World} {b o : Nat} {x : InstrD} (h : PInstr w b o x) (hb : Below w.heap.size w w') : PInstr w' b o x := by
  obtain ⟨p, c, h4, hr⟩ := h.c4
  exact ⟨(hb.cell (p := ⟨b, o, none⟩) h.lt).trans h.c0, (hb.cell (p := ⟨b, o + 1, none⟩) h.lt).trans h.c1, (hb.cell (p := ⟨b, o + 2, none⟩) h.lt).trans h.c2, (hb.cell (p := ⟨b, o + 3, none⟩) h.lt).trans h.c3, ⟨p, c, (hb.cell (p := ⟨b, o + 4, none⟩) h.lt).trans h4, hr.below hb⟩, (hb.cell (p := ⟨b, o + 5, none⟩) h.lt).trans h.c5⟩
end Go.Proofs.Ytabfdnkomhjlkaa
