/-
  Nodes behind a pointer.
-/
import Derived.Test.YtdcacmmglkcliaaGreatDoorTyNode
namespace Go.Proofs.YtdcacmmglkcliaaGreatDoor
open Go.ChangeShapes Go.WideShapes Go.ChangeAt Go.RowKit
set_option linter.unusedVariables false

/-- a node lies at a place of memory -/
structure PNode (w : World) (b o : Nat) (x : NodeD) : Prop where
  c0 : w.cell? ⟨b, o, none⟩ = some (.int .i64 x.kind)
  c1 : w.cell? ⟨b, o + 1, none⟩ = some (.int .i64 x.a)
  c2 : w.cell? ⟨b, o + 2, none⟩ = some (.int .i64 x.b)
  c3 : ∃ p c, w.cell? ⟨b, o + 3, none⟩ = some (.slice p x.src.length c) ∧ RdI w p x.src
theorem PNode.lt {w : World} {b o : Nat} {x : NodeD} (h : PNode w b o x) : b < w.heap.size := World.block_lt_of_cell? w _ h.c0
theorem PNode.below {w w' : World} {b o : Nat} {x : NodeD} (h : PNode w b o x) (hb : Below w.heap.size w w') : PNode w' b o x := by
  obtain ⟨p, c, h3, hr⟩ := h.c3
  exact ⟨(hb.cell (p := ⟨b, o, none⟩) h.lt).trans h.c0, (hb.cell (p := ⟨b, o + 1, none⟩) h.lt).trans h.c1, (hb.cell (p := ⟨b, o + 2, none⟩) h.lt).trans h.c2, p, c, (hb.cell (p := ⟨b, o + 3, none⟩) h.lt).trans h3, hr.below hb⟩
theorem PNode.box {w : World} {g : Nat} {x : NodeD} {p : Option Addr} {c : Nat} (h : Box w g [.int .i64 x.kind, .int .i64 x.a, .int .i64 x.b, .slice p x.src.length c] 26) (hr : RdI w p x.src) : PNode w g 0 x :=
  ⟨h.cell 0 rfl, h.cell 1 rfl, h.cell 2 rfl, p, c, h.cell 3 rfl, hr⟩
end Go.Proofs.YtdcacmmglkcliaaGreatDoor
