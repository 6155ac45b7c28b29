/-
  The type Patch: how it lies in memory; contracts of the laws' helpers for it.
-/
import Derived.Test.YtabfdnkomhjlkaaTyNodeS
namespace Go.Proofs.Ytabfdnkomhjlkaa
open Go.ChangeShapes Go.WideShapes Go.ChangeAt Go.RowKit
set_option linter.unusedVariables false

structure PatchD where
  inputs : Int
  tables : List (List Int)
  nodes : List NodeD
  outputs : List Int

/-- the value v is a Patch that reads x -/
def VPatch (w : World) (v : Value) (x : PatchD) : Prop := ∃ p1 c1 p2 c2 p3 c3, v = .agg #[.int .i64 x.inputs, .slice p1 x.tables.length c1, .slice p2 x.nodes.length c2, .slice p3 x.outputs.length c3] ∧ RdII w p1 x.tables ∧ RdNodeS w p2 x.nodes ∧ RdI w p3 x.outputs
theorem VPatch.below {w w' : World} {v : Value} {x : PatchD} (h : VPatch w v x) (hb : Below w.heap.size w w') : VPatch w' v x := by
  obtain ⟨p1, c1, p2, c2, p3, c3, rfl, r1, r2, r3⟩ := h
  exact ⟨p1, c1, p2, c2, p3, c3, rfl, r1.below hb, r2.below hb, r3.below hb⟩
def wtPatch (x : PatchD) : Nat := wtII x.tables + wtNodeS x.nodes + wtI x.outputs
def cntPatch (x : PatchD) : Nat := cntII x.tables + cntNodeS x.nodes + cntI x.outputs
theorem cntPatch_le (x : PatchD) : cntPatch x ≤ 6 * wtPatch x := by
  have e1 := cntII_le x.tables
  have e2 := cntNodeS_le x.nodes
  have e3 := cntI_le x.outputs
  unfold cntPatch wtPatch; omega
def markPatch (m : Int) (x : PatchD) : PatchD := { x with tables := markII (m) x.tables, nodes := markNodeS (m + cntII x.tables) x.nodes, outputs := markI (m + cntII x.tables + cntNodeS x.nodes) x.outputs }
end Go.Proofs.Ytabfdnkomhjlkaa
