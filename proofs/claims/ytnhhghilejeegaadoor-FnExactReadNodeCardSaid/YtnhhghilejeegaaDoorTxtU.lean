/-
  The node that was read is small.
-/
import Derived.Test.YtnhhghilejeegaaDoorTxtH
namespace Go.Proofs.YtnhhghilejeegaaDoor
set_option linter.unusedVariables false

theorem nodeRd_small (s : ByteArray) : cntNode (nodeRd s) ≤ 1048576 := by
  unfold nodeRd
  cases h : readN s with
  | none => simp [cntNode, cntI]
  | some x =>
    obtain ⟨-, -, -, h4⟩ := nodeB_bounds ((readN_iff s x).1 h).1
    show cntNode x ≤ 1048576
    unfold cntNode cntI
    omega
end Go.Proofs.YtnhhghilejeegaaDoor
