/-
  Patches: equality; contracts of both sides.
-/
import Derived.Test.YtdcacmmglkcliaaGreatDoorTyPatch
import Derived.Test.YtdcacmmglkcliaaGreatDoorSeq
import Derived.Lib.QuietBelow
namespace Go.Proofs.YtdcacmmglkcliaaGreatDoor
open Go.ChangeShapes Go.WideShapes Go.ChangeAt Go.RowKit Go.Sort
set_option linter.unusedVariables false

theorem NodeD.ext' {x y : NodeD} (h : x.kind = y.kind ∧ x.a = y.a ∧ x.b = y.b ∧ x.src = y.src) : x = y := by
  obtain ⟨a, b, c, d⟩ := x
  obtain ⟨a', b', c', d'⟩ := y
  obtain ⟨h1, h2, h3, h4⟩ := h
  simp only at h1 h2 h3 h4
  subst h1 h2 h3 h4
  rfl
instance : DecidableEq NodeD := fun x y =>
  if h : x.kind = y.kind ∧ x.a = y.a ∧ x.b = y.b ∧ x.src = y.src then isTrue (NodeD.ext' h)
  else isFalse fun e => h (by subst e; exact ⟨rfl, rfl, rfl, rfl⟩)
theorem node_eq (x y : NodeD) (b1 b2 b3 b4 : Bool) (h1 : (x.kind == y.kind) = b1) (h2 : (x.a == y.a) = b2) (h3 : (x.b == y.b) = b3) (h4 : decide (x.src = y.src) = b4) : decide (x = y) = (b1 && (b2 && (b3 && b4))) := by
  subst h1 h2 h3 h4
  rw [Bool.eq_iff_iff, decide_eq_true_iff]
  simp only [Bool.and_eq_true, beq_iff_eq, decide_eq_true_iff]
  exact ⟨fun e => by subst e; exact ⟨rfl, rfl, rfl, rfl⟩, fun ⟨a, b, c, d⟩ => NodeD.ext' ⟨a, b, c, d⟩⟩
/-- two patches are the same -/
def pEq (x y : PatchD) : Bool := decide (x.inputs = y.inputs) && (decide (x.tables = y.tables) && (decide (x.outputs = y.outputs) && decide (x.nodes = y.nodes)))
end Go.Proofs.YtdcacmmglkcliaaGreatDoor
