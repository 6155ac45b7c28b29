/-
  Polynomials on the program's side: sums and differences: contracts.
-/
import Derived.Test.YtljlcbichimhaaaGreatDoorPolyA
namespace Go.Proofs.YtljlcbichimhaaaGreatDoor
open Go.ChangeShapes Go.WideShapes Go.ChangeAt Go.RowKit
set_option linter.unusedVariables false
set_option linter.unusedSimpArgs false

theorem atl_smp (a b : List Int) (f : Int) (n : Nat) : AllS (atl a b f n) := by
  intro x hx
  unfold atl at hx
  obtain ⟨j, -, rfl⟩ := List.mem_map.1 hx
  exact smp_isSmp _
def PolyV (xs : List Int) : Prop := Canon xs ∧ AllS xs ∧ xs.length ≤ 65
end Go.Proofs.YtljlcbichimhaaaGreatDoor
