/-
  Filters: the drawn transfer functions and signals.
-/
import Derived.Test.YtlaleoljeijkcaaGreatDoorSer
import Derived.Test.YtlaleoljeijkcaaGreatDoorFilM
namespace Go.Proofs.YtlaleoljeijkcaaGreatDoor
open Go.ChangeShapes Go.WideShapes Go.ChangeAt Go.RowKit
set_option linter.unusedVariables false
set_option linter.unusedSimpArgs false

/-- a list of its own, drawn -/
def DrewS (n g m : Nat) (w : World) (e : Ending) (w' : World) : Prop := ∃ v ys, e = .returned v ∧ AllS ys ∧ ys.length ≤ n ∧ OwnI w.heap.size w' v ys ∧ SrcAt w' g m ∧ Off (· = g) w w'
end Go.Proofs.YtlaleoljeijkcaaGreatDoor
