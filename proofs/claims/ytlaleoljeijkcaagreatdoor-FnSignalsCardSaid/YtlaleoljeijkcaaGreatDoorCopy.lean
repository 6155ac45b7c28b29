/-
  Copies of lists: contracts of both sides' functions.
-/
import Derived.Test.YtlaleoljeijkcaaGreatDoorOwn
import Derived.Deep.LoopGhost
namespace Go.Proofs.YtlaleoljeijkcaaGreatDoor
open Go.ChangeShapes Go.WideShapes Go.ChangeAt Go.RowKit
set_option linter.unusedVariables false

end Go.Proofs.YtlaleoljeijkcaaGreatDoor
