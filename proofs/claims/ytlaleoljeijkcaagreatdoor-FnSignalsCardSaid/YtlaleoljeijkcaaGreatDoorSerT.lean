/-
  Series: validity.
-/
import Derived.Test.YtlaleoljeijkcaaGreatDoorSer
namespace Go.Proofs.YtlaleoljeijkcaaGreatDoor
open Go.ChangeShapes Go.WideShapes Go.ChangeAt Go.RowKit
set_option linter.unusedVariables false
set_option linter.unusedSimpArgs false

end Go.Proofs.YtlaleoljeijkcaaGreatDoor
