/-
  The walk of the law on series.
-/
import Derived.Test.YtljlcbichimhaaaGreatDoorSer2
namespace Go.Proofs.YtljlcbichimhaaaGreatDoor
open Go.ChangeShapes Go.WideShapes Go.ChangeAt Go.RowKit
set_option linter.unusedVariables false
set_option linter.unusedSimpArgs false

end Go.Proofs.YtljlcbichimhaaaGreatDoor
