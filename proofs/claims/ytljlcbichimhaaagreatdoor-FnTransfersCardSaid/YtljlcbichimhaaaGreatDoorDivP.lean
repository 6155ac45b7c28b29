/-
  Division of polynomials on the program's side.
-/
import Derived.Test.YtljlcbichimhaaaGreatDoorDivL
import Derived.Test.YtljlcbichimhaaaGreatDoorPolyF
namespace Go.Proofs.YtljlcbichimhaaaGreatDoor
open Go.ChangeShapes Go.WideShapes Go.ChangeAt Go.RowKit
set_option linter.unusedVariables false
set_option linter.unusedSimpArgs false

end Go.Proofs.YtljlcbichimhaaaGreatDoor
