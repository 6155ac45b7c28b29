/-
  The filter that delays.
-/
import Derived.Test.YtljlcbichimhaaaGreatDoorFilJ
namespace Go.Proofs.YtljlcbichimhaaaGreatDoor
open Go.ChangeShapes Go.WideShapes Go.ChangeAt Go.RowKit
set_option linter.unusedVariables false
set_option linter.unusedSimpArgs false

end Go.Proofs.YtljlcbichimhaaaGreatDoor
