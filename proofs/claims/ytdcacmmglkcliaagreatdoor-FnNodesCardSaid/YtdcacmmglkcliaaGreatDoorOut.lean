/-
  The reference's output of a node, kind by kind.
-/
import Derived.Test.YtdcacmmglkcliaaGreatDoorNoise
import Derived.Test.YtdcacmmglkcliaaGreatDoorNode2
namespace Go.Proofs.YtdcacmmglkcliaaGreatDoor
open Go.ChangeShapes Go.WideShapes Go.ChangeAt Go.RowKit Go.Sort
set_option linter.unusedVariables false

end Go.Proofs.YtdcacmmglkcliaaGreatDoor
