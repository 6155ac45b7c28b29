/-
  Copies of lists: contracts of both sides' functions.
-/
import Derived.Test.YtnhhghilejeegaaDoorOwn
import Derived.Deep.LoopGhost
namespace Go.Proofs.YtnhhghilejeegaaDoor
open Go.ChangeShapes Go.WideShapes Go.ChangeAt Go.RowKit
set_option linter.unusedVariables false

end Go.Proofs.YtnhhghilejeegaaDoor
