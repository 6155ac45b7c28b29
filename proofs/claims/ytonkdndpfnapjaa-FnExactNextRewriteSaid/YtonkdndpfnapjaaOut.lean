/-
  The reference's output of a node, kind by kind.
-/
import Derived.Test.YtonkdndpfnapjaaNoise
import Derived.Test.YtonkdndpfnapjaaNode2
namespace Go.Proofs.Ytonkdndpfnapjaa
open Go.ChangeShapes Go.WideShapes Go.ChangeAt Go.RowKit Go.Sort
set_option linter.unusedVariables false

end Go.Proofs.Ytonkdndpfnapjaa
