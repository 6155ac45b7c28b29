/-
  Copies of patches: the reference's side.
-/
import Derived.Test.YtonkdndpfnapjaaPB
import Derived.Test.YtonkdndpfnapjaaPatF
import Derived.Test.YtonkdndpfnapjaaStepA
import Derived.Deep.RegionHeld3
import Derived.Deep.RegionLaw
namespace Go.Proofs.Ytonkdndpfnapjaa
open Go.ChangeShapes Go.WideShapes Go.ChangeAt Go.RowKit
set_option linter.unusedVariables false

end Go.Proofs.Ytonkdndpfnapjaa
