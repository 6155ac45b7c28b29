/-
  An append whose new row is told (AppN), with what the filters' texts want beside it.
-/
import Derived.Test.YtljlcbichimhaaaGreatDoorFilL
import Derived.Test.YtljlcbichimhaaaGreatDoorPolyA
import Derived.Test.YtljlcbichimhaaaGreatDoorAppN
namespace Go.Proofs.YtljlcbichimhaaaGreatDoor
end Go.Proofs.YtljlcbichimhaaaGreatDoor
