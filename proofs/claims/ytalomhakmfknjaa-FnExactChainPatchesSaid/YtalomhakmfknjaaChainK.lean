/-
  ChainPatches: the program's function.
-/
import Derived.Test.YtalomhakmfknjaaChainI
import Derived.Test.YtalomhakmfknjaaChainJ
import Derived.Test.YtalomhakmfknjaaHeldRes
namespace Go.Proofs.Ytalomhakmfknjaa
open Go.ChangeShapes Go.WideShapes Go.ChangeAt Go.RowKit
set_option linter.unusedVariables false

theorem implChainPatches_v {v v' : Value} {p q : PatchD} (w : World) (h : VPatch w v p) (h' : VPatch w v' q) :
    Calls Try.prog 33 #[v, v'] w (RetPC w (chRes p q) (chCode p q)) := by
  cases e : okB p && okB q && decide ((p.outputs.length : Int) = q.inputs)
  · exact implChain_bad w h h' e
  · rw [Bool.and_eq_true, Bool.and_eq_true, decide_eq_true_eq] at e
    exact implChain_ok w h h' e.1.1 e.1.2 e.2
end Go.Proofs.Ytalomhakmfknjaa
