/-
  Lists of places that have become others: contracts of both sides; copies of lists of lists.
-/
import Derived.Test.YtdcacmmglkcliaaGreatDoorOwnP
namespace Go.Proofs.YtdcacmmglkcliaaGreatDoor
open Go.ChangeShapes Go.WideShapes Go.ChangeAt Go.RowKit
set_option linter.unusedVariables false

def mapL (by_ xs : List Int) : List Int := xs.map fun i => by_.getD i.toNat 0
theorem mapL_length (by_ xs : List Int) : (mapL by_ xs).length = xs.length := by simp [mapL]
theorem mapL_succ {by_ xs : List Int} {k m : Nat} (h : k < xs.length) (hm : xs[k] = (m : Int)) (hb : m < by_.length) : mapL by_ (xs.take (k + 1)) = mapL by_ (xs.take k) ++ [by_[m]] := by
  unfold mapL
  rw [List.take_succ_eq_append_getElem h, List.map_append]
  congr 1
  simp only [List.map_cons, List.map_nil]
  rw [hm, Int.toNat_natCast, List.getD_eq_getElem?_getD, List.getElem?_eq_getElem hb]; rfl
end Go.Proofs.YtdcacmmglkcliaaGreatDoor
