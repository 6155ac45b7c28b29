/-
  Contracts of the helpers of the exact laws at slices of integers: sizes, copies, comparisons, marks.
-/
import Derived.Test.YtmfahnkcfcmhiaaOwn
namespace Go.Proofs.Ytmfahnkcfcmhiaa
open Go.ChangeShapes Go.WideShapes Go.ChangeAt Go.RowKit
set_option linter.unusedVariables false

/-- k, k + 1, .. -/
def seqI (k : Int) (n : Nat) : List Int := (List.range n).map fun (i : Nat) => k + (i : Int)
def lens (xss : List (List Int)) : Nat := (xss.map List.length).sum
theorem lens_nil : lens [] = 0 := rfl
theorem lens_cons (x : List Int) (r : List (List Int)) : lens (x :: r) = x.length + lens r := by simp [lens]
theorem lens_append (a b : List (List Int)) : lens (a ++ b) = lens a + lens b := by simp [lens]
theorem lens_take_succ (xss : List (List Int)) (k : Nat) (h : k < xss.length) : lens (xss.take (k + 1)) = lens (xss.take k) + xss[k].length := by
  rw [List.take_succ_eq_append_getElem h, lens_append]; simp [lens]
theorem lens_take_le (xss : List (List Int)) (k : Nat) : lens (xss.take k) ≤ lens xss := by
  have : lens xss = lens (xss.take k) + lens (xss.drop k) := by rw [← lens_append, List.take_append_drop]
  omega
def szLL (left : Int) (xss : List (List Int)) : Int := if left < (xss.length : Int) + lens xss then -1 else left - ((xss.length : Int) + lens xss)
theorem len_le_lens {xss : List (List Int)} {xs : List Int} (h : xs ∈ xss) : xs.length ≤ lens xss := by
  induction xss with
  | nil => cases h
  | cons x r ih =>
    rw [lens_cons]
    cases List.mem_cons.1 h with
    | inl e => subst e; omega
    | inr e => have := ih e; omega

/-- all numbers counted up from k on -/
def marks : Int → List (List Int) → List (List Int)
  | _, [] => []
  | k, xs :: r => seqI k xs.length :: marks (k + xs.length) r
end Go.Proofs.Ytmfahnkcfcmhiaa
