/-
  Products of polynomials on the program's side: contracts.
-/
import Derived.Test.YtljlcbichimhaaaGreatDoorPolyB
import Derived.Test.YtljlcbichimhaaaGreatDoorPolyC
namespace Go.Proofs.YtljlcbichimhaaaGreatDoor
open Go.ChangeShapes Go.WideShapes Go.ChangeAt Go.RowKit
set_option linter.unusedVariables false
set_option linter.unusedSimpArgs false

/-- place t behind i whole rows and j terms of row i -/
def mpAt (a b : List Int) (i j t : Nat) : Int :=
  sumN (fun i' => if i' ≤ t then a.getD i' 0 * b.getD (t - i') 0 else 0) i + (if i ≤ t ∧ t - i < j then a.getD i 0 * b.getD (t - i) 0 else 0)
def mpL (a b : List Int) (n i j : Nat) : List Int := (List.range n).map fun t => smp (mpAt a b i j t)
theorem mpL_length (a b : List Int) (n i j : Nat) : (mpL a b n i j).length = n := by simp [mpL]
theorem mpL_get (a b : List Int) {n i j t : Nat} (h : t < n) : (mpL a b n i j).getD t 0 = smp (mpAt a b i j t) := by
  rw [getD_at (by rw [mpL_length]; exact h)]; simp [mpL]
theorem mpL_zero (a b : List Int) (n : Nat) : mpL a b n 0 0 = List.replicate n 0 := by
  refine List.ext_getElem (by rw [mpL_length, List.length_replicate]) fun t h1 h2 => ?_
  simp [mpL, mpAt, sumN]
  rfl
theorem getD_nil' (b : List Int) {k : Nat} (h : ¬ k < b.length) : b.getD k 0 = 0 := by
  rw [List.getD_eq_getElem?_getD, List.getElem?_eq_none (by omega)]; rfl
theorem mpL_row (a b : List Int) (n i : Nat) : mpL a b n i b.length = mpL a b n (i + 1) 0 := by
  unfold mpL
  refine List.map_congr_left fun t _ => ?_
  congr 1
  unfold mpAt
  rw [sumN]
  have : (if i + 1 ≤ t ∧ t - (i + 1) < 0 then a.getD (i + 1) 0 * b.getD (t - (i + 1)) 0 else 0) = (0 : Int) := if_neg (by omega)
  rw [this, Int.add_zero]
  congr 1
  by_cases h1 : i ≤ t
  · rw [if_pos h1]
    by_cases h2 : t - i < b.length
    · rw [if_pos ⟨h1, h2⟩]
    · rw [if_neg (by omega), getD_nil' b (by omega), Int.mul_zero]
  · rw [if_neg (by omega), if_neg h1]
theorem mpL_set (a b : List Int) {n i j : Nat} (h : i + j < n) :
    mpL a b n i (j + 1) = (mpL a b n i j).set (i + j) (smp ((mpL a b n i j).getD (i + j) 0 + a.getD i 0 * b.getD j 0)) := by
  refine List.ext_getElem (by rw [List.length_set, mpL_length, mpL_length]) fun t h1 h2 => ?_
  rw [List.getElem_set]
  have ht : t < n := by rw [mpL_length] at h1; exact h1
  have e1 : (mpL a b n i (j + 1))[t] = smp (mpAt a b i (j + 1) t) := by simp [mpL]
  rw [e1]
  by_cases e : i + j = t
  · rw [if_pos e, mpL_get a b (by omega), smp_left]
    subst e
    unfold mpAt
    rw [if_pos ⟨by omega, by omega⟩, if_neg (by omega), show i + j - i = j by omega, Int.add_zero]
  · rw [if_neg e]
    have e2 : ∀ hh, (mpL a b n i j)[t]'hh = smp (mpAt a b i j t) := fun hh => by simp [mpL]
    rw [e2]
    unfold mpAt
    by_cases c : i ≤ t ∧ t - i < j
    · rw [if_pos c, if_pos ⟨c.1, by omega⟩]
    · rw [if_neg c, if_neg (by omega)]
theorem sumN_more {f : Nat → Int} (m : Nat) : ∀ k, (∀ i, m ≤ i → f i = 0) → sumN f (m + k) = sumN f m
  | 0, _ => rfl
  | k + 1, h => by rw [show m + (k + 1) = (m + k) + 1 by omega, sumN, sumN_more m k h, h (m + k) (by omega), Int.add_zero]
theorem mp_cv (a b : List Int) (t : Nat) : mpAt a b a.length 0 t = cv (fun i => a.getD i 0) (fun i => b.getD i 0) t := by
  unfold mpAt cv
  rw [if_neg (by omega), Int.add_zero]
  have h1 := sumN_more (f := fun i' => if i' ≤ t then a.getD i' 0 * b.getD (t - i') 0 else 0) a.length (t + 1) (fun i hi => by
    show (if i ≤ t then a.getD i 0 * b.getD (t - i) 0 else 0) = 0
    rw [getD_nil' a (by omega), Int.zero_mul]; split <;> rfl)
  have h2 := sumN_more (f := fun i' => if i' ≤ t then a.getD i' 0 * b.getD (t - i') 0 else 0) (t + 1) a.length (fun i hi => if_neg (by omega))
  rw [← h1, show a.length + (t + 1) = t + 1 + a.length by omega, h2]
  exact sumN_congr _ fun i hi => if_pos (by omega)
end Go.Proofs.YtljlcbichimhaaaGreatDoor
