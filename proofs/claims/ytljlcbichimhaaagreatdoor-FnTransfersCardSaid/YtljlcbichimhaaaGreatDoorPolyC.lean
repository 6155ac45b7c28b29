/-
  Products of polynomials: the plain sums.
-/
import Derived.Test.YtljlcbichimhaaaGreatDoorSer2
namespace Go.Proofs.YtljlcbichimhaaaGreatDoor
set_option linter.unusedVariables false
set_option linter.unusedSimpArgs false

def sumN (f : Nat → Int) : Nat → Int
  | 0 => 0
  | n + 1 => sumN f n + f n
theorem sumN_congr {f g : Nat → Int} : ∀ n, (∀ i, i < n → f i = g i) → sumN f n = sumN g n
  | 0, _ => rfl
  | n + 1, h => by rw [sumN, sumN, sumN_congr n (fun i hi => h i (by omega)), h n (by omega)]
theorem sumN_add (f g : Nat → Int) : ∀ n, sumN (fun i => f i + g i) n = sumN f n + sumN g n
  | 0 => rfl
  | n + 1 => by rw [sumN, sumN, sumN, sumN_add f g n]; omega
theorem sumN_mul (c : Int) (f : Nat → Int) : ∀ n, sumN (fun i => c * f i) n = c * sumN f n
  | 0 => by rw [sumN, sumN, Int.mul_zero]
  | n + 1 => by rw [sumN, sumN, sumN_mul c f n, Int.mul_add]
theorem sumN_zero {f : Nat → Int} : ∀ n, (∀ i, i < n → f i = 0) → sumN f n = 0
  | 0, _ => rfl
  | n + 1, h => by rw [sumN, sumN_zero n (fun i hi => h i (by omega)), h n (by omega)]; rfl
theorem sumN_front (f : Nat → Int) : ∀ n, sumN f (n + 1) = f 0 + sumN (fun i => f (i + 1)) n
  | 0 => by simp only [sumN]; omega
  | n + 1 => by rw [sumN, sumN_front f n, sumN]; omega
theorem sumN_rev (f : Nat → Int) : ∀ n, sumN f n = sumN (fun i => f (n - 1 - i)) n
  | 0 => rfl
  | n + 1 => by
    have e : sumN (fun i => f (n + 1 - 1 - (i + 1))) n = sumN (fun i => f (n - 1 - i)) n :=
      sumN_congr n fun i hi => by rw [show n + 1 - 1 - (i + 1) = n - 1 - i by omega]
    have h1 := sumN_front (fun i => f (n + 1 - 1 - i)) n
    have h2 := sumN_rev f n
    rw [h1, e, ← h2, sumN]
    show sumN f n + f n = f n + sumN f n
    omega
/-- the k-th coefficient of the product -/
def cv (A B : Nat → Int) (k : Nat) : Int := sumN (fun i => A i * B (k - i)) (k + 1)
theorem cv_comm (A B : Nat → Int) (k : Nat) : cv A B k = cv B A k := by
  unfold cv
  rw [sumN_rev]
  refine sumN_congr _ fun i hi => ?_
  show A (k + 1 - 1 - i) * B (k - (k + 1 - 1 - i)) = B i * A (k - i)
  rw [show k + 1 - 1 - i = k - i by omega, show k - (k - i) = i by omega, Int.mul_comm]
theorem cv_add (A A' B : Nat → Int) (k : Nat) : cv (fun i => A i + A' i) B k = cv A B k + cv A' B k := by
  unfold cv
  rw [← sumN_add]
  exact sumN_congr _ fun i _ => Int.add_mul _ _ _
/-- the value at x of the first n coefficients -/
def evN (x : Int) (A : Nat → Int) : Nat → Int
  | 0 => 0
  | n + 1 => A 0 + x * evN x (fun i => A (i + 1)) n
theorem evN_congr (x : Int) : ∀ (n : Nat) {A B : Nat → Int}, (∀ i, i < n → A i = B i) → evN x A n = evN x B n
  | 0, _, _, _ => rfl
  | n + 1, A, B, h => by rw [evN, evN, h 0 (by omega), evN_congr x n (fun i hi => h (i + 1) (by omega))]
theorem evN_add (x : Int) : ∀ (n : Nat) (A B : Nat → Int), evN x (fun i => A i + B i) n = evN x A n + evN x B n
  | 0, _, _ => rfl
  | n + 1, A, B => by
    rw [evN, evN, evN, evN_add x n (fun i => A (i + 1)) (fun i => B (i + 1)), Int.mul_add]; omega
theorem evN_mul (x c : Int) : ∀ (n : Nat) (A : Nat → Int), evN x (fun i => c * A i) n = c * evN x A n
  | 0, _ => by rw [evN, evN, Int.mul_zero]
  | n + 1, A => by
    rw [evN, evN, evN_mul x c n (fun i => A (i + 1)), Int.mul_add, Int.mul_left_comm]
theorem evN_zero (x : Int) : ∀ (n : Nat) {A : Nat → Int}, (∀ i, i < n → A i = 0) → evN x A n = 0
  | 0, _, _ => rfl
  | n + 1, A, h => by rw [evN, h 0 (by omega), evN_zero x n (fun i hi => h (i + 1) (by omega)), Int.mul_zero]; rfl
/-- coefficients beyond m are none -/
theorem evN_more (x : Int) : ∀ (m k : Nat) {A : Nat → Int}, (∀ i, m ≤ i → A i = 0) → evN x A (m + k) = evN x A m
  | 0, k, A, h => by rw [Nat.zero_add, evN_zero x k (fun i _ => h i (by omega))]; rfl
  | m + 1, k, A, h => by
    rw [show m + 1 + k = (m + k) + 1 by omega, evN, evN, evN_more x m k (fun i hi => h (i + 1) (by omega))]
theorem cv_front (A B : Nat → Int) (k : Nat) : cv A B (k + 1) = A 0 * B (k + 1) + cv (fun i => A (i + 1)) B k := by
  unfold cv
  rw [sumN_front]
  congr 1
  refine sumN_congr _ fun i hi => ?_
  show A (i + 1) * B (k + 1 - (i + 1)) = _
  rw [show k + 1 - (i + 1) = k - i by omega]
theorem cv_first (A B : Nat → Int) : cv A B 0 = A 0 * B 0 := by
  unfold cv; simp only [sumN, Nat.sub_self]; omega
/-- evaluation is a homomorphism -/
theorem evN_cv (x : Int) (m : Nat) {B : Nat → Int} (hB : ∀ i, m ≤ i → B i = 0) : ∀ (n : Nat) (A : Nat → Int), (∀ i, n ≤ i → A i = 0) → evN x (cv A B) (n + m) = evN x A n * evN x B m
  | 0, A, h => by
    rw [evN, Int.zero_mul]
    exact evN_zero x _ fun i _ => sumN_zero _ fun j _ => by rw [h j (by omega), Int.zero_mul]
  | n + 1, A, h => by
    have e1 : evN x (cv A B) (n + m + 1) = A 0 * evN x B (n + m + 1) + x * evN x (cv (fun i => A (i + 1)) B) (n + m) := by
      rw [evN, cv_first, evN_congr x (n + m) (fun i _ => cv_front A B i), evN_add, evN_mul x (A 0) (n + m) (fun i => B (i + 1))]
      rw [show evN x B (n + m + 1) = B 0 + x * evN x (fun i => B (i + 1)) (n + m) from rfl, Int.mul_add, Int.mul_add, Int.mul_left_comm x (A 0)]
      omega
    have e2 : evN x B (n + m + 1) = evN x B m := by rw [show n + m + 1 = m + (n + 1) by omega]; exact evN_more x m (n + 1) hB
    rw [show n + 1 + m = n + m + 1 by omega, e1, e2, evN_cv x m hB n _ (fun i hi => h (i + 1) (by omega)), evN, Int.add_mul, Int.mul_assoc]
end Go.Proofs.YtljlcbichimhaaaGreatDoor
