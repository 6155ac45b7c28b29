/-
  Plain mathematics of polynomials and series modulo 2^32: no program in sight.
-/
import Derived.Test.YtljlcbichimhaaaGreatDoorScal
namespace Go.Proofs.YtljlcbichimhaaaGreatDoor
set_option linter.unusedVariables false
set_option linter.unusedSimpArgs false

/-! ### congruence modulo 2^32 -/
theorem smp_congr {a b : Int} (h : smp a = smp b) : ∃ k, a = b + 4294967296 * k := by
  obtain ⟨k, hk⟩ := smp_mod a
  obtain ⟨l, hl⟩ := smp_mod b
  exact ⟨l - k, by rw [Int.mul_sub]; omega⟩
theorem smp_of_dvd {a b : Int} (h : (4294967296 : Int) ∣ a - b) : smp a = smp b := by
  obtain ⟨k, hk⟩ := h
  exact smp_eq (by omega)
theorem dvd_of_smp {a b : Int} (h : smp a = smp b) : (4294967296 : Int) ∣ a - b := by
  obtain ⟨k, hk⟩ := smp_congr h
  exact ⟨k, by omega⟩
theorem smp_add_congr {a b c d : Int} (h : smp a = smp c) (h' : smp b = smp d) : smp (a + b) = smp (c + d) := by
  rw [← smp_add_smp a b, h, h', smp_add_smp]
theorem smp_sub_congr {a b c d : Int} (h : smp a = smp c) (h' : smp b = smp d) : smp (a - b) = smp (c - d) := by
  rw [← smp_sub_smp a b, h, h', smp_sub_smp]
theorem smp_mul_congr {a b c d : Int} (h : smp a = smp c) (h' : smp b = smp d) : smp (a * b) = smp (c * d) := by
  rw [← smp_mul_smp a b, h, h', smp_mul_smp]
theorem smp_left (a b : Int) : smp (smp a + b) = smp (a + b) := smp_add_congr (smp_smp a) rfl
theorem smp_right (a b : Int) : smp (a + smp b) = smp (a + b) := smp_add_congr rfl (smp_smp b)
theorem smp_subl (a b : Int) : smp (smp a - b) = smp (a - b) := smp_sub_congr (smp_smp a) rfl
theorem smp_subr (a b : Int) : smp (a - smp b) = smp (a - b) := smp_sub_congr rfl (smp_smp b)
theorem smp_mull (a b : Int) : smp (smp a * b) = smp (a * b) := smp_mul_congr (smp_smp a) rfl
theorem smp_mulr (a b : Int) : smp (a * smp b) = smp (a * b) := smp_mul_congr rfl (smp_smp b)
theorem isSmp_iff {x : Int} : isSmp x = true ↔ -2147483648 ≤ x ∧ x ≤ 2147483647 := inB_iff
theorem smp_isSmp (x : Int) : isSmp (smp x) = true := isSmp_iff.2 (smp_bounds x)
theorem smp_id {x : Int} (h : isSmp x = true) : smp x = x := smp_of _ (isSmp_iff.1 h)

/-! ### the inverse of an odd sample -/
def invStep (x y : Int) : Int := smp (y * smp (2 - x * y))
def invN (x : Int) : Nat → Int
  | 0 => x
  | k + 1 => invStep x (invN x k)
theorem inv_step {x y : Int} {m : Int} (h : m ∣ x * y - 1) : m * m ∣ x * (y * (2 - x * y)) - 1 := by
  obtain ⟨k, hk⟩ := h
  refine ⟨-(k * k), ?_⟩
  have e : x * y = m * k + 1 := by omega
  have e1 : x * (y * (2 - x * y)) = (x * y) * (2 - x * y) := by rw [Int.mul_assoc]
  rw [e1, e]
  have e2 : (m * k + 1) * (2 - (m * k + 1)) = 1 - (m * k) * (m * k) := by
    have : (2 - (m * k + 1)) = 1 - m * k := by omega
    rw [this, Int.add_mul, Int.mul_sub, Int.one_mul, Int.mul_one]
    omega
  rw [e2, Int.mul_neg]
  have e3 : (m * k) * (m * k) = m * m * (k * k) := by
    rw [Int.mul_assoc, Int.mul_left_comm k m k, ← Int.mul_assoc]
  rw [e3]; omega
theorem inv_smp {x y : Int} {m : Int} (hm : m ∣ 4294967296) (h : m ∣ x * y - 1) : m ∣ x * smp y - 1 := by
  obtain ⟨k, hk⟩ := smp_mod y
  rw [hk, Int.mul_add]
  have e : x * y + x * (4294967296 * k) - 1 = (x * y - 1) + 4294967296 * (x * k) := by
    rw [Int.mul_left_comm x]; omega
  rw [e]
  exact Int.dvd_add h (Int.dvd_trans hm ⟨x * k, rfl⟩)
theorem inv_next {x y m : Int} (hm : m * m ∣ 4294967296) (h : m ∣ x * y - 1) : m * m ∣ x * invStep x y - 1 := by
  unfold invStep
  refine inv_smp hm ?_
  have h1 := inv_step h
  -- the inner sample changes the product by a multiple
  obtain ⟨k, hk⟩ := smp_mod (2 - x * y)
  rw [hk, Int.mul_add, Int.mul_add]
  have e : x * (y * (2 - x * y)) + x * (y * (4294967296 * k)) - 1 = (x * (y * (2 - x * y)) - 1) + 4294967296 * (x * (y * k)) := by
    rw [Int.mul_left_comm y 4294967296 k, Int.mul_left_comm x 4294967296]; omega
  rw [e]
  exact Int.dvd_add h1 (Int.dvd_trans hm ⟨_, rfl⟩)
theorem inv_last {x y : Int} (h : (16777216 : Int) ∣ x * y - 1) : (4294967296 : Int) ∣ x * invStep x y - 1 := by
  unfold invStep
  refine inv_smp (Int.dvd_refl _) ?_
  have h1 := inv_step h
  have h2 : (4294967296 : Int) ∣ x * (y * (2 - x * y)) - 1 := Int.dvd_trans ⟨65536, by decide⟩ h1
  obtain ⟨k, hk⟩ := smp_mod (2 - x * y)
  rw [hk, Int.mul_add, Int.mul_add]
  have e : x * (y * (2 - x * y)) + x * (y * (4294967296 * k)) - 1 = (x * (y * (2 - x * y)) - 1) + 4294967296 * (x * (y * k)) := by
    rw [Int.mul_left_comm y 4294967296 k, Int.mul_left_comm x 4294967296]; omega
  rw [e]
  exact Int.dvd_add h2 ⟨_, rfl⟩
theorem inv_mul {x : Int} (h : x % 2 = 1) : smp (x * invN x 5) = 1 := by
  have h0 : (8 : Int) ∣ x * x - 1 := by
    obtain ⟨k, hk⟩ : ∃ k, x = 2 * k + 1 := ⟨x / 2, by omega⟩
    have e : x * x - 1 = 4 * (k * (k + 1)) := by
      rw [hk, Int.add_mul, Int.mul_add, Int.mul_add, Int.mul_one, Int.one_mul]
      have : 2 * k * (2 * k) = 4 * (k * k) := by rw [Int.mul_assoc, Int.mul_left_comm k 2 k]; omega
      rw [this, Int.mul_add k k 1, Int.mul_one]; omega
    have h2 : (2 : Int) ∣ k * (k + 1) := by
      rcases (show k % 2 = 0 ∨ k % 2 = 1 by omega) with h | h
      · exact Int.dvd_mul_of_dvd_left (Int.dvd_of_emod_eq_zero h)
      · exact Int.dvd_mul_of_dvd_right (Int.dvd_of_emod_eq_zero (by omega))
    obtain ⟨j, hj⟩ := h2
    exact ⟨j, by rw [e, hj]; omega⟩
  have h1 : (64 : Int) ∣ x * invN x 1 - 1 := inv_next (m := 8) ⟨67108864, by decide⟩ h0
  have h2 : (4096 : Int) ∣ x * invN x 2 - 1 := inv_next (m := 64) ⟨1048576, by decide⟩ h1
  have h3 : (16777216 : Int) ∣ x * invN x 3 - 1 := inv_next (m := 4096) ⟨256, by decide⟩ h2
  have h4 : (4294967296 : Int) ∣ x * invN x 4 - 1 := inv_last h3
  have h5 : (4294967296 : Int) ∣ x * invN x 5 - 1 := inv_last (Int.dvd_trans ⟨256, by decide⟩ h4)
  have := smp_of_dvd h5
  rw [this]; rfl

/-! ### a quotient of series -/
/-- the sum for place i, after k terms -/
def qacc (b out : List Int) (s : Int) (i : Nat) : Nat → Int
  | 0 => s
  | k + 1 => smp (qacc b out s i k - b.getD (k + 1) 0 * out.getD (i - (k + 1)) 0)
/-- how many terms there are for place i -/
def qcnt (b : List Int) (i : Nat) : Nat := min i (b.length - 1)
def quo (a b : List Int) (by' : Int) : Nat → List Int
  | 0 => []
  | i + 1 => quo a b by' i ++ [smp (qacc b (quo a b by' i) (a.getD i 0) i (qcnt b i) * by')]
theorem quo_length (a b : List Int) (y : Int) (n : Nat) : (quo a b y n).length = n := by
  induction n with
  | zero => rfl
  | succ n ih => rw [quo, List.length_append, ih]; rfl
theorem quo_take (a b : List Int) (y : Int) {i n : Nat} (h : i ≤ n) : (quo a b y n).take i = quo a b y i := by
  induction n with
  | zero => obtain rfl : i = 0 := by omega
            rfl
  | succ n ih =>
    by_cases e : i = n + 1
    · subst e; rw [List.take_of_length_le (by rw [quo_length]; exact Nat.le_refl _)]
    · rw [quo, List.take_append_of_le_length (by rw [quo_length]; omega), ih (by omega)]
theorem quo_get (a b : List Int) (y : Int) {i n : Nat} (h : i < n) : (quo a b y n).getD i 0 = smp (qacc b (quo a b y i) (a.getD i 0) i (qcnt b i) * y) := by
  have h1 := quo_take a b y (show i + 1 ≤ n by omega)
  have h2 : (quo a b y n).getD i 0 = (quo a b y (i + 1)).getD i 0 := by
    rw [← h1]
    simp [List.getD_eq_getElem?_getD, List.getElem?_take]
  rw [h2, quo, List.getD_eq_getElem?_getD, List.getElem?_append_right (by rw [quo_length]; exact Nat.le_refl _), quo_length]
  simp
theorem getD_agree {xs ys : List Int} {n : Nat} (h : xs.take n = ys.take n) {j : Nat} (hj : j < n) : xs.getD j 0 = ys.getD j 0 := by
  have h1 : (xs.take n).getD j 0 = (ys.take n).getD j 0 := by rw [h]
  simpa [List.getD_eq_getElem?_getD, List.getElem?_take, hj] using h1
theorem qacc_congr {b xs ys : List Int} {s : Int} {i : Nat} (h : ∀ j, j < i → xs.getD j 0 = ys.getD j 0) : ∀ k, k ≤ i → qacc b xs s i k = qacc b ys s i k := by
  intro k
  induction k with
  | zero => intro _; rfl
  | succ k ih => intro hk; rw [qacc, qacc, ih (by omega), h _ (by omega)]
/-- the law's sum: of the products of b and x up to k terms, at place i -/
def lsum (b x : List Int) (i : Nat) : Nat → Int
  | 0 => 0
  | k + 1 => smp (lsum b x i k + smp (b.getD k 0 * x.getD (i - k) 0))
theorem lsum_smp (b x : List Int) (i k : Nat) : smp (lsum b x i k) = lsum b x i k := by
  cases k with
  | zero => rfl
  | succ k => rw [lsum, smp_smp]
theorem qacc_lsum (b x : List Int) (s : Int) (i : Nat) : ∀ k, smp (qacc b x s i k + lsum b x i (k + 1)) = smp (s + b.getD 0 0 * x.getD i 0) := by
  intro k
  induction k with
  | zero =>
    rw [qacc, lsum, lsum, Int.zero_add, smp_smp, smp_right]; rfl
  | succ k ih =>
    rw [qacc, lsum, smp_left, smp_right]
    have e : qacc b x s i k - b.getD (k + 1) 0 * x.getD (i - (k + 1)) 0 + (lsum b x i (k + 1) + smp (b.getD (k + 1) 0 * x.getD (i - (k + 1)) 0)) = (qacc b x s i k + lsum b x i (k + 1)) + (smp (b.getD (k + 1) 0 * x.getD (i - (k + 1)) 0) - b.getD (k + 1) 0 * x.getD (i - (k + 1)) 0) := by omega
    rw [e]
    have h2 : smp (smp (b.getD (k + 1) 0 * x.getD (i - (k + 1)) 0) - b.getD (k + 1) 0 * x.getD (i - (k + 1)) 0) = smp 0 := by rw [smp_subl, Int.sub_self]
    rw [smp_add_congr ih h2]
    rw [Int.add_zero]
theorem quo_law {a b : List Int} {n i : Nat} (hb : 0 < b.length) (hodd : b.getD 0 0 % 2 = 1) (h : i < n) :
    lsum b (quo a b (invN (b.getD 0 0) 5) n) i (qcnt b i + 1) = smp (a.getD i 0) := by
  generalize hx : quo a b (invN (b.getD 0 0) 5) n = x
  generalize hy : invN (b.getD 0 0) 5 = y at hx
  have hi : x.getD i 0 = smp (qacc b x (a.getD i 0) i (qcnt b i) * y) := by
    rw [← hx, quo_get a b y h]
    rw [qacc_congr (ys := quo a b y n) (fun j hj => ?_) _ (by unfold qcnt; omega)]
    exact getD_agree (n := i) (by rw [quo_take a b y (Nat.le_of_lt h), quo_take a b y (Nat.le_refl i)]) hj
  have h1 := qacc_lsum b x (a.getD i 0) i (qcnt b i)
  have h2 : smp (b.getD 0 0 * x.getD i 0) = smp (qacc b x (a.getD i 0) i (qcnt b i)) := by
    rw [hi, smp_mulr]
    have e : b.getD 0 0 * (qacc b x (a.getD i 0) i (qcnt b i) * y) = (b.getD 0 0 * y) * qacc b x (a.getD i 0) i (qcnt b i) := by
      rw [Int.mul_left_comm, Int.mul_comm]
    rw [e, ← smp_mull, ← hy, inv_mul hodd, Int.one_mul]
  generalize qacc b x (a.getD i 0) i (qcnt b i) = q at *
  have h3 : smp (lsum b x i (qcnt b i + 1)) = smp (a.getD i 0) := by
    have h4 : smp (q + lsum b x i (qcnt b i + 1)) = smp (a.getD i 0 + q) := by rw [h1]; exact smp_add_congr rfl h2
    have h5 := smp_sub_congr h4 (rfl : smp q = smp q)
    rw [show q + lsum b x i (qcnt b i + 1) - q = lsum b x i (qcnt b i + 1) by omega, show a.getD i 0 + q - q = a.getD i 0 by omega] at h5
    exact h5
  rw [lsum_smp] at h3
  exact h3
end Go.Proofs.YtljlcbichimhaaaGreatDoor
