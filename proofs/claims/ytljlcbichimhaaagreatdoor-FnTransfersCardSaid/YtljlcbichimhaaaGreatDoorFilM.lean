/-
  Filters: the plain laws; no program in sight.
-/
import Derived.Test.YtljlcbichimhaaaGreatDoorPolyC
namespace Go.Proofs.YtljlcbichimhaaaGreatDoor
set_option linter.unusedVariables false
set_option linter.unusedSimpArgs false

def gd (xs : List Int) : Nat → Int := fun i => xs.getD i 0
theorem sumN_smp' {f g : Nat → Int} : ∀ n, (∀ i, i < n → smp (f i) = smp (g i)) → smp (sumN f n) = smp (sumN g n)
  | 0, _ => rfl
  | n + 1, h => by rw [sumN, sumN]; exact smp_add_congr (sumN_smp' n fun i hi => h i (by omega)) (h n (by omega))
theorem cv_smp' {A A' B B' : Nat → Int} (k : Nat) (hA : ∀ i, i ≤ k → smp (A i) = smp (A' i)) (hB : ∀ i, i ≤ k → smp (B i) = smp (B' i)) : smp (cv A B k) = smp (cv A' B' k) :=
  sumN_smp' _ fun i hi => smp_mul_congr (hA i (by omega)) (hB _ (by omega))
theorem lsum_sumN (b x : List Int) (i : Nat) : ∀ k, smp (lsum b x i k) = smp (sumN (fun j => b.getD j 0 * x.getD (i - j) 0) k)
  | 0 => rfl
  | k + 1 => by
    rw [lsum, smp_smp, sumN]
    exact smp_add_congr (lsum_sumN b x i k) (smp_smp _)
theorem gd_behind (xs : List Int) {j : Nat} (h : xs.length ≤ j) : xs.getD j 0 = 0 := by
  rw [List.getD_eq_getElem?_getD, List.getElem?_eq_none h]; rfl
theorem sumN_to {f : Nat → Int} {m n : Nat} (h : m ≤ n) (hz : ∀ i, m ≤ i → i < n → f i = 0) : sumN f n = sumN f m := by
  obtain ⟨k, rfl⟩ : ∃ k, n = m + k := ⟨n - m, by omega⟩
  clear h
  induction k with
  | zero => rfl
  | succ k ih => rw [← Nat.add_assoc, sumN, ih (fun i h1 h2 => hz i h1 (by omega)), hz _ (by omega) (by omega), Int.add_zero]
theorem quo_cv {a b : List Int} {n i : Nat} (hb : 0 < b.length) (h1 : b.getD 0 0 = 1) (h : i < n) :
    smp (cv (gd b) (gd (quo a b (invN (b.getD 0 0) 5) n)) i) = smp (a.getD i 0) := by
  have h2 := quo_law (a := a) hb (by rw [h1]; rfl) h
  generalize quo a b (invN (b.getD 0 0) 5) n = x at *
  have h3 := lsum_sumN b x i (qcnt b i + 1)
  rw [h2, smp_smp] at h3
  rw [h3]
  unfold cv gd
  rw [sumN_to (m := qcnt b i + 1) (by unfold qcnt; omega)]
  intro j hj hj2
  by_cases hji : b.length ≤ j
  · rw [gd_behind b hji, Int.zero_mul]
  · exact absurd hj (by unfold qcnt; omega)
/-- the list of n values -/
def tab (f : Nat → Int) (n : Nat) : List Int := (List.range n).map fun i => smp (f i)
theorem tab_length (f : Nat → Int) (n : Nat) : (tab f n).length = n := by simp [tab]
theorem tab_get (f : Nat → Int) {n i : Nat} (h : i < n) : (tab f n).getD i 0 = smp (f i) := by
  unfold tab; rw [List.getD_eq_getElem?_getD]; simp [h]
theorem tab_succ (f : Nat → Int) (n : Nat) : tab f (n + 1) = tab f n ++ [smp (f n)] := by
  unfold tab; rw [List.range_succ, List.map_append]; rfl
theorem tab_smp (f : Nat → Int) (n : Nat) : ∀ x ∈ tab f n, isSmp x = true := by
  intro x hx
  obtain ⟨j, -, rfl⟩ := List.mem_map.1 hx
  exact smp_isSmp _
theorem quo_smp (a b : List Int) (y : Int) : ∀ n, ∀ x ∈ quo a b y n, isSmp x = true
  | 0 => by intro x hx; simp [quo] at hx
  | n + 1 => by
    intro x hx
    rw [quo, List.mem_append] at hx
    rcases hx with hx | hx
    · exact quo_smp a b y n x hx
    · obtain rfl := List.mem_singleton.1 hx
      exact smp_isSmp _
def cvL (p a : List Int) (n : Nat) : List Int := tab (cv (gd p) (gd a)) n
/-- the signal behind a filter -/
def filL (p d a : List Int) : List Int := quo (cvL p a a.length) d (invN (d.getD 0 0) 5) a.length
theorem filL_length (p d a : List Int) : (filL p d a).length = a.length := quo_length _ _ _ _
theorem filL_smp (p d a : List Int) : ∀ x ∈ filL p d a, isSmp x = true := quo_smp _ _ _ _
theorem filL_eq {p d a : List Int} (hd : 0 < d.length) (h1 : d.getD 0 0 = 1) {i : Nat} (h : i < a.length) :
    smp (cv (gd d) (gd (filL p d a)) i) = smp (cv (gd p) (gd a) i) := by
  unfold filL
  rw [quo_cv hd h1 h]
  unfold cvL
  rw [tab_get _ h, smp_smp]
theorem gd_smp {xs : List Int} (h : ∀ x ∈ xs, isSmp x = true) (i : Nat) : smp (gd xs i) = gd xs i := by
  refine smp_id ?_
  unfold gd
  rw [List.getD_eq_getElem?_getD]
  by_cases hi : i < xs.length
  · rw [List.getElem?_eq_getElem hi]; exact h _ (List.getElem_mem hi)
  · rw [List.getElem?_eq_none (by omega)]; rfl
theorem cv_uniq {D X Y : Nat → Int} (h0 : D 0 = 1) (n : Nat) (h : ∀ i, i < n → smp (cv D X i) = smp (cv D Y i)) : ∀ i, i < n → smp (X i) = smp (Y i) := by
  intro i
  induction i using Nat.strongRecOn with
  | _ i ih =>
    intro hi
    have h1 := h i hi
    unfold cv at h1
    rw [sumN_front, sumN_front, h0, Int.one_mul, Int.one_mul, Nat.sub_zero] at h1
    have h2 : smp (sumN (fun j => D (j + 1) * X (i - (j + 1))) i) = smp (sumN (fun j => D (j + 1) * Y (i - (j + 1))) i) :=
      sumN_smp' _ fun j hj => smp_mul_congr rfl (ih _ (by omega) (by omega))
    have h3 := smp_sub_congr h1 h2
    rw [show ∀ a b : Int, a + b - b = a by intro a b; omega, show ∀ a b : Int, a + b - b = a by intro a b; omega] at h3
    exact h3
theorem list_ext_gd {xs ys : List Int} (hx : ∀ x ∈ xs, isSmp x = true) (hy : ∀ x ∈ ys, isSmp x = true) (hl : xs.length = ys.length) (h : ∀ i, i < xs.length → smp (gd xs i) = smp (gd ys i)) : xs = ys := by
  refine List.ext_getElem hl fun i h1 h2 => ?_
  have h3 := h i h1
  rw [gd_smp hx, gd_smp hy] at h3
  unfold gd at h3
  rw [List.getD_eq_getElem?_getD, List.getD_eq_getElem?_getD, List.getElem?_eq_getElem h1, List.getElem?_eq_getElem h2] at h3
  exact h3
/-- what solves the equation is the signal behind the filter -/
theorem filL_uniq {p d a ys : List Int} (hd : 0 < d.length) (h1 : d.getD 0 0 = 1) (hl : ys.length = a.length) (hs : ∀ x ∈ ys, isSmp x = true)
    (h : ∀ i, i < a.length → smp (cv (gd d) (gd ys) i) = smp (cv (gd p) (gd a) i)) : filL p d a = ys := by
  refine list_ext_gd (filL_smp _ _ _) hs (by rw [filL_length, hl]) ?_
  rw [filL_length]
  exact cv_uniq (D := gd d) h1 a.length fun i hi => by rw [filL_eq hd h1 hi, h i hi]
/-- the sum of two signals -/
def adL (a b : List Int) (n : Nat) : List Int := tab (fun i => a.getD i 0 + b.getD i 0) n
theorem cv_add_right (A B B' : Nat → Int) (k : Nat) : cv A (fun i => B i + B' i) k = cv A B k + cv A B' k := by
  rw [cv_comm, cv_add, cv_comm B, cv_comm B']
theorem cv_adL (A : Nat → Int) (a b : List Int) (n i : Nat) (h : i < n) : smp (cv A (gd (adL a b n)) i) = smp (cv A (gd a) i + cv A (gd b) i) := by
  rw [← cv_add_right]
  refine cv_smp' _ (fun _ _ => rfl) fun j hj => ?_
  unfold gd adL
  rw [tab_get _ (by omega), smp_smp]
theorem filL_add {p d a b : List Int} (hd : 0 < d.length) (h1 : d.getD 0 0 = 1) (hl : b.length = a.length) :
    filL p d (adL a b a.length) = adL (filL p d a) (filL p d b) a.length := by
  refine filL_uniq hd h1 (by unfold adL; rw [tab_length, tab_length]) (tab_smp _ _) ?_
  intro i hi
  have hi' : i < a.length := by unfold adL at hi; rw [tab_length] at hi; exact hi
  rw [cv_adL _ _ _ _ _ hi', cv_adL _ _ _ _ _ hi']
  exact smp_add_congr (filL_eq hd h1 hi') (filL_eq hd h1 (by omega))
/-- a signal delayed -/
def dlL (k : Nat) (a : List Int) : List Int := List.replicate k 0 ++ a
theorem dlL_get (k : Nat) (a : List Int) (i : Nat) : gd (dlL k a) i = if i < k then 0 else gd a (i - k) := by
  unfold gd dlL
  rw [List.getD_eq_getElem?_getD]
  by_cases h : i < k
  · rw [if_pos h, List.getElem?_append_left (by simpa using h)]; simp [h]
  · rw [if_neg h, List.getElem?_append_right (by simpa using h)]; simp [List.getD_eq_getElem?_getD]
theorem dlL_smp {k : Nat} {a : List Int} (h : ∀ x ∈ a, isSmp x = true) : ∀ x ∈ dlL k a, isSmp x = true := by
  intro x hx
  rcases List.mem_append.1 hx with hx | hx
  · obtain ⟨-, rfl⟩ := List.mem_replicate.1 hx; rfl
  · exact h x hx
theorem cv_dlL (A : Nat → Int) (k : Nat) (a : List Int) (i : Nat) : cv A (gd (dlL k a)) i = if i < k then 0 else cv A (gd a) (i - k) := by
  have e : gd (dlL k a) = fun i => if i < k then 0 else gd a (i - k) := funext (dlL_get k a)
  rw [e]
  unfold cv
  by_cases h : i < k
  · rw [if_pos h]
    refine sumN_zero _ fun j hj => ?_
    show A j * (if i - j < k then 0 else _) = 0
    rw [if_pos (by omega), Int.mul_zero]
  · rw [if_neg h, sumN_to (m := i - k + 1) (by omega)]
    · refine sumN_congr _ fun j hj => ?_
      show A j * (if i - j < k then 0 else gd a (i - j - k)) = _
      rw [if_neg (by omega), show i - j - k = i - k - j by omega]
    · intro j hj hj2
      show A j * (if i - j < k then 0 else _) = 0
      by_cases hk : i - j < k
      · rw [if_pos hk, Int.mul_zero]
      · exact absurd hj (by omega)
theorem filL_delay {p d a : List Int} (k : Nat) (hd : 0 < d.length) (h1 : d.getD 0 0 = 1) :
    filL p d (dlL k a) = dlL k (filL p d a) := by
  refine filL_uniq hd h1 (by unfold dlL; simp [filL_length]) (dlL_smp (filL_smp _ _ _)) ?_
  intro i hi
  have hi' : i < k + a.length := by unfold dlL at hi; simpa using hi
  rw [cv_dlL, cv_dlL]
  by_cases h : i < k
  · rw [if_pos h, if_pos h]
  · rw [if_neg h, if_neg h]
    exact filL_eq hd h1 (by omega)
theorem cv_one (A : Nat → Int) (i : Nat) : cv A (gd [1]) i = A i := by
  rw [cv_comm]
  unfold cv
  rw [sumN_front, sumN_zero _ (fun j _ => by show ([1] : List Int).getD (j + 1) 0 * _ = 0; simp)]
  show ([1] : List Int).getD 0 0 * A (i - 0) + 0 = A i
  simp
theorem filL_lag (k : Nat) {a : List Int} (ha : ∀ x ∈ a, isSmp x = true) :
    filL (List.replicate k 0 ++ [1]) [1] a = (dlL k a).take a.length := by
  refine filL_uniq (by simp) rfl (by unfold dlL; simp) (fun x hx => dlL_smp ha x (List.mem_of_mem_take hx)) ?_
  intro i hi
  rw [cv_comm, cv_one, cv_comm]
  have e : gd (List.replicate k 0 ++ [1]) = gd (dlL k [1]) := rfl
  rw [e, cv_dlL, show gd (List.take a.length (dlL k a)) i = gd (dlL k a) i by unfold gd; simp [List.getD_eq_getElem?_getD, List.getElem?_take, hi], dlL_get]
  by_cases h : i < k
  · rw [if_pos h, if_pos h]
  · rw [if_neg h, if_neg h, cv_one]
end Go.Proofs.YtljlcbichimhaaaGreatDoor
