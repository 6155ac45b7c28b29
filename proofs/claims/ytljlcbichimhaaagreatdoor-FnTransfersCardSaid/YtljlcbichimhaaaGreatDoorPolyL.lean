/-
  Polynomials modulo 2^32: the plain laws; no program in sight.
-/
import Derived.Test.YtljlcbichimhaaaGreatDoorPolyD
namespace Go.Proofs.YtljlcbichimhaaaGreatDoor
set_option linter.unusedVariables false
set_option linter.unusedSimpArgs false

def mulL (a b : List Int) : List Int := trimL (mpL a b (a.length + b.length) a.length 0)
def addL (a b : List Int) (f : Int) : List Int := trimL (atl a b f (max a.length b.length))
def evL (a : List Int) (x : Int) : Int := smp (evN x (fun i => a.getD i 0) a.length)
theorem sumN_smp {f g : Nat → Int} : ∀ n, (∀ i, i < n → smp (f i) = smp (g i)) → smp (sumN f n) = smp (sumN g n)
  | 0, _ => rfl
  | n + 1, h => by rw [sumN, sumN]; exact smp_add_congr (sumN_smp n fun i hi => h i (by omega)) (h n (by omega))
theorem cv_smp {A A' B B' : Nat → Int} (hA : ∀ i, smp (A i) = smp (A' i)) (hB : ∀ i, smp (B i) = smp (B' i)) (k : Nat) : smp (cv A B k) = smp (cv A' B' k) :=
  sumN_smp _ fun i _ => smp_mul_congr (hA i) (hB _)
theorem evN_smp (x : Int) : ∀ (n : Nat) {A A' : Nat → Int}, (∀ i, smp (A i) = smp (A' i)) → smp (evN x A n) = smp (evN x A' n)
  | 0, _, _, _ => rfl
  | n + 1, A, A', h => by rw [evN, evN]; exact smp_add_congr (h 0) (smp_mul_congr rfl (evN_smp x n fun i => h (i + 1)))
theorem mulL_get (a b : List Int) (j : Nat) : (mulL a b).getD j 0 = smp (cv (fun i => a.getD i 0) (fun i => b.getD i 0) j) := by
  unfold mulL
  rw [trimL_get]
  by_cases h : j < a.length + b.length
  · rw [mpL_get a b h, mp_cv]
  · rw [getD_nil' _ (by rw [mpL_length]; exact h)]
    have : cv (fun i => a.getD i 0) (fun i => b.getD i 0) j = 0 := sumN_zero _ fun i hi => by
      show a.getD i 0 * b.getD (j - i) 0 = 0
      by_cases h1 : i < a.length
      · rw [getD_nil' b (by omega), Int.mul_zero]
      · rw [getD_nil' a h1, Int.zero_mul]
    rw [this]; rfl
theorem addL_get (a b : List Int) (f : Int) (j : Nat) : (addL a b f).getD j 0 = smp (a.getD j 0 + f * b.getD j 0) := by
  unfold addL
  rw [trimL_get, atl_get a b f (Nat.le_refl _)]
theorem mpL_smp (a b : List Int) (n i j : Nat) : AllS (mpL a b n i j) := by
  intro x hx
  unfold mpL at hx
  obtain ⟨t, -, rfl⟩ := List.mem_map.1 hx
  exact smp_isSmp _
theorem mulL_poly {a b : List Int} (h : a.length + b.length ≤ 65) : PolyV (mulL a b) :=
  ⟨trimL_canon _, trimL_smp (mpL_smp _ _ _ _ _), by have := trimL_le (mpL a b (a.length + b.length) a.length 0); rw [mpL_length] at this; unfold mulL; omega⟩
theorem addL_poly {a b : List Int} (f : Int) (h1 : a.length ≤ 65) (h2 : b.length ≤ 65) : PolyV (addL a b f) :=
  ⟨trimL_canon _, trimL_smp (atl_smp _ _ _ _), by have := trimL_le (atl a b f (max a.length b.length)); rw [atl_length] at this; unfold addL; omega⟩
theorem mulL_len (a b : List Int) (h : 1 ≤ a.length) : (mulL a b).length ≤ a.length + b.length := by
  have := trimL_le (mpL a b (a.length + b.length) a.length 0); rw [mpL_length] at this; unfold mulL; omega
theorem addL_len (a b : List Int) (f : Int) (h : 1 ≤ a.length) : (addL a b f).length ≤ max a.length b.length := by
  have := trimL_le (atl a b f (max a.length b.length)); rw [atl_length] at this; unfold addL; omega
theorem sub_back {a b : List Int} (ha : PolyV a) : addL (addL a b 1) b (-1) = a := by
  refine canon_ext (trimL_canon _) ha.1 fun j => ?_
  rw [addL_get, addL_get]
  have := smp_id (getD_smp ha.2.1 j)
  generalize a.getD j 0 = x at *
  generalize b.getD j 0 = y
  rw [← this]
  unfold smp; omega
theorem mul_comm' (a b : List Int) : mulL a b = mulL b a :=
  canon_ext (trimL_canon _) (trimL_canon _) fun j => by rw [mulL_get, mulL_get, cv_comm]
theorem mul_add' (a b c : List Int) : mulL (addL a b 1) c = addL (mulL a c) (mulL b c) 1 := by
  refine canon_ext (trimL_canon _) (trimL_canon _) fun j => ?_
  rw [mulL_get, addL_get, mulL_get, mulL_get, Int.one_mul, smp_add_smp, ← cv_add]
  refine cv_smp (fun i => ?_) (fun _ => rfl) j
  rw [addL_get, smp_smp, Int.one_mul]
theorem evN_len (x : Int) {a : List Int} {n : Nat} (h : a.length ≤ n) : evN x (fun i => a.getD i 0) n = evN x (fun i => a.getD i 0) a.length := by
  obtain ⟨k, rfl⟩ : ∃ k, n = a.length + k := ⟨n - a.length, by omega⟩
  exact evN_more x a.length k fun i hi => getD_nil' a (by omega)
theorem ev_mul {a b : List Int} (x : Int) (ha : 1 ≤ a.length) : evL (mulL a b) x = smp (evL a x * evL b x) := by
  unfold evL
  rw [smp_mul_smp, ← evN_cv x b.length (fun i hi => getD_nil' b (by omega)) a.length _ (fun i hi => getD_nil' a (by omega)), ← evN_len x (mulL_len a b ha)]
  exact evN_smp x _ fun i => by rw [mulL_get, smp_smp]
theorem ev_add {a b : List Int} (x : Int) (ha : 1 ≤ a.length) : evL (addL a b 1) x = smp (evL a x + evL b x) := by
  unfold evL
  rw [smp_add_smp, ← evN_len x (addL_len a b 1 ha), ← evN_len x (show a.length ≤ max a.length b.length by omega), ← evN_len (a := b) x (show b.length ≤ max a.length b.length by omega), ← evN_add]
  exact evN_smp x _ fun i => by rw [addL_get, smp_smp, Int.one_mul]
theorem one_mul' {a : List Int} (ha : PolyV a) : mulL [1] a = a := by
  refine canon_ext (trimL_canon _) ha.1 fun j => ?_
  rw [mulL_get]
  have e : cv (fun i => ([1] : List Int).getD i 0) (fun i => a.getD i 0) j = a.getD j 0 := by
    cases j with
    | zero => rw [cv_first]; simp
    | succ j =>
      rw [cv_front]
      have : cv (fun i => ([1] : List Int).getD (i + 1) 0) (fun i => a.getD i 0) j = 0 := sumN_zero _ fun i _ => by simp
      rw [this]; simp
  rw [e]
  exact smp_id (getD_smp ha.2.1 j)
/-- Horner's scheme from place k on -/
def hor (a : List Int) (x : Int) (k : Nat) : Int := smp (evN x (fun j => a.getD (k + j) 0) (a.length - k))
theorem hor_end (a : List Int) (x : Int) : hor a x a.length = 0 := by
  unfold hor; rw [Nat.sub_self]; rfl
theorem hor_step {a : List Int} (x : Int) {k : Nat} (h : k < a.length) : hor a x k = smp (hor a x (k + 1) * x + a.getD k 0) := by
  unfold hor
  rw [show a.length - k = (a.length - (k + 1)) + 1 by omega, evN]
  have e : (fun j => a.getD (k + (j + 1)) 0) = (fun j => a.getD (k + 1 + j) 0) := by funext j; rw [show k + (j + 1) = k + 1 + j by omega]
  rw [e, Nat.add_zero, Int.add_comm]
  exact smp_add_congr (by rw [Int.mul_comm]; exact smp_mul_congr (smp_smp _).symm rfl) rfl
theorem hor_zero (a : List Int) (x : Int) : hor a x 0 = evL a x := by
  unfold hor evL; simp only [Nat.zero_add, Nat.sub_zero]
end Go.Proofs.YtljlcbichimhaaaGreatDoor
