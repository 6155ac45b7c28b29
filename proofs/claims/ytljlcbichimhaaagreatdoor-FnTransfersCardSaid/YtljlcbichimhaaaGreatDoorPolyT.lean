/-
  Plain: zeros at the end of a list of coefficients; polynomials as lists.
-/
import Derived.Test.YtljlcbichimhaaaGreatDoorPolyM
namespace Go.Proofs.YtljlcbichimhaaaGreatDoor
set_option linter.unusedVariables false
set_option linter.unusedSimpArgs false

/-- how many coefficients stay, of the first n -/
def tn (xs : List Int) : Nat → Nat
  | 0 => 0
  | 1 => 1
  | n + 2 => if xs.getD (n + 1) 0 = 0 then tn xs (n + 1) else n + 2
def trimL (xs : List Int) : List Int := if xs.length = 0 then [0] else xs.take (tn xs xs.length)
theorem tn_le (xs : List Int) : ∀ n, tn xs n ≤ n := by
  intro n
  induction n with
  | zero => exact Nat.le_refl _
  | succ n ih =>
    cases n with
    | zero => exact Nat.le_refl _
    | succ n =>
      rw [tn]
      split
      · omega
      · exact Nat.le_refl _
theorem tn_pos (xs : List Int) : ∀ n, 1 ≤ n → 1 ≤ tn xs n := by
  intro n
  induction n with
  | zero => intro h; omega
  | succ n ih =>
    intro _
    cases n with
    | zero => exact Nat.le_refl _
    | succ n =>
      rw [tn]
      split
      · exact ih (by omega)
      · omega
theorem tn_last (xs : List Int) : ∀ n, 1 ≤ n → tn xs n = 1 ∨ xs.getD (tn xs n - 1) 0 ≠ 0 := by
  intro n
  induction n with
  | zero => intro h; omega
  | succ n ih =>
    intro _
    cases n with
    | zero => exact .inl rfl
    | succ n =>
      rw [tn]
      split
      · exact ih (by omega)
      · rename_i h; right; simpa using h
theorem tn_zero (xs : List Int) : ∀ n j, tn xs n ≤ j → j < n → xs.getD j 0 = 0 := by
  intro n
  induction n with
  | zero => intro j _ h; omega
  | succ n ih =>
    intro j h1 h2
    cases n with
    | zero => rw [tn] at h1; omega
    | succ n =>
      rw [tn] at h1
      split at h1
      · rename_i h
        by_cases e : j = n + 1
        · rw [e]; exact h
        · exact ih j h1 (by omega)
      · omega
theorem trimL_ne (xs : List Int) : 1 ≤ (trimL xs).length := by
  unfold trimL
  split
  · simp
  · have := tn_pos xs xs.length (by omega)
    rw [List.length_take]; omega
theorem trimL_le (xs : List Int) : (trimL xs).length ≤ max xs.length 1 := by
  unfold trimL
  split
  · simp; omega
  · rw [List.length_take]; omega
theorem trimL_get (xs : List Int) (j : Nat) : (trimL xs).getD j 0 = xs.getD j 0 := by
  unfold trimL
  split
  · rename_i h
    have : xs = [] := List.eq_nil_of_length_eq_zero h
    subst this
    cases j <;> simp
  · rename_i h
    by_cases e : j < tn xs xs.length
    · simp [List.getD_eq_getElem?_getD, List.getElem?_take, e]
    · have h1 : (xs.take (tn xs xs.length)).getD j 0 = 0 := by
        simp [List.getD_eq_getElem?_getD, List.getElem?_take, e]
      rw [h1]
      by_cases e2 : j < xs.length
      · exact (tn_zero xs _ j (by omega) e2).symm
      · rw [List.getD_eq_getElem?_getD, List.getElem?_eq_none (by omega)]; rfl
/-- no zero at the end, but for the zero polynomial -/
def Canon (xs : List Int) : Prop := 1 ≤ xs.length ∧ (xs.length = 1 ∨ xs.getD (xs.length - 1) 0 ≠ 0)
theorem trimL_canon (xs : List Int) : Canon (trimL xs) := by
  refine ⟨trimL_ne xs, ?_⟩
  by_cases h0 : xs.length = 0
  · left; unfold trimL; rw [if_pos h0]; rfl
  · have hl : (trimL xs).length = tn xs xs.length := by
      unfold trimL; rw [if_neg h0, List.length_take]; have := tn_le xs xs.length; omega
    rw [hl, trimL_get]
    exact tn_last xs _ (by omega)
theorem canon_ext {xs ys : List Int} (h1 : Canon xs) (h2 : Canon ys) (h : ∀ j, xs.getD j 0 = ys.getD j 0) : xs = ys := by
  have key : ∀ {xs ys : List Int}, Canon xs → Canon ys → (∀ j, xs.getD j 0 = ys.getD j 0) → xs.length ≤ ys.length := by
    intro xs ys h1 h2 h
    rcases h1.2 with e | e
    · have := h2.1; omega
    · rcases Nat.lt_or_ge ys.length xs.length with hlt | hge
      · rw [h, List.getD_eq_getElem?_getD, List.getElem?_eq_none (by omega)] at e
        exact absurd rfl e
      · exact hge
  have hl : xs.length = ys.length := Nat.le_antisymm (key h1 h2 h) (key h2 h1 (fun j => (h j).symm))
  refine List.ext_getElem hl fun i hi hj => ?_
  have := h i
  rw [List.getD_eq_getElem?_getD, List.getD_eq_getElem?_getD, List.getElem?_eq_getElem hi, List.getElem?_eq_getElem hj] at this
  exact this
theorem trimL_self {xs : List Int} (h : Canon xs) : trimL xs = xs := canon_ext (trimL_canon xs) h (trimL_get xs)
/-- polynomials -/
def polyB (xs : List Int) : Bool := decide (1 ≤ xs.length) && (decide (xs.length ≤ 65) && (xs.all isSmp && (decide (xs.length = 1) || !decide (xs.getD (xs.length - 1) 0 = 0))))
theorem polyB_iff {xs : List Int} : polyB xs = true ↔ Canon xs ∧ xs.length ≤ 65 ∧ ∀ x ∈ xs, isSmp x = true := by
  simp only [polyB, Bool.and_eq_true, Bool.or_eq_true, decide_eq_true_iff, List.all_eq_true, Bool.not_eq_true', decide_eq_false_iff_not, Canon]
  constructor
  · rintro ⟨a, b, c, d⟩; exact ⟨⟨a, d⟩, b, c⟩
  · rintro ⟨⟨a, d⟩, b, c⟩; exact ⟨a, b, c, d⟩
theorem trimL_smp {xs : List Int} (h : ∀ x ∈ xs, isSmp x = true) : ∀ x ∈ trimL xs, isSmp x = true := by
  unfold trimL
  split
  · intro x hx
    simp only [List.mem_singleton] at hx
    subst hx; rfl
  · exact fun x hx => h x (List.mem_of_mem_take hx)
theorem getD_smp {xs : List Int} (h : ∀ x ∈ xs, isSmp x = true) (j : Nat) : isSmp (xs.getD j 0) = true := by
  rw [List.getD_eq_getElem?_getD]
  by_cases e : j < xs.length
  · rw [List.getElem?_eq_getElem e]; exact h _ (List.getElem_mem e)
  · rw [List.getElem?_eq_none (by omega)]; rfl
theorem poly_trim {xs : List Int} (h : ∀ x ∈ xs, isSmp x = true) (hl : xs.length ≤ 65) : polyB (trimL xs) = true :=
  polyB_iff.2 ⟨trimL_canon xs, by have := trimL_le xs; omega, trimL_smp h⟩
end Go.Proofs.YtljlcbichimhaaaGreatDoor
