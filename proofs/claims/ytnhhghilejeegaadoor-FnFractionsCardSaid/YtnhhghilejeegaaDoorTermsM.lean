/-
  Plain mathematics of the terms of a fraction: no program in sight.
-/
import Derived.Test.YtnhhghilejeegaaDoorBase
namespace Go.Proofs.YtnhhghilejeegaaDoor
set_option linter.unusedVariables false

/-- the terms of x / y -/
def tms (x : Int) (y : Nat) : List Int := if h : y = 0 then [] else x / (y : Int) :: tms (y : Int) (x % (y : Int)).toNat
termination_by y
decreasing_by
  have := Int.emod_lt_of_pos x (show (0 : Int) < y by omega)
  have := Int.emod_nonneg x (show (y : Int) ≠ 0 by omega)
  omega
theorem tms_zero (x : Int) : tms x 0 = [] := by rw [tms]; rfl
theorem tms_pos (x : Int) {y : Nat} (h : y ≠ 0) : tms x y = x / (y : Int) :: tms (y : Int) (x % (y : Int)).toNat := by rw [tms, dif_neg h]
theorem emod_toNat (x : Int) {y : Nat} (h : y ≠ 0) : ((x % (y : Int)).toNat : Int) = x % (y : Int) := by
  have := Int.emod_nonneg x (show (y : Int) ≠ 0 by omega)
  omega
theorem emod_toNat_lt (x : Int) {y : Nat} (h : y ≠ 0) : (x % (y : Int)).toNat < y := by
  have := Int.emod_lt_of_pos x (show (0 : Int) < y by omega)
  have := Int.emod_nonneg x (show (y : Int) ≠ 0 by omega)
  omega
/-- the number of terms -/
theorem tms_half (k : Nat) : ∀ (x : Int) (y : Nat), y < 2 ^ k → (tms x y).length ≤ 2 * k := by
  induction k with
  | zero =>
    intro x y h
    obtain rfl : y = 0 := by omega
    rw [tms_zero]; simp
  | succ k ih =>
    intro x y h
    by_cases h0 : y = 0
    · subst h0; rw [tms_zero]; simp
    · rw [tms_pos x h0, List.length_cons]
      have h1 := emod_toNat_lt x h0
      generalize (x % (y : Int)).toNat = z at h1
      by_cases hz : z = 0
      · subst hz; rw [tms_zero]; simp only [List.length_nil]; omega
      · rw [tms_pos _ hz, List.length_cons]
        have h2 : ((y : Int) % (z : Int)).toNat = y % z := by rw [← Int.natCast_emod]; rfl
        rw [h2]
        have h3 : y % z < 2 ^ k := by
          have h4 : y % z < z := Nat.mod_lt _ (by omega)
          have h5 : y / z ≥ 1 := (Nat.le_div_iff_mul_le (by omega)).2 (by omega)
          have h6 := Nat.div_add_mod y z
          have h7 : z * 1 ≤ z * (y / z) := Nat.mul_le_mul_left _ h5
          have h8 : 2 ^ (k + 1) = 2 * 2 ^ k := by rw [Nat.pow_succ, Nat.mul_comm]
          omega
        have := ih (z : Int) (y % z) h3
        omega
theorem tms_length {x : Int} {y : Nat} (h : y ≤ 1000000) : (tms x y).length ≤ 40 := tms_half 20 x y (by omega)
/-- the value of terms, as two numbers -/
def cf : List Int → Int × Int
  | [] => (1, 0)
  | t :: ts => (t * (cf ts).1 + (cf ts).2, (cf ts).1)
theorem gcd_emod (x : Int) {y : Nat} (h : y ≠ 0) : Nat.gcd y (x % (y : Int)).toNat = Nat.gcd x.natAbs y := by
  have e : ((x % (y : Int)).toNat) = (x % (y : Int)).natAbs := by
    have := Int.emod_nonneg x (show (y : Int) ≠ 0 by omega)
    omega
  rw [e]
  have h1 : Int.gcd (y : Int) (x % (y : Int)) = Int.gcd x (y : Int) := by
    rw [Int.emod_def, Int.gcd_sub_mul_left_right, Int.gcd_comm]
  exact h1
theorem cf_tms : ∀ (n : Nat) (x : Int) (y : Nat), y ≤ n → Nat.gcd x.natAbs y = 1 → (y = 0 → 0 ≤ x) → cf (tms x y) = (x, (y : Int)) := by
  intro n
  induction n with
  | zero =>
    intro x y hy hg hx
    obtain rfl : y = 0 := by omega
    rw [tms_zero, cf]
    rw [Nat.gcd_zero_right] at hg
    have := hx rfl
    have : x = 1 := by omega
    rw [this]; rfl
  | succ n ih =>
    intro x y hy hg hx
    by_cases h0 : y = 0
    · subst h0
      rw [tms_zero, cf]
      rw [Nat.gcd_zero_right] at hg
      have := hx rfl
      have : x = 1 := by omega
      rw [this]; rfl
    · have h1 := emod_toNat_lt x h0
      rw [tms_pos x h0, cf, ih (y : Int) _ (by omega) (by rw [Int.natAbs_natCast, gcd_emod x h0]; exact hg) (fun _ => by omega)]
      simp only [emod_toNat x h0]
      rw [Int.mul_comm]
      have := Int.mul_ediv_add_emod x y
      rw [this]
/-- what is left of the terms from a place on -/
theorem tms_drop : ∀ (i : Nat) (x : Int) (y : Nat), i < (tms x y).length → y ≠ 0 → Nat.gcd x.natAbs y = 1 →
    ∃ (u v : Nat), (tms x y).drop (i + 1) = tms (u : Int) v ∧ v < u ∧ u ≤ y ∧ Nat.gcd u v = 1 := by
  intro i
  induction i with
  | zero =>
    intro x y hi h0 hg
    refine ⟨y, (x % (y : Int)).toNat, ?_, emod_toNat_lt x h0, Nat.le_refl _, ?_⟩
    · rw [tms_pos x h0]; rfl
    · rw [gcd_emod x h0]; exact hg
  | succ i ih =>
    intro x y hi h0 hg
    rw [tms_pos x h0] at hi ⊢
    rw [List.length_cons] at hi
    have h1 := emod_toNat_lt x h0
    have hz : (x % (y : Int)).toNat ≠ 0 := by
      intro e
      rw [e, tms_zero] at hi
      simp at hi
    obtain ⟨u, v, e1, e2, e3, e4⟩ := ih (y : Int) (x % (y : Int)).toNat (by omega) hz (by rw [Int.natAbs_natCast, gcd_emod x h0]; exact hg)
    exact ⟨u, v, by rw [List.drop_succ_cons]; exact e1, e2, by omega, e4⟩
/-- a term behind the first one -/
theorem tms_term {x : Int} {y : Nat} (h0 : y ≠ 0) (hg : Nat.gcd x.natAbs y = 1) {i : Nat} (hi : i + 1 < (tms x y).length) :
    1 ≤ (tms x y)[i + 1] ∧ (tms x y)[i + 1] ≤ y ∧ (i + 2 = (tms x y).length → 2 ≤ (tms x y)[i + 1]) := by
  obtain ⟨u, v, e1, e2, e3, e4⟩ := tms_drop i x y (by omega) h0 hg
  have hv : v ≠ 0 := by
    intro e
    rw [e, tms_zero] at e1
    have := congrArg List.length e1
    rw [List.length_drop] at this
    simp at this; omega
  have e5 : (tms x y)[i + 1] = (u : Int) / (v : Int) := by
    have h2 := List.drop_eq_getElem_cons hi
    rw [e1, tms_pos _ hv] at h2
    simp only [List.cons.injEq] at h2
    exact h2.1.symm
  rw [e5, ← Int.natCast_ediv]
  have h3 : 1 ≤ u / v := (Nat.le_div_iff_mul_le (by omega)).2 (by omega)
  have h4 : u / v ≤ u := Nat.div_le_self _ _
  refine ⟨by omega, by omega, fun hl => ?_⟩
  -- the last term: v divides u, so v = 1
  have h5 : (tms (u : Int) v).length = 1 := by
    rw [← e1, List.length_drop]; omega
  rw [tms_pos _ hv, List.length_cons] at h5
  have h6 : ((u : Int) % (v : Int)).toNat = 0 := by
    rcases Nat.eq_zero_or_pos ((u : Int) % (v : Int)).toNat with h | h
    · exact h
    · rw [tms_pos _ (by omega), List.length_cons] at h5; omega
  have h7 : u % v = 0 := by rw [← Int.natCast_emod, Int.toNat_natCast] at h6; exact h6
  have h8 : v = 1 := by
    have h9 : v ∣ Nat.gcd u v := Nat.dvd_gcd (Nat.dvd_of_mod_eq_zero h7) (Nat.dvd_refl v)
    rw [e4] at h9
    exact Nat.dvd_one.1 h9
  subst h8
  rw [Nat.div_one]
  omega
theorem tms_first {x : Int} {y : Nat} (h0 : y ≠ 0) : (tms x y).head? = some (x / (y : Int)) := by rw [tms_pos x h0]; rfl
theorem tms_ne {x : Int} {y : Nat} (h0 : y ≠ 0) : 0 < (tms x y).length := by rw [tms_pos x h0]; simp
end Go.Proofs.YtnhhghilejeegaaDoor
