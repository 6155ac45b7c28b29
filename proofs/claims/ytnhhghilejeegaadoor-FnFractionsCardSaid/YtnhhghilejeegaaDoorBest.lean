/-
  The nearest fraction with a bounded denominator: what the program computes, and the law.
-/
import Derived.Test.YtnhhghilejeegaaDoorFrac2
import Derived.Test.YtnhhghilejeegaaDoorFracM
namespace Go.Proofs.YtnhhghilejeegaaDoor
open Go.ChangeShapes Go.WideShapes Go.ChangeAt Go.RowKit Go.Sort
set_option linter.unusedVariables false

theorem mul_bd {a b A B : Int} (h1 : -A ≤ a) (h2 : a ≤ A) (h3 : -B ≤ b) (h4 : b ≤ B) (hA : 0 ≤ A) (hB : 0 ≤ B) : -(A * B) ≤ a * b ∧ a * b ≤ A * B := by
  have h5 : a.natAbs * b.natAbs ≤ A.natAbs * B.natAbs := Nat.mul_le_mul (by omega) (by omega)
  rw [← Int.natAbs_mul, ← Int.natAbs_mul] at h5
  have h6 := Int.mul_nonneg hA hB
  generalize a * b = x at *
  generalize A * B = y at *
  omega
theorem ediv_bd {a b M : Int} (hb : 0 < b) (h1 : -M ≤ a) (h2 : a ≤ M) : -M ≤ a / b ∧ a / b ≤ M := by
  by_cases h : 0 ≤ a
  · have h3 := Int.ediv_le_self b h
    have h4 := Int.ediv_nonneg h (show 0 ≤ b by omega)
    omega
  · have := fdiv_bounds hb (show a < 0 by omega)
    omega
theorem dist_of_neg {x p : Int} (h : x - p < 0) : ((x - p).natAbs : Int) = -(x - p) := by omega
theorem dist_of_pos {x p : Int} (h : ¬ x - p < 0) : ((x - p).natAbs : Int) = x - p := by omega
/-- the candidates before a place: all of smaller denominators, and j of this one -/
def CandTo (fN fD D : Int) (j : Nat) (n d : Int) : Prop := Cand fN fD D n d ∨ (d = D + 1 ∧ ∃ i : Nat, i < j ∧ n = fN * (D + 1) / fD + i)
theorem candTo_zero (fN fD D n d : Int) : Cand fN fD D n d ↔ CandTo fN fD D 0 n d := by
  constructor
  · exact .inl
  · rintro (h | ⟨_, i, hi, _⟩)
    · exact h
    · omega
theorem candTo_succ (fN fD D : Int) (j : Nat) (n d : Int) : (CandTo fN fD D j n d ∨ (n = fN * (D + 1) / fD + j ∧ d = D + 1)) ↔ CandTo fN fD D (j + 1) n d := by
  constructor
  · rintro ((h | ⟨h1, i, hi, h2⟩) | ⟨h1, h2⟩)
    · exact .inl h
    · exact .inr ⟨h1, i, by omega, h2⟩
    · exact .inr ⟨h2, j, by omega, h1⟩
  · rintro (h | ⟨h1, i, hi, h2⟩)
    · exact .inl (.inl h)
    · by_cases e : i = j
      · subst e; exact .inr ⟨h2, h1⟩
      · exact .inl (.inr ⟨h1, i, by omega, h2⟩)
theorem candTo_succ' {fN fD D low : Int} (h : low = fN * (D + 1) / fD) (j : Nat) (n d : Int) : (CandTo fN fD D j n d ∨ (n = low + j ∧ d = D + 1)) ↔ CandTo fN fD D (j + 1) n d := by rw [h]; exact candTo_succ fN fD D j n d
theorem candTo_done (fN fD : Int) (D : Int) (hD : 0 ≤ D) (n d : Int) : CandTo fN fD D 2 n d ↔ Cand fN fD (D + 1) n d := by
  constructor
  · rintro (⟨h1, h2, h3⟩ | ⟨h1, i, hi, h2⟩)
    · exact ⟨h1, by omega, h3⟩
    · subst h1
      refine ⟨by omega, by omega, ?_⟩
      have : i = 0 ∨ i = 1 := by omega
      rcases this with rfl | rfl
      · left; simpa using h2
      · right; simpa using h2
  · rintro ⟨h1, h2, h3⟩
    by_cases e : d ≤ D
    · exact .inl ⟨h1, e, h3⟩
    · obtain rfl : d = D + 1 := by omega
      refine .inr ⟨rfl, ?_⟩
      rcases h3 with h3 | h3
      · exact ⟨0, by omega, by simpa using h3⟩
      · exact ⟨1, by omega, by simpa using h3⟩
theorem candTo_den {fN fD D n d : Int} {j : Nat} (hD : 0 ≤ D) (h : CandTo fN fD D j n d) : 1 ≤ d ∧ d ≤ D + 1 := by
  rcases h with ⟨h1, h2, _⟩ | ⟨h1, _⟩ <;> omega
/-- bounds of what has been found -/
def BestBd (fD bn bd far : Int) : Prop := -2000000000000 ≤ bn ∧ bn ≤ 2000000000000 ∧ 0 ≤ bd ∧ bd ≤ 1000000 ∧ 0 ≤ far ∧ far ≤ fD
end Go.Proofs.YtnhhghilejeegaaDoor
