/-
  Plain mathematics of the nearest fraction with a bounded denominator: no program in sight.
-/
import Derived.Test.YtnhhghilejeegaaDoorBase
namespace Go.Proofs.YtnhhghilejeegaaDoor
set_option linter.unusedVariables false

/-- how far n / d is from fN / fD, times both denominators -/
def dist (fN fD n d : Int) : Int := ((fN * d - n * fD).natAbs : Int)
theorem dist_nonneg (fN fD n d : Int) : 0 ≤ dist fN fD n d := by unfold dist; omega
/-- what has been found among the candidates P -/
def BestInv (fN fD : Int) (P : Int → Int → Prop) (found : Bool) (bn bd far : Int) : Prop :=
  (found = false ∧ ∀ n d, ¬ P n d) ∨ (found = true ∧ 1 ≤ bd ∧ far = dist fN fD bn bd ∧ P bn bd ∧ ∀ n d, P n d → far * d ≤ dist fN fD n d * bd ∧ (d < bd → far * d < dist fN fD n d * bd))
theorem mul_lt_cancel {a b c : Int} (hc : 0 < c) (h : a * c < b * c) : a < b := Int.lt_of_mul_lt_mul_right h (by omega)
theorem best_take {fN fD : Int} {P : Int → Int → Prop} {found : Bool} {bn bd far n d : Int} (h : BestInv fN fD P found bn bd far) (hd : 1 ≤ d) (hP : ∀ n' d', P n' d' → 1 ≤ d')
    (hlt : found = true → dist fN fD n d * bd < far * d) : BestInv fN fD (fun n' d' => P n' d' ∨ (n' = n ∧ d' = d)) true n d (dist fN fD n d) := by
  refine .inr ⟨rfl, hd, rfl, .inr ⟨rfl, rfl⟩, fun n' d' hp => ?_⟩
  rcases hp with hp | ⟨rfl, rfl⟩
  · rcases h with ⟨_, h0⟩ | ⟨hf, h1, h2, h3, h4⟩
    · exact absurd hp (h0 n' d')
    · have hl := hlt hf
      have ha := (h4 n' d' hp).1
      have hd' := hP n' d' hp
      have e1 : dist fN fD n d * bd * d' < far * d * d' := Int.mul_lt_mul_of_pos_right hl (by omega)
      have e2 : far * d' * d ≤ dist fN fD n' d' * bd * d := Int.mul_le_mul_of_nonneg_right ha (by omega)
      have e3 : far * d * d' = far * d' * d := Int.mul_right_comm _ _ _
      have e4 : dist fN fD n d * d' < dist fN fD n' d' * d := by
        refine mul_lt_cancel (c := bd) (by omega) ?_
        have e5 : dist fN fD n d * d' * bd = dist fN fD n d * bd * d' := Int.mul_right_comm _ _ _
        have e6 : dist fN fD n' d' * d * bd = dist fN fD n' d' * bd * d := Int.mul_right_comm _ _ _
        omega
      exact ⟨by omega, fun _ => e4⟩
  · exact ⟨Int.le_refl _, fun h => by omega⟩
theorem best_leave {fN fD : Int} {P : Int → Int → Prop} {bn bd far n d : Int} (h : BestInv fN fD P true bn bd far) (hb : bd ≤ d) (hge : far * d ≤ dist fN fD n d * bd) :
    BestInv fN fD (fun n' d' => P n' d' ∨ (n' = n ∧ d' = d)) true bn bd far := by
  rcases h with ⟨h0, _⟩ | ⟨hf, h1, h2, h3, h4⟩
  · simp at h0
  · refine .inr ⟨rfl, h1, h2, .inl h3, fun n' d' hp => ?_⟩
    rcases hp with hp | ⟨rfl, rfl⟩
    · exact h4 n' d' hp
    · exact ⟨hge, fun h => by omega⟩
theorem best_congr {fN fD : Int} {P Q : Int → Int → Prop} {found : Bool} {bn bd far : Int} (h : BestInv fN fD P found bn bd far) (hPQ : ∀ n d, P n d ↔ Q n d) : BestInv fN fD Q found bn bd far := by
  rcases h with ⟨h0, h1⟩ | ⟨hf, h1, h2, h3, h4⟩
  · exact .inl ⟨h0, fun n d hq => h1 n d ((hPQ n d).2 hq)⟩
  · exact .inr ⟨hf, h1, h2, (hPQ _ _).1 h3, fun n d hq => h4 n d ((hPQ n d).2 hq)⟩
/-- the candidates with denominators up to D -/
def Cand (fN fD D n d : Int) : Prop := 1 ≤ d ∧ d ≤ D ∧ (n = fN * d / fD ∨ n = fN * d / fD + 1)
/-- an integer is no nearer than one of the two candidates -/
theorem cand_near {fN fD : Int} (hf : 0 < fD) (d k : Int) : ∃ c, (c = fN * d / fD ∨ c = fN * d / fD + 1) ∧ dist fN fD c d ≤ dist fN fD k d := by
  have h1 := Int.mul_ediv_add_emod (fN * d) fD
  have h2 := Int.emod_nonneg (fN * d) (show fD ≠ 0 by omega)
  have h3 := Int.emod_lt_of_pos (fN * d) hf
  generalize fN * d / fD = q at *
  unfold dist
  generalize fN * d = x at *
  by_cases hk : k ≤ q
  · refine ⟨q, .inl rfl, ?_⟩
    have h4 : 0 ≤ (q - k) * fD := Int.mul_nonneg (by omega) (by omega)
    rw [Int.sub_mul] at h4
    rw [Int.mul_comm fD q] at h1
    omega
  · refine ⟨q + 1, .inr rfl, ?_⟩
    have h4 : 0 ≤ (k - (q + 1)) * fD := Int.mul_nonneg (by omega) (by omega)
    rw [Int.sub_mul] at h4
    have h5 : (q + 1) * fD = q * fD + fD := by rw [Int.add_mul, Int.one_mul]
    rw [Int.mul_comm fD q] at h1
    omega
theorem cand_dist {fN fD : Int} (hf : 0 < fD) {d c : Int} (h : c = fN * d / fD ∨ c = fN * d / fD + 1) : dist fN fD c d ≤ fD := by
  have h1 := Int.mul_ediv_add_emod (fN * d) fD
  have h2 := Int.emod_nonneg (fN * d) (show fD ≠ 0 by omega)
  have h3 := Int.emod_lt_of_pos (fN * d) hf
  unfold dist
  generalize fN * d = x at *
  rcases h with rfl | rfl
  · rw [Int.mul_comm fD] at h1; omega
  · rw [Int.add_mul, Int.one_mul]; rw [Int.mul_comm fD] at h1; omega
/-- the law of the nearest fraction: N / Dd is what was found, in lowest terms -/
theorem best_law {fN fD most D bn bd far N Dd : Int} {g : Nat} (hf : 0 < fD) (hD : D = min most fD) (h : BestInv fN fD (Cand fN fD D) true bn bd far) (hg : 0 < g) (h1 : bn = N * g) (h2 : bd = Dd * g) (hN : 0 < Dd) (hm : 1 ≤ most) {d k : Int} (hd : 1 ≤ d) (hdm : d ≤ most) :
    dist fN fD N Dd * d ≤ dist fN fD k d * Dd ∧ (dist fN fD k d * Dd = dist fN fD N Dd * d → Dd ≤ d) := by
  rcases h with ⟨h0, _⟩ | ⟨_, hb, hfar, hc, hall⟩
  · simp at h0
  have hgi : (0 : Int) < (g : Int) := by omega
  have hfar2 : far = dist fN fD N Dd * (g : Int) := by
    rw [hfar, h1, h2]
    unfold dist
    have e : fN * (Dd * (g : Int)) - N * (g : Int) * fD = (fN * Dd - N * fD) * (g : Int) := by
      rw [Int.sub_mul, Int.mul_assoc fN, Int.mul_right_comm N]
    rw [e, Int.natAbs_mul, Int.natAbs_natCast, Int.natCast_mul]
  have hbD : Dd ≤ bd := by
    rw [h2]
    have := Int.mul_le_mul_of_nonneg_left (show (1 : Int) ≤ (g : Int) by omega) (show 0 ≤ Dd by omega)
    omega
  -- the bound for a denominator that is a candidate's
  have key : ∀ d', 1 ≤ d' → d' ≤ D → ∀ k', dist fN fD N Dd * d' ≤ dist fN fD k' d' * Dd ∧ (d' < Dd → dist fN fD N Dd * d' < dist fN fD k' d' * Dd) := by
    intro d' hd1 hd2 k'
    obtain ⟨c, hc1, hc2⟩ := cand_near (fN := fN) hf d' k'
    obtain ⟨a1, a2⟩ := hall c d' ⟨hd1, hd2, hc1⟩
    rw [hfar2, h2] at a1 a2
    have e1 : dist fN fD N Dd * (g : Int) * d' = dist fN fD N Dd * d' * (g : Int) := Int.mul_right_comm _ _ _
    have e2 : dist fN fD c d' * (Dd * (g : Int)) = dist fN fD c d' * Dd * (g : Int) := (Int.mul_assoc _ _ _).symm
    rw [e1, e2] at a1 a2
    have a3 : dist fN fD N Dd * d' ≤ dist fN fD c d' * Dd := Int.le_of_mul_le_mul_right a1 hgi
    have a4 : dist fN fD c d' * Dd ≤ dist fN fD k' d' * Dd := Int.mul_le_mul_of_nonneg_right hc2 (by omega)
    refine ⟨by omega, fun hlt => ?_⟩
    have := mul_lt_cancel hgi (a2 (by omega))
    omega
  by_cases hdD : d ≤ D
  · obtain ⟨a1, a2⟩ := key d hd hdD k
    refine ⟨a1, fun he => ?_⟩
    rcases Int.lt_or_le d Dd with hlt | hle
    · have := a2 hlt; omega
    · exact hle
  · -- then the fraction itself was a candidate
    have hDf : D = fD := by omega
    have h0 : dist fN fD fN fD = 0 := by unfold dist; rw [Int.sub_self]; rfl
    have hz := (key fD (by omega) (by omega) fN).1
    rw [h0, Int.zero_mul] at hz
    have hz2 : dist fN fD N Dd = 0 := by
      have hn := dist_nonneg fN fD N Dd
      rcases Int.lt_or_le 0 (dist fN fD N Dd) with hp | hp
      · have := Int.mul_pos hp hf; omega
      · omega
    rw [hz2, Int.zero_mul]
    refine ⟨Int.mul_nonneg (dist_nonneg _ _ _ _) (by omega), fun _ => ?_⟩
    have := hc.2.1
    omega
end Go.Proofs.YtnhhghilejeegaaDoor
