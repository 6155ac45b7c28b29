/-
  Plain laws of fractions: sums and products are undone; the order is the difference's sign; the floor. No program in sight.
-/
import Derived.Test.YtnhhghilejeegaaDoorFrA
namespace Go.Proofs.YtnhhghilejeegaaDoor
set_option linter.unusedVariables false
set_option linter.unusedSimpArgs false

theorem mk_scaleI {n d G : Int} (hG : 0 < G) (hd : 0 < d) : mkN (n * G) (d * G) = mkN n d ∧ mkD (n * G) (d * G) = mkD n d ∧ mkC (n * G) (d * G) = mkC n d := by
  obtain ⟨g, rfl⟩ : ∃ g : Nat, G = g := ⟨G.toNat, by omega⟩
  exact mk_scale (by omega) hd
/-- two pairs that scale to one another have the same lowest terms -/
theorem mk_same {n d n' d' G G' : Int} (hG : 0 < G) (hG' : 0 < G') (hd : 0 < d) (hd' : 0 < d') (h1 : n * G = n' * G') (h2 : d * G = d' * G') : mkN n d = mkN n' d' ∧ mkD n d = mkD n' d' ∧ mkC n d = mkC n' d' := by
  obtain ⟨a1, a2, a3⟩ := mk_scaleI (n := n) hG hd
  obtain ⟨b1, b2, b3⟩ := mk_scaleI (n := n') hG' hd'
  rw [h1, h2] at a1 a2 a3
  exact ⟨a1.symm.trans b1, a2.symm.trans b2, a3.symm.trans b3⟩
theorem add_back {n d n' d' : Int} (hf : fracB n d = true) (hf' : fracB n' d' = true) (hc : mkC (n * d' + n' * d) (d * d') = 0) :
    fracB (mkN (n * d' + n' * d) (d * d')) (mkD (n * d' + n' * d) (d * d')) = true ∧
    mkN (mkN (n * d' + n' * d) (d * d') * d' - n' * mkD (n * d' + n' * d) (d * d')) (mkD (n * d' + n' * d) (d * d') * d') = n ∧
    mkD (mkN (n * d' + n' * d) (d * d') * d' - n' * mkD (n * d' + n' * d) (d * d')) (mkD (n * d' + n' * d) (d * d') * d') = d ∧
    mkC (mkN (n * d' + n' * d) (d * d') * d' - n' * mkD (n * d' + n' * d) (d * d')) (mkD (n * d' + n' * d) (d * d') * d') = 0 := by
  obtain ⟨d1, -⟩ := fracB_of hf
  obtain ⟨d1', -⟩ := fracB_of hf'
  obtain ⟨ok, -, g, hg, h1, h2⟩ := mk_ok (Int.mul_pos (by omega) (by omega)) hc
  generalize mkN (n * d' + n' * d) (d * d') = N at *
  generalize mkD (n * d' + n' * d) (d * d') = D at *
  obtain ⟨D1, -⟩ := fracB_of ok
  obtain ⟨s1, s2, s3⟩ := mk_self hf
  have k := mk_same (n := N * d' - n' * D) (d := D * d') (n' := n) (d' := d) (G := g) (G' := d' * d') (by omega) (Int.mul_pos (by omega) (by omega)) (Int.mul_pos (by omega) (by omega)) (by omega)
    (by
      have e1 : (N * d' - n' * D) * (g : Int) = (N * g) * d' - n' * (D * g) := by
        rw [Int.sub_mul]; simp only [Int.mul_assoc, Int.mul_comm, Int.mul_left_comm]
      rw [e1, ← h1, ← h2, Int.add_mul]
      have e2 : n' * d * d' = n' * (d * d') := Int.mul_assoc _ _ _
      have e3 : n * d' * d' = n * (d' * d') := Int.mul_assoc _ _ _
      rw [e2, e3]
      omega)
    (by
      have e1 : D * d' * (g : Int) = (D * g) * d' := by simp only [Int.mul_assoc, Int.mul_comm, Int.mul_left_comm]
      rw [e1, ← h2, Int.mul_assoc])
  rw [s1, s2, s3] at k
  exact ⟨ok, k⟩
theorem mul_back_pos {n d n' d' : Int} (hf : fracB n d = true) (hf' : fracB n' d' = true) (hp : 0 < n') (hc : mkC (n * n') (d * d') = 0) :
    fracB (mkN (n * n') (d * d')) (mkD (n * n') (d * d')) = true ∧
    mkN (mkN (n * n') (d * d') * d') (mkD (n * n') (d * d') * n') = n ∧ mkD (mkN (n * n') (d * d') * d') (mkD (n * n') (d * d') * n') = d ∧ mkC (mkN (n * n') (d * d') * d') (mkD (n * n') (d * d') * n') = 0 := by
  obtain ⟨d1, -⟩ := fracB_of hf
  obtain ⟨d1', -⟩ := fracB_of hf'
  obtain ⟨ok, -, g, hg, h1, h2⟩ := mk_ok (Int.mul_pos (by omega) (by omega)) hc
  generalize mkN (n * n') (d * d') = N at *
  generalize mkD (n * n') (d * d') = D at *
  obtain ⟨D1, -⟩ := fracB_of ok
  obtain ⟨s1, s2, s3⟩ := mk_self hf
  have k := mk_same (n := N * d') (d := D * n') (n' := n) (d' := d) (G := g) (G' := n' * d') (by omega) (Int.mul_pos hp (by omega)) (Int.mul_pos (by omega) hp) (by omega)
    (by
      have e1 : N * d' * (g : Int) = (N * g) * d' := by simp only [Int.mul_assoc, Int.mul_comm, Int.mul_left_comm]
      rw [e1, ← h1, Int.mul_assoc])
    (by
      have e1 : D * n' * (g : Int) = (D * g) * n' := by simp only [Int.mul_assoc, Int.mul_comm, Int.mul_left_comm]
      rw [e1, ← h2]
      simp only [Int.mul_assoc, Int.mul_comm, Int.mul_left_comm])
  rw [s1, s2, s3] at k
  exact ⟨ok, k⟩
theorem mul_back_neg {n d n' d' : Int} (hf : fracB n d = true) (hf' : fracB n' d' = true) (hp : n' < 0) (hc : mkC (n * n') (d * d') = 0) :
    fracB (mkN (n * n') (d * d')) (mkD (n * n') (d * d')) = true ∧
    mkN (-(mkN (n * n') (d * d') * d')) (-(mkD (n * n') (d * d') * n')) = n ∧ mkD (-(mkN (n * n') (d * d') * d')) (-(mkD (n * n') (d * d') * n')) = d ∧ mkC (-(mkN (n * n') (d * d') * d')) (-(mkD (n * n') (d * d') * n')) = 0 := by
  obtain ⟨d1, -⟩ := fracB_of hf
  obtain ⟨d1', -⟩ := fracB_of hf'
  obtain ⟨ok, -, g, hg, h1, h2⟩ := mk_ok (Int.mul_pos (by omega) (by omega)) hc
  generalize mkN (n * n') (d * d') = N at *
  generalize mkD (n * n') (d * d') = D at *
  obtain ⟨D1, -⟩ := fracB_of ok
  obtain ⟨s1, s2, s3⟩ := mk_self hf
  have k := mk_same (n := -(N * d')) (d := -(D * n')) (n' := n) (d' := d) (G := g) (G' := -n' * d') (by omega) (Int.mul_pos (by omega) (by omega)) (by have := Int.mul_neg_of_pos_of_neg (show 0 < D by omega) hp; omega) (by omega)
    (by
      have e1 : -(N * d') * (g : Int) = -((N * g) * d') := by rw [Int.neg_mul]; simp only [Int.mul_assoc, Int.mul_comm, Int.mul_left_comm]
      rw [e1, ← h1, Int.mul_assoc, Int.neg_mul, Int.mul_neg])
    (by
      have e1 : -(D * n') * (g : Int) = -((D * g) * n') := by rw [Int.neg_mul]; simp only [Int.mul_assoc, Int.mul_comm, Int.mul_left_comm]
      rw [e1, ← h2, Int.neg_mul, Int.mul_neg]
      simp only [Int.mul_assoc, Int.mul_comm, Int.mul_left_comm])
  rw [s1, s2, s3] at k
  exact ⟨ok, k⟩
theorem sub_sign {n d n' d' : Int} (hf : fracB n d = true) (hf' : fracB n' d' = true) (hc : mkC (n * d' - n' * d) (d * d') = 0) :
    0 < sgn (n * d') (n' * d) ↔ 0 < mkN (n * d' - n' * d) (d * d') := by
  obtain ⟨d1, -⟩ := fracB_of hf
  obtain ⟨d1', -⟩ := fracB_of hf'
  obtain ⟨ok, -, g, hg, h1, h2⟩ := mk_ok (Int.mul_pos (by omega) (by omega)) hc
  generalize mkN (n * d' - n' * d) (d * d') = N at *
  have e : 0 < sgn (n * d') (n' * d) ↔ 0 < n * d' - n' * d := by
    unfold sgn
    split
    · omega
    · split <;> omega
  rw [e, h1]
  constructor
  · intro h
    by_cases h0 : 0 < N
    · exact h0
    · exfalso
      have := Int.mul_le_mul_of_nonneg_right (show N ≤ 0 by omega) (show (0 : Int) ≤ g by omega)
      omega
  · intro h
    exact Int.mul_pos h (by omega)
theorem sgn_zero {n d n' d' : Int} (hf : fracB n d = true) (hf' : fracB n' d' = true) : sgn (n * d') (n' * d) = 0 ↔ (n = n' ∧ d = d') := by
  obtain ⟨d1, -⟩ := fracB_of hf
  obtain ⟨d1', -⟩ := fracB_of hf'
  have e : sgn (n * d') (n' * d) = 0 ↔ n * d' = n' * d := by
    unfold sgn
    split
    · omega
    · split <;> omega
  rw [e]
  constructor
  · intro h
    obtain ⟨s1, s2, -⟩ := mk_self hf
    obtain ⟨t1, t2, -⟩ := mk_self hf'
    have k := mk_same (n := n) (d := d) (n' := n') (d' := d') (G := d') (G' := d) (by omega) (by omega) (by omega) (by omega) h (Int.mul_comm _ _)
    rw [s1, s2, t1, t2] at k
    exact ⟨k.1, k.2.1⟩
  · rintro ⟨rfl, rfl⟩; rfl
theorem floor_law {n d : Int} (hd : 0 < d) : n / d * d ≤ n ∧ n < (n / d + 1) * d := by
  have h1 := Int.mul_ediv_add_emod n d
  have h2 := Int.emod_nonneg n (by omega : d ≠ 0)
  have h3 := Int.emod_lt_of_pos n hd
  rw [Int.mul_comm] at h1
  rw [Int.add_mul, Int.one_mul]
  omega
end Go.Proofs.YtnhhghilejeegaaDoor
