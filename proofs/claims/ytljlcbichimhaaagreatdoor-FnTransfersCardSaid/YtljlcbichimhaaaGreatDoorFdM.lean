/-
  A loop satisfies its own equation: the plain law; no program in sight.
-/
import Derived.Test.YtljlcbichimhaaaGreatDoorFilM
namespace Go.Proofs.YtljlcbichimhaaaGreatDoor
set_option linter.unusedVariables false
set_option linter.unusedSimpArgs false

theorem cv_scal (c : Int) (A B : Nat → Int) (k : Nat) : cv (fun i => c * A i) B k = c * cv A B k := by
  unfold cv
  rw [← sumN_mul]
  exact sumN_congr _ fun i _ => Int.mul_assoc _ _ _
theorem cv_assoc (B C : Nat → Int) : ∀ (k : Nat) (A : Nat → Int), cv (cv A B) C k = cv A (cv B C) k
  | 0, A => by rw [cv_first, cv_first, cv_first, cv_first, Int.mul_assoc]
  | k + 1, A => by
    have e : (fun i => cv A B (i + 1)) = fun i => A 0 * B (i + 1) + cv (fun j => A (j + 1)) B i := by funext i; exact cv_front A B i
    rw [cv_front, cv_front A, cv_front B, e, cv_add, cv_scal, cv_assoc B C k, cv_first, Int.mul_add, Int.mul_assoc]
    omega
theorem smp_add_cancel {a b c : Int} (h : smp (a - c) = smp b) : smp a = smp (b + c) := by
  have h1 := smp_add_congr h (rfl : smp c = smp c)
  rwa [Int.sub_add_cancel] at h1
/-- the law: out is the forward filter of the input and of the returned output -/
theorem loop_law {aN aD bN bD lN lD x : List Int} (ha : 0 < aD.length) (ha1 : aD.getD 0 0 = 1) (hb : 0 < bD.length) (hb1 : bD.getD 0 0 = 1) (hl : 0 < lD.length) (hl1 : lD.getD 0 0 = 1)
    (hN : ∀ i, smp (gd lN i) = smp (cv (gd aN) (gd bD) i)) (hD : ∀ i, smp (gd lD i) = smp (cv (gd aD) (gd bD) i - cv (gd aN) (gd bN) i)) :
    filL aN aD (adL x (filL bN bD (filL lN lD x)) x.length) = filL lN lD x := by
  obtain ⟨Y, hY⟩ : ∃ Y, Y = filL lN lD x := ⟨_, rfl⟩
  obtain ⟨K, hK⟩ : ∃ K, K = filL bN bD Y := ⟨_, rfl⟩
  have hYl : Y.length = x.length := by rw [hY, filL_length]
  rw [← hY, ← hK]
  have eY : ∀ i, i < x.length → smp (cv (gd lD) (gd Y) i) = smp (cv (gd lN) (gd x) i) := fun i hi => by rw [hY]; exact filL_eq hl hl1 hi
  have eK : ∀ i, i < x.length → smp (cv (gd bD) (gd K) i) = smp (cv (gd bN) (gd Y) i) := fun i hi => by rw [hK]; exact filL_eq hb hb1 (by omega)
  refine filL_uniq ha ha1 (by unfold adL; rw [tab_length]; exact hYl) (by rw [hY]; exact filL_smp _ _ _) ?_
  have hal : (adL x K x.length).length = x.length := tab_length _ _
  rw [hal]
  refine cv_uniq (D := gd bD) hb1 x.length fun i hi => ?_
  show smp (cv (gd bD) (cv (gd aD) (gd Y)) i) = smp (cv (gd bD) (cv (gd aN) (gd (adL x K x.length))) i)
  -- the left side
  have l1 : cv (gd bD) (cv (gd aD) (gd Y)) i = cv (cv (gd aD) (gd bD)) (gd Y) i := by
    rw [← cv_assoc]
    have : cv (gd bD) (gd aD) = cv (gd aD) (gd bD) := funext (cv_comm _ _)
    rw [this]
  have l2 : smp (cv (cv (gd aD) (gd bD)) (gd Y) i) = smp (cv (gd lD) (gd Y) i + cv (cv (gd aN) (gd bN)) (gd Y) i) := by
    rw [← cv_add]
    refine cv_smp' _ (fun j _ => ?_) (fun _ _ => rfl)
    have := hD j
    exact smp_add_cancel this.symm
  have l3 : smp (cv (gd lN) (gd x) i) = smp (cv (cv (gd aN) (gd bD)) (gd x) i) := cv_smp' _ (fun j _ => hN j) (fun _ _ => rfl)
  -- the right side
  have r1 : smp (cv (gd bD) (cv (gd aN) (gd (adL x K x.length))) i) = smp (cv (gd bD) (cv (gd aN) (gd x)) i + cv (gd bD) (cv (gd aN) (gd K)) i) := by
    rw [← cv_add_right]
    exact cv_smp' _ (fun _ _ => rfl) fun j hj => cv_adL _ _ _ _ _ (by omega)
  have r2 : cv (gd bD) (cv (gd aN) (gd x)) i = cv (cv (gd aN) (gd bD)) (gd x) i := by
    rw [← cv_assoc]
    have : cv (gd bD) (gd aN) = cv (gd aN) (gd bD) := funext (cv_comm _ _)
    rw [this]
  have r3 : cv (gd bD) (cv (gd aN) (gd K)) i = cv (gd aN) (cv (gd bD) (gd K)) i := by
    rw [← cv_assoc, ← cv_assoc]
    have : cv (gd bD) (gd aN) = cv (gd aN) (gd bD) := funext (cv_comm _ _)
    rw [this]
  have r4 : smp (cv (gd aN) (cv (gd bD) (gd K)) i) = smp (cv (gd aN) (cv (gd bN) (gd Y)) i) := cv_smp' _ (fun _ _ => rfl) fun j hj => eK j (by omega)
  rw [l1, l2, r1, r2, r3]
  refine smp_add_congr ((eY i hi).trans l3) ?_
  rw [cv_assoc]
  exact r4.symm
end Go.Proofs.YtljlcbichimhaaaGreatDoor
