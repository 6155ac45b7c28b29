/-
  Cascades, parallel forms and responses of transfer functions: the plain laws; no program in sight.
-/
import Derived.Test.YtljlcbichimhaaaGreatDoorFdM
namespace Go.Proofs.YtljlcbichimhaaaGreatDoor
set_option linter.unusedVariables false
set_option linter.unusedSimpArgs false

theorem cv_swap (A B C : Nat → Int) (i : Nat) : cv A (cv B C) i = cv B (cv A C) i := by
  rw [← cv_assoc, ← cv_assoc]
  have : cv A B = cv B A := funext (cv_comm _ _)
  rw [this]
theorem cv_left {A A' : Nat → Int} (B : Nat → Int) (i : Nat) (h : ∀ j, j ≤ i → smp (A j) = smp (A' j)) : smp (cv A B i) = smp (cv A' B i) := cv_smp' i h fun _ _ => rfl
theorem cv_right (A : Nat → Int) {B B' : Nat → Int} (i : Nat) (h : ∀ j, j ≤ i → smp (B j) = smp (B' j)) : smp (cv A B i) = smp (cv A B' i) := cv_smp' i (fun _ _ => rfl) h
/-- one filter behind the other is the filter of the products -/
theorem casc_law {aN aD bN bD cN cD x : List Int} (ha : 0 < aD.length) (ha1 : aD.getD 0 0 = 1) (hb : 0 < bD.length) (hb1 : bD.getD 0 0 = 1) (hc : 0 < cD.length) (hc1 : cD.getD 0 0 = 1)
    (hN : ∀ i, smp (gd cN i) = smp (cv (gd aN) (gd bN) i)) (hD : ∀ i, smp (gd cD i) = smp (cv (gd aD) (gd bD) i)) :
    filL cN cD x = filL bN bD (filL aN aD x) := by
  obtain ⟨U, hU⟩ : ∃ U, U = filL aN aD x := ⟨_, rfl⟩
  obtain ⟨V, hV⟩ : ∃ V, V = filL bN bD U := ⟨_, rfl⟩
  have hUl : U.length = x.length := by rw [hU, filL_length]
  have hVl : V.length = x.length := by rw [hV, filL_length, hUl]
  rw [← hU, ← hV]
  have eU : ∀ i, i < x.length → smp (cv (gd aD) (gd U) i) = smp (cv (gd aN) (gd x) i) := fun i hi => by rw [hU]; exact filL_eq ha ha1 hi
  have eV : ∀ i, i < x.length → smp (cv (gd bD) (gd V) i) = smp (cv (gd bN) (gd U) i) := fun i hi => by rw [hV]; exact filL_eq hb hb1 (by omega)
  refine filL_uniq hc hc1 hVl (by rw [hV]; exact filL_smp _ _ _) fun i hi => ?_
  rw [cv_left (gd V) i fun j _ => hD j, cv_assoc, cv_right (gd aD) i fun j hj => eV j (by omega), cv_swap, cv_right (gd bN) i fun j hj => eU j (by omega), cv_swap, ← cv_assoc]
  exact (cv_left (gd x) i fun j _ => hN j).symm
/-- the sum of two filters is the filter of the parallel form -/
theorem par_law {aN aD bN bD sN sD x : List Int} (ha : 0 < aD.length) (ha1 : aD.getD 0 0 = 1) (hb : 0 < bD.length) (hb1 : bD.getD 0 0 = 1) (hs : 0 < sD.length) (hs1 : sD.getD 0 0 = 1)
    (hN : ∀ i, smp (gd sN i) = smp (cv (gd aN) (gd bD) i + cv (gd bN) (gd aD) i)) (hD : ∀ i, smp (gd sD i) = smp (cv (gd aD) (gd bD) i)) :
    filL sN sD x = adL (filL aN aD x) (filL bN bD x) x.length := by
  have eU : ∀ i, i < x.length → smp (cv (gd aD) (gd (filL aN aD x)) i) = smp (cv (gd aN) (gd x) i) := fun i hi => filL_eq ha ha1 hi
  have eY : ∀ i, i < x.length → smp (cv (gd bD) (gd (filL bN bD x)) i) = smp (cv (gd bN) (gd x) i) := fun i hi => filL_eq hb hb1 hi
  generalize filL aN aD x = U at *
  generalize filL bN bD x = Y at *
  refine filL_uniq hs hs1 (tab_length _ _) (tab_smp _ _) fun i hi => ?_
  rw [cv_adL _ _ _ _ _ hi]
  have l1 : smp (cv (gd sD) (gd U) i) = smp (cv (cv (gd aN) (gd bD)) (gd x) i) := by
    rw [cv_left (gd U) i fun j _ => hD j, cv_assoc, cv_swap, cv_right (gd bD) i fun j hj => eU j (by omega), cv_swap, ← cv_assoc]
  have l2 : smp (cv (gd sD) (gd Y) i) = smp (cv (cv (gd bN) (gd aD)) (gd x) i) := by
    rw [cv_left (gd Y) i fun j _ => hD j, cv_assoc, cv_right (gd aD) i fun j hj => eY j (by omega), cv_swap, ← cv_assoc]
  rw [smp_add_congr l1 l2, ← cv_add]
  exact (cv_left (gd x) i fun j _ => hN j).symm
/-- the first n coefficients of the response -/
def respL (N D : List Int) (n : Nat) : List Int := quo N D (invN (D.getD 0 0) 5) n
theorem respL_length (N D : List Int) (n : Nat) : (respL N D n).length = n := quo_length _ _ _ _
theorem respL_smp (N D : List Int) (n : Nat) : ∀ x ∈ respL N D n, isSmp x = true := quo_smp _ _ _ _
theorem respL_eq {N D : List Int} {n : Nat} (hd : 0 < D.length) (h1 : D.getD 0 0 = 1) : ∀ i, i < n → smp (cv (gd D) (gd (respL N D n)) i) = smp (gd N i) := fun i hi => quo_cv hd h1 hi
theorem resp_same {aN aD bN bD : List Int} (n : Nat) (ha : 0 < aD.length) (ha1 : aD.getD 0 0 = 1) (hb : 0 < bD.length) (hb1 : bD.getD 0 0 = 1)
    (h : ∀ i, i < n → smp (cv (gd aN) (gd bD) i) = smp (cv (gd bN) (gd aD) i)) : respL aN aD n = respL bN bD n := by
  have eR := respL_eq (N := aN) (n := n) ha ha1
  have eS := respL_eq (N := bN) (n := n) hb hb1
  refine list_ext_gd (respL_smp _ _ _) (respL_smp _ _ _) (by rw [respL_length, respL_length]) ?_
  rw [respL_length]
  generalize respL aN aD n = R at *
  generalize respL bN bD n = S at *
  refine cv_uniq (D := gd aD) ha1 n fun i hi => ?_
  rw [eR i hi]
  refine (cv_uniq (D := gd bD) hb1 n (X := cv (gd aD) (gd S)) (Y := gd aN) (fun k hk => ?_) i hi).symm
  rw [cv_swap, cv_right (gd aD) k fun j hj => eS j (by omega), cv_comm (gd aD), cv_comm (gd bD)]
  exact (h k hk).symm
theorem resp_diff {aN aD bN bD : List Int} {n : Nat} (ha : 0 < aD.length) (ha1 : aD.getD 0 0 = 1) (hb : 0 < bD.length) (hb1 : bD.getD 0 0 = 1)
    (h : respL aN aD n = respL bN bD n) : ∀ i, i < n → smp (cv (gd aN) (gd bD) i) = smp (cv (gd bN) (gd aD) i) := by
  have eR := respL_eq (N := aN) (n := n) ha ha1
  have eS := respL_eq (N := bN) (n := n) hb hb1
  rw [← h] at eS
  generalize respL aN aD n = R at *
  intro i hi
  have l1 : smp (cv (gd aN) (gd bD) i) = smp (cv (cv (gd aD) (gd R)) (gd bD) i) := cv_left (gd bD) i fun j hj => (eR j (by omega)).symm
  have l2 : smp (cv (gd bN) (gd aD) i) = smp (cv (cv (gd bD) (gd R)) (gd aD) i) := cv_left (gd aD) i fun j hj => (eS j (by omega)).symm
  rw [l1, l2, cv_assoc, cv_assoc]
  have e1 : cv (gd R) (gd bD) = cv (gd bD) (gd R) := funext (cv_comm _ _)
  have e2 : cv (gd R) (gd aD) = cv (gd aD) (gd R) := funext (cv_comm _ _)
  rw [e1, e2, cv_swap]
end Go.Proofs.YtljlcbichimhaaaGreatDoor
