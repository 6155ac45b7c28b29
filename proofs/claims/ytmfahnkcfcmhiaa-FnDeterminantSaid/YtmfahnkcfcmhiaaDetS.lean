/-
  Determinants of samples: the laws of matrices of at most five rows.
-/
import Derived.Test.YtmfahnkcfcmhiaaDetM
namespace Go.Proofs.Ytmfahnkcfcmhiaa
set_option linter.unusedVariables false
set_option linter.unusedSimpArgs false
/-- the numbers of samples -/
def oS : Ops Int := ⟨0, 1, fun x => smp (-x), fun s x y => smp (s + x * y)⟩
theorem smp_keeps : Keeps oZ oS smp := by
  refine ⟨rfl, rfl, fun x => ?_, fun s x y => ?_⟩
  · show smp (-x) = smp (-(smp x))
    rw [show -(smp x) = -1 * smp x by omega, smp_mulr, show -1 * x = -x by omega]
  · show smp (s + x * y) = smp (smp s + smp x * smp y)
    rw [smp_left, ← smp_right, ← smp_mul_smp, smp_right]
theorem dotN_g (xs ys : List Int) (k : Nat) : dotN xs ys k = gDot oS xs ys k := by
  induction k with
  | zero => rfl
  | succ k ih => rw [dotN, gDot, ih]; rfl
theorem chIter_g (a : List (List Int)) (r k : Nat) : chIter a r k = gIter oS a r k := by
  induction k with
  | zero => rfl
  | succ k ih =>
    rw [chIter, gIter, ih]
    unfold chStep gStep
    apply List.map_congr_left
    intro row _
    exact dotN_g _ _ _
theorem chFirst_g (a : List (List Int)) (r k : Nat) : chFirst a r k = gFirst oS a r k := by
  unfold chFirst gFirst
  congr 2
  apply List.map_congr_left
  intro j _
  rw [dotN_g, chIter_g]
  rfl
theorem chAcc_g (f o : List Int) (i j : Nat) : chAcc f o i j = gAcc oS f o i j := by
  induction j with
  | zero => rfl
  | succ j ih => rw [chAcc, gAcc, ih]; rfl
theorem chp_g (a : List (List Int)) (r : Nat) : chp a r = gChp oS a r := by
  induction r with
  | zero => rfl
  | succ r ih =>
    rw [chp, gChp, ih, chFirst_g]
    unfold chNext gNext
    apply List.map_congr_left
    intro i _
    exact chAcc_g _ _ _ _
theorem mulM_g {n : Nat} {a b : List (List Int)} (ha : Sq n a) (hb : Sq n b) : mulM a b = gMul oS n a b := by
  unfold mulM gMul
  apply List.map_congr_left
  intro x hx
  unfold rowM gRow
  rw [hb.1]
  apply List.map_congr_left
  intro j _
  rw [dotN_g, ha.2 x hx]
  rfl
theorem smp_mat {a : List (List Int)} (h : ∀ r ∈ a, ∀ x ∈ r, isSmp x = true) : a.map (List.map smp) = a := by
  have : ∀ r ∈ a, r.map smp = r := fun r hr => by
    have : ∀ x ∈ r, smp x = x := fun x hx => smp_id (h r hr x hx)
    exact (List.map_congr_left this).trans (List.map_id r)
  exact (List.map_congr_left this).trans (List.map_id a)
theorem matB_sq {a : List (List Int)} (h : matB a = true) : Sq a.length a ∧ ∀ r ∈ a, ∀ x ∈ r, isSmp x = true := by
  rw [matB_iff] at h
  exact ⟨⟨rfl, fun r hr => (h.2 r hr).1⟩, fun r hr x hx => (h.2 r hr).2 x hx⟩
theorem chp_smp {a : List (List Int)} (h : ∀ r ∈ a, ∀ x ∈ r, isSmp x = true) (r : Nat) : chp a r = (gChp oZ a r).map smp := by
  rw [smp_keeps.chp, smp_mat h, chp_g]
theorem smp_neg (x : Int) : smp (-(smp x)) = smp (-x) := by rw [show -(smp x) = -1 * smp x by omega, smp_mulr, show -1 * x = -x by omega]
theorem detVal_z {n : Nat} (hn : n ≤ 5) {a A : List (List Int)} (h : matB a = true) (hl : a.length = n) (hA : Sq n A) (he : a = A.map (List.map smp)) : detVal a = smp (detZ n A) := by
  have e : chp a n = (gChp oZ A n).map smp := by rw [smp_keeps.chp, ← he, chp_g]
  have e1 : detLast a = smp (if n % 2 = 1 then -detZ n A else detZ n A) := by
    unfold detLast
    rw [hl, e, ← det_chp hn hA]
    exact getD_mapz smp _ n 0
  unfold detVal
  rw [if_pos h, e1, hl]
  split
  · rw [smp_neg, Int.neg_neg]
  · rfl
/-- the determinant of a product of samples -/
theorem det_law {a b : List (List Int)} (ha : matB a = true) (hb : matB b = true) (hab : a.length = b.length) (hn : a.length ≤ 5) :
    matB (mulM a b) = true ∧ detVal (mulM a b) = smp (detVal a * detVal b) := by
  obtain ⟨sa, ua⟩ := matB_sq ha
  obtain ⟨sb, ub⟩ := matB_sq hb
  rw [← hab] at sb
  have em : mulM a b = (gMul oZ a.length a b).map (List.map smp) := by rw [smp_keeps.mul, smp_mat ua, smp_mat ub, mulM_g sa sb]
  have sq : Sq a.length (gMul oZ a.length a b) := by
    refine ⟨by simp [gMul], fun r hr => ?_⟩
    unfold gMul at hr
    obtain ⟨x, _, rfl⟩ := List.mem_map.1 hr
    simp [gRow]
  have hM : matB (mulM a b) = true := by
    rw [matB_iff]
    have l : (mulM a b).length = a.length := by simp [mulM]
    refine ⟨by omega, fun r hr => ?_⟩
    rw [em] at hr
    obtain ⟨x, hx, rfl⟩ := List.mem_map.1 hr
    refine ⟨by rw [l, List.length_map]; exact sq.2 x hx, fun y hy => ?_⟩
    obtain ⟨z, _, rfl⟩ := List.mem_map.1 hy
    exact smp_isSmp z
  refine ⟨hM, ?_⟩
  rw [detVal_z hn hM (by simp [mulM]) sq em, det_mul hn sa sb, detVal_z hn ha rfl sa (smp_mat ua).symm, detVal_z hn hb hab.symm sb (smp_mat ub).symm, smp_mul_smp]
theorem last_law {a : List (List Int)} (ha : matB a = true) : (chpRes a).getD 0 0 = smp ((if a.length % 2 = 1 then -1 else 1) * detVal a) ∧ (chpRes a).length = a.length + 1 := by
  have l := chp_length a a.length
  have e0 : (chpRes a).getD 0 0 = detLast a := by
    unfold chpRes detLast
    rw [if_pos ha, List.getD_eq_getElem?_getD, List.getD_eq_getElem?_getD, List.getElem?_reverse (by omega), l]
    congr 2
  have s : smp (detLast a) = detLast a := by
    have : detLast a = smp ((gChp oZ a a.length).getD a.length 0) := by
      unfold detLast
      rw [chp_smp (matB_sq ha).2]
      exact getD_mapz smp _ _ 0
    rw [this, smp_smp]
  refine ⟨?_, by unfold chpRes; rw [if_pos ha, List.length_reverse, l]⟩
  rw [e0]
  unfold detVal
  rw [if_pos ha]
  split
  · rw [show (-1 : Int) * smp (-detLast a) = -(smp (-detLast a)) by omega, smp_neg, Int.neg_neg, s]
  · rw [Int.one_mul, s]
theorem chp_head (a : List (List Int)) (r : Nat) : (chp a r).getD 0 0 = 1 := by
  induction r with
  | zero => rfl
  | succ r ih =>
    have l := chp_length a r
    have : ∀ k, k ≤ r → chAcc (chFirst a r r) (chp a r) 0 (k + 1) = 1 := fun k hk => by
      induction k with
      | zero =>
        rw [chAcc, if_pos (Nat.le_refl _), ih, chAcc]
        rfl
      | succ k ihk => rw [chAcc, if_neg (by omega), ihk (by omega)]
    rw [chp, chNext, l]
    rw [List.getD_eq_getElem?_getD, List.getElem?_map, List.getElem?_range (by omega)]
    exact this r (Nat.le_refl _)
/-- Horner's matrix after k rounds -/
def hornM (a : List (List Int)) (k : Nat) : List (List Int) := gHorn oS a.length a ((chp a a.length).take k)
theorem horn_law {a : List (List Int)} (ha : matB a = true) (hn : a.length ≤ 5) : hornM a (a.length + 1) = List.replicate a.length (List.replicate a.length 0) := by
  obtain ⟨sa, ua⟩ := matB_sq ha
  unfold hornM
  rw [List.take_of_length_le (by rw [chp_length]; exact Nat.le_refl _), chp_g]
  have e := congrArg (List.map (List.map smp)) (cayley hn sa)
  rw [smp_keeps.horn, smp_keeps.chp, smp_mat ua] at e
  rw [e]
  unfold gZero
  rw [List.map_replicate, List.map_replicate]
  rfl
theorem horn_zero (a : List (List Int)) : hornM a 0 = List.replicate a.length (List.replicate a.length 0) := rfl
theorem horn_succ (a : List (List Int)) {k : Nat} (hk : k < a.length + 1) : hornM a (k + 1) = gHs oS a.length a (hornM a k) ((chp a a.length).getD k 0) := by
  have l := chp_length a a.length
  unfold hornM gHorn
  rw [List.take_add_one, List.getElem?_eq_getElem (by omega), Option.toList_some, List.foldl_append, List.foldl_cons, List.foldl_nil, List.getD_eq_getElem?_getD, List.getElem?_eq_getElem (by omega)]
  rfl
theorem horn_matB {a : List (List Int)} (hn : a.length ≤ 24) (k : Nat) (hk : k ≤ a.length + 1) : matB (hornM a k) = true ∧ (hornM a k).length = a.length := by
  cases k with
  | zero =>
    rw [horn_zero, matB_iff]
    refine ⟨⟨by simp; omega, fun r hr => ?_⟩, by simp⟩
    rw [List.eq_of_mem_replicate hr]
    refine ⟨by simp, fun x hx => ?_⟩
    rw [List.eq_of_mem_replicate hx]
    rfl
  | succ k =>
    rw [horn_succ a (by omega), matB_iff]
    unfold gHs
    refine ⟨⟨by simp; omega, fun r hr => ?_⟩, by simp⟩
    obtain ⟨i, _, rfl⟩ := List.mem_map.1 hr
    refine ⟨by simp, fun x hx => ?_⟩
    obtain ⟨j, _, rfl⟩ := List.mem_map.1 hx
    have hd : isSmp (gDot oS ((hornM a k).getD i []) (gCol oS a j) a.length) = true := by
      rw [← dotN_g]
      cases a.length with
      | zero => rfl
      | succ n => exact smp_isSmp _
    split
    · exact smp_isSmp _
    · exact hd
/-- the product of Horner's matrix, of which the first j places of the diagonal are updated -/
def hornD (a t : List (List Int)) (c : Int) (m : Nat) : List (List Int) :=
  (List.range a.length).map fun i => (List.range a.length).map fun j => if i = j ∧ i < m then smp (dotN (t.getD i []) (colL a j) a.length + c) else dotN (t.getD i []) (colL a j) a.length
theorem hornD_zero {a t : List (List Int)} (ht : Sq a.length t) (c : Int) : hornD a t c 0 = mulM t a := by
  unfold hornD mulM
  apply List.ext_getElem
  · simp [ht.1]
  · intro i h1 h2
    simp only [List.getElem_map, List.getElem_range]
    have hi : i < t.length := by simpa using h2
    unfold rowM
    apply List.map_congr_left
    intro j _
    rw [if_neg (by omega), List.getD_eq_getElem?_getD, List.getElem?_eq_getElem hi]
    simp only [Option.getD_some]
    rw [ht.2 _ (List.getElem_mem hi)]
theorem hornD_full (a t : List (List Int)) (c : Int) : hornD a t c a.length = gHs oS a.length a t c := by
  unfold hornD gHs
  apply List.map_congr_left
  intro i hi
  apply List.map_congr_left
  intro j hj
  have h1 := List.mem_range.1 hi
  rw [← dotN_g]
  by_cases e : i = j
  · rw [if_pos ⟨e, h1⟩, if_pos e]
    show _ = smp (dotN _ _ _ + 1 * c)
    rw [Int.one_mul]
    rfl
  · rw [if_neg (fun h => e h.1), if_neg e]
    rfl
end Go.Proofs.Ytmfahnkcfcmhiaa
