/-
  Division of polynomials modulo 2^32: the plain laws; no program in sight.
-/
import Derived.Test.YtljlcbichimhaaaGreatDoorPolyL
namespace Go.Proofs.YtljlcbichimhaaaGreatDoor
set_option linter.unusedVariables false
set_option linter.unusedSimpArgs false

/-- the rest behind k terms of a step: q times b is taken off from place s on -/
def divIn (rest : List Int) (q : Int) (b : List Int) (s : Nat) : Nat → List Int
  | 0 => rest
  | k + 1 => (divIn rest q b s k).set (s + k) (smp ((divIn rest q b s k).getD (s + k) 0 - q * b.getD k 0))
theorem divIn_length (rest : List Int) (q : Int) (b : List Int) (s : Nat) : ∀ k, (divIn rest q b s k).length = rest.length
  | 0 => rfl
  | k + 1 => by rw [divIn, List.length_set, divIn_length rest q b s k]
theorem getD_set {xs : List Int} {i j : Nat} {x : Int} (hi : i < xs.length) : (xs.set i x).getD j 0 = if j = i then x else xs.getD j 0 := by
  rw [List.getD_eq_getElem?_getD, List.getElem?_set]
  by_cases e : i = j
  · rw [if_pos e, if_pos hi, if_pos e.symm]; rfl
  · rw [if_neg e, if_neg (fun h => e h.symm), List.getD_eq_getElem?_getD]
theorem divIn_get {rest : List Int} (q : Int) (b : List Int) (s : Nat) : ∀ k, s + k ≤ rest.length → ∀ j, (divIn rest q b s k).getD j 0 = if s ≤ j ∧ j < s + k then smp (rest.getD j 0 - q * b.getD (j - s) 0) else rest.getD j 0
  | 0, _, j => by rw [if_neg (by omega)]; rfl
  | k + 1, h, j => by
    rw [divIn, getD_set (by rw [divIn_length]; omega), divIn_get q b s k (by omega), divIn_get q b s k (by omega)]
    by_cases e : j = s + k
    · subst e
      rw [if_pos rfl, if_neg (by omega), if_pos (by omega), show s + k - s = k by omega]
    · rw [if_neg e]
      by_cases c : s ≤ j ∧ j < s + k
      · rw [if_pos c, if_pos (by omega)]
      · rw [if_neg c, if_neg (by omega)]
theorem alls_set' {xs : List Int} (h : AllS xs) {x : Int} (hx : isSmp x = true) (k : Nat) : AllS (xs.set k x) := by
  intro y hy
  rcases List.mem_or_eq_of_mem_set hy with h1 | h1
  · exact h y h1
  · rw [h1]; exact hx
theorem divIn_smp {rest : List Int} (hr : AllS rest) (q : Int) (b : List Int) (s : Nat) : ∀ k, AllS (divIn rest q b s k)
  | 0 => hr
  | k + 1 => alls_set' (divIn_smp hr q b s k) (smp_isSmp _) _
/-- quotient and rest behind n steps -/
def divSt (a b : List Int) (y : Int) : Nat → List Int × List Int
  | 0 => (List.replicate a.length 0, a)
  | n + 1 => ((divSt a b y n).1.set (a.length - 1 - n - (b.length - 1)) (smp ((divSt a b y n).2.getD (a.length - 1 - n) 0 * y)),
      divIn (divSt a b y n).2 (smp ((divSt a b y n).2.getD (a.length - 1 - n) 0 * y)) b (a.length - 1 - n - (b.length - 1)) b.length)
theorem divSt_length (a b : List Int) (y : Int) : ∀ n, (divSt a b y n).1.length = a.length ∧ (divSt a b y n).2.length = a.length
  | 0 => ⟨List.length_replicate, rfl⟩
  | n + 1 => by
    obtain ⟨h1, h2⟩ := divSt_length a b y n
    exact ⟨by rw [divSt, List.length_set]; exact h1, by rw [divSt]; show (divIn _ _ _ _ _).length = _; rw [divIn_length]; exact h2⟩
theorem cv_delta (A B : Nat → Int) (s : Nat) (q : Int) (k : Nat) (h0 : A s = 0) : cv (fun i => if i = s then q else A i) B k = cv A B k + if s ≤ k then q * B (k - s) else 0 := by
  have e : (fun i => if i = s then q else A i) = fun i => A i + (if i = s then q else 0) := by
    funext i
    by_cases h : i = s
    · rw [if_pos h, if_pos h, h, h0, Int.zero_add]
    · rw [if_neg h, if_neg h, Int.add_zero]
  rw [e, cv_add]
  congr 1
  unfold cv
  have key : ∀ n, sumN (fun i => (if i = s then q else 0) * B (k - i)) n = if s < n then q * B (k - s) else 0 := by
    intro n
    induction n with
    | zero => rfl
    | succ n ih =>
      rw [sumN, ih]
      by_cases h : n = s
      · subst h
        rw [if_neg (by omega), if_pos rfl, if_pos (by omega), Int.zero_add]
      · show _ + (if n = s then q else 0) * B (k - n) = _
        rw [if_neg h, Int.zero_mul, Int.add_zero]
        by_cases h2 : s < n
        · rw [if_pos h2, if_pos (by omega)]
        · rw [if_neg h2, if_neg (by omega)]
  rw [key]
  by_cases h : s ≤ k
  · rw [if_pos h, if_pos (by omega)]
  · rw [if_neg h, if_neg (by omega)]
/-- what holds behind n steps -/
structure DivInv (a b : List Int) (Q R : List Int) (n : Nat) : Prop where
  qs : AllS Q
  rs : AllS R
  ring : ∀ j, smp (cv (fun i => Q.getD i 0) (fun i => b.getD i 0) j + R.getD j 0) = smp (a.getD j 0)
  rest : ∀ j, a.length - n ≤ j → R.getD j 0 = 0
  free : ∀ s, s + (b.length - 1) < a.length - n → Q.getD s 0 = 0
theorem divInv_zero {a b : List Int} (ha : AllS a) : DivInv a b (List.replicate a.length 0) a 0 := by
  have hz : ∀ s, (List.replicate a.length (0 : Int)).getD s 0 = 0 := fun s => by
    rw [List.getD_eq_getElem?_getD, List.getElem?_replicate]
    split <;> rfl
  refine ⟨fun x hx => by rw [(List.mem_replicate.1 hx).2]; rfl, ha, fun j => ?_, fun j hj => getD_nil' a (by omega), fun s _ => hz s⟩
  have : cv (fun i => (List.replicate a.length (0 : Int)).getD i 0) (fun i => b.getD i 0) j = 0 := sumN_zero _ fun i _ => by
    show (List.replicate a.length (0 : Int)).getD i 0 * _ = 0
    rw [hz, Int.zero_mul]
  rw [this, Int.zero_add]
theorem divInv_step {a b : List Int} {y : Int} {n : Nat} (hb : 1 ≤ b.length) (hy : smp (b.getD (b.length - 1) 0 * y) = 1) (hn : n + (b.length - 1) < a.length) (h : DivInv a b (divSt a b y n).1 (divSt a b y n).2 n) :
    DivInv a b (divSt a b y (n + 1)).1 (divSt a b y (n + 1)).2 (n + 1) := by
  obtain ⟨hl1, hl2⟩ := divSt_length a b y n
  rw [divSt]
  generalize (divSt a b y n).1 = Q at *
  generalize (divSt a b y n).2 = R at *
  obtain ⟨s, hs⟩ : ∃ s, s = a.length - 1 - n - (b.length - 1) := ⟨_, rfl⟩
  obtain ⟨i, hi⟩ : ∃ i, i = a.length - 1 - n := ⟨_, rfl⟩
  have hsi : s + b.length = i + 1 := by omega
  have hil : i < a.length := by omega
  rw [← hi] at hs ⊢
  rw [← hs]
  generalize hq : smp (R.getD i 0 * y) = q
  have hqs : isSmp q = true := by rw [← hq]; exact smp_isSmp _
  have hQ0 : Q.getD s 0 = 0 := h.free s (by omega)
  have hget := divIn_get (rest := R) q b s b.length (by omega)
  refine ⟨alls_set' h.qs hqs s, divIn_smp h.rs q b s _, fun j => ?_, fun j hj => ?_, fun t ht => ?_⟩
  · have e1 : (fun i => (Q.set s q).getD i 0) = fun i => if i = s then q else Q.getD i 0 := by
      funext t; exact getD_set (by omega)
    show smp (cv (fun i => (Q.set s q).getD i 0) _ j + (divIn R q b s b.length).getD j 0) = _
    rw [e1, cv_delta _ _ _ _ _ hQ0, hget, ← h.ring j]
    by_cases c : s ≤ j
    · rw [if_pos c]
      by_cases c2 : j < s + b.length
      · rw [if_pos ⟨c, c2⟩]
        rw [smp_right]
        congr 1
        generalize cv (fun i => Q.getD i 0) (fun i => b.getD i 0) j = z
        generalize q * b.getD (j - s) 0 = u
        omega
      · rw [if_neg (by omega), getD_nil' b (k := j - s) (by omega), Int.mul_zero, Int.add_zero]
    · rw [if_neg c, if_neg (by omega), Int.add_zero]
  · show (divIn R q b s b.length).getD j 0 = 0
    rw [hget]
    by_cases e : j = i
    · subst e
      rw [if_pos (by omega), show j - s = b.length - 1 by omega, ← hq]
      generalize R.getD j 0 = r at *
      generalize b.getD (b.length - 1) 0 = bl at *
      have h1 : smp (smp (r * y) * bl) = smp (r * 1) := by
        rw [← smp_mul_smp (smp (r * y)) bl, smp_smp, smp_mul_smp, Int.mul_assoc, Int.mul_comm y bl, ← smp_mul_smp r (bl * y), hy, ← smp_mul_smp r 1]; rfl
      rw [Int.mul_one] at h1
      rw [← smp_sub_smp r, h1, smp_sub_smp, Int.sub_self]; rfl
    · rw [if_neg (by omega)]
      exact h.rest j (by omega)
  · show (Q.set s q).getD t 0 = 0
    rw [getD_set (by omega), if_neg (by omega)]
    exact h.free t (by omega)
theorem divInv_all {a b : List Int} {y : Int} (ha : AllS a) (hb : 1 ≤ b.length) (hy : smp (b.getD (b.length - 1) 0 * y) = 1) : ∀ n, n ≤ a.length - (b.length - 1) → DivInv a b (divSt a b y n).1 (divSt a b y n).2 n
  | 0, _ => divInv_zero ha
  | n + 1, h => divInv_step hb hy (by omega) (divInv_all ha hb hy n (by omega))
theorem trimL_short {xs : List Int} {m : Nat} (hm : 1 ≤ m) (h : ∀ j, m ≤ j → xs.getD j 0 = 0) : (trimL xs).length ≤ m := by
  obtain ⟨h1, h2⟩ := trimL_canon xs
  rcases h2 with e | e
  · omega
  · rcases Nat.lt_or_ge m (trimL xs).length with h3 | h3
    · rw [trimL_get, h _ (by omega)] at e
      exact absurd rfl e
    · exact h3
def divQ (a b : List Int) (y : Int) : List Int := trimL (divSt a b y (a.length - (b.length - 1))).1
def divR (a b : List Int) (y : Int) : List Int := trimL (divSt a b y (a.length - (b.length - 1))).2
theorem div_ring {a b : List Int} {y : Int} (ha : PolyV a) (hb : 1 ≤ b.length) (hy : smp (b.getD (b.length - 1) 0 * y) = 1) : addL (mulL (divQ a b y) b) (divR a b y) 1 = a := by
  have hd := divInv_all ha.2.1 hb hy _ (Nat.le_refl _)
  refine canon_ext (trimL_canon _) ha.1 fun j => ?_
  rw [addL_get, mulL_get, Int.one_mul, ← smp_id (getD_smp ha.2.1 j), ← hd.ring j, smp_left]
  unfold divQ divR
  rw [trimL_get]
  congr 2
  unfold cv
  exact sumN_congr _ fun i _ => by
    show (trimL _).getD i 0 * _ = _
    rw [trimL_get]
theorem div_valid {a b : List Int} {y : Int} (ha : PolyV a) (hb : 1 ≤ b.length) (hy : smp (b.getD (b.length - 1) 0 * y) = 1) : PolyV (divQ a b y) ∧ PolyV (divR a b y) ∧ (divQ a b y).length ≤ a.length ∧
    (2 ≤ b.length → (divR a b y).length < b.length) ∧ (b.length = 1 → (divR a b y).length = 1 ∧ (divR a b y).getD 0 0 = 0) := by
  have hd := divInv_all ha.2.1 hb hy _ (Nat.le_refl _)
  have hl := divSt_length a b y (a.length - (b.length - 1))
  have hrest : ∀ j, b.length - 1 ≤ j → (divSt a b y (a.length - (b.length - 1))).2.getD j 0 = 0 := fun j hj => by
    by_cases h : b.length - 1 ≤ a.length
    · exact hd.rest j (by omega)
    · exact hd.rest j (by omega)
  have h1 := trimL_le (divSt a b y (a.length - (b.length - 1))).1
  have h2 := trimL_le (divSt a b y (a.length - (b.length - 1))).2
  have h3 := ha.2.2
  have h4 := ha.1.1
  refine ⟨⟨trimL_canon _, trimL_smp hd.qs, by unfold divQ; omega⟩, ⟨trimL_canon _, trimL_smp hd.rs, by unfold divR; omega⟩, by unfold divQ; omega, fun h => ?_, fun h => ?_⟩
  · have := trimL_short (m := b.length - 1) (by omega) hrest
    unfold divR; omega
  · have h5 := trimL_short (m := 1) (Nat.le_refl _) (fun j hj => hrest j (by omega))
    have h6 := (trimL_canon (divSt a b y (a.length - (b.length - 1))).2).1
    exact ⟨by unfold divR; omega, by unfold divR; rw [trimL_get]; exact hrest 0 (by omega)⟩
end Go.Proofs.YtljlcbichimhaaaGreatDoor
