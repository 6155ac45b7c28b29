/-
  Decimal numerals: what is written is read again; a text is read as n just if it is n's numeral and n has at most 18 digits.
-/
import Derived.Lib.AtoiTie
import Derived.Lib.ParseIntBTie
import Derived.Lib.ItoaNum
namespace Go.Proofs.YtljlcbichimhaaaGreatDoor
open Go.Lib

theorem digitVal_of {d : Nat} (h : d < 10) : digitVal (UInt8.ofNat (48 + d)) = some d := by
  have e : (UInt8.ofNat (48 + d)).toNat = 48 + d := by simp; omega
  unfold digitVal
  rw [e, if_pos (by omega)]
  congr 1
  omega
theorem decFrom_append : ∀ (l r : List UInt8) (acc : Nat), decFrom acc (l ++ r) = (decFrom acc l).bind fun n => decFrom n r
  | [], r, acc => by simp [decFrom]
  | b :: l, r, acc => by
    simp only [List.cons_append, decFrom]
    cases digitVal b with
    | none => rfl
    | some d => exact decFrom_append l r _
theorem decFrom_decDigits (u : Nat) : decFrom 0 (decDigits u) = some u := by
  induction u using Nat.strongRecOn with
  | _ u ih =>
    by_cases h : u < 10
    · rw [decDigits, dif_pos h]
      simp only [decFrom, digitVal_of h]
      simp
    · rw [decDigits, dif_neg h, decFrom_append, ih (u / 10) (by omega)]
      simp only [Option.bind_some, decFrom, digitVal_of (Nat.mod_lt u (by decide : 0 < 10))]
      congr 1
      omega
theorem decDigits_ne (u : Nat) : decDigits u ≠ [] := by
  intro h
  have := decDigits_length u
  rw [h] at this
  have := nDigits_pos u
  simp at *
  omega
theorem decNat_decDigits (u : Nat) : decNat (decDigits u) = some u := by
  have := decDigits_ne u
  unfold decNat
  rw [if_neg (by simpa using this), decFrom_decDigits]
theorem decDigits_inj {u v : Nat} (h : decDigits u = decDigits v) : u = v := by
  have h1 := decFrom_decDigits u
  rw [h, decFrom_decDigits v] at h1
  exact (Option.some.inj h1).symm
/-- the first byte of a numeral is a digit -/
theorem decDigits_digit (u : Nat) : ∀ b ∈ decDigits u, 48 ≤ b.toNat ∧ b.toNat ≤ 57 := by
  intro b hb
  obtain ⟨k, hk, rfl⟩ := List.mem_iff_getElem.1 hb
  obtain ⟨d, hd⟩ := digit_of_decFrom _ 0 u (decFrom_decDigits u) k _ (List.getElem?_eq_getElem hk)
  unfold digitVal at hd
  split at hd
  · assumption
  · cases hd
theorem decDigits_cons (u : Nat) : ∃ c r, decDigits u = c :: r ∧ 48 ≤ c.toNat ∧ c.toNat ≤ 57 := by
  cases h : decDigits u with
  | nil => exact absurd h (decDigits_ne u)
  | cons c r => exact ⟨c, r, rfl, decDigits_digit u c (by rw [h]; simp)⟩
theorem nDigits_le18 {u : Nat} : nDigits u ≤ 18 ↔ u < 1000000000000000000 := by
  have e18 : (10 : Nat) ^ 18 = 1000000000000000000 := by decide
  constructor
  · intro h
    have h1 := lt_pow_nDigits u
    have h2 : (10 : Nat) ^ nDigits u ≤ 10 ^ 18 := Nat.pow_le_pow_right (by decide) h
    omega
  · intro h
    by_cases hk : nDigits u ≤ 18
    · exact hk
    exfalso
    have : ∀ (k u : Nat), k < nDigits u → k ≠ 0 → 10 ^ k ≤ u := by
      intro k
      induction k with
      | zero => intro u _ h0; exact absurd rfl h0
      | succ k ih =>
        intro u h1 _
        by_cases hu : u < 10
        · rw [nDigits_small hu] at h1; omega
        rw [nDigits_big hu] at h1
        rw [Nat.pow_succ]
        by_cases h0 : k = 0
        · subst h0; simp; omega
        · have := ih (u / 10) (by omega) h0
          omega
    have := this 18 u (by omega) (by decide)
    omega
theorem itoa_inj {n m : Int} (h : itoa n = itoa m) : n = m := by
  unfold itoa at h
  by_cases hn : n < 0 <;> by_cases hm : m < 0
  · rw [if_pos hn, if_pos hm] at h
    have := decDigits_inj (List.cons.inj h).2
    omega
  · rw [if_pos hn, if_neg hm] at h
    obtain ⟨c, r, e, h1, h2⟩ := decDigits_cons m.toNat
    rw [e] at h
    have := (List.cons.inj h).1
    subst this
    exact absurd h1 (by decide)
  · rw [if_neg hn, if_pos hm] at h
    obtain ⟨c, r, e, h1, h2⟩ := decDigits_cons n.toNat
    rw [e] at h
    have := (List.cons.inj h).1
    subst this
    exact absurd h1 (by decide)
  · rw [if_neg hn, if_neg hm] at h
    have := decDigits_inj h
    omega
theorem itoa_ne (n : Int) : itoa n ≠ [] := by
  unfold itoa
  split
  · simp
  · exact decDigits_ne _
/-- a text without the sign ahead of it -/
def trimM (l : List UInt8) : List UInt8 := if l.head? = some 45 then l.tail else l
def small18 (n : Int) : Prop := -1000000000000000000 < n ∧ n < 1000000000000000000
instance (n : Int) : Decidable (small18 n) := inferInstanceAs (Decidable (_ ∧ _))
theorem trimM_itoa (n : Int) : trimM (itoa n) = decDigits n.natAbs := by
  unfold itoa
  split
  · simp [trimM]
  · rename_i h
    obtain ⟨c, r, e, h1, h2⟩ := decDigits_cons n.toNat
    have e1 : n.natAbs = n.toNat := by omega
    rw [e1, e]
    unfold trimM
    rw [if_neg]
    simp only [List.head?_cons, Option.some.injEq]
    intro hc
    subst hc
    exact absurd h1 (by decide)
theorem trimM_len (n : Int) : (trimM (itoa n)).length ≤ 18 ↔ small18 n := by
  rw [trimM_itoa, decDigits_length, nDigits_le18]
  unfold small18
  omega
theorem parse_itoa {n : Int} (h : small18 n) : parseIntB 64 (itoa n) = .ok n := by
  have h0 := h
  unfold small18 at h0
  rw [parseIntB_64]
  have hl : (decDigits n.natAbs).length ≤ 18 := by rw [← trimM_itoa]; exact (trimM_len n).2 h
  unfold itoa
  by_cases hn : n < 0
  · rw [if_pos hn, atoiAll_minus, parseMag_short _ hl, decNat_decDigits]
    simp only [NumEnd.ofOption, signed]
    rw [if_neg (by omega)]
    congr 1
    omega
  · rw [if_neg hn]
    have e1 : n.natAbs = n.toNat := by omega
    rw [e1] at hl
    obtain ⟨c, r, e, h1, h2⟩ := decDigits_cons n.toNat
    rw [e, atoiAll_plain c r (by omega) (by omega), ← e, parseMag_short _ hl, decNat_decDigits]
    simp only [NumEnd.ofOption, signless]
    rw [if_neg (by omega)]
    congr 1
    omega
/-- the number that a text is read as -/
def readDec (l : List UInt8) : Option Int :=
  match parseIntB 64 l with
  | .ok n => if itoa n = l ∧ (trimM l).length ≤ 18 then some n else none
  | _ => none
theorem readDec_iff (l : List UInt8) (n : Int) : readDec l = some n ↔ itoa n = l ∧ small18 n := by
  constructor
  · intro h
    unfold readDec at h
    split at h
    · rename_i m hm
      split at h
      · rename_i hc
        obtain rfl := Option.some.inj h
        refine ⟨hc.1, (trimM_len m).1 ?_⟩
        rw [hc.1]; exact hc.2
      · cases h
    · cases h
  · rintro ⟨rfl, h⟩
    unfold readDec
    rw [parse_itoa h]
    exact if_pos ⟨rfl, (trimM_len n).2 h⟩
theorem readDec_itoa {n : Int} (h : small18 n) : readDec (itoa n) = some n := (readDec_iff _ _).2 ⟨rfl, h⟩
theorem readDec_bound {l : List UInt8} {n : Int} (h : readDec l = some n) : small18 n := ((readDec_iff _ _).1 h).2
end Go.Proofs.YtljlcbichimhaaaGreatDoor
