/-
  Several texts in one: TxtM, TxtC, Txt, TxtS, TxtD, TxtW, TxtN, TxtO, TxtV, TxtX, TxtY, TxtZ.
-/
import Derived.Lib.AtoiTie
import Derived.Lib.ParseIntBTie
import Derived.Lib.ItoaNum
import Derived.Test.YtaapkpjokmoekaaGreatDoorPk11
import Derived.Test.YtaapkpjokmoekaaGreatDoorPk1
import Derived.Lib.IndexMore
import Derived.Lib.SmallJoins
import Derived.Lib.LaidTab
import Derived.Lib.ItoaLen
import Derived.Lib.Join
import Derived.Laws.BytesString
import Derived.ArgAppend
import Derived.Deep.DeepAppendRoom
import Derived.Test.YtaapkpjokmoekaaGreatDoorPk2
namespace Go.Proofs.YtaapkpjokmoekaaGreatDoor
open Go.Lib

theorem digitVal_of {d : Nat} (h : d < 10) : digitVal (UInt8.ofNat (48 + d)) = some d := by
  have e : (UInt8.ofNat (48 + d)).toNat = 48 + d := by simp; omega
  unfold digitVal
  rw [e, if_pos (by omega)]
  congr 1
  omega
theorem decFrom_append : ∀ (l r : List UInt8) (acc : Nat), decFrom acc (l ++ r) = (decFrom acc l).bind fun n => decFrom n r
  | [], r, acc => by simp [decFrom]
  | b :: l, r, acc => by
    simp only [List.cons_append, decFrom]
    cases digitVal b with
    | none => rfl
    | some d => exact decFrom_append l r _
theorem decFrom_decDigits (u : Nat) : decFrom 0 (decDigits u) = some u := by
  induction u using Nat.strongRecOn with
  | _ u ih =>
    by_cases h : u < 10
    · rw [decDigits, dif_pos h]
      simp only [decFrom, digitVal_of h]
      simp
    · rw [decDigits, dif_neg h, decFrom_append, ih (u / 10) (by omega)]
      simp only [Option.bind_some, decFrom, digitVal_of (Nat.mod_lt u (by decide : 0 < 10))]
      congr 1
      omega
theorem decDigits_ne (u : Nat) : decDigits u ≠ [] := by
  intro h
  have := decDigits_length u
  rw [h] at this
  have := nDigits_pos u
  simp at *
  omega
theorem decNat_decDigits (u : Nat) : decNat (decDigits u) = some u := by
  have := decDigits_ne u
  unfold decNat
  rw [if_neg (by simpa using this), decFrom_decDigits]
theorem decDigits_inj {u v : Nat} (h : decDigits u = decDigits v) : u = v := by
  have h1 := decFrom_decDigits u
  rw [h, decFrom_decDigits v] at h1
  exact (Option.some.inj h1).symm
/-- the first byte of a numeral is a digit -/
theorem decDigits_digit (u : Nat) : ∀ b ∈ decDigits u, 48 ≤ b.toNat ∧ b.toNat ≤ 57 := by
  intro b hb
  obtain ⟨k, hk, rfl⟩ := List.mem_iff_getElem.1 hb
  obtain ⟨d, hd⟩ := digit_of_decFrom _ 0 u (decFrom_decDigits u) k _ (List.getElem?_eq_getElem hk)
  unfold digitVal at hd
  split at hd
  · assumption
  · cases hd
theorem decDigits_cons (u : Nat) : ∃ c r, decDigits u = c :: r ∧ 48 ≤ c.toNat ∧ c.toNat ≤ 57 := by
  cases h : decDigits u with
  | nil => exact absurd h (decDigits_ne u)
  | cons c r => exact ⟨c, r, rfl, decDigits_digit u c (by rw [h]; simp)⟩
theorem nDigits_le18 {u : Nat} : nDigits u ≤ 18 ↔ u < 1000000000000000000 := by
  have e18 : (10 : Nat) ^ 18 = 1000000000000000000 := by decide
  constructor
  · intro h
    have h1 := lt_pow_nDigits u
    have h2 : (10 : Nat) ^ nDigits u ≤ 10 ^ 18 := Nat.pow_le_pow_right (by decide) h
    omega
  · intro h
    by_cases hk : nDigits u ≤ 18
    · exact hk
    exfalso
    have : ∀ (k u : Nat), k < nDigits u → k ≠ 0 → 10 ^ k ≤ u := by
      intro k
      induction k with
      | zero => intro u _ h0; exact absurd rfl h0
      | succ k ih =>
        intro u h1 _
        by_cases hu : u < 10
        · rw [nDigits_small hu] at h1; omega
        rw [nDigits_big hu] at h1
        rw [Nat.pow_succ]
        by_cases h0 : k = 0
        · subst h0; simp; omega
        · have := ih (u / 10) (by omega) h0
          omega
    have := this 18 u (by omega) (by decide)
    omega
theorem itoa_inj {n m : Int} (h : itoa n = itoa m) : n = m := by
  unfold itoa at h
  by_cases hn : n < 0 <;> by_cases hm : m < 0
  · rw [if_pos hn, if_pos hm] at h
    have := decDigits_inj (List.cons.inj h).2
    omega
  · rw [if_pos hn, if_neg hm] at h
    obtain ⟨c, r, e, h1, h2⟩ := decDigits_cons m.toNat
    rw [e] at h
    have := (List.cons.inj h).1
    subst this
    exact absurd h1 (by decide)
  · rw [if_neg hn, if_pos hm] at h
    obtain ⟨c, r, e, h1, h2⟩ := decDigits_cons n.toNat
    rw [e] at h
    have := (List.cons.inj h).1
    subst this
    exact absurd h1 (by decide)
  · rw [if_neg hn, if_neg hm] at h
    have := decDigits_inj h
    omega
theorem itoa_ne (n : Int) : itoa n ≠ [] := by
  unfold itoa
  split
  · simp
  · exact decDigits_ne _
/-- a text without the sign ahead of it -/
def trimM (l : List UInt8) : List UInt8 := if l.head? = some 45 then l.tail else l
def small18 (n : Int) : Prop := -1000000000000000000 < n ∧ n < 1000000000000000000
instance (n : Int) : Decidable (small18 n) := inferInstanceAs (Decidable (_ ∧ _))
theorem trimM_itoa (n : Int) : trimM (itoa n) = decDigits n.natAbs := by
  unfold itoa
  split
  · simp [trimM]
  · rename_i h
    obtain ⟨c, r, e, h1, h2⟩ := decDigits_cons n.toNat
    have e1 : n.natAbs = n.toNat := by omega
    rw [e1, e]
    unfold trimM
    rw [if_neg]
    simp only [List.head?_cons, Option.some.injEq]
    intro hc
    subst hc
    exact absurd h1 (by decide)
theorem trimM_len (n : Int) : (trimM (itoa n)).length ≤ 18 ↔ small18 n := by
  rw [trimM_itoa, decDigits_length, nDigits_le18]
  unfold small18
  omega
theorem parse_itoa {n : Int} (h : small18 n) : parseIntB 64 (itoa n) = .ok n := by
  have h0 := h
  unfold small18 at h0
  rw [parseIntB_64]
  have hl : (decDigits n.natAbs).length ≤ 18 := by rw [← trimM_itoa]; exact (trimM_len n).2 h
  unfold itoa
  by_cases hn : n < 0
  · rw [if_pos hn, atoiAll_minus, parseMag_short _ hl, decNat_decDigits]
    simp only [NumEnd.ofOption, signed]
    rw [if_neg (by omega)]
    congr 1
    omega
  · rw [if_neg hn]
    have e1 : n.natAbs = n.toNat := by omega
    rw [e1] at hl
    obtain ⟨c, r, e, h1, h2⟩ := decDigits_cons n.toNat
    rw [e, atoiAll_plain c r (by omega) (by omega), ← e, parseMag_short _ hl, decNat_decDigits]
    simp only [NumEnd.ofOption, signless]
    rw [if_neg (by omega)]
    congr 1
    omega
/-- the number that a text is read as -/
def readDec (l : List UInt8) : Option Int :=
  match parseIntB 64 l with
  | .ok n => if itoa n = l ∧ (trimM l).length ≤ 18 then some n else none
  | _ => none
theorem readDec_iff (l : List UInt8) (n : Int) : readDec l = some n ↔ itoa n = l ∧ small18 n := by
  constructor
  · intro h
    unfold readDec at h
    split at h
    · rename_i m hm
      split at h
      · rename_i hc
        obtain rfl := Option.some.inj h
        refine ⟨hc.1, (trimM_len m).1 ?_⟩
        rw [hc.1]; exact hc.2
      · cases h
    · cases h
  · rintro ⟨rfl, h⟩
    unfold readDec
    rw [parse_itoa h]
    exact if_pos ⟨rfl, (trimM_len n).2 h⟩
theorem readDec_itoa {n : Int} (h : small18 n) : readDec (itoa n) = some n := (readDec_iff _ _).2 ⟨rfl, h⟩
theorem readDec_bound {l : List UInt8} {n : Int} (h : readDec l = some n) : small18 n := ((readDec_iff _ _).1 h).2
end Go.Proofs.YtaapkpjokmoekaaGreatDoor

namespace Go.Proofs.YtaapkpjokmoekaaGreatDoor
open Go.ChangeShapes Go.WideShapes Go.ChangeAt Go.RowKit Go.Sort
set_option linter.unusedVariables false
set_option linter.unusedSimpArgs false

/-- the library's limit of short searches holds some number -/
def TxtC (w : World) : Prop := ∃ m, w.cell? ⟨0, 0, none⟩ = some (.int .i64 m)
theorem TxtC.below {w w' : World} (h : TxtC w) (hb : Below w.heap.size w w') : TxtC w' := by
  obtain ⟨m, hm⟩ := h
  exact ⟨m, (hb.cell (World.block_lt_of_cell? w _ hm)).trans hm⟩
theorem txtC_of_shape {w : World} (h : w.ShapedOpen Tryz.prog) : TxtC w := Tryz.laysM146.s1_3 w h
theorem itoa_no {n : Int} {c : UInt8} (h : c.toNat < 45 ∨ (45 < c.toNat ∧ c.toNat < 48) ∨ 57 < c.toNat) : c ∉ Lib.itoa n := by
  intro hm
  unfold Lib.itoa at hm
  have key : ∀ u, c ∈ Lib.decDigits u → False := fun u hu => by
    have := decDigits_digit u c hu
    omega
  split at hm
  · rcases List.mem_cons.1 hm with rfl | hm
    · have : (45 : UInt8).toNat = 45 := rfl
      omega
    · exact key _ hm
  · exact key _ hm
theorem index_none : ∀ (l : List UInt8) (c : UInt8), c ∉ l → Lib.index l [c] = -1
  | [], c, _ => by simp [Lib.index]
  | b :: l, c, h => by
    have h1 : ¬ c = b := fun e => h (by simp [e])
    have h2 := index_none l c (fun e => h (by simp [e]))
    simp [Lib.index, List.isPrefixOf, h1, h2]
theorem index_at : ∀ (l r : List UInt8) (c : UInt8), c ∉ l → Lib.index (l ++ c :: r) [c] = l.length
  | [], r, c, _ => by simp [Lib.index, List.isPrefixOf]
  | b :: l, r, c, h => by
    have h1 : ¬ c = b := fun e => h (by simp [e])
    have h2 := index_at l r c (fun e => h (by simp [e]))
    have h3 : ¬ (l.length : Int) = -1 := by omega
    simp [Lib.index, List.isPrefixOf, h1, h2, h3]
theorem cut_none {l : List UInt8} {c : UInt8} (h : c ∉ l) : Lib.cut l [c] = (l, [], false) := by
  unfold Lib.cut
  rw [index_none l c h]
  rfl
theorem cut_at {l r : List UInt8} {c : UInt8} (h : c ∉ l) : Lib.cut (l ++ c :: r) [c] = (l, r, true) := by
  unfold Lib.cut
  rw [index_at l r c h, if_pos (by omega)]
  have e : ((l.length : Nat) : Int).toNat = l.length := by omega
  rw [e]
  simp
end Go.Proofs.YtaapkpjokmoekaaGreatDoor

namespace Go.Proofs.YtaapkpjokmoekaaGreatDoor
open Go.ChangeShapes Go.WideShapes Go.ChangeAt Go.RowKit Go.Sort
set_option linter.unusedVariables false

theorem below_grow_t (B : Nat) (w : World) (q : Nat) (os : Array Obj) (hB : B ≤ w.heap.size) : Below B w (grow (w.drewN q) os) :=
  ⟨rfl, rfl, rfl, by first | (simp [grow]; done) | (simp [grow]; omega), fun i hi => by
    show ((w.drewN q).heap ++ os)[i]? = _
    rw [Array.getElem?_append_left (by show i < w.heap.size; omega)]
    rfl⟩
/-- the library's table of powers of ten stands in memory -/
def TxtT (w : World) : Prop := ∃ t f, w.heap[1]? = some (.cells (Lib.pow10Tab.map fun z => Value.int .u64 z).toArray t f)
theorem TxtT.below {w w' : World} (h : TxtT w) (hb : Below w.heap.size w w') : TxtT w' := by
  obtain ⟨t, f, h1⟩ := h
  exact ⟨t, f, (hb.block _ (Array.getElem?_eq_some_iff.1 h1).1).trans h1⟩
theorem TxtT.belowAt {w w' : World} {B : Nat} (h : TxtT w) (hlt : 1 < B) (hb : Below B w w') : TxtT w' := by
  obtain ⟨t, f, h1⟩ := h
  exact ⟨t, f, (hb.block _ hlt).trans h1⟩
theorem var?_of_block {P : Program} {w : World} {nm : String} {g : Nat} {cs : Array Value} {t : TypeId} {f : Nat × Nat} (hg : P.globalNamed nm = some g) (h : w.heap[g]? = some (.cells cs t f)) : w.var? P nm = some cs := by
  unfold World.var?
  rw [hg]
  simp [h]
theorem block_of_var? {P : Program} {w : World} {nm : String} {g : Nat} {cs : Array Value} (hg : P.globalNamed nm = some g) (h : w.var? P nm = some cs) : ∃ t f, w.heap[g]? = some (.cells cs t f) := by
  unfold World.var? at h
  rw [hg] at h
  simp only [Option.bind_some] at h
  split at h
  · rename_i cs' t f hh
    obtain rfl := Option.some.inj h
    exact ⟨t, f, hh⟩
  · cases h
theorem decimal_any (n : Int) (h0 : -9223372036854775808 ≤ n) (h1 : n ≤ 9223372036854775807) (w : World) (hT : TxtT w) :
    Calls Tryz.prog 57 #[.int .i64 n] w fun e w' => e = .returned (.string ⟨(Lib.itoa n).toArray⟩) ∧ Below w.heap.size w w' := by
  have F : Hid (Calls Tryz.prog 89 #[.int .i64 n, .int .i64 10] w fun e w' => e = .returned (.string ⟨(Lib.itoa n).toArray⟩) ∧ Below w.heap.size w w') := by
    obtain ⟨t, f, hb⟩ := hT
    refine (Any.strconv_FormatInt_10 Tryz.laysM173 n h0 h1 w (var?_of_block (by kernel_rfl) hb)).mono ?_
    rintro e w' ⟨rfl, k, os, rfl⟩
    exact ⟨rfl, below_grow_t _ _ _ _ (Nat.le_refl _)⟩
  go_enter Tryz.func57, Tryz.ntmps57
  go_wp2_with (go_at_call 89; refine F.out.mono ?_; rintro e w' ⟨rfl, hB⟩)
  go_ret
  exact ⟨rfl, hB⟩
/-- the library's two errors of parsing stand in memory -/
def TxtE (w : World) : Prop := (∃ tp p t f, w.heap[4]? = some (.cells #[.iface tp p] t f)) ∧ ∃ tp p t f, w.heap[5]? = some (.cells #[.iface tp p] t f)
theorem TxtE.below {w w' : World} (h : TxtE w) (hb : Below w.heap.size w w') : TxtE w' := by
  obtain ⟨⟨tp, p, t, f, h1⟩, tp', p', t', f', h2⟩ := h
  exact ⟨⟨tp, p, t, f, (hb.block _ (Array.getElem?_eq_some_iff.1 h1).1).trans h1⟩, tp', p', t', f', (hb.block _ (Array.getElem?_eq_some_iff.1 h2).1).trans h2⟩
theorem trimPrefix_minus (l : List UInt8) : Lib.trimPrefix l [45] = trimM l := by
  cases l with
  | nil => rfl
  | cons c r =>
    by_cases h : c = 45
    · subst h; simp [Lib.trimPrefix, Lib.hasPrefix, trimM]
    · have h' : ¬ (45 : UInt8) = c := fun e => h e.symm
      simp [Lib.trimPrefix, Lib.hasPrefix, trimM, h, h']
theorem str_eq_iff (l : List UInt8) (s : ByteArray) : (⟨l.toArray⟩ : ByteArray) = s ↔ l = s.data.toList := by
  constructor
  · rintro rfl; simp
  · rintro rfl; simp
/-- how ParseInt ends: a number and nil; 0 or another number, and an error -/
theorem parseInt_any (s : ByteArray) (hs : s.size ≤ 281474976710656) (w : World) (hE : TxtE w) :
    Calls Tryz.prog 109 #[.string s, .int .i64 10, .int .i64 64] w fun e w' => (match Lib.parseIntB 64 s.data.toList with
      | .ok v => e = .returned (.tuple #[.int .i64 v, .nilIface])
      | _ => ∃ v t p, e = .returned (.tuple #[.int .i64 v, .iface t p])) ∧ Below w.heap.size w w' := by
  obtain ⟨⟨tp, p, t, f, h1⟩, tp', p', t', f', h2⟩ := hE
  cases h : Lib.parseIntB 64 s.data.toList
  case ok v =>
    refine (Any.strconv_ParseInt_10_at64_ok Tryz.laysC174 s (by omega) v h w).mono ?_
    rintro e w' ⟨rfl, rfl | ⟨t, rfl⟩⟩
    · exact ⟨rfl, Below.refl _ _⟩
    · exact ⟨rfl, Go.Joins.below_bytesWorld _ _ _ _ (Nat.le_refl _)⟩
  case range =>
    refine (Any.strconv_ParseInt_10_at64_range_var Tryz.laysC174 s hs h tp' p' w (var?_of_block (by kernel_rfl) h2)).mono ?_
    rintro e w' ⟨N, rfl, -, -, hb⟩
    exact ⟨⟨_, _, _, rfl⟩, hb⟩
  case _ =>
    refine (Any.strconv_ParseInt_10_at64_syntax_var Tryz.laysC174 s hs h tp p w (var?_of_block (by kernel_rfl) h1)).mono ?_
    rintro e w' ⟨N, rfl, -, -, hb⟩
    exact ⟨⟨_, _, _, rfl⟩, hb⟩
def decV (l : List UInt8) : Value := .tuple #[.int .i64 ((readDec l).getD 0), .bool (readDec l).isSome]
theorem decV_some {l : List UInt8} {n : Int} (h : readDec l = some n) : decV l = .tuple #[.int .i64 n, .bool true] := by simp [decV, h]
theorem decV_none {l : List UInt8} (h : readDec l = none) : decV l = .tuple #[.int .i64 0, .bool false] := by simp [decV, h]
set_option maxHeartbeats 2000000 in
theorem readDecimal_any (s : ByteArray) (hs : s.size ≤ 281474976710656) (w : World) (hT : TxtT w) (hE : TxtE w) :
    Calls Tryz.prog 88 #[.string s] w fun e w' => e = .returned (decV s.data.toList) ∧ Below w.heap.size w w' := by
  have F := parseInt_any s hs w hE
  cases h : Lib.parseIntB 64 s.data.toList
  case range =>
    rw [decV_none (by simp [readDec, h])]
    rw [h] at F
    have F := Lib.hid F
    go_enter Tryz.func88, Tryz.ntmps88
    go_wp2_with (go_at_call 109; refine F.out.mono ?_; rintro e w' ⟨⟨v, t, p, rfl⟩, hB⟩)
    go_ret2
    exact ⟨rfl, hB⟩
  case ok v =>
    rw [h] at F
    have F := Lib.hid F
    have hb : -9223372036854775808 ≤ v ∧ v ≤ 9223372036854775807 := by
      have := Lib.parseIntB_bounds h
      have e : (2 : Nat) ^ (64 - 1) = 9223372036854775808 := by decide
      rw [e] at this
      omega
    have D : Hid (∀ W, TxtT W → Calls Tryz.prog 57 #[.int .i64 v] W fun e w' => e = .returned (.string ⟨(Lib.itoa v).toArray⟩) ∧ Below W.heap.size W w') := fun W hW => decimal_any v hb.1 hb.2 W hW
    clear hb
    by_cases hq : Lib.itoa v = s.data.toList
    · have hq' : (⟨(Lib.itoa v).toArray⟩ : ByteArray) = s := (str_eq_iff _ _).2 hq
      have P : Hid (∀ W, Calls Tryz.prog 110 #[.string s, .string ⟨#[45]⟩] W fun e w' => e = .returned (.string ⟨(trimM s.data.toList).toArray⟩) ∧ w' = W) := fun W => by
        have := Tryz.strings_TrimPrefix s ⟨#[45]⟩ W
        rwa [show (⟨#[45]⟩ : ByteArray).data.toList = [45] from rfl, trimPrefix_minus] at this
      rw [hq'] at D
      by_cases hl : (trimM s.data.toList).length ≤ 18
      · rw [decV_some (n := v) (by simp [readDec, h, hq, hl])]
        have hz : ((⟨(trimM s.data.toList).toArray⟩ : ByteArray).size : Int) ≤ 18 := by
          have : (⟨(trimM s.data.toList).toArray⟩ : ByteArray).size = (trimM s.data.toList).length := by simp [ByteArray.size]
          omega
        generalize (⟨(trimM s.data.toList).toArray⟩ : ByteArray) = T at *
        clear h hq hq' hl
        go_enter Tryz.func88, Tryz.ntmps88
        go_wp2_with (first | (go_at_call 109; refine F.out.mono ?_; rintro e w1 ⟨rfl, hB1⟩) | (go_at_call 57; refine (D.out _ (hT.below hB1)).mono ?_; rintro e w2 ⟨rfl, hB2⟩) | (go_at_call 110; refine (P.out _).mono ?_; rintro e w3 ⟨rfl, hw3⟩; rw [hw3]) | fail)
        go_ret2
        exact ⟨rfl, hB1.trans (hB2.mono hB1.size)⟩
      · rw [decV_none (by simp [readDec, h, hl])]
        have hz : ¬ ((⟨(trimM s.data.toList).toArray⟩ : ByteArray).size : Int) ≤ 18 := by
          have : (⟨(trimM s.data.toList).toArray⟩ : ByteArray).size = (trimM s.data.toList).length := by simp [ByteArray.size]
          omega
        generalize (⟨(trimM s.data.toList).toArray⟩ : ByteArray) = T at *
        clear h hq hq' hl
        go_enter Tryz.func88, Tryz.ntmps88
        go_wp2_with (first | (go_at_call 109; refine F.out.mono ?_; rintro e w1 ⟨rfl, hB1⟩) | (go_at_call 57; refine (D.out _ (hT.below hB1)).mono ?_; rintro e w2 ⟨rfl, hB2⟩) | (go_at_call 110; refine (P.out _).mono ?_; rintro e w3 ⟨rfl, hw3⟩; rw [hw3]) | fail)
        go_ret2
        exact ⟨rfl, hB1.trans (hB2.mono hB1.size)⟩
    · rw [decV_none (by simp [readDec, h, hq])]
      have hq' : (⟨(Lib.itoa v).toArray⟩ : ByteArray) ≠ s := fun e => hq ((str_eq_iff _ _).1 e)
      have hqb := str_beq_false hq'
      generalize (⟨(Lib.itoa v).toArray⟩ : ByteArray) = T at *
      clear h hq hq'
      go_enter Tryz.func88, Tryz.ntmps88
      go_wp2_with (first | (go_at_call 109; refine F.out.mono ?_; rintro e w1 ⟨rfl, hB1⟩) | (go_at_call 57; refine (D.out _ (hT.below hB1)).mono ?_; rintro e w2 ⟨rfl, hB2⟩) | fail)
      go_ret2
      exact ⟨rfl, hB1.trans (hB2.mono hB1.size)⟩
  case _ =>
    rw [decV_none (by simp [readDec, h])]
    rw [h] at F
    have F := Lib.hid F
    go_enter Tryz.func88, Tryz.ntmps88
    go_wp2_with (go_at_call 109; refine F.out.mono ?_; rintro e w' ⟨⟨v, t, p, rfl⟩, hB⟩)
    go_ret2
    exact ⟨rfl, hB⟩
end Go.Proofs.YtaapkpjokmoekaaGreatDoor

namespace Go.Proofs.YtaapkpjokmoekaaGreatDoor
open Go.ChangeShapes Go.WideShapes Go.ChangeAt Go.RowKit Go.Sort
set_option linter.unusedVariables false

/-- a text as a value -/
def bs (l : List UInt8) : ByteArray := ⟨l.toArray⟩
theorem bs_list (l : List UInt8) : (bs l).data.toList = l := by simp [bs]
theorem bs_size (l : List UInt8) : (bs l).size = l.length := by simp [bs, ByteArray.size]
theorem bs_inj {l m : List UInt8} (h : bs l = bs m) : l = m := by rw [← bs_list l, h, bs_list]
theorem bs_app (l m : List UInt8) : bs l ++ bs m = bs (l ++ m) := by
  apply ByteArray.ext
  simp [bs]
theorem infoS : (Tryz.prog.info? 9).map (fun i => (i.zero, i.size, i.bytes)) = some (some (.string ByteArray.empty), 1, 16) := by kernel_rfl
theorem run_append_vals (w : World) (ty E T bytes : Nat) (z : Value) (hT : Tryz.prog.underlying T = some (.slice E)) (hinfo : (Tryz.prog.info? E).map (fun i => (i.zero, i.size, i.bytes)) = some (some z, 1, bytes)) (hz : z.cells.size = 1) (hby : bytes ≤ 64)
    {B : Nat} {v : Value} {us L : List Value} (hown : OwnV B w E v L) (h1 : ∀ u ∈ us, u.oneCell' = true) (hus : us.length ≤ 16) (hlen : L.length < 1099511627776) (hB : B ≤ w.heap.size) :
    ∃ v' w', (Builtin.append_ #[T, T] ty #[v, .slice (some ⟨w.heap.size, 0, none⟩) us.length us.length]).run Tryz.prog (w.alloc (.cells us.toArray E)) = .ok v' w' ∧ OwnV B w' E v' (L ++ us) ∧ (w.alloc (.cells us.toArray E)).grownBy w' v.ownBlock := by
  obtain ⟨i0, hi, hz0, hz1, hz2⟩ := info_parts hinfo
  obtain ⟨v', w', h2, h3, h4, _⟩ := run_append_own (P := Tryz.prog) (w.alloc (.cells us.toArray E)) B T ty E i0 z 1 bytes hT hi hz0 hz1 hz2 hz (by decide) v L.length L (hown.keep fun k hk => Below.heap_alloc _ _ _ (hown.lt hk).2) ⟨w.heap.size, 0, none⟩ us.length us.length us (by simp)
    (by
      intro j x hx
      rw [Addr.add_lit, World.cell?_alloc_at _ _ _ _ rfl]
      simpa using hx)
    h1 (by simp only [maxLen]; omega)
    (by have : (L.length + us.length) * bytes ≤ 1099511627792 * 64 := Nat.mul_le_mul (by omega) hby
        omega) (by simp; omega)
  exact ⟨v', w', h2, by simpa [OwnV] using h3, h4⟩

theorem wpList_append_vals {ops : Array Oper} {rest : List Oper} {o : Oper} {a : Act} {Q : Exit → Act → World → Prop} {w : World} (us : List Value) {E T : Nat} (hgd : o.guard = none) (s x : Operand)
    (ho : o.op = .call { callee := .builtin .append, args := #[s, x], argTypes := #[T, T] }) (bytes : Nat) (z : Value) (hT : Tryz.prog.underlying T = some (.slice E)) (hinfo : (Tryz.prog.info? E).map (fun i => (i.zero, i.size, i.bytes)) = some (some z, 1, bytes)) (hz : z.cells.size = 1) (hby : bytes ≤ 64)
    {B B0 : Nat} {w0 : World} {v : Value} {L : List Value} (hs : a.eval s = v) (hown : OwnV B w E v L) (hx : a.eval x = .slice (some ⟨w.heap.size, 0, none⟩) us.length us.length) (h1 : ∀ u ∈ us, u.oneCell' = true) (hus : us.length ≤ 16) (hbel : Below B0 w0 w) (hlen : L.length < 1099511627776) (hB : B ≤ w.heap.size) (hB0 : B0 ≤ B)
    (h : ∀ v' w', OwnV B w' E v' (L ++ us) → Below B0 w0 w' → w.heap.size ≤ w'.heap.size → (∀ k, k < w.heap.size → v.ownBlock ≠ some k → w'.heap[k]? = w.heap[k]?) → wpList Tryz.prog ops Q rest (a.put o.dst v') w') : wpList Tryz.prog ops Q (o :: rest) a (w.alloc (.cells us.toArray E)) := by
  refine wpList_plain hgd fun K hK => ?_
  obtain ⟨v', w', e1, e2, e3⟩ := run_append_vals w o.type E T bytes z hT hinfo hz hby hown h1 hus hlen hB
  unfold Oper.wp execOp
  simp only [ho, resolve, invoke, builtin, Sem.run_bind, Sem.run_pure, Result.andThen_ok, List.map_toArray, List.map_cons, List.map_nil, hs, hx, e1]
  refine hK _ _ (h v' w' e2 ((hbel.alloc (by omega) _).grown e3 (by simp; omega) fun k hk => ?_) ?_ fun k hk hne => ?_)
  · have := (hown.lt hk).1; omega
  · have := e3.size; simp at this; omega
  · exact (e3.block k (by simp; omega) (fun e => hne e.symm)).trans (Below.heap_alloc _ _ _ hk)

/-- words in a slice of the call's own -/
def OwnW (B : Nat) (w : World) (v : Value) (ss : List (List UInt8)) : Prop := OwnV B w 9 v (ss.map fun l => Value.string (bs l))
theorem OwnW.lit {B : Nat} (w : World) (ss : List (List UInt8)) (hB : B ≤ w.heap.size) (hm : ss.length ≤ maxLen) : OwnW B (w.alloc (.cells (ss.map fun l => Value.string (bs l)).toArray 9)) (.slice (some ⟨w.heap.size, 0, none⟩) ss.length ss.length) ss := by
  have h := World.ownsRow_lit (base := B) (e := 9) (size := 1) w (ss.map fun l => Value.string (bs l)).toArray ss.length hB hm (by simp)
  simpa [OwnW, OwnV] using h
theorem OwnW.below {B : Nat} {w w' : World} {v : Value} {ss : List (List UInt8)} (h : OwnW B w v ss) (hb : Below w.heap.size w w') : OwnW B w' v ss := OwnV.below h hb
theorem strs_one (ss : List (List UInt8)) : ∀ u ∈ (ss.map fun l => Value.string (bs l)), u.oneCell' = true := by
  intro u hu
  obtain ⟨l, -, rfl⟩ := List.mem_map.1 hu
  rfl
theorem OwnW.len {B : Nat} {w : World} {v : Value} {ss : List (List UInt8)} (h : OwnW B w v ss) : ss.length ≤ maxLen := by
  rcases OwnV.cases h with ⟨-, h0⟩ | ⟨_, _, _, _, _, _, hr⟩
  · have : ss = [] := by simpa using h0
    subst this; simp [maxLen]
  · simpa using hr.len
/-- words joined -/
theorem join_any {B : Nat} {v : Value} {ss : List (List UInt8)} (sep : List UInt8) (w : World) (h : OwnW B w v ss) (hn : ss.length ≤ 140737488355328) (hl : (Lib.join ss sep).length ≤ 140737488355328) :
    Calls Tryz.prog 60 #[v, .string (bs sep)] w fun e w' => e = .returned (.string (bs (Lib.join ss sep))) ∧ Below w.heap.size w w' := by
  have e1 : (ss.map fun l => (⟨l.toArray⟩ : ByteArray)).map (·.data.toList) = ss := by
    rw [List.map_map]
    conv => rhs; rw [← List.map_id ss]
    exact List.map_congr_left fun l _ => by simp
  rcases OwnV.cases h with ⟨rfl, h0⟩ | ⟨g, cap, rfl, hB, hg, _, hr⟩
  · have : ss = [] := by simpa using h0
    subst this
    refine (Tryz.strings_Join_none none 0 ⟨sep.toArray⟩ w).mono ?_
    rintro e w' ⟨rfl, rfl⟩
    exact ⟨rfl, Below.refl _ _⟩
  · have hcap : ss.length ≤ cap := by
      have := (show OwnV B w 9 _ _ from h)
      rcases this.2 with ⟨h1, h2⟩ | ⟨g', cap', cur, hv, _, _, hn, _⟩
      · simp at h1
      · simp only [Value.slice.injEq] at hv
        simp at hn
        omega
    have hj := Tryz.strings_Join g 0 cap (ss.map fun l => (⟨l.toArray⟩ : ByteArray)) ⟨sep.toArray⟩ w
      (fun j x hx => by
        simp only [List.getElem?_map, Option.map_eq_some_iff] at hx
        obtain ⟨l, hl, rfl⟩ := hx
        rcases hr.cells with h0 | ⟨b, o, e, hc⟩
        · have : ss = [] := by simpa using h0
          subst this; simp at hl
        · simp only [Option.some.injEq, Addr.mk.injEq, and_true] at e
          obtain ⟨rfl, rfl⟩ := e
          have hj : j < ss.length := (List.getElem?_eq_some_iff.1 hl).1
          rw [hc j (by simpa using hj)]
          simp [bs, (List.getElem?_eq_some_iff.1 hl).2])
      hg (by simpa using hn) (by simpa using hcap) (by rw [e1]; simpa using hl)
    rw [e1] at hj
    simpa [bs] using hj
/-- numbers in decimal with blanks between them -/
def numStr (xs : List Int) : List UInt8 := Lib.join (xs.map Lib.itoa) [32]
theorem lens_map_itoa : ∀ xs : List Int, AllI xs → Lib.lens (xs.map Lib.itoa) ≤ 21 * xs.length
  | [], _ => by simp [Lib.lens]
  | x :: xs, h => by
    have h1 := Lib.itoa_length_le x (h x (by simp)).1 (h x (by simp)).2
    have h2 := lens_map_itoa xs fun y hy => h y (by simp [hy])
    simp only [List.map_cons, Lib.lens, List.length_cons, List.sum_cons] at h2 ⊢
    omega
theorem numStr_length {xs : List Int} (h : AllI xs) : (numStr xs).length ≤ 22 * xs.length := by
  unfold numStr
  cases xs with
  | nil => simp [Lib.join_nil]
  | cons x xs =>
    rw [List.map_cons, Lib.join_length, ← List.map_cons]
    have := lens_map_itoa _ h
    simp only [List.length_map, List.length_cons, List.length_nil] at this ⊢
    omega
theorem numStr_snoc (xs : List Int) (x : Int) : numStr (xs ++ [x]) = if xs = [] then Lib.itoa x else numStr xs ++ 32 :: Lib.itoa x := by
  unfold numStr
  cases xs with
  | nil => simp [Lib.join_one]
  | cons y ys => simp [Lib.join_cons, Lib.joinTail]
set_option maxHeartbeats 2000000 in
set_option maxRecDepth 100000 in
theorem numbersText_any {p : Option Addr} {c : Nat} {xs : List Int} (w : World) (h : RdI w p xs) (hI : AllI xs) (hn : xs.length ≤ 1048576) (hT : TxtT w) :
    Calls Tryz.prog 90 #[.slice p xs.length c] w fun e w' => e = .returned (.string (bs (numStr xs))) ∧ Below w.heap.size w w' := by
  have hl := numStr_length hI
  have D : Hid (∀ W k, TxtT W → (hk : k < xs.length) → Calls Tryz.prog 57 #[.int .i64 xs[k]] W fun e w' => e = .returned (.string (bs (Lib.itoa xs[k]))) ∧ Below W.heap.size W w') := fun W k hW hk => decimal_any _ (hI _ (List.getElem_mem hk)).1 (hI _ (List.getElem_mem hk)).2 W hW
  have J : Hid (∀ (W : World) B v, OwnW B W v (xs.map Lib.itoa) → Calls Tryz.prog 60 #[v, .string ⟨#[32]⟩] W fun e w' => e = .returned (.string (bs (numStr xs))) ∧ Below W.heap.size W w') := fun W B v hv => join_any [32] W hv (by simp; omega) (by unfold numStr at hl; omega)
  have O0 : Hid (OwnW w.heap.size (w.alloc (.cells #[] 9)) (.slice (some ⟨w.heap.size, 0, none⟩) 0 0) []) := OwnW.lit w [] (Nat.le_refl _) (by simp [maxLen])
  have HT := Lib.hid hT
  have HR := Lib.hid h
  clear hl hI hT
  go_enter Tryz.func90, Tryz.ntmps90
  go_wp2_with fail
  go_loopw [3, 9] (fun v i wr => ∃ (k : Nat) (u : Value), k ≤ xs.length ∧ v = u ∧ i = .int .i64 (k : Int) ∧ Hid (OwnW w.heap.size wr u ((xs.take k).map Lib.itoa)) ∧ Below w.heap.size w wr) (fun _ i _ => ((xs.length : Int) - intOf i).toNat)
  case atStart => exact ⟨0, _, Nat.zero_le _, rfl, rfl, by simpa using O0, (Below.refl _ _).alloc (Nat.le_refl _) _⟩
  case round =>
    obtain ⟨k, v, hk, hv, rfl, HO, hbel⟩ := hrel
    obtain rfl := hv.symm
    have hsz := hbel.size
    by_cases hkt : k < xs.length
    · have hr : RdI wr p xs := HR.out.below hbel
      obtain ⟨b, o, rfl, hb, hc⟩ := hr.pos hkt
      have hck := hc k hkt
      have hT1 : TxtT wr := HT.out.below hbel
      have DK := Lib.hid (D.out wr k hT1 hkt)
      have HM : Hid ((xs.take (k + 1)).map Lib.itoa = (xs.take k).map Lib.itoa ++ [Lib.itoa xs[k]]) := by
        unfold Hid
        rw [List.take_succ_eq_append_getElem hkt, List.map_append]
        rfl
      generalize xs[k] = x at hck DK HM
      have hLl : ((((xs.take k).map Lib.itoa).map fun l => Value.string (bs l))).length < 1099511627776 := by simp; omega
      clear hc hr
      have HLl := Lib.hid hLl
      clear hLl
      go_wp2_with (first
        | (go_at_call 57; refine DK.out.mono ?_; rintro e w1 ⟨rfl, hB1⟩; have hown1 : OwnV _ _ _ _ _ := OwnW.below HO.out hB1; have hb1 : Below w.heap.size w w1 := hbel.trans (hB1.mono hsz); have hz1 := hb1.size)
        | (at_builtin; refine wpList_append_val rfl _ _ rfl 16 (.string ByteArray.empty) Tryz.underlying80 infoS rfl (by omega) rfl hown1 rfl rfl hb1 HLl.out hz1 (Nat.le_refl _) ?_; intro v' w2 ho2 hb2 hz2 hk2)
        | fail)
      have HO2 : Hid (OwnW w.heap.size w2 v' ((xs.take (k + 1)).map Lib.itoa)) := by
        unfold Hid OwnW
        rw [HM.out]
        simpa using ho2
      go_roundw
      case rel => exact ⟨k + 1, _, by omega, rfl, by go_num, HO2, hb2⟩
      case measure => simp [intOf] <;> omega
    · obtain rfl : k = xs.length := by omega
      have JK := Lib.hid (J.out wr _ v (by have := HO.out; rwa [List.take_length] at this))
      go_wp2_with (first | (go_at_call 60; refine JK.out.mono ?_; rintro e w1 ⟨rfl, hB1⟩) | fail)
      go_ret
      exact ⟨rfl, hbel.trans (hB1.mono hsz)⟩
end Go.Proofs.YtaapkpjokmoekaaGreatDoor

namespace Go.Proofs.YtaapkpjokmoekaaGreatDoor
open Go.ChangeShapes Go.WideShapes Go.ChangeAt Go.RowKit Go.Sort
set_option linter.unusedVariables false

/-- append of a slice's values to a slice of the call's own -/
theorem wpList_append_srcV {ops : Array Oper} {rest : List Oper} {o : Oper} {a : Act} {Q : Exit → Act → World → Prop} {w : World} {E T : Nat} (hgd : o.guard = none) (s x : Operand)
    (ho : o.op = .call { callee := .builtin .append, args := #[s, x], argTypes := #[T, T] }) (bytes : Nat) (z : Value) (hT : Tryz.prog.underlying T = some (.slice E)) (hinfo : (Tryz.prog.info? E).map (fun i => (i.zero, i.size, i.bytes)) = some (some z, 1, bytes)) (hz : z.cells.size = 1) (hby : bytes ≤ 64)
    {B B0 : Nat} {w0 : World} {v : Value} {L us : List Value} {b o' c : Nat} (hs : a.eval s = v) (hown : OwnV B w E v L) (hx : a.eval x = .slice (some ⟨b, o', none⟩) us.length c) (hr : ∀ i, (h : i < us.length) → w.cell? ⟨b, o' + i, none⟩ = some us[i]) (h1 : ∀ u ∈ us, u.oneCell' = true) (hbel : Below B0 w0 w) (hlen : L.length + us.length < 1099511627776) (hB : B ≤ w.heap.size) (hB0 : B0 ≤ B)
    (h : ∀ v' w', OwnV B w' E v' (L ++ us) → Below B0 w0 w' → w.heap.size ≤ w'.heap.size → (∀ k, k < w.heap.size → v.ownBlock ≠ some k → w'.heap[k]? = w.heap[k]?) → wpList Tryz.prog ops Q rest (a.put o.dst v') w') : wpList Tryz.prog ops Q (o :: rest) a w := by
  refine wpList_plain hgd fun K hK => ?_
  obtain ⟨i0, hi, hz0, hz1, hz2⟩ := info_parts hinfo
  obtain ⟨v', w', e1, e2, e3, _⟩ := run_append_own (P := Tryz.prog) w B T o.type E i0 z 1 bytes hT hi hz0 hz1 hz2 hz (by decide) v L.length L hown ⟨b, o', none⟩ us.length c us (by simp)
    (by
      intro j u hu
      obtain ⟨hjl, hjy⟩ := List.getElem?_eq_some_iff.1 hu
      rw [Addr.add_lit, hr j hjl, hjy])
    h1 (by simp only [maxLen]; omega)
    (by have : (L.length + us.length) * bytes ≤ 1099511627776 * 64 := Nat.mul_le_mul (by omega) hby
        omega) hB
  unfold Oper.wp execOp
  simp only [ho, resolve, invoke, builtin, Sem.run_bind, Sem.run_pure, Result.andThen_ok, List.map_toArray, List.map_cons, List.map_nil, hs, hx, e1]
  refine hK _ _ (h v' w' (by simpa [OwnV] using e2) (hbel.grown e3 (by omega) fun k hk => ?_) e3.size fun k hk hne => ?_)
  · have := (hown.lt hk).1; omega
  · exact e3.block k hk (fun e => hne e.symm)
/-- bytes as values -/
def byteV (l : List UInt8) : List Value := l.map fun b => Value.int .u8 (b.toNat : Int)
theorem foldl_push : ∀ (l : List UInt8) (s : ByteArray), ((l.map fun b => (b.toNat : Int)).foldl (fun r n => r.push (UInt8.ofNat n.toNat)) s).data.toList = s.data.toList ++ l
  | [], s => by simp
  | b :: l, s => by
    rw [List.map_cons, List.foldl_cons, foldl_push l]
    simp
/-- a row of bytes, as a text -/
theorem conv_bytes {B : Nat} {w : World} {v : Value} {l : List UInt8} (h : OwnV B w 5 v (byteV l)) (hl : l ≠ []) :
    (convert 22 9 v).run Tryz.prog w = .ok (.string (bs l)) w := by
  rcases OwnV.cases h with ⟨rfl, h0⟩ | ⟨g, cap, rfl, hB, hg, ⟨cur, hcur⟩, hr⟩
  · exact absurd (by simpa [byteV] using h0) hl
  · rw [run_convert_bytes_string w _ _ 5 _ _ _ Tryz.underlying22 Tryz.underlying5 Tryz.underlying9, run_bytesToString w _ _ _ (l.map fun b => (b.toNat : Int))]
    · congr 2
      have := foldl_push l ByteArray.empty
      rw [show ByteArray.empty.data.toList = [] from rfl, List.nil_append] at this
      unfold bs
      apply ByteArray.ext
      exact Array.toList_inj.1 (by rw [this])
    · have e : (l.map fun b => (b.toNat : Int)).map (Value.int .u8) = byteV l := by simp [byteV]
      rw [e]
      refine run_loadCells_list w ⟨g, 0, none⟩ (byteV l) ?_
      · intro j v hv
        obtain ⟨hj, rfl⟩ := List.getElem?_eq_some_iff.1 hv
        rcases hr.cells with h0 | ⟨b, o, e1, hc⟩
        · rw [h0] at hj; simp at hj
        · simp only [Option.some.injEq, Addr.mk.injEq, and_true] at e1
          obtain ⟨rfl, rfl⟩ := e1
          rw [Addr.add_lit, hc j hj]
/-- a number's digits, without those of 0 -/
def full (n : Int) : List UInt8 := if n = 0 then [] else Lib.decDigits n.natAbs
theorem full_step {k : Int} (h : k ≠ 0) : full k = full (k.tdiv 10) ++ [UInt8.ofNat (48 + k.natAbs % 10)] := by
  have hq : (k.tdiv 10).natAbs = k.natAbs / 10 := Int.natAbs_tdiv k 10
  unfold full
  rw [if_neg h, Lib.decDigits]
  by_cases h10 : k.natAbs < 10
  · rw [dif_pos h10, if_pos (by omega), Nat.mod_eq_of_lt h10]
    rfl
  · rw [dif_neg h10, if_neg (by omega), hq]
theorem full_itoa (n : Int) : Lib.itoa n = if n = 0 then [48] else if n < 0 then 45 :: full n else full n := by
  unfold Lib.itoa full
  by_cases h : n = 0
  · subst h; rw [if_neg (by omega), if_pos rfl]; exact Lib.decDigits_one (by decide : 0 < 10)
  · rw [if_neg h, if_neg h]
    split
    · rfl
    · congr 1
      omega
theorem full_len {k : Int} (h : I64 k) : (full k).length ≤ 20 := by
  unfold full
  unfold I64 at h
  split
  · simp
  · rw [Lib.decDigits_length]
    exact Lib.nDigits_le20 _ (by omega)
end Go.Proofs.YtaapkpjokmoekaaGreatDoor

namespace Go.Proofs.YtaapkpjokmoekaaGreatDoor
open Go.ChangeShapes Go.WideShapes Go.ChangeAt Go.RowKit Go.Sort
set_option linter.unusedVariables false
set_option linter.unusedSimpArgs false

theorem run_append_strN (w : World) (ty : TypeId) {B : Nat} {v : Value} {L : List Value} {y : ByteArray} (hown : OwnV B w 9 v L) {b o : Nat} (hr : w.cell? ⟨b, o, none⟩ = some (.string y)) (hlen : L.length < 1099511627776) (hB : B ≤ w.heap.size) :
    ∃ v' w', (Builtin.append_ #[80, 80] ty #[v, .slice (some ⟨b, o, none⟩) 1 1]).run Tryz.prog w = .ok v' w' ∧ OwnV B w' 9 v' (L ++ [.string y]) ∧ w.grownBy w' v.ownBlock ∧ (∀ k, v'.ownBlock = some k → v.ownBlock = some k ∨ w.heap.size ≤ k) := by
  obtain ⟨i0, hi, hz0, hz1, hz2⟩ := info_parts infoS
  have e1 : (L ++ [Value.string y]).length = L.length + 1 := by simp
  have hnews : ∀ j u, ([Value.string y] : List Value)[j]? = some u → w.cell? ((⟨b, o, none⟩ : Addr).add j) = some u := by
    intro j u hu
    cases j with
    | zero => simp at hu; subst hu; rw [Addr.add_lit, Nat.add_zero]; exact hr
    | succ j => simp at hu
  have hone : ∀ u ∈ ([Value.string y] : List Value), u.oneCell' = true := by
    intro u hu; obtain rfl := List.mem_singleton.1 hu; rfl
  rcases hown.cases with ⟨rfl, rfl⟩ | ⟨g, cap, rfl, hBg, hgl, hcur, hrd⟩
  · obtain ⟨v', w', h1, h2, h3, _⟩ := run_append_own (P := Tryz.prog) w w.heap.size 80 ty 9 i0 (.string ByteArray.empty) 1 16 Tryz.underlying80 hi hz0 hz1 hz2 rfl (by decide) (.slice none 0 0) 0 [] (World.ownsRow_nil w w.heap.size _ 1) ⟨b, o, none⟩ 1 1 [.string y] (by simp) hnews hone (by simp [maxLen]) (by omega) (Nat.le_refl _)
    have ho : OwnV w.heap.size w' 9 v' [.string y] := by simpa [OwnV] using h2
    exact ⟨v', w', h1, by simpa using ho.mono hB, h3, fun k hk => .inr (ho.lt hk).1⟩
  · by_cases hroom : L.length + 1 ≤ cap
    · obtain ⟨w', h1, h2, h3⟩ := run_append_own_spare (P := Tryz.prog) w B 80 ty 9 i0 1 Tryz.underlying80 hi hz1 g L.length cap L hown ⟨b, o, none⟩ 1 1 [.string y] (by simp) hnews hone hroom
      exact ⟨_, w', h1, by rw [OwnV, e1]; exact h2, h3, fun k hk => .inl hk⟩
    · have hc : ∀ j u, L[j]? = some u → w.cell? ((⟨g, 0, none⟩ : Addr).add j) = some u := by
        intro j u hu
        obtain ⟨hj, rfl⟩ := List.getElem?_eq_some_iff.1 hu
        rcases hrd.cells with h0 | ⟨b', o', e', hc'⟩
        · rw [h0] at hj; simp at hj
        · simp only [Option.some.injEq, Addr.mk.injEq, and_true] at e'
          obtain ⟨rfl, rfl⟩ := e'
          rw [Addr.add_lit, hc' j hj]
      obtain ⟨v', w', h1, h2, h3⟩ := run_append_arg_grows (P := Tryz.prog) w 80 ty 9 i0 (.string ByteArray.empty) 1 16 Tryz.underlying80 hi hz0 hz1 hz2 rfl (by decide) ⟨g, 0, none⟩ L.length cap L (by simp) hc ⟨b, o, none⟩ 1 1 [.string y] (by simp) hnews (by omega) (by simp only [maxLen]; omega) (by omega)
      have ho : OwnV w.heap.size w' 9 v' (L ++ [.string y]) := by rw [OwnV, e1]; exact h2
      exact ⟨v', w', h1, ho.mono hB, ⟨h3.os, h3.tape, h3.output, h3.size, fun k hk _ => h3.block k hk (by simp)⟩, fun k hk => .inr (ho.lt hk).1⟩

theorem wpList_append_strN {ops : Array Oper} {rest : List Oper} {o : Oper} {a : Act} {Q : Exit → Act → World → Prop} {w : World} {y : ByteArray} (hgd : o.guard = none) (s x : Operand)
    (ho : o.op = .call { callee := .builtin .append, args := #[s, x], argTypes := #[80, 80] })
    {B B0 : Nat} {w0 : World} {v : Value} {L : List Value} (hs : a.eval s = v) (hown : OwnV B w 9 v L) (hx : a.eval x = .slice (some ⟨w.heap.size, 0, none⟩) 1 1) (hbel : Below B0 w0 w) (hlen : L.length < 1099511627776) (hB : B ≤ w.heap.size) (hB0 : B0 ≤ B)
    (h : ∀ v' w', OwnV B w' 9 v' (L ++ [.string y]) → Below B0 w0 w' → w.heap.size ≤ w'.heap.size → (∀ k, k < w.heap.size → v.ownBlock ≠ some k → w'.heap[k]? = w.heap[k]?) → (∀ k, v'.ownBlock = some k → v.ownBlock = some k ∨ w.heap.size ≤ k) → wpList Tryz.prog ops Q rest (a.put o.dst v') w') : wpList Tryz.prog ops Q (o :: rest) a (w.alloc (.cells #[.string y] 9)) := by
  refine wpList_plain hgd fun K hK => ?_
  obtain ⟨v', w', h1, h2, h3, h4⟩ := run_append_strN (w.alloc (.cells #[.string y] 9)) o.type (hown.keep fun k hk => Below.heap_alloc _ _ _ (hown.lt hk).2) (b := w.heap.size) (o := 0) (y := y) ((Box.new w [.string y] 9).cell 0 rfl) hlen (by simp; omega)
  unfold Oper.wp execOp
  simp only [ho, resolve, invoke, builtin, Sem.run_bind, Sem.run_pure, Result.andThen_ok, List.map_toArray, List.map_cons, List.map_nil, hs, hx, h1]
  refine hK _ _ (h v' w' h2 ((hbel.alloc (by omega) _).grown h3 (by simp; omega) fun k hk => ?_) ?_ (fun k hk hne => ?_) fun k hk => ?_)
  · have := (hown.lt hk).1; omega
  · have := h3.size; simp at this; omega
  · exact (h3.block k (by simp; omega) (fun e => hne e.symm)).trans (Below.heap_alloc _ _ _ hk)
  · rcases h4 k hk with h | h
    · exact .inl h
    · exact .inr (by simp at h; omega)
/-- the parts of a text between blanks -/
def partsB (s : ByteArray) : List ByteArray := Lib.splitB ⟨#[32]⟩ 0 (Lib.countB s ⟨#[32]⟩) s
def nzB (x : ByteArray) : Bool := decide (x ≠ ⟨#[]⟩)
/-- the words of a text -/
def wordsB (s : ByteArray) : List ByteArray := (partsB s).filter nzB
theorem partsB_length (s : ByteArray) : (partsB s).length = Lib.countB s ⟨#[32]⟩ + 1 := Lib.splitB_all _ (by decide) 0 _ s rfl
theorem partsB_le (s : ByteArray) : (partsB s).length ≤ s.size + 1 := by
  rw [partsB_length]
  have := Lib.countB_le ⟨#[32]⟩ (by decide) s.size s (Nat.le_refl _)
  omega
def strB (xs : List ByteArray) : List Value := xs.map Value.string
set_option maxHeartbeats 4000000 in
set_option maxRecDepth 100000 in
theorem splitWords_any (s : ByteArray) (w : World) (hs : s.size ≤ 1048576) (hC : TxtC w) :
    Calls Tryz.prog 54 #[.string s] w fun e w' => ∃ u, e = .returned u ∧ OwnV w.heap.size w' 9 u (strB (wordsB s)) ∧ Below w.heap.size w w' := by
  obtain ⟨m, hm⟩ := hC
  obtain ⟨E1, hE1⟩ : ∃ E, E = w.alloc (.cells #[] 9) := ⟨_, rfl⟩
  have hb1 : Below w.heap.size w E1 := by rw [hE1]; exact (Below.refl _ _).alloc (Nat.le_refl _) _
  have O1 : Hid (OwnV w.heap.size E1 9 (.slice (some ⟨w.heap.size, 0, none⟩) 0 0) []) := by
    have h := World.ownsRow_lit (base := w.heap.size) (e := 9) (size := 1) w #[] 0 (Nat.le_refl _) (by simp [maxLen]) (by simp)
    rw [hE1]
    simpa [Hid, OwnV] using h
  have hm1 := (hb1.cell (World.block_lt_of_cell? w _ hm)).trans hm
  obtain ⟨g, hg⟩ : ∃ g, g = E1.heap.size := ⟨_, rfl⟩
  obtain ⟨P, hP⟩ : ∃ P, P = partsB s := ⟨_, rfl⟩
  have hPl : P.length ≤ 1048577 := by rw [hP]; have := partsB_le s; omega
  obtain ⟨E2, hE2⟩ : ∃ E, E = E1.alloc (.cells (P.map Value.string).toArray 9) := ⟨_, rfl⟩
  have hb12 : Below E1.heap.size E1 E2 := by rw [hE2]; exact (Below.refl _ _).alloc (Nat.le_refl _) _
  have SP : Hid (Calls Tryz.prog 52 #[.string s, .string ⟨#[32]⟩] E1 fun e w' => e = .returned (.slice (some ⟨g, 0, none⟩) P.length P.length) ∧ w' = E2) := by
    have h := Tryz.strings_Split s ⟨#[32]⟩ m E1 (by omega) hm1 (by decide)
    have e1 : Lib.splitB ⟨#[32]⟩ 0 (Lib.countB s ⟨#[32]⟩) s = P := hP.symm
    have e2 : Lib.countB s ⟨#[32]⟩ + 1 = P.length := by rw [hP, partsB_length]
    rw [e1, e2, ← hE2, ← hg] at h
    exact h
  have hsrc : Hid (E2.heap[g]? = some (.cells (P.map Value.string).toArray 9 (0, 0))) := by
    rw [hE2, hg]; exact heap_alloc_new E1 _
  have hgw : w.heap.size < g := by rw [hg, hE1]; simp
  have HW : Hid (wordsB s = P.filter nzB) := by rw [hP]; rfl
  have hb2 : Below w.heap.size w E2 := hb1.trans (hb12.mono hb1.size)
  have O2 : Hid (OwnV w.heap.size E2 9 (.slice (some ⟨w.heap.size, 0, none⟩) 0 0) []) := OwnV.below O1.out hb12
  have HE1 := Lib.hid hE1
  have HB2 := Lib.hid hb2
  clear hE1 hg hP hE2 hb1 O1 hm hm1 hb12 hb2
  go_enter Tryz.func54, Tryz.ntmps54
  go_upto_region 2 with fail
  rw [← HE1.out]
  go_wp2_with (first | (go_at_call 52; refine SP.out.mono ?_; rintro e w' ⟨rfl, hw⟩; rw [hw]) | fail)
  go_loopw [3, 10] (fun v i wr => ∃ (k : Nat) (u : Value), k ≤ P.length ∧ v = u ∧ i = .int .i64 (k : Int) ∧ Hid (OwnV w.heap.size wr 9 u (strB ((P.take k).filter nzB))) ∧ Hid (u.ownBlock ≠ some g) ∧ Hid (wr.heap[g]? = some (.cells (P.map Value.string).toArray 9 (0, 0))) ∧ Below w.heap.size w wr) (fun _ i _ => ((P.length : Int) - intOf i).toNat)
  case atStart => exact ⟨0, _, Nat.zero_le _, rfl, rfl, O2, by unfold Hid; intro h; simp [Value.ownBlock] at h; omega, hsrc, HB2.out⟩
  case round =>
    obtain ⟨k, v, hk, hv, rfl, HK, HNE, HSRC, hbel⟩ := hrel
    obtain rfl := hv.symm
    clear hsrc O2 HB2
    have hsz := hbel.size
    by_cases hkt : k < P.length
    · have hck : wr.cell? ⟨g, k, none⟩ = some (.string P[k]) := by
        rw [cell_of_row wr g k _ _ _ HSRC.out]
        simp [hkt]
      have hgl : g < wr.heap.size := (Array.getElem?_eq_some_iff.1 HSRC.out).1
      by_cases hz : P[k] = ⟨#[]⟩
      · have HM : Hid ((P.take (k + 1)).filter nzB = (P.take k).filter nzB) := by
          unfold Hid
          rw [List.take_succ_eq_append_getElem hkt, List.filter_append]
          have : nzB P[k] = false := by rw [hz]; rfl
          simp [this]
        rw [hz] at hck
        clear hz
        go_wp2_with fail
        go_roundw
        case rel => exact ⟨k + 1, _, by omega, rfl, by go_num, by unfold Hid; rw [HM.out]; exact HK.out, HNE, HSRC, hbel⟩
        case measure => simp [intOf] <;> omega
      · have HM : Hid (strB ((P.take (k + 1)).filter nzB) = strB ((P.take k).filter nzB) ++ [.string P[k]]) := by
          unfold Hid strB
          rw [List.take_succ_eq_append_getElem hkt, List.filter_append, List.map_append]
          have : nzB P[k] = true := by simp [nzB, hz]
          simp [this]
        have hqe : (P[k]).toList.isEmpty = false := by
          rw [List.isEmpty_eq_false_iff]
          intro h
          exact hz (str_ext (by rw [h, ByteArray.toList_eq]))
        have hLl : Hid ((strB ((P.take k).filter nzB)).length < 1099511627776) := by
          have := List.length_filter_le nzB (P.take k)
          unfold Hid strB
          simp at this ⊢
          omega
        generalize P[k] = x at hck hqe HM
        clear hz
        have hown1 := HK.out
        go_wp2_with (first
          | (at_builtin; refine wpList_append_strN rfl _ _ rfl rfl hown1 rfl hbel hLl.out hsz (Nat.le_refl _) ?_; intro v' w2 ho2 hb2 hz2 hk2 hn2)
          | fail)
        go_roundw
        case rel =>
          refine ⟨k + 1, _, by omega, rfl, by go_num, by unfold Hid; rw [HM.out]; exact ho2, ?_, ?_, hb2⟩
          · intro h
            rcases hn2 _ h with h' | h'
            · exact HNE.out h'
            · omega
          · exact (hk2 g hgl HNE.out).trans HSRC.out
        case measure => simp [intOf] <;> omega
    · obtain rfl : k = P.length := by omega
      go_wp2_with fail
      go_ret
      exact ⟨_, rfl, by rw [HW.out]; have := HK.out; rwa [List.take_length] at this, hbel⟩
def decsB (xs : List ByteArray) : Option (List Int) := xs.mapM fun x => readDec x.data.toList
theorem decsB_snoc (xs : List ByteArray) (x : ByteArray) : decsB (xs ++ [x]) = (decsB xs).bind fun ns => (readDec x.data.toList).bind fun n => some (ns ++ [n]) := by
  unfold decsB
  rw [List.mapM_append]
  cases xs.mapM (fun x => readDec x.data.toList) with
  | none => rfl
  | some ns => cases h : readDec x.data.toList <;> simp [h]
theorem decsB_none {xs ys : List ByteArray} (h : decsB xs = none) : decsB (xs ++ ys) = none := by
  unfold decsB at h ⊢
  rw [List.mapM_append, h]
  rfl
theorem decsB_len : ∀ (xs : List ByteArray) (ns : List Int), decsB xs = some ns → ns.length = xs.length := by
  intro xs
  induction xs with
  | nil => intro ns h; simp [decsB] at h; subst h; rfl
  | cons x xs ih =>
    intro ns h
    simp only [decsB, List.mapM_cons] at h
    cases hx : readDec x.data.toList with
    | none => rw [hx] at h; simp at h
    | some n =>
      rw [hx] at h
      cases hr : xs.mapM (fun x => readDec x.data.toList) with
      | none => rw [hr] at h; simp at h
      | some ms =>
        rw [hr] at h
        simp at h
        subst h
        simp [ih ms hr]
/-- numbers were read, or none -/
def RetNums (w : World) (xs : List ByteArray) (e : Ending) (w' : World) : Prop :=
  Below w.heap.size w w' ∧ match decsB xs with
    | some ns => ∃ u, e = .returned (.tuple #[u, .bool true]) ∧ OwnI w.heap.size w' u ns
    | none => e = .returned (.tuple #[.slice none 0 0, .bool false])
set_option maxHeartbeats 4000000 in
set_option maxRecDepth 100000 in
theorem readNumbers_any {p : Option Addr} {c : Nat} {xs : List ByteArray} (w : World) (h : RdV w p (strB xs)) (hn : xs.length ≤ 1048577) (hs : ∀ x ∈ xs, x.size ≤ 281474976710656) (hT : TxtT w) (hE : TxtE w) :
    Calls Tryz.prog 56 #[.slice p xs.length c] w (RetNums w xs) := by
  have HN : Hid (∀ k, k ≤ xs.length → decsB (xs.take k) = none → decsB xs = none) := fun k hk hd => by
    have := decsB_none (ys := xs.drop k) hd
    rwa [List.take_append_drop] at this
  have RD : Hid (∀ W k, (hk : k < xs.length) → TxtT W → TxtE W → Calls Tryz.prog 88 #[.string xs[k]] W fun e w' => e = .returned (decV xs[k].data.toList) ∧ Below W.heap.size W w') := fun W k hk h1 h2 => readDecimal_any _ (hs _ (List.getElem_mem hk)) W h1 h2
  have O0 : Hid (OwnI w.heap.size (w.alloc (.cells #[] 2)) (.slice (some ⟨w.heap.size, 0, none⟩) 0 0) []) := OwnI.lit w [] (Nat.le_refl _) (by simp [maxLen])
  have HR := Lib.hid h
  have HT := Lib.hid hT
  have HEE := Lib.hid hE
  have HRes : Hid (∀ e w', (Below w.heap.size w w' ∧ match decsB xs with
    | some ns => ∃ u, e = .returned (.tuple #[u, .bool true]) ∧ OwnI w.heap.size w' u ns
    | none => e = .returned (.tuple #[.slice none 0 0, .bool false])) → RetNums w xs e w') := fun e w' h => h
  clear h hT hE hs
  generalize RetNums w xs = RR at *
  go_enter Tryz.func56, Tryz.ntmps56
  go_wp2_with fail
  go_loopw [4, 12] (fun v i wr => ∃ (k : Nat) (u : Value) (ns : List Int), k ≤ xs.length ∧ v = u ∧ i = .int .i64 (k : Int) ∧ Hid (decsB (xs.take k) = some ns) ∧ Hid (OwnI w.heap.size wr u ns) ∧ Below w.heap.size w wr) (fun _ i _ => ((xs.length : Int) - intOf i).toNat)
  case atStart => exact ⟨0, _, [], Nat.zero_le _, rfl, rfl, by simp [Hid, decsB], O0, (Below.refl _ _).alloc (Nat.le_refl _) _⟩
  case round =>
    obtain ⟨k, v, ns, hk, hv, rfl, HD, HO, hbel⟩ := hrel
    obtain rfl := hv.symm
    clear O0
    have hsz := hbel.size
    by_cases hkt : k < xs.length
    · have hr : RdV wr p (strB xs) := HR.out.keep fun b o e hb => hbel.block b hb
      have hkl : k < (strB xs).length := by simpa [strB] using hkt
      obtain ⟨b, o, rfl, hb, hc⟩ := hr.pos hkl
      have hck : wr.cell? ⟨b, o + k, none⟩ = some (.string xs[k]) := by
        rw [hc k hkl]
        simp [strB]
      have hblt := World.block_lt_of_cell? _ _ hck
      have DK := Lib.hid (RD.out wr k hkt (HT.out.below hbel) (HEE.out.below hbel))
      have hlen := decsB_len _ _ HD.out
      have HS : Hid (decsB (xs.take (k + 1)) = (readDec xs[k].data.toList).bind fun n => some (ns ++ [n])) := by
        unfold Hid
        rw [List.take_succ_eq_append_getElem hkt, decsB_snoc, HD.out]
        rfl
      clear hc hr
      cases hx : readDec xs[k].data.toList with
      | none =>
        rw [decV_none hx] at DK
        rw [hx] at HS
        have hnone := HN.out (k + 1) (by omega) HS.out
        generalize xs[k] = x at hck DK
        clear hx hlen
        go_wp2_with (first | (go_at_call 88; refine DK.out.mono ?_; rintro e w1 ⟨rfl, hB1⟩) | fail)
        refine HRes.out _ _ ⟨hbel.trans (hB1.mono hsz), ?_⟩
        rw [hnone]
        rfl
      | some n =>
        rw [decV_some hx] at DK
        rw [hx] at HS
        have HS' : Hid (decsB (xs.take (k + 1)) = some (ns ++ [n])) := HS.out
        have hLn : Hid (ns.length < 17592186044415) := by rw [hlen]; unfold Hid; simp; omega
        generalize xs[k] = x at hck DK
        clear hx hlen HS
        go_wp2_with (first
          | (go_at_call 88; refine DK.out.mono ?_; rintro e w1 ⟨rfl, hB1⟩; have hown1 := OwnI.below HO.out hB1; have hb1 : Below w.heap.size w w1 := hbel.trans (hB1.mono hsz); have hz1 := hb1.size)
          | (at_builtin; refine wpList_append_one rfl _ _ rfl rfl hown1 rfl hb1 hLn.out hz1 (Nat.le_refl _) ?_; intro v' w2 ho2 hb2 hz2 hk2)
          | fail)
        go_roundw
        case rel => exact ⟨k + 1, _, _, by omega, rfl, by go_num, HS', ho2, hb2⟩
        case measure => simp [intOf] <;> omega
    · obtain rfl : k = xs.length := by omega
      have hd : decsB xs = some ns := by have := HD.out; rwa [List.take_length] at this
      have HDD := Lib.hid hd
      clear hd
      go_wp2_with fail
      refine HRes.out _ _ ⟨hbel, ?_⟩
      rw [HDD.out]
      exact ⟨_, rfl, HO.out⟩
end Go.Proofs.YtaapkpjokmoekaaGreatDoor

namespace Go.Proofs.YtaapkpjokmoekaaGreatDoor
open Go.ChangeShapes Go.WideShapes Go.ChangeAt Go.RowKit Go.Sort
set_option linter.unusedVariables false

def nmL (i : Nat) : List UInt8 := (kNm i).data.toList
theorem kNm_bs (i : Nat) : kNm i = bs (nmL i) := by
  unfold bs nmL
  apply ByteArray.ext
  simp
theorem nmL_len {i : Nat} (hi : i < 17) : (nmL i).length ≤ 6 := by
  rcases seventeen hi with rfl | rfl | rfl | rfl | rfl | rfl | rfl | rfl | rfl | rfl | rfl | rfl | rfl | rfl | rfl | rfl | rfl <;> decide
/-- the words of a node's text -/
def wordsN (i : Nat) (a b : Int) (src : List Int) : List (List UInt8) :=
  [nmL i] ++ (if kLo i ≤ kHi i then [Lib.itoa a] else []) ++ (if kBb i = true then [Lib.itoa b] else []) ++ (if src = [] then [] else [[111, 102], numStr src])
/-- a node's text -/
def nodeStr (x : NodeD) : List UInt8 := Lib.join (wordsN (x.kind - 1).toNat x.a x.b x.src) [32]
theorem nodeStr_eq (i : Nat) (a b : Int) (src : List Int) : Lib.join (wordsN i a b src) [32] =
    nmL i ++ (if kLo i ≤ kHi i then 32 :: Lib.itoa a else []) ++ (if kBb i = true then 32 :: Lib.itoa b else []) ++ (if src = [] then [] else [32, 111, 102, 32] ++ numStr src) := by
  unfold wordsN
  by_cases h1 : kLo i ≤ kHi i <;> by_cases h2 : kBb i = true <;> by_cases h3 : src = [] <;> simp [h1, h2, h3, Lib.join_cons, Lib.joinTail]
theorem nodeB_bounds {x : NodeD} {t : Int} (h : nodeB x t = true) : I64 x.a ∧ I64 x.b ∧ AllI x.src ∧ x.src.length ≤ 3 := by
  unfold nodeB at h
  simp only [Bool.and_eq_true, decide_eq_true_eq] at h
  obtain ⟨⟨⟨⟨hk, hab⟩, hs⟩, hl⟩, -⟩ := h
  obtain ⟨i, hi, he⟩ := kind_of_in hk
  have e : (x.kind - 1).toNat = i := by omega
  rw [e] at hab hl
  unfold abB at hab
  simp only [Bool.and_eq_true] at hab
  obtain ⟨ha, hb⟩ := hab
  refine ⟨?_, ?_, ?_, ?_⟩
  · unfold I64
    split at ha
    · have h1 := inB_iff.1 ha
      have h2 : -2147483648 ≤ kLo i ∧ kHi i ≤ 2147483647 := by
        rcases seventeen hi with rfl | rfl | rfl | rfl | rfl | rfl | rfl | rfl | rfl | rfl | rfl | rfl | rfl | rfl | rfl | rfl | rfl <;> decide
      omega
    · have : x.a = 0 := by simpa using ha
      omega
  · unfold I64
    split at hb
    · have h1 := inB_iff.1 hb
      omega
    · have : x.b = 0 := by simpa using hb
      omega
  · intro y hy
    have := inB_iff.1 (List.all_eq_true.1 hs y hy)
    unfold I64
    omega
  · have h2 : kAr i ≤ 3 := by
      rcases seventeen hi with rfl | rfl | rfl | rfl | rfl | rfl | rfl | rfl | rfl | rfl | rfl | rfl | rfl | rfl | rfl | rfl | rfl <;> decide
    omega
theorem nodeStr_len {i : Nat} (hi : i < 17) {a b : Int} {src : List Int} (ha : I64 a) (hb : I64 b) (hs : AllI src) (hl : src.length ≤ 3) : (Lib.join (wordsN i a b src) [32]).length ≤ 200 := by
  rw [nodeStr_eq]
  have h1 := nmL_len hi
  have h2 := Lib.itoa_length_le a ha.1 ha.2
  have h3 := Lib.itoa_length_le b hb.1 hb.2
  have h4 := numStr_length hs
  split <;> split <;> split <;> simp only [List.length_append, List.length_cons, List.length_nil] <;> omega
theorem two_one (s t : ByteArray) : ∀ u ∈ [Value.string s, Value.string t], u.oneCell' = true := by
  intro u hu
  simp only [List.mem_cons, List.not_mem_nil, or_false] at hu
  rcases hu with rfl | rfl <;> rfl
theorem two_len {u v : Value} : [u, v].length ≤ 16 := by simp
theorem kinds_ex' (w : World) :
    Calls Tryz.prog 78 #[] w fun e w' => ∃ g, e = .returned (.slice (some ⟨g, 0, none⟩) 17 17) ∧ KindCells w' g ∧ w.heap.size ≤ g ∧ Below w.heap.size w w' :=
  (kinds_any w).mono fun _ _ h => ⟨_, h.1, h.2.1, Nat.le_refl _, h.2.2⟩
set_option maxHeartbeats 16000000 in
set_option maxRecDepth 100000 in
theorem nodeText_in {p : Option Addr} {c : Nat} {src : List Int} (i : Nat) (hi : i < 17) (a b : Int) (w : World) (r : RdI w p src) (ha : I64 a) (hb64 : I64 b) (hs : AllI src) (hsl : src.length ≤ 3) (hT : TxtT w) :
    Calls Tryz.prog 59 #[.agg #[.int .i64 ((i : Int) + 1), .int .i64 a, .int .i64 b, .slice p src.length c]] w fun e w' => e = .returned (.string (bs (Lib.join (wordsN i a b src) [32]))) ∧ Below w.heap.size w w' := by
  have hlen := nodeStr_len hi ha hb64 hs hsl
  obtain ⟨E0, hE0⟩ : ∃ E, E = w.alloc (.cells #[.int .i64 ((i : Int) + 1), .int .i64 a, .int .i64 b, .slice p src.length c] 35) := ⟨_, rfl⟩
  have hB0 : Below w.heap.size w E0 := by rw [hE0]; exact (Below.refl _ _).alloc (Nat.le_refl _) _
  have ba0 : Box E0 w.heap.size [.int .i64 ((i : Int) + 1), .int .i64 a, .int .i64 b, .slice p src.length c] 35 := by rw [hE0]; exact Box.newAt w [.int .i64 ((i : Int) + 1), .int .i64 a, .int .i64 b, .slice p src.length c] _ rfl
  have HE0 := Lib.hid hE0
  have hres := Lib.hid (rfl : Lib.join (wordsN i a b src) [32] = Lib.join (wordsN i a b src) [32])
  clear hE0
  go_enter Tryz.func59, Tryz.ntmps59
  go_upto_region 1 with fail
  rw [← HE0.out]
  go_cut [3] (fun v wr => ∃ g, v = .pointer (some ⟨g, 0, none⟩) ∧ Box wr g [.string (kNm i), .int .i64 (kAr i), .int .i64 (kLo i), .int .i64 (kHi i), .bool (kLi i), .bool (kBb i)] 106 ∧ Below E0.heap.size E0 wr)
  case first =>
    have z0 := ba0.cell 0 rfl
    have w1 : IntKind.i64.wrap ((i : Int) + 1 - 1) = (i : Int) := by rw [IntWalk.i64_in _ (by omega)]; omega
    have w5 : IntKind.i64.wrap (i : Int) = (i : Int) := IntWalk.i64_in _ (by omega)
    have w2 : (0 : Int) ≤ (i : Int) := by omega
    have w3 : (i : Int) < 17 := by omega
    have w4 : ((i : Int)).toNat = i := by omega
    have hwl0 := ba0.lt
    go_region_with (first | (go_at_call 78; refine (kinds_ex' E0.drew).mono ?_; rintro e F1 ⟨g, rfl, hc, hg, hb⟩; have hb0 : Below E0.heap.size E0 F1 := below_drew' hb; have ba1 := ba0.below hb0; have y0 := ba1.cell 0 rfl; have hwl := ba1.lt; have hq := hc i hi; obtain ⟨k0, k1, k2, k3, k4, k5⟩ := hq; have hgl : g < F1.heap.size := World.block_lt_of_cell? _ _ k0; clear hc) | (go_at_call 78; refine (kinds_ex' _).mono ?_; rintro e F1 ⟨g, rfl, hc, hg, hb⟩; have hb0 : Below E0.heap.size E0 F1 := ((Below.refl _ _).alloc (Nat.le_refl _) _).trans ((below_drew' hb).mono (by simp)); have bz := (Box.newAt E0 [.string ⟨#[]⟩, .int .i64 0, .int .i64 0, .int .i64 0, .bool false, .bool false] 106 rfl).below (below_drew' hb); have ba1 := (ba0.alloc (.cells #[.string ⟨#[]⟩, .int .i64 0, .int .i64 0, .int .i64 0, .bool false, .bool false] 106)).below (below_drew' hb); have u0 := bz.cell 0 rfl; have u1 := bz.cell 1 rfl; have u2 := bz.cell 2 rfl; have u3 := bz.cell 3 rfl; have u4 := bz.cell 4 rfl; have u5 := bz.cell 5 rfl; have hgz : g ≠ E0.heap.size := (by simp at hg; omega); have hzl := bz.lt; have fz := bz.frozen; have y0 := ba1.cell 0 rfl; have hwl := ba1.lt; have hq := hc i hi; obtain ⟨k0, k1, k2, k3, k4, k5⟩ := hq; have hgl : g < F1.heap.size := World.block_lt_of_cell? _ _ k0; clear hc))
    all_goals (go_wp2_with fail)
    all_goals go_meet
    all_goals refine ⟨_, rfl, ?_, ?_⟩
    all_goals clear HE0 hres hlen
    all_goals first
      | (with_reducible exact Box.newAt F1 [.string (kNm i), .int .i64 (kAr i), .int .i64 (kLo i), .int .i64 (kHi i), .bool (kLi i), .bool (kBb i)] _ rfl)
      | (with_reducible exact hb0.alloc hb0.size _)
      | exact ((((((bz.set 0 (.string (kNm i))).set 1 (.int .i64 (kAr i))).set 2 (.int .i64 (kLo i))).set 3 (.int .i64 (kHi i))).set 4 (.bool (kLi i))).set 5 (.bool (kBb i)))
      | (with_reducible exact (((((hb0.setCell (Nat.le_refl _) _).setCell (Nat.le_refl _) _).setCell (Nat.le_refl _) _).setCell (Nat.le_refl _) _).setCell (Nat.le_refl _) _).setCell (Nat.le_refl _) _)
  case rest =>
    obtain ⟨g, rfl, bk, hb⟩ := hcut
    obtain ⟨E1, rfl⟩ : ∃ E, E = wc := ⟨_, rfl⟩
    have ba := ba0.below hb
    have hB1 := hB0.trans (hb.mono hB0.size)
    have HS1 : Hid (w.heap.size ≤ E1.heap.size) := hB1.size
    have HT1 := Lib.hid (hT.below hB1)
    have HR1 := Lib.hid (r.below hB1)
    have HB1 := Lib.hid hB1
    clear hb ba0 hB0 hB1 hT r HE0
    rw [kNm_bs] at bk
    have HK := Lib.hid (show nmL i = nmL i from rfl)
    have DA : Hid (∀ W, TxtT W → Calls Tryz.prog 57 #[.int .i64 a] W fun e w' => e = .returned (.string (bs (Lib.itoa a))) ∧ Below W.heap.size W w') := fun W hW => decimal_any a ha.1 ha.2 W hW
    have DB : Hid (∀ W, TxtT W → Calls Tryz.prog 57 #[.int .i64 b] W fun e w' => e = .returned (.string (bs (Lib.itoa b))) ∧ Below W.heap.size W w') := fun W hW => decimal_any b hb64.1 hb64.2 W hW
    have NT : Hid (∀ W, RdI W p src → TxtT W → Calls Tryz.prog 90 #[.slice p src.length c] W fun e w' => e = .returned (.string (bs (numStr src))) ∧ Below W.heap.size W w') := fun W h1 h2 => numbersText_any W h1 hs (by omega) h2
    have HA : Hid (∀ W lo hi (l b : Bool), Calls Tryz.prog 79 #[.agg #[.string (bs (nmL i)), .int .i64 (kAr i), .int .i64 lo, .int .i64 hi, .bool l, .bool b]] W fun e w' => e = .returned (.bool (decide (lo ≤ hi))) ∧ Below W.heap.size W w') := fun W lo hi l b => hasA_any _ _ _ _ _ _ W
    have JN : Hid (∀ W B v ss, ss = wordsN i a b src → OwnV B W 9 v (ss.map fun l => Value.string (bs l)) → Calls Tryz.prog 60 #[v, .string ⟨#[32]⟩] W fun e w' => e = .returned (.string (bs (Lib.join (wordsN i a b src) [32]))) ∧ Below W.heap.size W w') := fun W B v ss e h => by
      subst e
      refine join_any [32] W h ?_ (by omega)
      unfold wordsN
      split <;> split <;> split <;> simp
    have HW : Hid (∀ (hA : kLo i ≤ kHi i) , True) := fun _ => trivial
    have O0 : Hid (OwnV E1.heap.size (E1.alloc (.cells #[.string (bs (nmL i))] 9)) 9 (.slice (some ⟨E1.heap.size, 0, none⟩) 1 1) ([nmL i].map fun l => Value.string (bs l))) := OwnW.lit E1 [nmL i] (Nat.le_refl _) (by simp [maxLen])
    have W0 : Hid (∀ ss, ss = [nmL i] ++ (if kLo i ≤ kHi i then [Lib.itoa a] else []) ++ (if kBb i = true then [Lib.itoa b] else []) ++ (if src = [] then [] else [[111, 102], numStr src]) → ss = wordsN i a b src) := fun ss h => h
    have HL0 : Hid (src.length ≤ 3) := hsl
    have wa0 := ba.lt
    have wk0 := bk.lt
    have HBA := Lib.hid ba
    have HBK := Lib.hid bk
    clear ha hb64 hs hres hlen hsl
    obtain ⟨ws, hws⟩ : ∃ ws, ws = wordsN i a b src := ⟨_, rfl⟩
    rw [← hws] at JN W0
    have HWS := Lib.hid hws
    clear hws
    obtain ⟨nm, hnm⟩ : ∃ nm, nm = nmL i := ⟨_, rfl⟩
    rw [← hnm] at bk HBK HA O0 W0
    clear hnm
    obtain ⟨NA, hNA⟩ : ∃ N, N = Lib.itoa a := ⟨_, rfl⟩
    obtain ⟨NB, hNB⟩ : ∃ N, N = Lib.itoa b := ⟨_, rfl⟩
    obtain ⟨NS, hNS⟩ : ∃ N, N = numStr src := ⟨_, rfl⟩
    rw [← hNA] at DA W0
    rw [← hNB] at DB W0
    rw [← hNS] at NT W0
    clear hNA hNB hNS
    have q0 := bk.cell 0 rfl
    go_upto_region 3 with fail
    clear q0
    have ho := O0.out
    have hb : Below E1.heap.size E1 (E1.alloc (.cells #[.string (bs nm)] 9)) := (Below.refl _ _).alloc (Nat.le_refl _) _
    generalize E1.alloc (.cells #[.string (bs nm)] 9) = E2 at *
    have z1 := (HBA.out.below hb).cell 1 rfl
    have z2 := (HBA.out.below hb).cell 2 rfl
    have z3 := (HBA.out.below hb).cell 3 rfl
    have k0 := (HBK.out.below hb).cell 0 rfl
    have k1 := (HBK.out.below hb).cell 1 rfl
    have k2 := (HBK.out.below hb).cell 2 rfl
    have k3 := (HBK.out.below hb).cell 3 rfl
    have k4 := (HBK.out.below hb).cell 4 rfl
    have k5 := (HBK.out.below hb).cell 5 rfl
    clear ba bk O0 wa0 wk0
    by_cases hA : kLo i ≤ kHi i <;> cases hBb : kBb i <;> by_cases hS : src = []
    · obtain ⟨SS, hSS⟩ : ∃ s : List (List UInt8), s = [nm, NA] := ⟨_, rfl⟩
      have HSS : Hid (SS = [nm] ++ (if kLo i ≤ kHi i then [NA] else []) ++ (if kBb i = true then [NB] else []) ++ (if src = [] then [] else [[111, 102], NS])) := by
        unfold Hid; rw [hSS]; simp [hA, hBb, hS]
      have hAd : decide (kLo i ≤ kHi i) = true := by simp [hA]
      rw [hBb] at k5 HBK
      have hsl : (src.length : Int) = 0 := by rw [hS]; rfl
      subst hSS
      go_wp2_with (first
          | (go_at_call 79; refine (HA.out _ _ _ _ _).mono ?_; rintro e w1 ⟨rfl, hBx⟩; have ho := OwnV.below ho hBx; have hb := hb.trans (hBx.mono hb.size); have z1 := (HBA.out.below hb).cell 1 rfl; have z2 := (HBA.out.below hb).cell 2 rfl; have z3 := (HBA.out.below hb).cell 3 rfl; have k5 := (HBK.out.below hb).cell 5 rfl)
          | (go_at_call 57; with_reducible refine (DA.out _ (HT1.out.below hb)).mono ?_; rintro e w1 ⟨rfl, hBx⟩; have ho := OwnV.below ho hBx; have hb := hb.trans (hBx.mono hb.size); have z1 := (HBA.out.below hb).cell 1 rfl; have z2 := (HBA.out.below hb).cell 2 rfl; have z3 := (HBA.out.below hb).cell 3 rfl; have k5 := (HBK.out.below hb).cell 5 rfl)
          | (go_at_call 57; with_reducible refine (DB.out _ (HT1.out.below hb)).mono ?_; rintro e w1 ⟨rfl, hBx⟩; have ho := OwnV.below ho hBx; have hb := hb.trans (hBx.mono hb.size); have z1 := (HBA.out.below hb).cell 1 rfl; have z2 := (HBA.out.below hb).cell 2 rfl; have z3 := (HBA.out.below hb).cell 3 rfl; have k5 := (HBK.out.below hb).cell 5 rfl)
          | (go_at_call 90; with_reducible refine (NT.out _ (HR1.out.below hb) (HT1.out.below hb)).mono ?_; rintro e w1 ⟨rfl, hBx⟩; have ho := OwnV.below ho hBx; have hb := hb.trans (hBx.mono hb.size))
          | (at_builtin; refine wpList_append_val rfl _ _ rfl 16 (.string ByteArray.empty) Tryz.underlying80 infoS rfl (by omega) rfl ho rfl rfl hb (by simp) hb.size (Nat.le_refl _) ?_; intro v' w2 ho hb hz2 hk2; have z1 := (HBA.out.below hb).cell 1 rfl; have z2 := (HBA.out.below hb).cell 2 rfl; have z3 := (HBA.out.below hb).cell 3 rfl; have k5 := (HBK.out.below hb).cell 5 rfl)
          | (at_builtin; refine wpList_append_vals [.string ⟨#[111, 102]⟩, .string (bs NS)] rfl _ _ rfl 16 (.string ByteArray.empty) Tryz.underlying80 infoS rfl (by omega) rfl ho rfl (two_one _ _) two_len hb (by simp) hb.size (Nat.le_refl _) ?_; intro v' w2 ho hb hz2 hk2)
          | (go_at_call 60; refine (JN.out _ _ _ [nm, NA] (W0.out _ HSS.out) ho).mono ?_; rintro e w1 ⟨rfl, hBx⟩; have hb := hb.trans (hBx.mono hb.size))
          | fail)
      go_ret
      exact ⟨by rw [← HWS.out]; rfl, HB1.out.trans (hb.mono HS1.out)⟩
    · obtain ⟨SS, hSS⟩ : ∃ s : List (List UInt8), s = [nm, NA, [111, 102], NS] := ⟨_, rfl⟩
      have HSS : Hid (SS = [nm] ++ (if kLo i ≤ kHi i then [NA] else []) ++ (if kBb i = true then [NB] else []) ++ (if src = [] then [] else [[111, 102], NS])) := by
        unfold Hid; rw [hSS]; simp [hA, hBb, hS]
      have hAd : decide (kLo i ≤ kHi i) = true := by simp [hA]
      rw [hBb] at k5 HBK
      have hsl : (src.length : Int) > 0 := by have := List.length_pos_iff.2 hS; omega
      subst hSS
      go_wp2_with (first
          | (go_at_call 79; refine (HA.out _ _ _ _ _).mono ?_; rintro e w1 ⟨rfl, hBx⟩; have ho := OwnV.below ho hBx; have hb := hb.trans (hBx.mono hb.size); have z1 := (HBA.out.below hb).cell 1 rfl; have z2 := (HBA.out.below hb).cell 2 rfl; have z3 := (HBA.out.below hb).cell 3 rfl; have k5 := (HBK.out.below hb).cell 5 rfl)
          | (go_at_call 57; with_reducible refine (DA.out _ (HT1.out.below hb)).mono ?_; rintro e w1 ⟨rfl, hBx⟩; have ho := OwnV.below ho hBx; have hb := hb.trans (hBx.mono hb.size); have z1 := (HBA.out.below hb).cell 1 rfl; have z2 := (HBA.out.below hb).cell 2 rfl; have z3 := (HBA.out.below hb).cell 3 rfl; have k5 := (HBK.out.below hb).cell 5 rfl)
          | (go_at_call 57; with_reducible refine (DB.out _ (HT1.out.below hb)).mono ?_; rintro e w1 ⟨rfl, hBx⟩; have ho := OwnV.below ho hBx; have hb := hb.trans (hBx.mono hb.size); have z1 := (HBA.out.below hb).cell 1 rfl; have z2 := (HBA.out.below hb).cell 2 rfl; have z3 := (HBA.out.below hb).cell 3 rfl; have k5 := (HBK.out.below hb).cell 5 rfl)
          | (go_at_call 90; with_reducible refine (NT.out _ (HR1.out.below hb) (HT1.out.below hb)).mono ?_; rintro e w1 ⟨rfl, hBx⟩; have ho := OwnV.below ho hBx; have hb := hb.trans (hBx.mono hb.size))
          | (at_builtin; refine wpList_append_val rfl _ _ rfl 16 (.string ByteArray.empty) Tryz.underlying80 infoS rfl (by omega) rfl ho rfl rfl hb (by simp) hb.size (Nat.le_refl _) ?_; intro v' w2 ho hb hz2 hk2; have z1 := (HBA.out.below hb).cell 1 rfl; have z2 := (HBA.out.below hb).cell 2 rfl; have z3 := (HBA.out.below hb).cell 3 rfl; have k5 := (HBK.out.below hb).cell 5 rfl)
          | (at_builtin; refine wpList_append_vals [.string ⟨#[111, 102]⟩, .string (bs NS)] rfl _ _ rfl 16 (.string ByteArray.empty) Tryz.underlying80 infoS rfl (by omega) rfl ho rfl (two_one _ _) two_len hb (by simp) hb.size (Nat.le_refl _) ?_; intro v' w2 ho hb hz2 hk2)
          | (go_at_call 60; refine (JN.out _ _ _ [nm, NA, [111, 102], NS] (W0.out _ HSS.out) ho).mono ?_; rintro e w1 ⟨rfl, hBx⟩; have hb := hb.trans (hBx.mono hb.size))
          | fail)
      go_ret
      exact ⟨by rw [← HWS.out]; rfl, HB1.out.trans (hb.mono HS1.out)⟩
    · obtain ⟨SS, hSS⟩ : ∃ s : List (List UInt8), s = [nm, NA, NB] := ⟨_, rfl⟩
      have HSS : Hid (SS = [nm] ++ (if kLo i ≤ kHi i then [NA] else []) ++ (if kBb i = true then [NB] else []) ++ (if src = [] then [] else [[111, 102], NS])) := by
        unfold Hid; rw [hSS]; simp [hA, hBb, hS]
      have hAd : decide (kLo i ≤ kHi i) = true := by simp [hA]
      rw [hBb] at k5 HBK
      have hsl : (src.length : Int) = 0 := by rw [hS]; rfl
      subst hSS
      go_wp2_with (first
          | (go_at_call 79; refine (HA.out _ _ _ _ _).mono ?_; rintro e w1 ⟨rfl, hBx⟩; have ho := OwnV.below ho hBx; have hb := hb.trans (hBx.mono hb.size); have z1 := (HBA.out.below hb).cell 1 rfl; have z2 := (HBA.out.below hb).cell 2 rfl; have z3 := (HBA.out.below hb).cell 3 rfl; have k5 := (HBK.out.below hb).cell 5 rfl)
          | (go_at_call 57; with_reducible refine (DA.out _ (HT1.out.below hb)).mono ?_; rintro e w1 ⟨rfl, hBx⟩; have ho := OwnV.below ho hBx; have hb := hb.trans (hBx.mono hb.size); have z1 := (HBA.out.below hb).cell 1 rfl; have z2 := (HBA.out.below hb).cell 2 rfl; have z3 := (HBA.out.below hb).cell 3 rfl; have k5 := (HBK.out.below hb).cell 5 rfl)
          | (go_at_call 57; with_reducible refine (DB.out _ (HT1.out.below hb)).mono ?_; rintro e w1 ⟨rfl, hBx⟩; have ho := OwnV.below ho hBx; have hb := hb.trans (hBx.mono hb.size); have z1 := (HBA.out.below hb).cell 1 rfl; have z2 := (HBA.out.below hb).cell 2 rfl; have z3 := (HBA.out.below hb).cell 3 rfl; have k5 := (HBK.out.below hb).cell 5 rfl)
          | (go_at_call 90; with_reducible refine (NT.out _ (HR1.out.below hb) (HT1.out.below hb)).mono ?_; rintro e w1 ⟨rfl, hBx⟩; have ho := OwnV.below ho hBx; have hb := hb.trans (hBx.mono hb.size))
          | (at_builtin; refine wpList_append_val rfl _ _ rfl 16 (.string ByteArray.empty) Tryz.underlying80 infoS rfl (by omega) rfl ho rfl rfl hb (by simp) hb.size (Nat.le_refl _) ?_; intro v' w2 ho hb hz2 hk2; have z1 := (HBA.out.below hb).cell 1 rfl; have z2 := (HBA.out.below hb).cell 2 rfl; have z3 := (HBA.out.below hb).cell 3 rfl; have k5 := (HBK.out.below hb).cell 5 rfl)
          | (at_builtin; refine wpList_append_vals [.string ⟨#[111, 102]⟩, .string (bs NS)] rfl _ _ rfl 16 (.string ByteArray.empty) Tryz.underlying80 infoS rfl (by omega) rfl ho rfl (two_one _ _) two_len hb (by simp) hb.size (Nat.le_refl _) ?_; intro v' w2 ho hb hz2 hk2)
          | (go_at_call 60; refine (JN.out _ _ _ [nm, NA, NB] (W0.out _ HSS.out) ho).mono ?_; rintro e w1 ⟨rfl, hBx⟩; have hb := hb.trans (hBx.mono hb.size))
          | fail)
      go_ret
      exact ⟨by rw [← HWS.out]; rfl, HB1.out.trans (hb.mono HS1.out)⟩
    · obtain ⟨SS, hSS⟩ : ∃ s : List (List UInt8), s = [nm, NA, NB, [111, 102], NS] := ⟨_, rfl⟩
      have HSS : Hid (SS = [nm] ++ (if kLo i ≤ kHi i then [NA] else []) ++ (if kBb i = true then [NB] else []) ++ (if src = [] then [] else [[111, 102], NS])) := by
        unfold Hid; rw [hSS]; simp [hA, hBb, hS]
      have hAd : decide (kLo i ≤ kHi i) = true := by simp [hA]
      rw [hBb] at k5 HBK
      have hsl : (src.length : Int) > 0 := by have := List.length_pos_iff.2 hS; omega
      subst hSS
      go_wp2_with (first
          | (go_at_call 79; refine (HA.out _ _ _ _ _).mono ?_; rintro e w1 ⟨rfl, hBx⟩; have ho := OwnV.below ho hBx; have hb := hb.trans (hBx.mono hb.size); have z1 := (HBA.out.below hb).cell 1 rfl; have z2 := (HBA.out.below hb).cell 2 rfl; have z3 := (HBA.out.below hb).cell 3 rfl; have k5 := (HBK.out.below hb).cell 5 rfl)
          | (go_at_call 57; with_reducible refine (DA.out _ (HT1.out.below hb)).mono ?_; rintro e w1 ⟨rfl, hBx⟩; have ho := OwnV.below ho hBx; have hb := hb.trans (hBx.mono hb.size); have z1 := (HBA.out.below hb).cell 1 rfl; have z2 := (HBA.out.below hb).cell 2 rfl; have z3 := (HBA.out.below hb).cell 3 rfl; have k5 := (HBK.out.below hb).cell 5 rfl)
          | (go_at_call 57; with_reducible refine (DB.out _ (HT1.out.below hb)).mono ?_; rintro e w1 ⟨rfl, hBx⟩; have ho := OwnV.below ho hBx; have hb := hb.trans (hBx.mono hb.size); have z1 := (HBA.out.below hb).cell 1 rfl; have z2 := (HBA.out.below hb).cell 2 rfl; have z3 := (HBA.out.below hb).cell 3 rfl; have k5 := (HBK.out.below hb).cell 5 rfl)
          | (go_at_call 90; with_reducible refine (NT.out _ (HR1.out.below hb) (HT1.out.below hb)).mono ?_; rintro e w1 ⟨rfl, hBx⟩; have ho := OwnV.below ho hBx; have hb := hb.trans (hBx.mono hb.size))
          | (at_builtin; refine wpList_append_val rfl _ _ rfl 16 (.string ByteArray.empty) Tryz.underlying80 infoS rfl (by omega) rfl ho rfl rfl hb (by simp) hb.size (Nat.le_refl _) ?_; intro v' w2 ho hb hz2 hk2; have z1 := (HBA.out.below hb).cell 1 rfl; have z2 := (HBA.out.below hb).cell 2 rfl; have z3 := (HBA.out.below hb).cell 3 rfl; have k5 := (HBK.out.below hb).cell 5 rfl)
          | (at_builtin; refine wpList_append_vals [.string ⟨#[111, 102]⟩, .string (bs NS)] rfl _ _ rfl 16 (.string ByteArray.empty) Tryz.underlying80 infoS rfl (by omega) rfl ho rfl (two_one _ _) two_len hb (by simp) hb.size (Nat.le_refl _) ?_; intro v' w2 ho hb hz2 hk2)
          | (go_at_call 60; refine (JN.out _ _ _ [nm, NA, NB, [111, 102], NS] (W0.out _ HSS.out) ho).mono ?_; rintro e w1 ⟨rfl, hBx⟩; have hb := hb.trans (hBx.mono hb.size))
          | fail)
      go_ret
      exact ⟨by rw [← HWS.out]; rfl, HB1.out.trans (hb.mono HS1.out)⟩
    · obtain ⟨SS, hSS⟩ : ∃ s : List (List UInt8), s = [nm] := ⟨_, rfl⟩
      have HSS : Hid (SS = [nm] ++ (if kLo i ≤ kHi i then [NA] else []) ++ (if kBb i = true then [NB] else []) ++ (if src = [] then [] else [[111, 102], NS])) := by
        unfold Hid; rw [hSS]; simp [hA, hBb, hS]
      have hAd : decide (kLo i ≤ kHi i) = false := by simp [hA]
      rw [hBb] at k5 HBK
      have hsl : (src.length : Int) = 0 := by rw [hS]; rfl
      subst hSS
      go_wp2_with (first
          | (go_at_call 79; refine (HA.out _ _ _ _ _).mono ?_; rintro e w1 ⟨rfl, hBx⟩; have ho := OwnV.below ho hBx; have hb := hb.trans (hBx.mono hb.size); have z1 := (HBA.out.below hb).cell 1 rfl; have z2 := (HBA.out.below hb).cell 2 rfl; have z3 := (HBA.out.below hb).cell 3 rfl; have k5 := (HBK.out.below hb).cell 5 rfl)
          | (go_at_call 57; with_reducible refine (DA.out _ (HT1.out.below hb)).mono ?_; rintro e w1 ⟨rfl, hBx⟩; have ho := OwnV.below ho hBx; have hb := hb.trans (hBx.mono hb.size); have z1 := (HBA.out.below hb).cell 1 rfl; have z2 := (HBA.out.below hb).cell 2 rfl; have z3 := (HBA.out.below hb).cell 3 rfl; have k5 := (HBK.out.below hb).cell 5 rfl)
          | (go_at_call 57; with_reducible refine (DB.out _ (HT1.out.below hb)).mono ?_; rintro e w1 ⟨rfl, hBx⟩; have ho := OwnV.below ho hBx; have hb := hb.trans (hBx.mono hb.size); have z1 := (HBA.out.below hb).cell 1 rfl; have z2 := (HBA.out.below hb).cell 2 rfl; have z3 := (HBA.out.below hb).cell 3 rfl; have k5 := (HBK.out.below hb).cell 5 rfl)
          | (go_at_call 90; with_reducible refine (NT.out _ (HR1.out.below hb) (HT1.out.below hb)).mono ?_; rintro e w1 ⟨rfl, hBx⟩; have ho := OwnV.below ho hBx; have hb := hb.trans (hBx.mono hb.size))
          | (at_builtin; refine wpList_append_val rfl _ _ rfl 16 (.string ByteArray.empty) Tryz.underlying80 infoS rfl (by omega) rfl ho rfl rfl hb (by simp) hb.size (Nat.le_refl _) ?_; intro v' w2 ho hb hz2 hk2; have z1 := (HBA.out.below hb).cell 1 rfl; have z2 := (HBA.out.below hb).cell 2 rfl; have z3 := (HBA.out.below hb).cell 3 rfl; have k5 := (HBK.out.below hb).cell 5 rfl)
          | (at_builtin; refine wpList_append_vals [.string ⟨#[111, 102]⟩, .string (bs NS)] rfl _ _ rfl 16 (.string ByteArray.empty) Tryz.underlying80 infoS rfl (by omega) rfl ho rfl (two_one _ _) two_len hb (by simp) hb.size (Nat.le_refl _) ?_; intro v' w2 ho hb hz2 hk2)
          | (go_at_call 60; refine (JN.out _ _ _ [nm] (W0.out _ HSS.out) ho).mono ?_; rintro e w1 ⟨rfl, hBx⟩; have hb := hb.trans (hBx.mono hb.size))
          | fail)
      go_ret
      exact ⟨by rw [← HWS.out]; rfl, HB1.out.trans (hb.mono HS1.out)⟩
    · obtain ⟨SS, hSS⟩ : ∃ s : List (List UInt8), s = [nm, [111, 102], NS] := ⟨_, rfl⟩
      have HSS : Hid (SS = [nm] ++ (if kLo i ≤ kHi i then [NA] else []) ++ (if kBb i = true then [NB] else []) ++ (if src = [] then [] else [[111, 102], NS])) := by
        unfold Hid; rw [hSS]; simp [hA, hBb, hS]
      have hAd : decide (kLo i ≤ kHi i) = false := by simp [hA]
      rw [hBb] at k5 HBK
      have hsl : (src.length : Int) > 0 := by have := List.length_pos_iff.2 hS; omega
      subst hSS
      go_wp2_with (first
          | (go_at_call 79; refine (HA.out _ _ _ _ _).mono ?_; rintro e w1 ⟨rfl, hBx⟩; have ho := OwnV.below ho hBx; have hb := hb.trans (hBx.mono hb.size); have z1 := (HBA.out.below hb).cell 1 rfl; have z2 := (HBA.out.below hb).cell 2 rfl; have z3 := (HBA.out.below hb).cell 3 rfl; have k5 := (HBK.out.below hb).cell 5 rfl)
          | (go_at_call 57; with_reducible refine (DA.out _ (HT1.out.below hb)).mono ?_; rintro e w1 ⟨rfl, hBx⟩; have ho := OwnV.below ho hBx; have hb := hb.trans (hBx.mono hb.size); have z1 := (HBA.out.below hb).cell 1 rfl; have z2 := (HBA.out.below hb).cell 2 rfl; have z3 := (HBA.out.below hb).cell 3 rfl; have k5 := (HBK.out.below hb).cell 5 rfl)
          | (go_at_call 57; with_reducible refine (DB.out _ (HT1.out.below hb)).mono ?_; rintro e w1 ⟨rfl, hBx⟩; have ho := OwnV.below ho hBx; have hb := hb.trans (hBx.mono hb.size); have z1 := (HBA.out.below hb).cell 1 rfl; have z2 := (HBA.out.below hb).cell 2 rfl; have z3 := (HBA.out.below hb).cell 3 rfl; have k5 := (HBK.out.below hb).cell 5 rfl)
          | (go_at_call 90; with_reducible refine (NT.out _ (HR1.out.below hb) (HT1.out.below hb)).mono ?_; rintro e w1 ⟨rfl, hBx⟩; have ho := OwnV.below ho hBx; have hb := hb.trans (hBx.mono hb.size))
          | (at_builtin; refine wpList_append_val rfl _ _ rfl 16 (.string ByteArray.empty) Tryz.underlying80 infoS rfl (by omega) rfl ho rfl rfl hb (by simp) hb.size (Nat.le_refl _) ?_; intro v' w2 ho hb hz2 hk2; have z1 := (HBA.out.below hb).cell 1 rfl; have z2 := (HBA.out.below hb).cell 2 rfl; have z3 := (HBA.out.below hb).cell 3 rfl; have k5 := (HBK.out.below hb).cell 5 rfl)
          | (at_builtin; refine wpList_append_vals [.string ⟨#[111, 102]⟩, .string (bs NS)] rfl _ _ rfl 16 (.string ByteArray.empty) Tryz.underlying80 infoS rfl (by omega) rfl ho rfl (two_one _ _) two_len hb (by simp) hb.size (Nat.le_refl _) ?_; intro v' w2 ho hb hz2 hk2)
          | (go_at_call 60; refine (JN.out _ _ _ [nm, [111, 102], NS] (W0.out _ HSS.out) ho).mono ?_; rintro e w1 ⟨rfl, hBx⟩; have hb := hb.trans (hBx.mono hb.size))
          | fail)
      go_ret
      exact ⟨by rw [← HWS.out]; rfl, HB1.out.trans (hb.mono HS1.out)⟩
    · obtain ⟨SS, hSS⟩ : ∃ s : List (List UInt8), s = [nm, NB] := ⟨_, rfl⟩
      have HSS : Hid (SS = [nm] ++ (if kLo i ≤ kHi i then [NA] else []) ++ (if kBb i = true then [NB] else []) ++ (if src = [] then [] else [[111, 102], NS])) := by
        unfold Hid; rw [hSS]; simp [hA, hBb, hS]
      have hAd : decide (kLo i ≤ kHi i) = false := by simp [hA]
      rw [hBb] at k5 HBK
      have hsl : (src.length : Int) = 0 := by rw [hS]; rfl
      subst hSS
      go_wp2_with (first
          | (go_at_call 79; refine (HA.out _ _ _ _ _).mono ?_; rintro e w1 ⟨rfl, hBx⟩; have ho := OwnV.below ho hBx; have hb := hb.trans (hBx.mono hb.size); have z1 := (HBA.out.below hb).cell 1 rfl; have z2 := (HBA.out.below hb).cell 2 rfl; have z3 := (HBA.out.below hb).cell 3 rfl; have k5 := (HBK.out.below hb).cell 5 rfl)
          | (go_at_call 57; with_reducible refine (DA.out _ (HT1.out.below hb)).mono ?_; rintro e w1 ⟨rfl, hBx⟩; have ho := OwnV.below ho hBx; have hb := hb.trans (hBx.mono hb.size); have z1 := (HBA.out.below hb).cell 1 rfl; have z2 := (HBA.out.below hb).cell 2 rfl; have z3 := (HBA.out.below hb).cell 3 rfl; have k5 := (HBK.out.below hb).cell 5 rfl)
          | (go_at_call 57; with_reducible refine (DB.out _ (HT1.out.below hb)).mono ?_; rintro e w1 ⟨rfl, hBx⟩; have ho := OwnV.below ho hBx; have hb := hb.trans (hBx.mono hb.size); have z1 := (HBA.out.below hb).cell 1 rfl; have z2 := (HBA.out.below hb).cell 2 rfl; have z3 := (HBA.out.below hb).cell 3 rfl; have k5 := (HBK.out.below hb).cell 5 rfl)
          | (go_at_call 90; with_reducible refine (NT.out _ (HR1.out.below hb) (HT1.out.below hb)).mono ?_; rintro e w1 ⟨rfl, hBx⟩; have ho := OwnV.below ho hBx; have hb := hb.trans (hBx.mono hb.size))
          | (at_builtin; refine wpList_append_val rfl _ _ rfl 16 (.string ByteArray.empty) Tryz.underlying80 infoS rfl (by omega) rfl ho rfl rfl hb (by simp) hb.size (Nat.le_refl _) ?_; intro v' w2 ho hb hz2 hk2; have z1 := (HBA.out.below hb).cell 1 rfl; have z2 := (HBA.out.below hb).cell 2 rfl; have z3 := (HBA.out.below hb).cell 3 rfl; have k5 := (HBK.out.below hb).cell 5 rfl)
          | (at_builtin; refine wpList_append_vals [.string ⟨#[111, 102]⟩, .string (bs NS)] rfl _ _ rfl 16 (.string ByteArray.empty) Tryz.underlying80 infoS rfl (by omega) rfl ho rfl (two_one _ _) two_len hb (by simp) hb.size (Nat.le_refl _) ?_; intro v' w2 ho hb hz2 hk2)
          | (go_at_call 60; refine (JN.out _ _ _ [nm, NB] (W0.out _ HSS.out) ho).mono ?_; rintro e w1 ⟨rfl, hBx⟩; have hb := hb.trans (hBx.mono hb.size))
          | fail)
      go_ret
      exact ⟨by rw [← HWS.out]; rfl, HB1.out.trans (hb.mono HS1.out)⟩
    · obtain ⟨SS, hSS⟩ : ∃ s : List (List UInt8), s = [nm, NB, [111, 102], NS] := ⟨_, rfl⟩
      have HSS : Hid (SS = [nm] ++ (if kLo i ≤ kHi i then [NA] else []) ++ (if kBb i = true then [NB] else []) ++ (if src = [] then [] else [[111, 102], NS])) := by
        unfold Hid; rw [hSS]; simp [hA, hBb, hS]
      have hAd : decide (kLo i ≤ kHi i) = false := by simp [hA]
      rw [hBb] at k5 HBK
      have hsl : (src.length : Int) > 0 := by have := List.length_pos_iff.2 hS; omega
      subst hSS
      go_wp2_with (first
          | (go_at_call 79; refine (HA.out _ _ _ _ _).mono ?_; rintro e w1 ⟨rfl, hBx⟩; have ho := OwnV.below ho hBx; have hb := hb.trans (hBx.mono hb.size); have z1 := (HBA.out.below hb).cell 1 rfl; have z2 := (HBA.out.below hb).cell 2 rfl; have z3 := (HBA.out.below hb).cell 3 rfl; have k5 := (HBK.out.below hb).cell 5 rfl)
          | (go_at_call 57; with_reducible refine (DA.out _ (HT1.out.below hb)).mono ?_; rintro e w1 ⟨rfl, hBx⟩; have ho := OwnV.below ho hBx; have hb := hb.trans (hBx.mono hb.size); have z1 := (HBA.out.below hb).cell 1 rfl; have z2 := (HBA.out.below hb).cell 2 rfl; have z3 := (HBA.out.below hb).cell 3 rfl; have k5 := (HBK.out.below hb).cell 5 rfl)
          | (go_at_call 57; with_reducible refine (DB.out _ (HT1.out.below hb)).mono ?_; rintro e w1 ⟨rfl, hBx⟩; have ho := OwnV.below ho hBx; have hb := hb.trans (hBx.mono hb.size); have z1 := (HBA.out.below hb).cell 1 rfl; have z2 := (HBA.out.below hb).cell 2 rfl; have z3 := (HBA.out.below hb).cell 3 rfl; have k5 := (HBK.out.below hb).cell 5 rfl)
          | (go_at_call 90; with_reducible refine (NT.out _ (HR1.out.below hb) (HT1.out.below hb)).mono ?_; rintro e w1 ⟨rfl, hBx⟩; have ho := OwnV.below ho hBx; have hb := hb.trans (hBx.mono hb.size))
          | (at_builtin; refine wpList_append_val rfl _ _ rfl 16 (.string ByteArray.empty) Tryz.underlying80 infoS rfl (by omega) rfl ho rfl rfl hb (by simp) hb.size (Nat.le_refl _) ?_; intro v' w2 ho hb hz2 hk2; have z1 := (HBA.out.below hb).cell 1 rfl; have z2 := (HBA.out.below hb).cell 2 rfl; have z3 := (HBA.out.below hb).cell 3 rfl; have k5 := (HBK.out.below hb).cell 5 rfl)
          | (at_builtin; refine wpList_append_vals [.string ⟨#[111, 102]⟩, .string (bs NS)] rfl _ _ rfl 16 (.string ByteArray.empty) Tryz.underlying80 infoS rfl (by omega) rfl ho rfl (two_one _ _) two_len hb (by simp) hb.size (Nat.le_refl _) ?_; intro v' w2 ho hb hz2 hk2)
          | (go_at_call 60; refine (JN.out _ _ _ [nm, NB, [111, 102], NS] (W0.out _ HSS.out) ho).mono ?_; rintro e w1 ⟨rfl, hBx⟩; have hb := hb.trans (hBx.mono hb.size))
          | fail)
      go_ret
      exact ⟨by rw [← HWS.out]; rfl, HB1.out.trans (hb.mono HS1.out)⟩
end Go.Proofs.YtaapkpjokmoekaaGreatDoor

namespace Go.Proofs.YtaapkpjokmoekaaGreatDoor
open Go.ChangeShapes Go.WideShapes Go.ChangeAt Go.RowKit Go.Sort
set_option linter.unusedVariables false
set_option linter.unusedSimpArgs false

theorem hasAB_in {i : Nat} (hi : i < 17) : hasAB ((i : Int) + 1) = decide (kLo i ≤ kHi i) := by
  rcases seventeen hi with rfl | rfl | rfl | rfl | rfl | rfl | rfl | rfl | rfl | rfl | rfl | rfl | rfl | rfl | rfl | rfl | rfl <;> decide
theorem kBb_in {i : Nat} (hi : i < 17) : kBb i = decide (i = 16) := by
  rcases seventeen hi with rfl | rfl | rfl | rfl | rfl | rfl | rfl | rfl | rfl | rfl | rfl | rfl | rfl | rfl | rfl | rfl | rfl <;> decide
end Go.Proofs.YtaapkpjokmoekaaGreatDoor

namespace Go.Proofs.YtaapkpjokmoekaaGreatDoor
open Go.ChangeShapes Go.WideShapes Go.ChangeAt Go.RowKit Go.Sort
set_option linter.unusedVariables false

def nodeRes (x : NodeD) : ByteArray := if nodeB x 4 = true then bs (nodeStr x) else ⟨#[]⟩
theorem nodeB_kind {x : NodeD} {t : Int} (h : nodeB x t = true) : ∃ i : Nat, i < 17 ∧ x.kind = (i : Int) + 1 := by
  unfold nodeB at h
  simp only [Bool.and_eq_true] at h
  exact kind_of_in h.1.1.1.1
theorem nodeText_v {v : Value} {x : NodeD} {t : Int} (w : World) (h : VNode w v x) (hx : nodeB x t = true) (hT : TxtT w) :
    Calls Tryz.prog 59 #[v] w fun e w' => e = .returned (.string (bs (nodeStr x))) ∧ Below w.heap.size w w' := by
  obtain ⟨p, c, rfl, hr⟩ := h
  obtain ⟨h1, h2, h3, h4⟩ := nodeB_bounds hx
  obtain ⟨i, hi, he⟩ := nodeB_kind hx
  obtain ⟨k, a, b, src⟩ := x
  simp only at he hr h1 h2 h3 h4
  subst he
  have e : ((i : Int) + 1 - 1).toNat = i := by omega
  have := nodeText_in (c := c) i hi a b w hr h1 h2 h3 h4 hT
  unfold nodeStr
  simp only [e]
  exact this
end Go.Proofs.YtaapkpjokmoekaaGreatDoor

namespace Go.Proofs.YtaapkpjokmoekaaGreatDoor
set_option linter.unusedVariables false
set_option linter.unusedSimpArgs false

theorem splitK_join : ∀ (ws : List (List UInt8)) (w : List UInt8), (32 : UInt8) ∉ w → (∀ v ∈ ws, (32 : UInt8) ∉ v) → Lib.splitK [32] 0 (Lib.count (Lib.join (w :: ws) [32]) [32]) (Lib.join (w :: ws) [32]) = w :: ws
  | [], w, hw, _ => by
    rw [Lib.join_one, Lib.count_miss (index_none w 32 hw)]
    rfl
  | v :: ws, w, hw, h => by
    have e : Lib.join (w :: v :: ws) [32] = w ++ 32 :: Lib.join (v :: ws) [32] := by
      rw [Lib.join_cons, Lib.join_cons]
      simp [Lib.joinTail]
    have hi := index_at w (Lib.join (v :: ws) [32]) 32 hw
    have ih := splitK_join ws v (h v (by simp)) fun u hu => h u (by simp [hu])
    rw [e, Lib.count_hit (by simp) hi]
    have ed : (w ++ 32 :: Lib.join (v :: ws) [32]).drop (w.length + [(32 : UInt8)].length) = Lib.join (v :: ws) [32] := by simp
    rw [ed, Nat.add_comm 1, Lib.splitK, if_neg (by rw [hi]; simp), hi]
    have et : ((w.length : Nat) : Int).toNat = w.length := by omega
    rw [et, ed, ih]
    simp
theorem bs_data (x : ByteArray) : bs x.data.toList = x := by
  unfold bs
  apply ByteArray.ext
  simp
/-- the words of joined words -/
theorem words_join {ws : List (List UInt8)} (h0 : ws ≠ []) (h : ∀ w ∈ ws, (32 : UInt8) ∉ w ∧ w ≠ []) : wordsB (bs (Lib.join ws [32])) = ws.map bs := by
  match ws, h0 with
  | w :: ws, _ =>
    have hk := splitK_join ws w (h w (by simp)).1 fun v hv => (h v (by simp [hv])).1
    have hp : (partsB (bs (Lib.join (w :: ws) [32]))).map (·.data.toList) = w :: ws := by
      unfold partsB
      rw [Lib.splitB_data]
      have : Lib.countB (bs (Lib.join (w :: ws) [32])) ⟨#[32]⟩ = Lib.count (Lib.join (w :: ws) [32]) [32] := by
        unfold Lib.countB
        rw [bs_list]
      rw [this, bs_list]
      exact hk
    have hpb : partsB (bs (Lib.join (w :: ws) [32])) = (w :: ws).map bs := by
      have key : ∀ P : List ByteArray, P = (P.map (·.data.toList)).map bs := fun P => by
        rw [List.map_map]
        conv => lhs; rw [← List.map_id P]
        exact List.map_congr_left fun x _ => (bs_data x).symm
      rw [key (partsB _), hp]
    unfold wordsB
    rw [hpb, List.filter_eq_self]
    intro x hx
    obtain ⟨v, hv, rfl⟩ := List.mem_map.1 hx
    have := (h v hv).2
    unfold nzB
    simp only [ne_eq, decide_eq_true_eq]
    intro e
    exact this (bs_inj (m := []) e)
theorem join_flat : ∀ (xs ys : List (List UInt8)), ys ≠ [] → Lib.join (xs ++ [Lib.join ys [32]]) [32] = Lib.join (xs ++ ys) [32]
  | [], ys, _ => by simp [Lib.join_one]
  | x :: xs, ys, h => by
    have ih := join_flat xs ys h
    match ys, h with
    | y :: ys, _ =>
      have e1 : ∀ (zs : List (List UInt8)) (z : List UInt8), Lib.join (x :: z :: zs) [32] = x ++ 32 :: Lib.join (z :: zs) [32] := fun zs z => by
        rw [Lib.join_cons, Lib.join_cons]; simp [Lib.joinTail]
      match xs, ih with
      | [], ih => simp only [List.nil_append, List.cons_append] at ih ⊢; rw [e1, e1, ih]
      | z :: zs, ih => simp only [List.cons_append] at ih ⊢; rw [e1, e1, ih]
theorem kindNamed_self {i : Nat} (hi : i < 17) : kindNamed (kNm i) = (i : Int) + 1 := by
  rcases seventeen hi with rfl | rfl | rfl | rfl | rfl | rfl | rfl | rfl | rfl | rfl | rfl | rfl | rfl | rfl | rfl | rfl | rfl <;> decide +kernel
theorem nmL_ok {i : Nat} (hi : i < 17) : (32 : UInt8) ∉ nmL i ∧ nmL i ≠ [] := by
  rcases seventeen hi with rfl | rfl | rfl | rfl | rfl | rfl | rfl | rfl | rfl | rfl | rfl | rfl | rfl | rfl | rfl | rfl | rfl <;> decide
theorem itoa_ok (n : Int) : (32 : UInt8) ∉ Lib.itoa n ∧ Lib.itoa n ≠ [] := ⟨itoa_no (by decide), itoa_ne n⟩
/-- the word between a node's numbers and its inputs -/
def ofB : ByteArray := ⟨#[111, 102]⟩
theorem itoa_of (n : Int) : bs (Lib.itoa n) ≠ ofB := by
  intro h
  have : Lib.itoa n = [111, 102] := bs_inj (m := [111, 102]) h
  exact itoa_no (n := n) (c := 111) (by decide) (by rw [this]; simp)
/-- how the program reads a node: the words behind the kind, up to 'of', and behind it -/
def headB (ws : List ByteArray) : List ByteArray := ws.takeWhile fun x => decide (x ≠ ofB)
def tailB (ws : List ByteArray) : List ByteArray := (ws.dropWhile fun x => decide (x ≠ ofB)).tail
def readN (s : ByteArray) : Option NodeD :=
  match wordsB s with
  | [] => none
  | k :: ws => match decsB (headB ws), decsB (tailB ws) with
    | some ns, some fs =>
      let x : NodeD := ⟨kindNamed k, ns.getD 0 0, ns.getD 1 0, fs⟩
      if nodeB x 4 = true ∧ bs (nodeStr x) = s then some x else none
    | _, _ => none
theorem decsB_itoa : ∀ xs : List Int, (∀ x ∈ xs, small18 x) → decsB (xs.map fun x => bs (Lib.itoa x)) = some xs
  | [], _ => rfl
  | x :: xs, h => by
    have ih := decsB_itoa xs fun y hy => h y (by simp [hy])
    unfold decsB at ih ⊢
    rw [List.map_cons, List.mapM_cons, bs_list, readDec_itoa (h x (by simp)), ih]
    rfl
theorem headB_nums (ns fs : List Int) (h : fs = [] ∨ True) : headB (ns.map (fun x => bs (Lib.itoa x)) ++ ofB :: fs.map fun x => bs (Lib.itoa x)) = ns.map (fun x => bs (Lib.itoa x)) ∧
    tailB (ns.map (fun x => bs (Lib.itoa x)) ++ ofB :: fs.map fun x => bs (Lib.itoa x)) = fs.map fun x => bs (Lib.itoa x) := by
  induction ns with
  | nil => simp [headB, tailB]
  | cons n ns ih =>
    have hn := itoa_of n
    unfold headB tailB at *
    simp only [List.map_cons, List.cons_append]
    rw [List.takeWhile_cons_of_pos (by simpa using hn), List.dropWhile_cons_of_pos (by simpa using hn), ih.1, ih.2]
    exact ⟨rfl, rfl⟩
theorem headB_only (ns : List Int) : headB (ns.map fun x => bs (Lib.itoa x)) = ns.map (fun x => bs (Lib.itoa x)) ∧ tailB (ns.map fun x => bs (Lib.itoa x)) = [] := by
  induction ns with
  | nil => exact ⟨rfl, rfl⟩
  | cons n ns ih =>
    have hn := itoa_of n
    unfold headB tailB at *
    simp only [List.map_cons]
    rw [List.takeWhile_cons_of_pos (by simpa using hn), List.dropWhile_cons_of_pos (by simpa using hn), ih.1, ih.2]
    exact ⟨rfl, rfl⟩
/-- the numbers ahead of 'of' -/
def numsN (i : Nat) (a b : Int) : List Int := (if kLo i ≤ kHi i then [a] else []) ++ (if kBb i = true then [b] else [])
theorem words_node {i : Nat} (hi : i < 17) (a b : Int) (src : List Int) :
    wordsB (bs (Lib.join (wordsN i a b src) [32])) = bs (nmL i) :: ((numsN i a b).map (fun x => bs (Lib.itoa x)) ++ (if src = [] then [] else ofB :: src.map fun x => bs (Lib.itoa x))) := by
  by_cases hs : src = []
  · have e : wordsN i a b src = nmL i :: (numsN i a b).map Lib.itoa := by
      unfold wordsN numsN
      rw [if_pos hs]
      by_cases h1 : kLo i ≤ kHi i <;> by_cases h2 : kBb i = true <;> simp [h1, h2]
    rw [e, words_join (by simp) (fun w hw => by
      rcases List.mem_cons.1 hw with rfl | hw
      · exact nmL_ok hi
      · obtain ⟨n, -, rfl⟩ := List.mem_map.1 hw
        exact itoa_ok n), if_pos hs]
    simp
  · have e : wordsN i a b src = (nmL i :: ((numsN i a b).map Lib.itoa ++ [[111, 102]])) ++ [numStr src] := by
      unfold wordsN numsN
      rw [if_neg hs]
      by_cases h1 : kLo i ≤ kHi i <;> by_cases h2 : kBb i = true <;> simp [h1, h2]
    rw [e]
    unfold numStr
    rw [join_flat _ _ (by simpa using hs), words_join (by simp) (fun w hw => by
      simp only [List.cons_append, List.mem_cons, List.mem_append, List.mem_map, List.mem_singleton, List.not_mem_nil, or_false] at hw
      rcases hw with rfl | (⟨n, -, rfl⟩ | rfl) | ⟨n, -, rfl⟩
      · exact nmL_ok hi
      · exact itoa_ok n
      · decide
      · exact itoa_ok n), if_neg hs]
    simp only [List.map_cons, List.map_append, List.map_map, List.cons_append, List.map_nil, List.append_assoc, List.nil_append]
    rfl
/-- the program's reading finds just the valid node with a text -/
theorem readN_iff (s : ByteArray) (x : NodeD) : readN s = some x ↔ nodeB x 4 = true ∧ bs (nodeStr x) = s := by
  constructor
  · intro h
    unfold readN at h
    split at h
    · cases h
    · split at h
      · simp only at h
        split at h
        · rename_i hc
          obtain rfl := Option.some.inj h
          exact hc
        · cases h
      · cases h
  · rintro ⟨hx, rfl⟩
    obtain ⟨b1, b2, b3, b4⟩ := nodeB_bounds hx
    obtain ⟨i, hi, he⟩ := nodeB_kind hx
    obtain ⟨k, a, b, src⟩ := x
    simp only at he b1 b2 b3 b4
    subst he
    have hsm : small18 a ∧ small18 b ∧ ∀ f ∈ src, small18 f := by
      have hx' := hx
      unfold nodeB at hx'
      simp only [Bool.and_eq_true] at hx'
      obtain ⟨⟨⟨⟨-, hab⟩, hs⟩, -⟩, -⟩ := hx'
      have e : ((i : Int) + 1 - 1).toNat = i := by omega
      rw [e] at hab
      unfold abB at hab
      simp only [Bool.and_eq_true] at hab
      refine ⟨?_, ?_, fun f hf => ?_⟩
      · have h1 := hab.1
        split at h1
        · have h2 := inB_iff.1 h1
          have h3 : -2147483648 ≤ kLo i ∧ kHi i ≤ 2147483647 := by
            rcases seventeen hi with rfl | rfl | rfl | rfl | rfl | rfl | rfl | rfl | rfl | rfl | rfl | rfl | rfl | rfl | rfl | rfl | rfl <;> decide
          unfold small18; omega
        · have : a = 0 := by simpa using h1
          unfold small18; omega
      · have h1 := hab.2
        split at h1
        · have h2 := inB_iff.1 h1
          unfold small18; omega
        · have : b = 0 := by simpa using h1
          unfold small18; omega
      · have := inB_iff.1 (List.all_eq_true.1 hs f hf)
        unfold small18; omega
    have hab : (¬ kLo i ≤ kHi i → a = 0) ∧ (kBb i = false → b = 0) := by
      have hx' := hx
      unfold nodeB at hx'
      simp only [Bool.and_eq_true] at hx'
      obtain ⟨⟨⟨⟨-, hab⟩, -⟩, -⟩, -⟩ := hx'
      have e : ((i : Int) + 1 - 1).toNat = i := by omega
      rw [e] at hab
      unfold abB at hab
      simp only [Bool.and_eq_true] at hab
      refine ⟨fun h => ?_, fun h => ?_⟩
      · have := hab.1; rw [if_neg h] at this; simpa using this
      · have := hab.2; rw [h] at this; simpa using this
    have hAB : kBb i = true → kLo i ≤ kHi i := by
      rcases seventeen hi with rfl | rfl | rfl | rfl | rfl | rfl | rfl | rfl | rfl | rfl | rfl | rfl | rfl | rfl | rfl | rfl | rfl <;> decide
    have es : nodeStr ⟨(i : Int) + 1, a, b, src⟩ = Lib.join (wordsN i a b src) [32] := by
      have e : ((i : Int) + 1 - 1).toNat = i := by omega
      unfold nodeStr
      simp only [e]
    have hn : (numsN i a b).getD 0 0 = a ∧ (numsN i a b).getD 1 0 = b := by
      unfold numsN
      by_cases h1 : kLo i ≤ kHi i
      · by_cases h2 : kBb i = true
        · simp [h1, h2]
        · have := hab.2 (by simpa using h2)
          simp [h1, h2, this]
      · have h2 : ¬ kBb i = true := fun h => h1 (hAB h)
        have e1 := hab.1 h1
        have e2 := hab.2 (by simpa using h2)
        simp [h1, h2, e1, e2]
    have hd : decsB ((numsN i a b).map fun x => bs (Lib.itoa x)) = some (numsN i a b) := decsB_itoa _ fun x hx => by
      unfold numsN at hx
      simp only [List.mem_append] at hx
      rcases hx with hx | hx
      · split at hx
        · simp at hx; subst hx; exact hsm.1
        · simp at hx
      · split at hx
        · simp at hx; subst hx; exact hsm.2.1
        · simp at hx
    have hnode : (⟨kindNamed (bs (nmL i)), (numsN i a b).getD 0 0, (numsN i a b).getD 1 0, src⟩ : NodeD) = ⟨(i : Int) + 1, a, b, src⟩ := by
      rw [← kNm_bs, kindNamed_self hi, hn.1, hn.2]
    unfold readN
    rw [es, words_node hi]
    by_cases hs : src = []
    · have := headB_only (numsN i a b)
      simp only [if_pos hs, List.append_nil, this.1, this.2, hd]
      have e0 : decsB [] = some src := by rw [hs]; rfl
      simp only [e0, hnode]
      rw [if_pos ⟨hx, by rw [es]⟩]
    · have := headB_nums (numsN i a b) src (.inr trivial)
      have e0 : decsB (src.map fun x => bs (Lib.itoa x)) = some src := decsB_itoa _ hsm.2.2
      simp only [if_neg hs, this.1, this.2, hd, e0, hnode]
      rw [if_pos ⟨hx, by rw [es]⟩]
end Go.Proofs.YtaapkpjokmoekaaGreatDoor

namespace Go.Proofs.YtaapkpjokmoekaaGreatDoor
open Go.ChangeShapes Go.WideShapes Go.ChangeAt Go.RowKit Go.Sort
set_option linter.unusedVariables false
set_option linter.unusedSimpArgs false

/-- the byte of a text at a place, as a number -/
def bt (s : ByteArray) (k : Nat) : Int := ((s.data.toList[k]?).map fun b => (b.toNat : Int)).getD 0
theorem get_bt (s : ByteArray) : ∀ (n : Nat) (h : n < s.size), ((s[n]'h).toNat : Int) = bt s n := fun n h => by
  have h' : n < s.data.toList.length := by simpa using h
  unfold bt
  rw [List.getElem?_eq_getElem h']
  rfl
theorem decFrom_lt : ∀ (l : List UInt8) (a n : Nat), Lib.decFrom a l = some n → n < (a + 1) * 10 ^ l.length
  | [], a, n, h => by simp [Lib.decFrom] at h; subst h; simp
  | b :: l, a, n, h => by
    unfold Lib.decFrom at h
    cases hd : Lib.digitVal b with
    | none => rw [hd] at h; simp at h
    | some d =>
      rw [hd] at h
      have hd9 : d ≤ 9 := by
        unfold Lib.digitVal at hd
        split at hd
        · simp at hd; omega
        · cases hd
      have h1 := decFrom_lt l _ n h
      have h2 : (10 * a + d + 1) * 10 ^ l.length ≤ ((a + 1) * 10) * 10 ^ l.length := Nat.mul_le_mul_right _ (by omega)
      rw [List.length_cons, Nat.pow_succ, Nat.mul_comm (10 ^ l.length) 10, ← Nat.mul_assoc]
      first
        | exact Nat.lt_of_lt_of_le h1 h2
        | (have e : a * 10 + d + 1 = 10 * a + d + 1 := by omega
           rw [e] at h1; exact Nat.lt_of_lt_of_le h1 h2)
theorem readDec_len {l : List UInt8} (h : (trimM l).length < 1 ∨ 18 < (trimM l).length) : readDec l = none := by
  cases hr : readDec l with
  | none => rfl
  | some n =>
    exfalso
    obtain ⟨rfl, hs⟩ := (readDec_iff _ _).1 hr
    have h1 := (trimM_len n).2 hs
    have h2 : 1 ≤ (trimM (Lib.itoa n)).length := by
      rw [trimM_itoa]
      exact List.length_pos_iff.2 (decDigits_ne _)
    omega
theorem readDec_digit {l : List UInt8} {b : UInt8} (h : b ∈ trimM l) (hb : ¬ (48 ≤ b.toNat ∧ b.toNat ≤ 57)) : readDec l = none := by
  cases hr : readDec l with
  | none => rfl
  | some n =>
    exfalso
    obtain ⟨rfl, hs⟩ := (readDec_iff _ _).1 hr
    rw [trimM_itoa] at h
    exact hb (decDigits_digit _ _ h)
/-- the number whose digits were read -/
def numOf (l : List UInt8) (m : Nat) : Int := if (trimM l).length < l.length then -(m : Int) else m
theorem readDec_num {l : List UInt8} {m : Nat} (h : Lib.decFrom 0 (trimM l) = some m) (hl : (trimM l).length ≤ 18) :
    readDec l = if Lib.itoa (numOf l m) = l then some (numOf l m) else none := by
  have hm : m < 1000000000000000000 := by
    have h1 := decFrom_lt _ _ _ h
    have h2 : (10 : Nat) ^ (trimM l).length ≤ 10 ^ 18 := Nat.pow_le_pow_right (by decide) hl
    have e18 : (10 : Nat) ^ 18 = 1000000000000000000 := by decide
    omega
  have hsm : small18 (numOf l m) := by unfold small18 numOf; split <;> omega
  by_cases e : Lib.itoa (numOf l m) = l
  · rw [if_pos e]
    exact (readDec_iff _ _).2 ⟨e, hsm⟩
  · rw [if_neg e]
    cases hr : readDec l with
    | none => rfl
    | some n =>
      exfalso
      obtain ⟨hn, hs⟩ := (readDec_iff _ _).1 hr
      apply e
      have ht : trimM l = Lib.decDigits n.natAbs := by rw [← hn, trimM_itoa]
      rw [ht, decFrom_decDigits] at h
      obtain rfl := Option.some.inj h
      have : numOf l n.natAbs = n := by
        unfold numOf
        rw [ht, ← hn]
        unfold Lib.itoa
        split
        · simp; omega
        · have e1 : n.natAbs = n.toNat := by omega
          rw [e1]; simp; omega
      rw [this, hn]
/-- the parts of a row of bytes between blanks; cur stands ahead -/
def cutAt : List UInt8 → List UInt8 → List (List UInt8)
  | cur, [] => [cur]
  | cur, c :: r => if c = 32 then cur :: cutAt [] r else cutAt (cur ++ [c]) r
theorem cutAt_none : ∀ (r cur : List UInt8), (32 : UInt8) ∉ r → cutAt cur r = [cur ++ r]
  | [], cur, _ => by simp [cutAt]
  | c :: r, cur, h => by
    have hc : c ≠ 32 := fun e => h (by simp [e])
    rw [cutAt, if_neg hc, cutAt_none r _ fun e => h (by simp [e])]
    simp
theorem cutAt_at : ∀ (a b cur : List UInt8), (32 : UInt8) ∉ a → cutAt cur (a ++ 32 :: b) = (cur ++ a) :: cutAt [] b
  | [], b, cur, _ => by simp [cutAt]
  | c :: a, b, cur, h => by
    have hc : c ≠ 32 := fun e => h (by simp [e])
    rw [List.cons_append, cutAt, if_neg hc, cutAt_at a b _ fun e => h (by simp [e])]
    simp
theorem splitK_cut : ∀ (n : Nat) (l : List UInt8), l.length ≤ n → Lib.splitK [32] 0 (Lib.count l [32]) l = cutAt [] l
  | n, l, hn => by
    by_cases h : (32 : UInt8) ∈ l
    · obtain ⟨a, b, rfl, ha⟩ := List.eq_append_cons_of_mem h
      have hi := index_at a b 32 ha
      match n, hn with
      | 0, hn => simp at hn
      | n + 1, hn =>
        have ih := splitK_cut n b (by simp at hn; omega)
        rw [Lib.count_hit (by simp) hi]
        have ed : (a ++ 32 :: b).drop (a.length + [(32 : UInt8)].length) = b := by simp
        rw [ed, Nat.add_comm 1, Lib.splitK, if_neg (by rw [hi]; simp), hi]
        have et : ((a.length : Nat) : Int).toNat = a.length := by omega
        rw [et, ed, ih, cutAt_at a b _ ha]
        simp
    · rw [Lib.count_miss (index_none l 32 h), cutAt_none l _ h]
      rfl
theorem partsB_cut (s : ByteArray) : partsB s = (cutAt [] s.data.toList).map bs := by
  have hp : (partsB s).map (·.data.toList) = cutAt [] s.data.toList := by
    unfold partsB
    rw [Lib.splitB_data]
    exact splitK_cut _ _ (Nat.le_refl _)
  rw [← hp, List.map_map]
  conv => lhs; rw [← List.map_id (partsB s)]
  exact List.map_congr_left fun x _ => (bs_data x).symm
theorem extract_bs (s : ByteArray) (f k : Nat) : s.extract f k = bs ((s.data.toList.drop f).take (k - f)) := by
  unfold bs
  apply ByteArray.ext
  apply Array.toList_inj.1
  simp [List.extract_eq_take_drop]
theorem list_get {s : ByteArray} {k : Nat} (h : k < s.size) : ∃ h', s.data.toList[k]'h' = s[k]'h := ⟨by simpa using h, rfl⟩
end Go.Proofs.YtaapkpjokmoekaaGreatDoor

namespace Go.Proofs.YtaapkpjokmoekaaGreatDoor
open Go.ChangeShapes Go.WideShapes Go.ChangeAt Go.RowKit Go.Sort
set_option linter.unusedVariables false
set_option linter.unusedSimpArgs false

end Go.Proofs.YtaapkpjokmoekaaGreatDoor
