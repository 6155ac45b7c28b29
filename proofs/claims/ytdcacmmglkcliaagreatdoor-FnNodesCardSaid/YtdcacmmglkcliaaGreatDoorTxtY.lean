/-
  Texts parted at blanks, and numbers read, by the reference: plain laws and contracts.
-/
import Derived.Test.YtdcacmmglkcliaaGreatDoorTxtX
namespace Go.Proofs.YtdcacmmglkcliaaGreatDoor
open Go.ChangeShapes Go.WideShapes Go.ChangeAt Go.RowKit Go.Sort
set_option linter.unusedVariables false
set_option linter.unusedSimpArgs false

/-- the byte of a text at a place, as a number -/
def bt (s : ByteArray) (k : Nat) : Int := ((s.data.toList[k]?).map fun b => (b.toNat : Int)).getD 0
theorem get_bt (s : ByteArray) : ∀ (n : Nat) (h : n < s.size), ((s[n]'h).toNat : Int) = bt s n := fun n h => by
  have h' : n < s.data.toList.length := by simpa using h
  unfold bt
  rw [List.getElem?_eq_getElem h']
  rfl
theorem decFrom_lt : ∀ (l : List UInt8) (a n : Nat), Lib.decFrom a l = some n → n < (a + 1) * 10 ^ l.length
  | [], a, n, h => by simp [Lib.decFrom] at h; subst h; simp
  | b :: l, a, n, h => by
    unfold Lib.decFrom at h
    cases hd : Lib.digitVal b with
    | none => rw [hd] at h; simp at h
    | some d =>
      rw [hd] at h
      have hd9 : d ≤ 9 := by
        unfold Lib.digitVal at hd
        split at hd
        · simp at hd; omega
        · cases hd
      have h1 := decFrom_lt l _ n h
      have h2 : (10 * a + d + 1) * 10 ^ l.length ≤ ((a + 1) * 10) * 10 ^ l.length := Nat.mul_le_mul_right _ (by omega)
      rw [List.length_cons, Nat.pow_succ, Nat.mul_comm (10 ^ l.length) 10, ← Nat.mul_assoc]
      first
        | exact Nat.lt_of_lt_of_le h1 h2
        | (have e : a * 10 + d + 1 = 10 * a + d + 1 := by omega
           rw [e] at h1; exact Nat.lt_of_lt_of_le h1 h2)
theorem readDec_len {l : List UInt8} (h : (trimM l).length < 1 ∨ 18 < (trimM l).length) : readDec l = none := by
  cases hr : readDec l with
  | none => rfl
  | some n =>
    exfalso
    obtain ⟨rfl, hs⟩ := (readDec_iff _ _).1 hr
    have h1 := (trimM_len n).2 hs
    have h2 : 1 ≤ (trimM (Lib.itoa n)).length := by
      rw [trimM_itoa]
      exact List.length_pos_iff.2 (decDigits_ne _)
    omega
theorem readDec_digit {l : List UInt8} {b : UInt8} (h : b ∈ trimM l) (hb : ¬ (48 ≤ b.toNat ∧ b.toNat ≤ 57)) : readDec l = none := by
  cases hr : readDec l with
  | none => rfl
  | some n =>
    exfalso
    obtain ⟨rfl, hs⟩ := (readDec_iff _ _).1 hr
    rw [trimM_itoa] at h
    exact hb (decDigits_digit _ _ h)
/-- the number whose digits were read -/
def numOf (l : List UInt8) (m : Nat) : Int := if (trimM l).length < l.length then -(m : Int) else m
theorem readDec_num {l : List UInt8} {m : Nat} (h : Lib.decFrom 0 (trimM l) = some m) (hl : (trimM l).length ≤ 18) :
    readDec l = if Lib.itoa (numOf l m) = l then some (numOf l m) else none := by
  have hm : m < 1000000000000000000 := by
    have h1 := decFrom_lt _ _ _ h
    have h2 : (10 : Nat) ^ (trimM l).length ≤ 10 ^ 18 := Nat.pow_le_pow_right (by decide) hl
    have e18 : (10 : Nat) ^ 18 = 1000000000000000000 := by decide
    omega
  have hsm : small18 (numOf l m) := by unfold small18 numOf; split <;> omega
  by_cases e : Lib.itoa (numOf l m) = l
  · rw [if_pos e]
    exact (readDec_iff _ _).2 ⟨e, hsm⟩
  · rw [if_neg e]
    cases hr : readDec l with
    | none => rfl
    | some n =>
      exfalso
      obtain ⟨hn, hs⟩ := (readDec_iff _ _).1 hr
      apply e
      have ht : trimM l = Lib.decDigits n.natAbs := by rw [← hn, trimM_itoa]
      rw [ht, decFrom_decDigits] at h
      obtain rfl := Option.some.inj h
      have : numOf l n.natAbs = n := by
        unfold numOf
        rw [ht, ← hn]
        unfold Lib.itoa
        split
        · simp; omega
        · have e1 : n.natAbs = n.toNat := by omega
          rw [e1]; simp; omega
      rw [this, hn]
/-- the parts of a row of bytes between blanks; cur stands ahead -/
def cutAt : List UInt8 → List UInt8 → List (List UInt8)
  | cur, [] => [cur]
  | cur, c :: r => if c = 32 then cur :: cutAt [] r else cutAt (cur ++ [c]) r
theorem cutAt_none : ∀ (r cur : List UInt8), (32 : UInt8) ∉ r → cutAt cur r = [cur ++ r]
  | [], cur, _ => by simp [cutAt]
  | c :: r, cur, h => by
    have hc : c ≠ 32 := fun e => h (by simp [e])
    rw [cutAt, if_neg hc, cutAt_none r _ fun e => h (by simp [e])]
    simp
theorem cutAt_at : ∀ (a b cur : List UInt8), (32 : UInt8) ∉ a → cutAt cur (a ++ 32 :: b) = (cur ++ a) :: cutAt [] b
  | [], b, cur, _ => by simp [cutAt]
  | c :: a, b, cur, h => by
    have hc : c ≠ 32 := fun e => h (by simp [e])
    rw [List.cons_append, cutAt, if_neg hc, cutAt_at a b _ fun e => h (by simp [e])]
    simp
theorem splitK_cut : ∀ (n : Nat) (l : List UInt8), l.length ≤ n → Lib.splitK [32] 0 (Lib.count l [32]) l = cutAt [] l
  | n, l, hn => by
    by_cases h : (32 : UInt8) ∈ l
    · obtain ⟨a, b, rfl, ha⟩ := List.eq_append_cons_of_mem h
      have hi := index_at a b 32 ha
      match n, hn with
      | 0, hn => simp at hn
      | n + 1, hn =>
        have ih := splitK_cut n b (by simp at hn; omega)
        rw [Lib.count_hit (by simp) hi]
        have ed : (a ++ 32 :: b).drop (a.length + [(32 : UInt8)].length) = b := by simp
        rw [ed, Nat.add_comm 1, Lib.splitK, if_neg (by rw [hi]; simp), hi]
        have et : ((a.length : Nat) : Int).toNat = a.length := by omega
        rw [et, ed, ih, cutAt_at a b _ ha]
        simp
    · rw [Lib.count_miss (index_none l 32 h), cutAt_none l _ h]
      rfl
theorem partsB_cut (s : ByteArray) : partsB s = (cutAt [] s.data.toList).map bs := by
  have hp : (partsB s).map (·.data.toList) = cutAt [] s.data.toList := by
    unfold partsB
    rw [Lib.splitB_data]
    exact splitK_cut _ _ (Nat.le_refl _)
  rw [← hp, List.map_map]
  conv => lhs; rw [← List.map_id (partsB s)]
  exact List.map_congr_left fun x _ => (bs_data x).symm
theorem extract_bs (s : ByteArray) (f k : Nat) : s.extract f k = bs ((s.data.toList.drop f).take (k - f)) := by
  unfold bs
  apply ByteArray.ext
  apply Array.toList_inj.1
  simp [List.extract_eq_take_drop]
theorem list_get {s : ByteArray} {k : Nat} (h : k < s.size) : ∃ h', s.data.toList[k]'h' = s[k]'h := ⟨by simpa using h, rfl⟩
set_option maxHeartbeats 4000000 in
set_option maxRecDepth 100000 in
theorem l01Split_any (s : ByteArray) (w : World) (hs : s.size ≤ 1048576) :
    Calls Tryz.prog 46 #[.string s, .int .u8 32] w fun e w' => ∃ u, e = .returned u ∧ OwnV w.heap.size w' 9 u (strB (partsB s)) ∧ Below w.heap.size w w' := by
  obtain ⟨E1, hE1⟩ : ∃ E, E = w.alloc (.cells #[] 9) := ⟨_, rfl⟩
  have hb1 : Below w.heap.size w E1 := by rw [hE1]; exact (Below.refl _ _).alloc (Nat.le_refl _) _
  have O1 : Hid (OwnV w.heap.size E1 9 (.slice (some ⟨w.heap.size, 0, none⟩) 0 0) (strB (([] : List (List UInt8)).map bs))) := by
    have h := World.ownsRow_lit (base := w.heap.size) (e := 9) (size := 1) w #[] 0 (Nat.le_refl _) (by simp [maxLen]) (by simp)
    rw [hE1]
    simpa [Hid, OwnV, strB] using h
  obtain ⟨l, hl⟩ : ∃ l, l = s.data.toList := ⟨_, rfl⟩
  have hll : l.length = s.size := by rw [hl]; exact Array.length_toList
  have HP : Hid (partsB s = (cutAt [] l).map bs) := by rw [hl]; exact partsB_cut s
  have HX : Hid (∀ f k, s.extract f k = bs ((l.drop f).take (k - f))) := fun f k => by rw [hl]; exact extract_bs s f k
  have HG : Hid (∀ k, (h : k < s.size) → ∃ h', ((l[k]'h').toNat : Int) = bt s k) := fun k h => by
    subst hl
    obtain ⟨h', e⟩ := list_get h
    exact ⟨h', by rw [e]; exact get_bt s k h⟩
  have hbt := get_bt s
  have HLL := Lib.hid hll
  have HE1 := Lib.hid hE1
  clear hE1 hl hll
  go_enter Tryz.func46, Tryz.ntmps46
  go_upto_region 2 with fail
  rw [← HE1.out]
  go_wp2_with fail
  go_loopw [5, 6, 7] (fun v f i wr => ∃ (k j : Nat) (u : Value) (O : List (List UInt8)), k ≤ s.size ∧ j ≤ k ∧ v = u ∧ f = .int .i64 (j : Int) ∧ i = .int .i64 (k : Int) ∧ Hid (O.length ≤ k) ∧ Hid (cutAt [] l = O ++ cutAt ((l.drop j).take (k - j)) (l.drop k)) ∧ Hid (OwnV w.heap.size wr 9 u (strB (O.map bs))) ∧ Below w.heap.size w wr) (fun _ _ i _ => ((s.size : Int) - intOf i).toNat)
  case atStart => exact ⟨0, 0, _, [], Nat.zero_le _, Nat.le_refl _, rfl, rfl, rfl, by simp [Hid], by simp [Hid], O1, hb1⟩
  case round =>
    obtain ⟨k, j, v, O, hk, hj, hv, rfl, rfl, HOL, HC, HO, hbel⟩ := hrel
    obtain rfl := hv.symm
    clear O1 hb1
    have hsz := hbel.size
    have HLn : Hid ((strB (O.map bs)).length < 1099511627776) := by
      have := HOL.out
      unfold Hid strB
      simp
      omega
    have hown1 := HO.out
    by_cases hkt : k < s.size
    · obtain ⟨hkl, hkb⟩ := HG.out k hkt
      have hdk : l.drop k = l[k] :: l.drop (k + 1) := List.drop_eq_getElem_cons hkl
      have htk : (l.drop j).take (k + 1 - j) = (l.drop j).take (k - j) ++ [l[k]] := by
        have e : k + 1 - j = k - j + 1 := by omega
        have h1 : k - j < (l.drop j).length := by rw [List.length_drop]; omega
        rw [e, List.take_succ_eq_append_getElem h1]
        congr 2
        rw [List.getElem_drop]
        congr 1
        omega
      by_cases hc : bt s k = 32
      · have hc' : l[k] = 32 := by
          apply UInt8.toNat_inj.1
          rw [hc] at hkb
          have : (32 : UInt8).toNat = 32 := rfl
          omega
        have HM : Hid (strB ((O ++ [(l.drop j).take (k - j)]).map bs) = strB (O.map bs) ++ [.string (s.extract j k)]) := by
          unfold Hid strB
          rw [HX.out]
          simp
        have HC2 : Hid (cutAt [] l = (O ++ [(l.drop j).take (k - j)]) ++ cutAt ((l.drop (k + 1)).take (k + 1 - (k + 1))) (l.drop (k + 1))) := by
          unfold Hid
          rw [HC.out, hdk, cutAt, if_pos hc']
          simp
        have HXL : Hid (∀ q, (s.extract j k) = q → q = s.extract j k) := fun q h => h.symm
        clear hdk htk hkb hc'
        go_wp2_with (first
          | (at_builtin; refine wpList_append_strN rfl _ _ rfl rfl hown1 rfl hbel HLn.out hsz (Nat.le_refl _) ?_; intro v' w2 ho2 hb2 hz2 hk2 hn2)
          | fail)
        go_roundw
        case rel => exact ⟨k + 1, k + 1, _, _, by omega, Nat.le_refl _, rfl, by go_num, by go_num, by have := HOL.out; simp [Hid]; omega, HC2, by unfold Hid; rw [HM.out]; exact ho2, hb2⟩
        case measure => simp [intOf] <;> omega
      · have hc' : l[k] ≠ 32 := by
          intro e
          apply hc
          rw [← hkb, e]
          rfl
        have HC2 : Hid (cutAt [] l = O ++ cutAt ((l.drop j).take (k + 1 - j)) (l.drop (k + 1))) := by
          unfold Hid
          rw [HC.out, hdk, cutAt, if_neg hc', htk]
        clear hdk htk hkb hc'
        go_wp2_with fail
        go_roundw
        case rel => exact ⟨k + 1, j, _, O, by omega, by omega, rfl, rfl, by go_num, by have := HOL.out; simp [Hid]; omega, HC2, HO, hbel⟩
        case measure => simp [intOf] <;> omega
    · obtain rfl : k = s.size := by omega
      have HM : Hid (strB (partsB s) = strB (O.map bs) ++ [.string (s.extract j s.size)]) := by
        unfold Hid strB
        rw [HP.out, HX.out, HC.out]
        have : l.drop s.size = [] := List.drop_eq_nil_of_le (by rw [HLL.out]; exact Nat.le_refl _)
        rw [this, cutAt]
        simp
      go_wp2_with (first
        | (at_builtin; refine wpList_append_strN rfl _ _ rfl rfl hown1 rfl hbel HLn.out hsz (Nat.le_refl _) ?_; intro v' w2 ho2 hb2 hz2 hk2 hn2)
        | fail)
      go_ret
      exact ⟨_, rfl, by rw [HM.out]; exact ho2, hb2⟩
end Go.Proofs.YtdcacmmglkcliaaGreatDoor
