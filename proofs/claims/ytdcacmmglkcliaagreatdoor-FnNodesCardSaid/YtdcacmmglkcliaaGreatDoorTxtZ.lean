/-
  The reference's reading of numbers.
-/
import Derived.Test.YtdcacmmglkcliaaGreatDoorTxtY
namespace Go.Proofs.YtdcacmmglkcliaaGreatDoor
open Go.ChangeShapes Go.WideShapes Go.ChangeAt Go.RowKit Go.Sort
set_option linter.unusedVariables false
set_option linter.unusedSimpArgs false

theorem l01Digit_any (b : Int) (w : World) :
    Calls Tryz.prog 113 #[.int .u8 b] w fun e w' => e = .returned (.bool (decide (48 ≤ b ∧ b ≤ 57))) ∧ w' = w := by
  by_cases h1 : 48 ≤ b
  · by_cases h2 : b ≤ 57
    · rw [decide_eq_true (⟨h1, h2⟩ : 48 ≤ b ∧ b ≤ 57)]
      go_enter Tryz.func113, Tryz.ntmps113
      go_wp2_with fail
      go_ret
      exact ⟨rfl, rfl⟩
    · rw [decide_eq_false (fun h : 48 ≤ b ∧ b ≤ 57 => h2 h.2)]
      go_enter Tryz.func113, Tryz.ntmps113
      go_wp2_with fail
      go_ret
      exact ⟨rfl, rfl⟩
  · rw [decide_eq_false (fun h : 48 ≤ b ∧ b ≤ 57 => h1 h.1)]
    go_enter Tryz.func113, Tryz.ntmps113
    go_wp2_with fail
    go_ret
    exact ⟨rfl, rfl⟩
theorem decFrom_snoc {l : List UInt8} {a n : Nat} {b : UInt8} (h : Lib.decFrom a l = some n) (h0 : 48 ≤ b.toNat) (h1 : b.toNat ≤ 57) : Lib.decFrom a (l ++ [b]) = some (10 * n + (b.toNat - 48)) := by
  rw [decFrom_append, h]
  have hd : Lib.digitVal b = some (b.toNat - 48) := by unfold Lib.digitVal; rw [if_pos ⟨h0, h1⟩]
  simp only [Option.bind_some, Lib.decFrom, hd]
  congr 1
  try omega
set_option maxHeartbeats 4000000 in
set_option maxRecDepth 100000 in
theorem l01Number_any (s : ByteArray) (hs : s.size ≤ 1048576) (w : World) :
    Calls Tryz.prog 89 #[.string s] w fun e w' => e = .returned (decV s.data.toList) ∧ Below w.heap.size w w' := by
  obtain ⟨l, hl⟩ : ∃ l, l = s.data.toList := ⟨_, rfl⟩
  have hll : l.length = s.size := by rw [hl]; exact Array.length_toList
  obtain ⟨T, hT⟩ : ∃ T, T = bs (trimM l) := ⟨_, rfl⟩
  have hTl : (trimM l).length = T.size := by rw [hT, bs_size]
  have HTL := Lib.hid hTl
  have hbt := get_bt s
  have hbT := get_bt T
  have HG : Hid (∀ k, (h : k < T.size) → ∃ h', (((trimM l)[k]'h').toNat : Int) = bt T k) := fun k h => by
    have h' : k < (trimM l).length := by rw [hTl]; exact h
    refine ⟨h', ?_⟩
    unfold bt
    rw [hT, bs_list, List.getElem?_eq_getElem h']
    rfl
  have HR : Hid (decV l = decV s.data.toList) := by rw [hl]; rfl
  have HSL : Hid (bs l = s) := by rw [hl]; exact bs_data s
  have hT2 : (1 ≤ s.size ∧ bt s 0 = 45 ∧ s.extract 1 s.size = T) ∨ (¬ (1 ≤ s.size ∧ bt s 0 = 45) ∧ s = T) := by
    have hb0 : ∀ c r, l = c :: r → bt s 0 = (c.toNat : Int) := fun c r h => by
      unfold bt; rw [← hl, h]; rfl
    cases hlc : l with
    | nil =>
      refine .inr ⟨fun h => ?_, ?_⟩
      · rw [hlc] at hll; simp at hll; omega
      · rw [hT, hlc]; rw [← HSL.out, hlc]; rfl
    | cons c r =>
      have hz : 1 ≤ s.size := by rw [hlc] at hll; simp at hll; omega
      by_cases hc : c = 45
      · refine .inl ⟨hz, by rw [hb0 c r hlc, hc]; rfl, ?_⟩
        rw [extract_bs, ← hl, hT, hlc]
        congr 1
        unfold trimM
        rw [if_pos (by simp [hc])]
        rw [hlc] at hll
        simp only [List.length_cons] at hll
        show List.take (s.size - 1) r = r
        exact List.take_of_length_le (by omega)
      · refine .inr ⟨fun h => hc ?_, ?_⟩
        · have h2 := h.2
          rw [hb0 c r hlc] at h2
          apply UInt8.toNat_inj.1
          have : (45 : UInt8).toNat = 45 := rfl
          omega
        · have : trimM l = l := by unfold trimM; rw [if_neg (by rw [hlc]; simpa using hc)]
          rw [hT, this, HSL.out]
  have hlen2 : Hid (numOf l = fun m : Nat => if T.size < s.size then -(m : Int) else (m : Int)) := by
    funext m
    unfold numOf
    rw [hTl, hll]
  have HD : Hid (∀ W m, I64 m → Calls Tryz.prog 94 #[.int .i64 m] W fun e w' => e = .returned (.string (bs (Lib.itoa m))) ∧ Below W.heap.size W w') := fun W m hm => l01Dec_any m hm W
  rw [← HR.out]
  have HNL : Hid (∀ (h : T.size < 1 ∨ 18 < T.size), decV l = .tuple #[.int .i64 0, .bool false]) := fun h => decV_none (readDec_len (by rw [hTl]; exact h))
  have HND : Hid (∀ b, b ∈ trimM l → ¬ (48 ≤ b.toNat ∧ b.toNat ≤ 57) → decV l = .tuple #[.int .i64 0, .bool false]) := fun b h1 h2 => decV_none (readDec_digit h1 h2)
  have HNM : Hid (∀ m, Lib.decFrom 0 (trimM l) = some m → T.size ≤ 18 → decV l = if Lib.itoa (numOf l m) = l then .tuple #[.int .i64 (numOf l m), .bool true] else .tuple #[.int .i64 0, .bool false]) := fun m h1 h2 => by
    have := readDec_num h1 (by rw [hTl]; exact h2)
    split at this
    · rename_i h; rw [if_pos h, decV_some this]
    · rename_i h; rw [if_neg h, decV_none this]
  have HSTR : Hid (∀ m, (bs (Lib.itoa m) = s) ↔ Lib.itoa m = l) := fun m => by
    rw [← HSL.out]; exact ⟨fun h => bs_inj h, fun h => by rw [h]⟩
  have HTX := Lib.hid hT
  have HLT : Hid (∀ a n, Lib.decFrom 0 ((trimM l).take a) = some n → a ≤ 18 → a ≤ (trimM l).length → n < 10 ^ a) := fun a n h h1 h2 => by
    have := decFrom_lt _ _ _ h
    rw [List.length_take, Nat.min_eq_left h2] at this
    simpa using this
  generalize decV l = RV at *
  clear hT hl hll hTl HR HSL
  rcases hT2 with ⟨hz, h45, hx⟩ | ⟨hno, hx⟩
  · have hq : s.toList.isEmpty = false := by
      rw [List.isEmpty_eq_false_iff, ByteArray.toList_eq]
      intro h
      have : s.size = 0 := by have := congrArg List.length h; simpa using this
      omega
    have hTs : T.size < s.size := by rw [← hx, ByteArray.size_extract]; omega
    have HX := Lib.hid hx
    clear hx
    go_enter Tryz.func89, Tryz.ntmps89
    go_upto_region 4 with fail
    rw [HX.out]
    by_cases hsm : T.size < 1 ∨ 18 < T.size
    · have hrv := HNL.out hsm
      have HRV := Lib.hid hrv
      clear hrv
      rcases hsm with h | h
      · go_wp2_with fail
        go_ret2
        exact ⟨by rw [HRV.out]; rfl, Below.refl _ _⟩
      · go_wp2_with fail
        go_ret2
        exact ⟨by rw [HRV.out]; rfl, Below.refl _ _⟩
    · have hs1 : 1 ≤ T.size := by omega
      have hs18 : T.size ≤ 18 := by omega
      clear hsm
      go_wp2_with fail
      go_loopw [5, 6] (fun n i wr => ∃ (k m : Nat), k ≤ T.size ∧ n = .int .i64 (m : Int) ∧ i = .int .i64 (k : Int) ∧ Hid (Lib.decFrom 0 ((trimM l).take k) = some m) ∧ wr = w) (fun _ i _ => ((T.size : Int) - intOf i).toNat)
      case atStart => exact ⟨0, 0, Nat.zero_le _, rfl, rfl, by simp [Hid, Lib.decFrom], rfl⟩
      case round =>
        obtain ⟨k, m, hk, rfl, rfl, HM, hwr⟩ := hrel
        obtain rfl := hwr.symm
        by_cases hkt : k < T.size
        · obtain ⟨hkl, hkb⟩ := HG.out k hkt
          have DG := Lib.hid (l01Digit_any (bt T k) w)
          by_cases hd : 48 ≤ bt T k ∧ bt T k ≤ 57
          · rw [decide_eq_true hd] at DG
            have hmb : m < 100000000000000000 := by
              have h1 := HLT.out k m HM.out (by omega) (by rw [HTL.out]; omega)
              have h2 : (10 : Nat) ^ k ≤ 10 ^ 17 := Nat.pow_le_pow_right (by decide) (by omega)
              have e17 : (10 : Nat) ^ 17 = 100000000000000000 := by decide
              omega
            have HM2 : Hid (Lib.decFrom 0 ((trimM l).take (k + 1)) = some (10 * m + ((trimM l)[k].toNat - 48))) := by
              unfold Hid
              rw [List.take_succ_eq_append_getElem hkl]
              exact decFrom_snoc HM.out (by omega) (by omega)
            obtain ⟨dg, hdg⟩ : ∃ dg : Nat, bt T k = 48 + (dg : Int) := ⟨(bt T k - 48).toNat, by omega⟩
            have hd9 : dg ≤ 9 := by omega
            have hd9' : (dg : Int) ≤ 9 := by omega
            have HE : Hid ((trimM l)[k].toNat - 48 = dg) := by unfold Hid; omega
            rw [hdg] at DG
            clear hkb hd
            go_wp2_with (first | (go_at_call 113; refine DG.out.mono ?_; rintro e w1 ⟨rfl, hw1⟩; obtain rfl := hw1.symm) | fail)
            go_roundw
            case rel => exact ⟨k + 1, 10 * m + dg, by omega, by go_num, by go_num, by have := HM2.out; rw [HE.out] at this; exact this, by first | rfl | trivial⟩
            case measure => simp [intOf] <;> omega
          · rw [decide_eq_false hd] at DG
            have hrv := HND.out _ (List.getElem_mem hkl) (by omega)
            have HRV := Lib.hid hrv
            clear hrv hkb hd
            go_wp2_with (first | (go_at_call 113; refine DG.out.mono ?_; rintro e w1 ⟨rfl, hw1⟩; obtain rfl := hw1.symm) | fail)
            go_ret2
            exact ⟨by rw [HRV.out]; rfl, Below.refl _ _⟩
        · obtain rfl : k = T.size := by omega
          have hM : Lib.decFrom 0 (trimM l) = some m := by
            have := HM.out
            rwa [← HTL.out, List.take_length] at this
          have hmb : m < 1000000000000000000 := by
            have h1 := HLT.out T.size m HM.out (by omega) (by rw [HTL.out]; omega)
            have h2 : (10 : Nat) ^ T.size ≤ 10 ^ 18 := Nat.pow_le_pow_right (by decide) (by omega)
            have e18 : (10 : Nat) ^ 18 = 1000000000000000000 := by decide
            omega
          have hrv := HNM.out m hM hs18
          have hn : numOf l m = (-(m : Int)) := by rw [hlen2.out]; simp only []; rw [if_pos hTs]
          have D1 := Lib.hid (HD.out w (numOf l m) (by rw [hn]; unfold I64; omega))
          have hst := HSTR.out (numOf l m)
          rw [hn] at hrv D1 hst
          by_cases hq2 : Lib.itoa (-(m : Int)) = l
          · rw [if_pos hq2] at hrv
            have hss := hst.2 hq2
            rw [hss] at D1
            have HRV := Lib.hid hrv
            clear hrv hst hss hq2 hn hM
            go_wp2_with (first | (go_at_call 94; refine D1.out.mono ?_; rintro e w1 ⟨rfl, hb⟩) | fail)
            go_ret2
            exact ⟨by rw [HRV.out]; rfl, hb⟩
          · rw [if_neg hq2] at hrv
            have hss := str_beq_false (fun h : bs (Lib.itoa (-(m : Int))) = s => hq2 (hst.1 h))
            generalize bs (Lib.itoa (-(m : Int))) = ST at hss D1
            have HRV := Lib.hid hrv
            clear hrv hst hq2 hn hM
            go_wp2_with (first | (go_at_call 94; refine D1.out.mono ?_; rintro e w1 ⟨rfl, hb⟩) | fail)
            go_ret2
            exact ⟨by rw [HRV.out]; rfl, hb⟩
  · obtain rfl := hx
    have hTs : ¬ s.size < s.size := by omega
    by_cases hz : 1 ≤ s.size
    · have hq : s.toList.isEmpty = false := by
        rw [List.isEmpty_eq_false_iff, ByteArray.toList_eq]
        intro h
        have : s.size = 0 := by have := congrArg List.length h; simpa using this
        omega
      have h45 : ¬ bt s 0 = 45 := fun h => hno ⟨hz, h⟩
      clear hno
      go_enter Tryz.func89, Tryz.ntmps89
      go_upto_region 4 with fail
      by_cases hsm : s.size < 1 ∨ 18 < s.size
      · have hrv := HNL.out hsm
        have HRV := Lib.hid hrv
        clear hrv
        rcases hsm with h | h
        · exfalso; omega
        · go_wp2_with fail
          go_ret2
          exact ⟨by rw [HRV.out]; rfl, Below.refl _ _⟩
      · have hs1 : 1 ≤ s.size := by omega
        have hs18 : s.size ≤ 18 := by omega
        clear hsm
        go_wp2_with fail
        go_loopw [5, 6] (fun n i wr => ∃ (k m : Nat), k ≤ s.size ∧ n = .int .i64 (m : Int) ∧ i = .int .i64 (k : Int) ∧ Hid (Lib.decFrom 0 ((trimM l).take k) = some m) ∧ wr = w) (fun _ i _ => ((s.size : Int) - intOf i).toNat)
        case atStart => exact ⟨0, 0, Nat.zero_le _, rfl, rfl, by simp [Hid, Lib.decFrom], rfl⟩
        case round =>
          obtain ⟨k, m, hk, rfl, rfl, HM, hwr⟩ := hrel
          obtain rfl := hwr.symm
          by_cases hkt : k < s.size
          · obtain ⟨hkl, hkb⟩ := HG.out k hkt
            have DG := Lib.hid (l01Digit_any (bt s k) w)
            by_cases hd : 48 ≤ bt s k ∧ bt s k ≤ 57
            · rw [decide_eq_true hd] at DG
              have hmb : m < 100000000000000000 := by
                have h1 := HLT.out k m HM.out (by omega) (by rw [HTL.out]; omega)
                have h2 : (10 : Nat) ^ k ≤ 10 ^ 17 := Nat.pow_le_pow_right (by decide) (by omega)
                have e17 : (10 : Nat) ^ 17 = 100000000000000000 := by decide
                omega
              have HM2 : Hid (Lib.decFrom 0 ((trimM l).take (k + 1)) = some (10 * m + ((trimM l)[k].toNat - 48))) := by
                unfold Hid
                rw [List.take_succ_eq_append_getElem hkl]
                exact decFrom_snoc HM.out (by omega) (by omega)
              obtain ⟨dg, hdg⟩ : ∃ dg : Nat, bt s k = 48 + (dg : Int) := ⟨(bt s k - 48).toNat, by omega⟩
              have hd9 : dg ≤ 9 := by omega
              have hd9' : (dg : Int) ≤ 9 := by omega
              have HE : Hid ((trimM l)[k].toNat - 48 = dg) := by unfold Hid; omega
              rw [hdg] at DG
              clear hkb hd
              go_wp2_with (first | (go_at_call 113; refine DG.out.mono ?_; rintro e w1 ⟨rfl, hw1⟩; obtain rfl := hw1.symm) | fail)
              go_roundw
              case rel => exact ⟨k + 1, 10 * m + dg, by omega, by go_num, by go_num, by have := HM2.out; rw [HE.out] at this; exact this, by first | rfl | trivial⟩
              case measure => simp [intOf] <;> omega
            · rw [decide_eq_false hd] at DG
              have hrv := HND.out _ (List.getElem_mem hkl) (by omega)
              have HRV := Lib.hid hrv
              clear hrv hkb hd
              go_wp2_with (first | (go_at_call 113; refine DG.out.mono ?_; rintro e w1 ⟨rfl, hw1⟩; obtain rfl := hw1.symm) | fail)
              go_ret2
              exact ⟨by rw [HRV.out]; rfl, Below.refl _ _⟩
          · obtain rfl : k = s.size := by omega
            have hM : Lib.decFrom 0 (trimM l) = some m := by
              have := HM.out
              rwa [← HTL.out, List.take_length] at this
            have hmb : m < 1000000000000000000 := by
              have h1 := HLT.out s.size m HM.out (by omega) (by rw [HTL.out]; omega)
              have h2 : (10 : Nat) ^ s.size ≤ 10 ^ 18 := Nat.pow_le_pow_right (by decide) (by omega)
              have e18 : (10 : Nat) ^ 18 = 1000000000000000000 := by decide
              omega
            have hrv := HNM.out m hM hs18
            have hn : numOf l m = (m : Int) := by rw [hlen2.out]; simp only []; rw [if_neg hTs]
            have D1 := Lib.hid (HD.out w (numOf l m) (by rw [hn]; unfold I64; omega))
            have hst := HSTR.out (numOf l m)
            rw [hn] at hrv D1 hst
            by_cases hq2 : Lib.itoa (m : Int) = l
            · rw [if_pos hq2] at hrv
              have hss := hst.2 hq2
              rw [hss] at D1
              have HRV := Lib.hid hrv
              clear hrv hst hss hq2 hn hM
              go_wp2_with (first | (go_at_call 94; refine D1.out.mono ?_; rintro e w1 ⟨rfl, hb⟩) | fail)
              go_ret2
              exact ⟨by rw [HRV.out]; rfl, hb⟩
            · rw [if_neg hq2] at hrv
              have hss := str_beq_false (fun h : bs (Lib.itoa (m : Int)) = s => hq2 (hst.1 h))
              generalize bs (Lib.itoa (m : Int)) = ST at hss D1
              have HRV := Lib.hid hrv
              clear hrv hst hq2 hn hM
              go_wp2_with (first | (go_at_call 94; refine D1.out.mono ?_; rintro e w1 ⟨rfl, hb⟩) | fail)
              go_ret2
              exact ⟨by rw [HRV.out]; rfl, hb⟩
    · have hq : s.toList.isEmpty = true := by
        rw [List.isEmpty_iff, ByteArray.toList_eq]
        apply List.length_eq_zero_iff.1
        have : s.data.toList.length = s.size := Array.length_toList
        omega
      have hrv := HNL.out (.inl (by omega))
      have HRV := Lib.hid hrv
      have h0 : s.size < 1 := by omega
      clear hrv
      go_enter Tryz.func89, Tryz.ntmps89
      go_wp2_with fail
      go_ret2
      exact ⟨by rw [HRV.out]; rfl, Below.refl _ _⟩
end Go.Proofs.YtdcacmmglkcliaaGreatDoor
