/-
  The text of a valid node on the reference's side.
-/
import Derived.Test.YtdcacmmglkcliaaGreatDoorTxtN
import Derived.Test.YtdcacmmglkcliaaGreatDoorNode3
namespace Go.Proofs.YtdcacmmglkcliaaGreatDoor
open Go.ChangeShapes Go.WideShapes Go.ChangeAt Go.RowKit Go.Sort
set_option linter.unusedVariables false
set_option linter.unusedSimpArgs false

theorem hasAB_in {i : Nat} (hi : i < 17) : hasAB ((i : Int) + 1) = decide (kLo i ≤ kHi i) := by
  rcases seventeen hi with rfl | rfl | rfl | rfl | rfl | rfl | rfl | rfl | rfl | rfl | rfl | rfl | rfl | rfl | rfl | rfl | rfl <;> decide
theorem kBb_in {i : Nat} (hi : i < 17) : kBb i = decide (i = 16) := by
  rcases seventeen hi with rfl | rfl | rfl | rfl | rfl | rfl | rfl | rfl | rfl | rfl | rfl | rfl | rfl | rfl | rfl | rfl | rfl <;> decide
theorem names_ex (w : World) :
    Calls Tryz.prog 114 #[] w fun e w' => ∃ g, e = .returned (.slice (some ⟨g, 0, none⟩) 18 18) ∧ (∀ i, i < 17 → w'.cell? ⟨g, i + 1, none⟩ = some (.string (kNm i))) ∧ Below w.heap.size w w' :=
  (l06Names_any w).mono fun _ _ h => ⟨_, h.1, h.2.1, h.2.2⟩
set_option maxHeartbeats 16000000 in
set_option maxRecDepth 100000 in
theorem l06Text_in {bk ok : Nat} {src : List Int} (i : Nat) (hi : i < 17) (a b : Int) (w : World) (h : PNode w bk ok ⟨(i : Int) + 1, a, b, src⟩) (ha : I64 a) (hb64 : I64 b) (hs : AllI src) (hsl : src.length ≤ 3) :
    Calls Tryz.prog 91 #[.pointer (some ⟨bk, ok, none⟩)] w fun e w' => e = .returned (.string (bs (Lib.join (wordsN i a b src) [32]))) ∧ Below w.heap.size w w' := by
  have hlt := h.lt
  have hP := Lib.hid h
  obtain ⟨c0, c1, c2, p, c, c3, hr⟩ := h
  simp only at c0 c1 c2 c3 hr
  go_enter Tryz.func91, Tryz.ntmps91
  go_upto_region 1 with fail
  go_cut [3] (fun v wr => v = .string (kNm i) ∧ Below w.heap.size w wr)
  case first =>
    have w2 : (0 : Int) ≤ (i : Int) + 1 := by omega
    have w3 : (i : Int) + 1 < 18 := by omega
    have w4 : ((i : Int) + 1).toNat = i + 1 := by omega
    clear c1 c2 c3 hr
    go_region_with (first | (go_at_call 114; refine (names_ex _).mono ?_; rintro e F1 ⟨g, rfl, hc, hb⟩; have hb0 : Below w.heap.size w F1 := (by first | exact below_drew' hb | exact hb); have y0 := (hb0.cell (p := ⟨bk, ok, none⟩) hlt).trans c0; have hwl : bk < F1.heap.size := Nat.lt_of_lt_of_le hlt hb0.size; have hq := hc i hi; have hgl : g < F1.heap.size := World.block_lt_of_cell? _ _ hq; clear hc) | fail)
    all_goals (go_wp2_with fail)
    all_goals go_meet
    all_goals exact ⟨rfl, hb0⟩
  case rest =>
    obtain ⟨rfl, hb⟩ := hcut
    obtain ⟨E1, rfl⟩ : ∃ E, E = wc := ⟨_, rfl⟩
    rw [kNm_bs]
    have DA : Hid (∀ W, Calls Tryz.prog 94 #[.int .i64 a] W fun e w' => e = .returned (.string (bs (Lib.itoa a))) ∧ Below W.heap.size W w') := fun W => l01Dec_any a ha W
    have DB : Hid (∀ W, Calls Tryz.prog 94 #[.int .i64 b] W fun e w' => e = .returned (.string (bs (Lib.itoa b))) ∧ Below W.heap.size W w') := fun W => l01Dec_any b hb64 W
    have NT : Hid (∀ W, Below w.heap.size w W → Calls Tryz.prog 115 #[.slice p src.length c] W fun e w' => e = .returned (.string (bs (numStr src))) ∧ Below W.heap.size W w') := fun W h1 => l03Text_any W (hr.below h1) hs (by omega)
    have HA : Hid (∀ W, Calls Tryz.prog 103 #[.int .i64 ((i : Int) + 1)] W fun e w' => e = .returned (.bool (decide (kLo i ≤ kHi i))) ∧ Below W.heap.size W w') := fun W => by
      have := l06HasA_any ((i : Int) + 1) W
      rwa [hasAB_in hi] at this
    have CC : Hid (∀ W, Below w.heap.size w W → W.cell? ⟨bk, ok, none⟩ = some (.int .i64 ((i : Int) + 1)) ∧ W.cell? ⟨bk, ok + 1, none⟩ = some (.int .i64 a) ∧ W.cell? ⟨bk, ok + 2, none⟩ = some (.int .i64 b) ∧ W.cell? ⟨bk, ok + 3, none⟩ = some (.slice p src.length c)) := fun W hW =>
      ⟨(hW.cell (p := ⟨bk, ok, none⟩) hlt).trans c0, (hW.cell (p := ⟨bk, ok + 1, none⟩) hlt).trans c1, (hW.cell (p := ⟨bk, ok + 2, none⟩) hlt).trans c2, (hW.cell (p := ⟨bk, ok + 3, none⟩) hlt).trans c3⟩
    have s0 : (bs (nmL i)).size ≤ 6 := by rw [bs_size]; exact nmL_len hi
    have sa : (bs (Lib.itoa a)).size ≤ 21 := by rw [bs_size]; exact Lib.itoa_length_le a ha.1 ha.2
    have sb : (bs (Lib.itoa b)).size ≤ 21 := by rw [bs_size]; exact Lib.itoa_length_le b hb64.1 hb64.2
    have sn : (bs (numStr src)).size ≤ 66 := by have := numStr_length hs; rw [bs_size]; omega
    have e1 : (ByteArray.mk #[32]).size = 1 := rfl
    have e4 : (ByteArray.mk #[32, 111, 102, 32]).size = 4 := rfl
    have ta : (ByteArray.mk #[32] ++ bs (Lib.itoa a)).size ≤ 22 := by rw [ByteArray.size_append]; omega
    have tb : (ByteArray.mk #[32] ++ bs (Lib.itoa b)).size ≤ 22 := by rw [ByteArray.size_append]; omega
    have tn : (ByteArray.mk #[32, 111, 102, 32] ++ bs (numStr src)).size ≤ 70 := by rw [ByteArray.size_append]; omega
    have b1 : (ByteArray.mk #[32]) = bs [32] := rfl
    have b4 : (ByteArray.mk #[32, 111, 102, 32]) = bs [32, 111, 102, 32] := rfl
    have HS := Lib.hid (nodeStr_eq i a b src)
    have HB4 := Lib.hid b4
    have HB32 := Lib.hid b1
    have h17 : kBb i = decide ((i : Int) + 1 = 17) := by
      rw [kBb_in hi]
      have : (i = 16) = ((i : Int) + 1 = 17) := by rw [eq_iff_iff]; omega
      simp only [this]
    obtain ⟨z0, z1, z2, z3⟩ := CC.out _ hb
    clear c0 c1 c2 c3 hr ha hb64 hs hsl b1 b4 e1 e4
    by_cases hA : kLo i ≤ kHi i <;> by_cases hBb : (i : Int) + 1 = 17 <;> by_cases hS : src = []
    · have hAd : decide (kLo i ≤ kHi i) = true := by simp [hA]
      have f0 : (bs (nmL i) ++ (ByteArray.mk #[32] ++ bs (Lib.itoa a))).size ≤ 28 := by rw [ByteArray.size_append]; omega
      have f1 : ((bs (nmL i) ++ (ByteArray.mk #[32] ++ bs (Lib.itoa a))) ++ (ByteArray.mk #[32] ++ bs (Lib.itoa b))).size ≤ 50 := by rw [ByteArray.size_append]; omega
      have HFIN : Hid (bs (Lib.join (wordsN i a b src) [32]) = ((bs (nmL i) ++ (ByteArray.mk #[32] ++ bs (Lib.itoa a))) ++ (ByteArray.mk #[32] ++ bs (Lib.itoa b)))) := by
        unfold Hid
        rw [HS.out, if_pos hA, if_pos (by rw [h17]; simp [hBb]), if_pos hS]
        try simp only [HB32.out, HB4.out]
        simp only [bs_app, List.append_assoc, List.append_nil, List.cons_append, List.nil_append]
      have hsl : (src.length : Int) = 0 := by rw [hS]; rfl
      have q17 : ((i : Int) + 1 == 17) = true := by simp [hBb]
      clear h17 hBb
      go_wp2_with (first
          | (go_at_call 103; refine (HA.out _).mono ?_; rintro e w1 ⟨rfl, hBx⟩; have hb := hb.trans (hBx.mono hb.size); obtain ⟨z0, z1, z2, z3⟩ := CC.out _ hb)
          | (go_at_call 94; with_reducible refine (DA.out _).mono ?_; rintro e w1 ⟨rfl, hBx⟩; have hb := hb.trans (hBx.mono hb.size); obtain ⟨z0, z1, z2, z3⟩ := CC.out _ hb)
          | (go_at_call 94; with_reducible refine (DB.out _).mono ?_; rintro e w1 ⟨rfl, hBx⟩; have hb := hb.trans (hBx.mono hb.size); obtain ⟨z0, z1, z2, z3⟩ := CC.out _ hb)
          | (go_at_call 115; with_reducible refine (NT.out _ hb).mono ?_; rintro e w1 ⟨rfl, hBx⟩; have hb := hb.trans (hBx.mono hb.size); obtain ⟨z0, z1, z2, z3⟩ := CC.out _ hb)
          | fail)
      go_ret
      exact ⟨by rw [HFIN.out]; rfl, hb⟩
    · have hAd : decide (kLo i ≤ kHi i) = true := by simp [hA]
      have f0 : (bs (nmL i) ++ (ByteArray.mk #[32] ++ bs (Lib.itoa a))).size ≤ 28 := by rw [ByteArray.size_append]; omega
      have f1 : ((bs (nmL i) ++ (ByteArray.mk #[32] ++ bs (Lib.itoa a))) ++ (ByteArray.mk #[32] ++ bs (Lib.itoa b))).size ≤ 50 := by rw [ByteArray.size_append]; omega
      have f2 : (((bs (nmL i) ++ (ByteArray.mk #[32] ++ bs (Lib.itoa a))) ++ (ByteArray.mk #[32] ++ bs (Lib.itoa b))) ++ (ByteArray.mk #[32, 111, 102, 32] ++ bs (numStr src))).size ≤ 120 := by rw [ByteArray.size_append]; omega
      have HFIN : Hid (bs (Lib.join (wordsN i a b src) [32]) = (((bs (nmL i) ++ (ByteArray.mk #[32] ++ bs (Lib.itoa a))) ++ (ByteArray.mk #[32] ++ bs (Lib.itoa b))) ++ (ByteArray.mk #[32, 111, 102, 32] ++ bs (numStr src)))) := by
        unfold Hid
        rw [HS.out, if_pos hA, if_pos (by rw [h17]; simp [hBb]), if_neg hS]
        try simp only [HB32.out, HB4.out]
        simp only [bs_app, List.append_assoc, List.append_nil, List.cons_append, List.nil_append]
      have hsl : (src.length : Int) > 0 := by have := List.length_pos_iff.2 hS; omega
      have q17 : ((i : Int) + 1 == 17) = true := by simp [hBb]
      clear h17 hBb
      go_wp2_with (first
          | (go_at_call 103; refine (HA.out _).mono ?_; rintro e w1 ⟨rfl, hBx⟩; have hb := hb.trans (hBx.mono hb.size); obtain ⟨z0, z1, z2, z3⟩ := CC.out _ hb)
          | (go_at_call 94; with_reducible refine (DA.out _).mono ?_; rintro e w1 ⟨rfl, hBx⟩; have hb := hb.trans (hBx.mono hb.size); obtain ⟨z0, z1, z2, z3⟩ := CC.out _ hb)
          | (go_at_call 94; with_reducible refine (DB.out _).mono ?_; rintro e w1 ⟨rfl, hBx⟩; have hb := hb.trans (hBx.mono hb.size); obtain ⟨z0, z1, z2, z3⟩ := CC.out _ hb)
          | (go_at_call 115; with_reducible refine (NT.out _ hb).mono ?_; rintro e w1 ⟨rfl, hBx⟩; have hb := hb.trans (hBx.mono hb.size); obtain ⟨z0, z1, z2, z3⟩ := CC.out _ hb)
          | fail)
      go_ret
      exact ⟨by rw [HFIN.out]; rfl, hb⟩
    · have hAd : decide (kLo i ≤ kHi i) = true := by simp [hA]
      have f0 : (bs (nmL i) ++ (ByteArray.mk #[32] ++ bs (Lib.itoa a))).size ≤ 28 := by rw [ByteArray.size_append]; omega
      have HFIN : Hid (bs (Lib.join (wordsN i a b src) [32]) = (bs (nmL i) ++ (ByteArray.mk #[32] ++ bs (Lib.itoa a)))) := by
        unfold Hid
        rw [HS.out, if_pos hA, if_neg (by rw [h17]; simp [hBb]), if_pos hS]
        try simp only [HB32.out, HB4.out]
        simp only [bs_app, List.append_assoc, List.append_nil, List.cons_append, List.nil_append]
      have hsl : (src.length : Int) = 0 := by rw [hS]; rfl
      have q17 : ((i : Int) + 1 == 17) = false := by simp [hBb]
      clear h17 hBb
      go_wp2_with (first
          | (go_at_call 103; refine (HA.out _).mono ?_; rintro e w1 ⟨rfl, hBx⟩; have hb := hb.trans (hBx.mono hb.size); obtain ⟨z0, z1, z2, z3⟩ := CC.out _ hb)
          | (go_at_call 94; with_reducible refine (DA.out _).mono ?_; rintro e w1 ⟨rfl, hBx⟩; have hb := hb.trans (hBx.mono hb.size); obtain ⟨z0, z1, z2, z3⟩ := CC.out _ hb)
          | (go_at_call 94; with_reducible refine (DB.out _).mono ?_; rintro e w1 ⟨rfl, hBx⟩; have hb := hb.trans (hBx.mono hb.size); obtain ⟨z0, z1, z2, z3⟩ := CC.out _ hb)
          | (go_at_call 115; with_reducible refine (NT.out _ hb).mono ?_; rintro e w1 ⟨rfl, hBx⟩; have hb := hb.trans (hBx.mono hb.size); obtain ⟨z0, z1, z2, z3⟩ := CC.out _ hb)
          | fail)
      go_ret
      exact ⟨by rw [HFIN.out]; rfl, hb⟩
    · have hAd : decide (kLo i ≤ kHi i) = true := by simp [hA]
      have f0 : (bs (nmL i) ++ (ByteArray.mk #[32] ++ bs (Lib.itoa a))).size ≤ 28 := by rw [ByteArray.size_append]; omega
      have f1 : ((bs (nmL i) ++ (ByteArray.mk #[32] ++ bs (Lib.itoa a))) ++ (ByteArray.mk #[32, 111, 102, 32] ++ bs (numStr src))).size ≤ 98 := by rw [ByteArray.size_append]; omega
      have HFIN : Hid (bs (Lib.join (wordsN i a b src) [32]) = ((bs (nmL i) ++ (ByteArray.mk #[32] ++ bs (Lib.itoa a))) ++ (ByteArray.mk #[32, 111, 102, 32] ++ bs (numStr src)))) := by
        unfold Hid
        rw [HS.out, if_pos hA, if_neg (by rw [h17]; simp [hBb]), if_neg hS]
        try simp only [HB32.out, HB4.out]
        simp only [bs_app, List.append_assoc, List.append_nil, List.cons_append, List.nil_append]
      have hsl : (src.length : Int) > 0 := by have := List.length_pos_iff.2 hS; omega
      have q17 : ((i : Int) + 1 == 17) = false := by simp [hBb]
      clear h17 hBb
      go_wp2_with (first
          | (go_at_call 103; refine (HA.out _).mono ?_; rintro e w1 ⟨rfl, hBx⟩; have hb := hb.trans (hBx.mono hb.size); obtain ⟨z0, z1, z2, z3⟩ := CC.out _ hb)
          | (go_at_call 94; with_reducible refine (DA.out _).mono ?_; rintro e w1 ⟨rfl, hBx⟩; have hb := hb.trans (hBx.mono hb.size); obtain ⟨z0, z1, z2, z3⟩ := CC.out _ hb)
          | (go_at_call 94; with_reducible refine (DB.out _).mono ?_; rintro e w1 ⟨rfl, hBx⟩; have hb := hb.trans (hBx.mono hb.size); obtain ⟨z0, z1, z2, z3⟩ := CC.out _ hb)
          | (go_at_call 115; with_reducible refine (NT.out _ hb).mono ?_; rintro e w1 ⟨rfl, hBx⟩; have hb := hb.trans (hBx.mono hb.size); obtain ⟨z0, z1, z2, z3⟩ := CC.out _ hb)
          | fail)
      go_ret
      exact ⟨by rw [HFIN.out]; rfl, hb⟩
    · have hAd : decide (kLo i ≤ kHi i) = false := by simp [hA]
      have f0 : (bs (nmL i) ++ (ByteArray.mk #[32] ++ bs (Lib.itoa b))).size ≤ 28 := by rw [ByteArray.size_append]; omega
      have HFIN : Hid (bs (Lib.join (wordsN i a b src) [32]) = (bs (nmL i) ++ (ByteArray.mk #[32] ++ bs (Lib.itoa b)))) := by
        unfold Hid
        rw [HS.out, if_neg hA, if_pos (by rw [h17]; simp [hBb]), if_pos hS]
        try simp only [HB32.out, HB4.out]
        simp only [bs_app, List.append_assoc, List.append_nil, List.cons_append, List.nil_append]
      have hsl : (src.length : Int) = 0 := by rw [hS]; rfl
      have q17 : ((i : Int) + 1 == 17) = true := by simp [hBb]
      clear h17 hBb
      go_wp2_with (first
          | (go_at_call 103; refine (HA.out _).mono ?_; rintro e w1 ⟨rfl, hBx⟩; have hb := hb.trans (hBx.mono hb.size); obtain ⟨z0, z1, z2, z3⟩ := CC.out _ hb)
          | (go_at_call 94; with_reducible refine (DA.out _).mono ?_; rintro e w1 ⟨rfl, hBx⟩; have hb := hb.trans (hBx.mono hb.size); obtain ⟨z0, z1, z2, z3⟩ := CC.out _ hb)
          | (go_at_call 94; with_reducible refine (DB.out _).mono ?_; rintro e w1 ⟨rfl, hBx⟩; have hb := hb.trans (hBx.mono hb.size); obtain ⟨z0, z1, z2, z3⟩ := CC.out _ hb)
          | (go_at_call 115; with_reducible refine (NT.out _ hb).mono ?_; rintro e w1 ⟨rfl, hBx⟩; have hb := hb.trans (hBx.mono hb.size); obtain ⟨z0, z1, z2, z3⟩ := CC.out _ hb)
          | fail)
      go_ret
      exact ⟨by rw [HFIN.out]; rfl, hb⟩
    · have hAd : decide (kLo i ≤ kHi i) = false := by simp [hA]
      have f0 : (bs (nmL i) ++ (ByteArray.mk #[32] ++ bs (Lib.itoa b))).size ≤ 28 := by rw [ByteArray.size_append]; omega
      have f1 : ((bs (nmL i) ++ (ByteArray.mk #[32] ++ bs (Lib.itoa b))) ++ (ByteArray.mk #[32, 111, 102, 32] ++ bs (numStr src))).size ≤ 98 := by rw [ByteArray.size_append]; omega
      have HFIN : Hid (bs (Lib.join (wordsN i a b src) [32]) = ((bs (nmL i) ++ (ByteArray.mk #[32] ++ bs (Lib.itoa b))) ++ (ByteArray.mk #[32, 111, 102, 32] ++ bs (numStr src)))) := by
        unfold Hid
        rw [HS.out, if_neg hA, if_pos (by rw [h17]; simp [hBb]), if_neg hS]
        try simp only [HB32.out, HB4.out]
        simp only [bs_app, List.append_assoc, List.append_nil, List.cons_append, List.nil_append]
      have hsl : (src.length : Int) > 0 := by have := List.length_pos_iff.2 hS; omega
      have q17 : ((i : Int) + 1 == 17) = true := by simp [hBb]
      clear h17 hBb
      go_wp2_with (first
          | (go_at_call 103; refine (HA.out _).mono ?_; rintro e w1 ⟨rfl, hBx⟩; have hb := hb.trans (hBx.mono hb.size); obtain ⟨z0, z1, z2, z3⟩ := CC.out _ hb)
          | (go_at_call 94; with_reducible refine (DA.out _).mono ?_; rintro e w1 ⟨rfl, hBx⟩; have hb := hb.trans (hBx.mono hb.size); obtain ⟨z0, z1, z2, z3⟩ := CC.out _ hb)
          | (go_at_call 94; with_reducible refine (DB.out _).mono ?_; rintro e w1 ⟨rfl, hBx⟩; have hb := hb.trans (hBx.mono hb.size); obtain ⟨z0, z1, z2, z3⟩ := CC.out _ hb)
          | (go_at_call 115; with_reducible refine (NT.out _ hb).mono ?_; rintro e w1 ⟨rfl, hBx⟩; have hb := hb.trans (hBx.mono hb.size); obtain ⟨z0, z1, z2, z3⟩ := CC.out _ hb)
          | fail)
      go_ret
      exact ⟨by rw [HFIN.out]; rfl, hb⟩
    · have hAd : decide (kLo i ≤ kHi i) = false := by simp [hA]
      have HFIN : Hid (bs (Lib.join (wordsN i a b src) [32]) = bs (nmL i)) := by
        unfold Hid
        rw [HS.out, if_neg hA, if_neg (by rw [h17]; simp [hBb]), if_pos hS]
        try simp only [HB32.out, HB4.out]
        simp only [bs_app, List.append_assoc, List.append_nil, List.cons_append, List.nil_append]
      have hsl : (src.length : Int) = 0 := by rw [hS]; rfl
      have q17 : ((i : Int) + 1 == 17) = false := by simp [hBb]
      clear h17 hBb
      go_wp2_with (first
          | (go_at_call 103; refine (HA.out _).mono ?_; rintro e w1 ⟨rfl, hBx⟩; have hb := hb.trans (hBx.mono hb.size); obtain ⟨z0, z1, z2, z3⟩ := CC.out _ hb)
          | (go_at_call 94; with_reducible refine (DA.out _).mono ?_; rintro e w1 ⟨rfl, hBx⟩; have hb := hb.trans (hBx.mono hb.size); obtain ⟨z0, z1, z2, z3⟩ := CC.out _ hb)
          | (go_at_call 94; with_reducible refine (DB.out _).mono ?_; rintro e w1 ⟨rfl, hBx⟩; have hb := hb.trans (hBx.mono hb.size); obtain ⟨z0, z1, z2, z3⟩ := CC.out _ hb)
          | (go_at_call 115; with_reducible refine (NT.out _ hb).mono ?_; rintro e w1 ⟨rfl, hBx⟩; have hb := hb.trans (hBx.mono hb.size); obtain ⟨z0, z1, z2, z3⟩ := CC.out _ hb)
          | fail)
      go_ret
      exact ⟨by rw [HFIN.out]; rfl, hb⟩
    · have hAd : decide (kLo i ≤ kHi i) = false := by simp [hA]
      have f0 : (bs (nmL i) ++ (ByteArray.mk #[32, 111, 102, 32] ++ bs (numStr src))).size ≤ 76 := by rw [ByteArray.size_append]; omega
      have HFIN : Hid (bs (Lib.join (wordsN i a b src) [32]) = (bs (nmL i) ++ (ByteArray.mk #[32, 111, 102, 32] ++ bs (numStr src)))) := by
        unfold Hid
        rw [HS.out, if_neg hA, if_neg (by rw [h17]; simp [hBb]), if_neg hS]
        try simp only [HB32.out, HB4.out]
        simp only [bs_app, List.append_assoc, List.append_nil, List.cons_append, List.nil_append]
      have hsl : (src.length : Int) > 0 := by have := List.length_pos_iff.2 hS; omega
      have q17 : ((i : Int) + 1 == 17) = false := by simp [hBb]
      clear h17 hBb
      go_wp2_with (first
          | (go_at_call 103; refine (HA.out _).mono ?_; rintro e w1 ⟨rfl, hBx⟩; have hb := hb.trans (hBx.mono hb.size); obtain ⟨z0, z1, z2, z3⟩ := CC.out _ hb)
          | (go_at_call 94; with_reducible refine (DA.out _).mono ?_; rintro e w1 ⟨rfl, hBx⟩; have hb := hb.trans (hBx.mono hb.size); obtain ⟨z0, z1, z2, z3⟩ := CC.out _ hb)
          | (go_at_call 94; with_reducible refine (DB.out _).mono ?_; rintro e w1 ⟨rfl, hBx⟩; have hb := hb.trans (hBx.mono hb.size); obtain ⟨z0, z1, z2, z3⟩ := CC.out _ hb)
          | (go_at_call 115; with_reducible refine (NT.out _ hb).mono ?_; rintro e w1 ⟨rfl, hBx⟩; have hb := hb.trans (hBx.mono hb.size); obtain ⟨z0, z1, z2, z3⟩ := CC.out _ hb)
          | fail)
      go_ret
      exact ⟨by rw [HFIN.out]; rfl, hb⟩
end Go.Proofs.YtdcacmmglkcliaaGreatDoor
