/-
  The text of a valid node, on both sides.
-/
import Derived.Test.YtdcacmmglkcliaaGreatDoorTxtD
import Derived.Test.YtdcacmmglkcliaaGreatDoorNode3
namespace Go.Proofs.YtdcacmmglkcliaaGreatDoor
open Go.ChangeShapes Go.WideShapes Go.ChangeAt Go.RowKit Go.Sort
set_option linter.unusedVariables false

def nmL (i : Nat) : List UInt8 := (kNm i).data.toList
theorem kNm_bs (i : Nat) : kNm i = bs (nmL i) := by
  unfold bs nmL
  apply ByteArray.ext
  simp
theorem nmL_len {i : Nat} (hi : i < 17) : (nmL i).length ≤ 6 := by
  rcases seventeen hi with rfl | rfl | rfl | rfl | rfl | rfl | rfl | rfl | rfl | rfl | rfl | rfl | rfl | rfl | rfl | rfl | rfl <;> decide
/-- the words of a node's text -/
def wordsN (i : Nat) (a b : Int) (src : List Int) : List (List UInt8) :=
  [nmL i] ++ (if kLo i ≤ kHi i then [Lib.itoa a] else []) ++ (if kBb i = true then [Lib.itoa b] else []) ++ (if src = [] then [] else [[111, 102], numStr src])
/-- a node's text -/
def nodeStr (x : NodeD) : List UInt8 := Lib.join (wordsN (x.kind - 1).toNat x.a x.b x.src) [32]
theorem nodeStr_eq (i : Nat) (a b : Int) (src : List Int) : Lib.join (wordsN i a b src) [32] =
    nmL i ++ (if kLo i ≤ kHi i then 32 :: Lib.itoa a else []) ++ (if kBb i = true then 32 :: Lib.itoa b else []) ++ (if src = [] then [] else [32, 111, 102, 32] ++ numStr src) := by
  unfold wordsN
  by_cases h1 : kLo i ≤ kHi i <;> by_cases h2 : kBb i = true <;> by_cases h3 : src = [] <;> simp [h1, h2, h3, Lib.join_cons, Lib.joinTail]
theorem nodeB_bounds {x : NodeD} {t : Int} (h : nodeB x t = true) : I64 x.a ∧ I64 x.b ∧ AllI x.src ∧ x.src.length ≤ 3 := by
  unfold nodeB at h
  simp only [Bool.and_eq_true, decide_eq_true_eq] at h
  obtain ⟨⟨⟨⟨hk, hab⟩, hs⟩, hl⟩, -⟩ := h
  obtain ⟨i, hi, he⟩ := kind_of_in hk
  have e : (x.kind - 1).toNat = i := by omega
  rw [e] at hab hl
  unfold abB at hab
  simp only [Bool.and_eq_true] at hab
  obtain ⟨ha, hb⟩ := hab
  refine ⟨?_, ?_, ?_, ?_⟩
  · unfold I64
    split at ha
    · have h1 := inB_iff.1 ha
      have h2 : -2147483648 ≤ kLo i ∧ kHi i ≤ 2147483647 := by
        rcases seventeen hi with rfl | rfl | rfl | rfl | rfl | rfl | rfl | rfl | rfl | rfl | rfl | rfl | rfl | rfl | rfl | rfl | rfl <;> decide
      omega
    · have : x.a = 0 := by simpa using ha
      omega
  · unfold I64
    split at hb
    · have h1 := inB_iff.1 hb
      omega
    · have : x.b = 0 := by simpa using hb
      omega
  · intro y hy
    have := inB_iff.1 (List.all_eq_true.1 hs y hy)
    unfold I64
    omega
  · have h2 : kAr i ≤ 3 := by
      rcases seventeen hi with rfl | rfl | rfl | rfl | rfl | rfl | rfl | rfl | rfl | rfl | rfl | rfl | rfl | rfl | rfl | rfl | rfl <;> decide
    omega
theorem nodeStr_len {i : Nat} (hi : i < 17) {a b : Int} {src : List Int} (ha : I64 a) (hb : I64 b) (hs : AllI src) (hl : src.length ≤ 3) : (Lib.join (wordsN i a b src) [32]).length ≤ 200 := by
  rw [nodeStr_eq]
  have h1 := nmL_len hi
  have h2 := Lib.itoa_length_le a ha.1 ha.2
  have h3 := Lib.itoa_length_le b hb.1 hb.2
  have h4 := numStr_length hs
  split <;> split <;> split <;> simp only [List.length_append, List.length_cons, List.length_nil] <;> omega
theorem two_one (s t : ByteArray) : ∀ u ∈ [Value.string s, Value.string t], u.oneCell' = true := by
  intro u hu
  simp only [List.mem_cons, List.not_mem_nil, or_false] at hu
  rcases hu with rfl | rfl <;> rfl
theorem two_len {u v : Value} : [u, v].length ≤ 16 := by simp
theorem kinds_ex' (w : World) :
    Calls Tryz.prog 42 #[] w fun e w' => ∃ g, e = .returned (.slice (some ⟨g, 0, none⟩) 17 17) ∧ KindCells w' g ∧ w.heap.size ≤ g ∧ Below w.heap.size w w' :=
  (kinds_any w).mono fun _ _ h => ⟨_, h.1, h.2.1, Nat.le_refl _, h.2.2⟩
set_option maxHeartbeats 16000000 in
set_option maxRecDepth 100000 in
theorem nodeText_in {p : Option Addr} {c : Nat} {src : List Int} (i : Nat) (hi : i < 17) (a b : Int) (w : World) (r : RdI w p src) (ha : I64 a) (hb64 : I64 b) (hs : AllI src) (hsl : src.length ≤ 3) (hT : TxtT w) :
    Calls Tryz.prog 40 #[.agg #[.int .i64 ((i : Int) + 1), .int .i64 a, .int .i64 b, .slice p src.length c]] w fun e w' => e = .returned (.string (bs (Lib.join (wordsN i a b src) [32]))) ∧ Below w.heap.size w w' := by
  have hlen := nodeStr_len hi ha hb64 hs hsl
  obtain ⟨E0, hE0⟩ : ∃ E, E = w.alloc (.cells #[.int .i64 ((i : Int) + 1), .int .i64 a, .int .i64 b, .slice p src.length c] 26) := ⟨_, rfl⟩
  have hB0 : Below w.heap.size w E0 := by rw [hE0]; exact (Below.refl _ _).alloc (Nat.le_refl _) _
  have ba0 : Box E0 w.heap.size [.int .i64 ((i : Int) + 1), .int .i64 a, .int .i64 b, .slice p src.length c] 26 := by rw [hE0]; exact Box.newAt w [.int .i64 ((i : Int) + 1), .int .i64 a, .int .i64 b, .slice p src.length c] _ rfl
  have HE0 := Lib.hid hE0
  have hres := Lib.hid (rfl : Lib.join (wordsN i a b src) [32] = Lib.join (wordsN i a b src) [32])
  clear hE0
  go_enter Tryz.func40, Tryz.ntmps40
  go_upto_region 1 with fail
  rw [← HE0.out]
  go_cut [3] (fun v wr => ∃ g, v = .pointer (some ⟨g, 0, none⟩) ∧ Box wr g [.string (kNm i), .int .i64 (kAr i), .int .i64 (kLo i), .int .i64 (kHi i), .bool (kLi i), .bool (kBb i)] 75 ∧ Below E0.heap.size E0 wr)
  case first =>
    have z0 := ba0.cell 0 rfl
    have w1 : IntKind.i64.wrap ((i : Int) + 1 - 1) = (i : Int) := by rw [IntWalk.i64_in _ (by omega)]; omega
    have w5 : IntKind.i64.wrap (i : Int) = (i : Int) := IntWalk.i64_in _ (by omega)
    have w2 : (0 : Int) ≤ (i : Int) := by omega
    have w3 : (i : Int) < 17 := by omega
    have w4 : ((i : Int)).toNat = i := by omega
    have hwl0 := ba0.lt
    go_region_with (first | (go_at_call 42; refine (kinds_ex' E0.drew).mono ?_; rintro e F1 ⟨g, rfl, hc, hg, hb⟩; have hb0 : Below E0.heap.size E0 F1 := below_drew' hb; have ba1 := ba0.below hb0; have y0 := ba1.cell 0 rfl; have hwl := ba1.lt; have hq := hc i hi; obtain ⟨k0, k1, k2, k3, k4, k5⟩ := hq; have hgl : g < F1.heap.size := World.block_lt_of_cell? _ _ k0; clear hc) | (go_at_call 42; refine (kinds_ex' _).mono ?_; rintro e F1 ⟨g, rfl, hc, hg, hb⟩; have hb0 : Below E0.heap.size E0 F1 := ((Below.refl _ _).alloc (Nat.le_refl _) _).trans ((below_drew' hb).mono (by simp)); have bz := (Box.newAt E0 [.string ⟨#[]⟩, .int .i64 0, .int .i64 0, .int .i64 0, .bool false, .bool false] 75 rfl).below (below_drew' hb); have ba1 := (ba0.alloc (.cells #[.string ⟨#[]⟩, .int .i64 0, .int .i64 0, .int .i64 0, .bool false, .bool false] 75)).below (below_drew' hb); have u0 := bz.cell 0 rfl; have u1 := bz.cell 1 rfl; have u2 := bz.cell 2 rfl; have u3 := bz.cell 3 rfl; have u4 := bz.cell 4 rfl; have u5 := bz.cell 5 rfl; have hgz : g ≠ E0.heap.size := (by simp at hg; omega); have hzl := bz.lt; have fz := bz.frozen; have y0 := ba1.cell 0 rfl; have hwl := ba1.lt; have hq := hc i hi; obtain ⟨k0, k1, k2, k3, k4, k5⟩ := hq; have hgl : g < F1.heap.size := World.block_lt_of_cell? _ _ k0; clear hc))
    all_goals (go_wp2_with fail)
    all_goals go_meet
    all_goals refine ⟨_, rfl, ?_, ?_⟩
    all_goals clear HE0 hres hlen
    all_goals first
      | (with_reducible exact Box.newAt F1 [.string (kNm i), .int .i64 (kAr i), .int .i64 (kLo i), .int .i64 (kHi i), .bool (kLi i), .bool (kBb i)] _ rfl)
      | (with_reducible exact hb0.alloc hb0.size _)
      | exact ((((((bz.set 0 (.string (kNm i))).set 1 (.int .i64 (kAr i))).set 2 (.int .i64 (kLo i))).set 3 (.int .i64 (kHi i))).set 4 (.bool (kLi i))).set 5 (.bool (kBb i)))
      | (with_reducible exact (((((hb0.setCell (Nat.le_refl _) _).setCell (Nat.le_refl _) _).setCell (Nat.le_refl _) _).setCell (Nat.le_refl _) _).setCell (Nat.le_refl _) _).setCell (Nat.le_refl _) _)
  case rest =>
    obtain ⟨g, rfl, bk, hb⟩ := hcut
    obtain ⟨E1, rfl⟩ : ∃ E, E = wc := ⟨_, rfl⟩
    have ba := ba0.below hb
    have hB1 := hB0.trans (hb.mono hB0.size)
    have HS1 : Hid (w.heap.size ≤ E1.heap.size) := hB1.size
    have HT1 := Lib.hid (hT.below hB1)
    have HR1 := Lib.hid (r.below hB1)
    have HB1 := Lib.hid hB1
    clear hb ba0 hB0 hB1 hT r HE0
    rw [kNm_bs] at bk
    have HK := Lib.hid (show nmL i = nmL i from rfl)
    have DA : Hid (∀ W, TxtT W → Calls Tryz.prog 82 #[.int .i64 a] W fun e w' => e = .returned (.string (bs (Lib.itoa a))) ∧ Below W.heap.size W w') := fun W hW => decimal_any a ha.1 ha.2 W hW
    have DB : Hid (∀ W, TxtT W → Calls Tryz.prog 82 #[.int .i64 b] W fun e w' => e = .returned (.string (bs (Lib.itoa b))) ∧ Below W.heap.size W w') := fun W hW => decimal_any b hb64.1 hb64.2 W hW
    have NT : Hid (∀ W, RdI W p src → TxtT W → Calls Tryz.prog 83 #[.slice p src.length c] W fun e w' => e = .returned (.string (bs (numStr src))) ∧ Below W.heap.size W w') := fun W h1 h2 => numbersText_any W h1 hs (by omega) h2
    have HA : Hid (∀ W lo hi (l b : Bool), Calls Tryz.prog 72 #[.agg #[.string (bs (nmL i)), .int .i64 (kAr i), .int .i64 lo, .int .i64 hi, .bool l, .bool b]] W fun e w' => e = .returned (.bool (decide (lo ≤ hi))) ∧ Below W.heap.size W w') := fun W lo hi l b => hasA_any _ _ _ _ _ _ W
    have JN : Hid (∀ W B v ss, ss = wordsN i a b src → OwnV B W 9 v (ss.map fun l => Value.string (bs l)) → Calls Tryz.prog 84 #[v, .string ⟨#[32]⟩] W fun e w' => e = .returned (.string (bs (Lib.join (wordsN i a b src) [32]))) ∧ Below W.heap.size W w') := fun W B v ss e h => by
      subst e
      refine join_any [32] W h ?_ (by omega)
      unfold wordsN
      split <;> split <;> split <;> simp
    have HW : Hid (∀ (hA : kLo i ≤ kHi i) , True) := fun _ => trivial
    have O0 : Hid (OwnV E1.heap.size (E1.alloc (.cells #[.string (bs (nmL i))] 9)) 9 (.slice (some ⟨E1.heap.size, 0, none⟩) 1 1) ([nmL i].map fun l => Value.string (bs l))) := OwnW.lit E1 [nmL i] (Nat.le_refl _) (by simp [maxLen])
    have W0 : Hid (∀ ss, ss = [nmL i] ++ (if kLo i ≤ kHi i then [Lib.itoa a] else []) ++ (if kBb i = true then [Lib.itoa b] else []) ++ (if src = [] then [] else [[111, 102], numStr src]) → ss = wordsN i a b src) := fun ss h => h
    have HL0 : Hid (src.length ≤ 3) := hsl
    have wa0 := ba.lt
    have wk0 := bk.lt
    have HBA := Lib.hid ba
    have HBK := Lib.hid bk
    clear ha hb64 hs hres hlen hsl
    obtain ⟨ws, hws⟩ : ∃ ws, ws = wordsN i a b src := ⟨_, rfl⟩
    rw [← hws] at JN W0
    have HWS := Lib.hid hws
    clear hws
    obtain ⟨nm, hnm⟩ : ∃ nm, nm = nmL i := ⟨_, rfl⟩
    rw [← hnm] at bk HBK HA O0 W0
    clear hnm
    obtain ⟨NA, hNA⟩ : ∃ N, N = Lib.itoa a := ⟨_, rfl⟩
    obtain ⟨NB, hNB⟩ : ∃ N, N = Lib.itoa b := ⟨_, rfl⟩
    obtain ⟨NS, hNS⟩ : ∃ N, N = numStr src := ⟨_, rfl⟩
    rw [← hNA] at DA W0
    rw [← hNB] at DB W0
    rw [← hNS] at NT W0
    clear hNA hNB hNS
    have q0 := bk.cell 0 rfl
    go_upto_region 3 with fail
    clear q0
    have ho := O0.out
    have hb : Below E1.heap.size E1 (E1.alloc (.cells #[.string (bs nm)] 9)) := (Below.refl _ _).alloc (Nat.le_refl _) _
    generalize E1.alloc (.cells #[.string (bs nm)] 9) = E2 at *
    have z1 := (HBA.out.below hb).cell 1 rfl
    have z2 := (HBA.out.below hb).cell 2 rfl
    have z3 := (HBA.out.below hb).cell 3 rfl
    have k0 := (HBK.out.below hb).cell 0 rfl
    have k1 := (HBK.out.below hb).cell 1 rfl
    have k2 := (HBK.out.below hb).cell 2 rfl
    have k3 := (HBK.out.below hb).cell 3 rfl
    have k4 := (HBK.out.below hb).cell 4 rfl
    have k5 := (HBK.out.below hb).cell 5 rfl
    clear ba bk O0 wa0 wk0
    by_cases hA : kLo i ≤ kHi i <;> cases hBb : kBb i <;> by_cases hS : src = []
    · obtain ⟨SS, hSS⟩ : ∃ s : List (List UInt8), s = [nm, NA] := ⟨_, rfl⟩
      have HSS : Hid (SS = [nm] ++ (if kLo i ≤ kHi i then [NA] else []) ++ (if kBb i = true then [NB] else []) ++ (if src = [] then [] else [[111, 102], NS])) := by
        unfold Hid; rw [hSS]; simp [hA, hBb, hS]
      have hAd : decide (kLo i ≤ kHi i) = true := by simp [hA]
      rw [hBb] at k5 HBK
      have hsl : (src.length : Int) = 0 := by rw [hS]; rfl
      subst hSS
      go_wp2_with (first
          | (go_at_call 72; refine (HA.out _ _ _ _ _).mono ?_; rintro e w1 ⟨rfl, hBx⟩; have ho := OwnV.below ho hBx; have hb := hb.trans (hBx.mono hb.size); have z1 := (HBA.out.below hb).cell 1 rfl; have z2 := (HBA.out.below hb).cell 2 rfl; have z3 := (HBA.out.below hb).cell 3 rfl; have k5 := (HBK.out.below hb).cell 5 rfl)
          | (go_at_call 82; with_reducible refine (DA.out _ (HT1.out.below hb)).mono ?_; rintro e w1 ⟨rfl, hBx⟩; have ho := OwnV.below ho hBx; have hb := hb.trans (hBx.mono hb.size); have z1 := (HBA.out.below hb).cell 1 rfl; have z2 := (HBA.out.below hb).cell 2 rfl; have z3 := (HBA.out.below hb).cell 3 rfl; have k5 := (HBK.out.below hb).cell 5 rfl)
          | (go_at_call 82; with_reducible refine (DB.out _ (HT1.out.below hb)).mono ?_; rintro e w1 ⟨rfl, hBx⟩; have ho := OwnV.below ho hBx; have hb := hb.trans (hBx.mono hb.size); have z1 := (HBA.out.below hb).cell 1 rfl; have z2 := (HBA.out.below hb).cell 2 rfl; have z3 := (HBA.out.below hb).cell 3 rfl; have k5 := (HBK.out.below hb).cell 5 rfl)
          | (go_at_call 83; with_reducible refine (NT.out _ (HR1.out.below hb) (HT1.out.below hb)).mono ?_; rintro e w1 ⟨rfl, hBx⟩; have ho := OwnV.below ho hBx; have hb := hb.trans (hBx.mono hb.size))
          | (at_builtin; refine wpList_append_val rfl _ _ rfl 16 (.string ByteArray.empty) Tryz.underlying69 infoS rfl (by omega) rfl ho rfl rfl hb (by simp) hb.size (Nat.le_refl _) ?_; intro v' w2 ho hb hz2 hk2; have z1 := (HBA.out.below hb).cell 1 rfl; have z2 := (HBA.out.below hb).cell 2 rfl; have z3 := (HBA.out.below hb).cell 3 rfl; have k5 := (HBK.out.below hb).cell 5 rfl)
          | (at_builtin; refine wpList_append_vals [.string ⟨#[111, 102]⟩, .string (bs NS)] rfl _ _ rfl 16 (.string ByteArray.empty) Tryz.underlying69 infoS rfl (by omega) rfl ho rfl (two_one _ _) two_len hb (by simp) hb.size (Nat.le_refl _) ?_; intro v' w2 ho hb hz2 hk2)
          | (go_at_call 84; refine (JN.out _ _ _ [nm, NA] (W0.out _ HSS.out) ho).mono ?_; rintro e w1 ⟨rfl, hBx⟩; have hb := hb.trans (hBx.mono hb.size))
          | fail)
      go_ret
      exact ⟨by rw [← HWS.out]; rfl, HB1.out.trans (hb.mono HS1.out)⟩
    · obtain ⟨SS, hSS⟩ : ∃ s : List (List UInt8), s = [nm, NA, [111, 102], NS] := ⟨_, rfl⟩
      have HSS : Hid (SS = [nm] ++ (if kLo i ≤ kHi i then [NA] else []) ++ (if kBb i = true then [NB] else []) ++ (if src = [] then [] else [[111, 102], NS])) := by
        unfold Hid; rw [hSS]; simp [hA, hBb, hS]
      have hAd : decide (kLo i ≤ kHi i) = true := by simp [hA]
      rw [hBb] at k5 HBK
      have hsl : (src.length : Int) > 0 := by have := List.length_pos_iff.2 hS; omega
      subst hSS
      go_wp2_with (first
          | (go_at_call 72; refine (HA.out _ _ _ _ _).mono ?_; rintro e w1 ⟨rfl, hBx⟩; have ho := OwnV.below ho hBx; have hb := hb.trans (hBx.mono hb.size); have z1 := (HBA.out.below hb).cell 1 rfl; have z2 := (HBA.out.below hb).cell 2 rfl; have z3 := (HBA.out.below hb).cell 3 rfl; have k5 := (HBK.out.below hb).cell 5 rfl)
          | (go_at_call 82; with_reducible refine (DA.out _ (HT1.out.below hb)).mono ?_; rintro e w1 ⟨rfl, hBx⟩; have ho := OwnV.below ho hBx; have hb := hb.trans (hBx.mono hb.size); have z1 := (HBA.out.below hb).cell 1 rfl; have z2 := (HBA.out.below hb).cell 2 rfl; have z3 := (HBA.out.below hb).cell 3 rfl; have k5 := (HBK.out.below hb).cell 5 rfl)
          | (go_at_call 82; with_reducible refine (DB.out _ (HT1.out.below hb)).mono ?_; rintro e w1 ⟨rfl, hBx⟩; have ho := OwnV.below ho hBx; have hb := hb.trans (hBx.mono hb.size); have z1 := (HBA.out.below hb).cell 1 rfl; have z2 := (HBA.out.below hb).cell 2 rfl; have z3 := (HBA.out.below hb).cell 3 rfl; have k5 := (HBK.out.below hb).cell 5 rfl)
          | (go_at_call 83; with_reducible refine (NT.out _ (HR1.out.below hb) (HT1.out.below hb)).mono ?_; rintro e w1 ⟨rfl, hBx⟩; have ho := OwnV.below ho hBx; have hb := hb.trans (hBx.mono hb.size))
          | (at_builtin; refine wpList_append_val rfl _ _ rfl 16 (.string ByteArray.empty) Tryz.underlying69 infoS rfl (by omega) rfl ho rfl rfl hb (by simp) hb.size (Nat.le_refl _) ?_; intro v' w2 ho hb hz2 hk2; have z1 := (HBA.out.below hb).cell 1 rfl; have z2 := (HBA.out.below hb).cell 2 rfl; have z3 := (HBA.out.below hb).cell 3 rfl; have k5 := (HBK.out.below hb).cell 5 rfl)
          | (at_builtin; refine wpList_append_vals [.string ⟨#[111, 102]⟩, .string (bs NS)] rfl _ _ rfl 16 (.string ByteArray.empty) Tryz.underlying69 infoS rfl (by omega) rfl ho rfl (two_one _ _) two_len hb (by simp) hb.size (Nat.le_refl _) ?_; intro v' w2 ho hb hz2 hk2)
          | (go_at_call 84; refine (JN.out _ _ _ [nm, NA, [111, 102], NS] (W0.out _ HSS.out) ho).mono ?_; rintro e w1 ⟨rfl, hBx⟩; have hb := hb.trans (hBx.mono hb.size))
          | fail)
      go_ret
      exact ⟨by rw [← HWS.out]; rfl, HB1.out.trans (hb.mono HS1.out)⟩
    · obtain ⟨SS, hSS⟩ : ∃ s : List (List UInt8), s = [nm, NA, NB] := ⟨_, rfl⟩
      have HSS : Hid (SS = [nm] ++ (if kLo i ≤ kHi i then [NA] else []) ++ (if kBb i = true then [NB] else []) ++ (if src = [] then [] else [[111, 102], NS])) := by
        unfold Hid; rw [hSS]; simp [hA, hBb, hS]
      have hAd : decide (kLo i ≤ kHi i) = true := by simp [hA]
      rw [hBb] at k5 HBK
      have hsl : (src.length : Int) = 0 := by rw [hS]; rfl
      subst hSS
      go_wp2_with (first
          | (go_at_call 72; refine (HA.out _ _ _ _ _).mono ?_; rintro e w1 ⟨rfl, hBx⟩; have ho := OwnV.below ho hBx; have hb := hb.trans (hBx.mono hb.size); have z1 := (HBA.out.below hb).cell 1 rfl; have z2 := (HBA.out.below hb).cell 2 rfl; have z3 := (HBA.out.below hb).cell 3 rfl; have k5 := (HBK.out.below hb).cell 5 rfl)
          | (go_at_call 82; with_reducible refine (DA.out _ (HT1.out.below hb)).mono ?_; rintro e w1 ⟨rfl, hBx⟩; have ho := OwnV.below ho hBx; have hb := hb.trans (hBx.mono hb.size); have z1 := (HBA.out.below hb).cell 1 rfl; have z2 := (HBA.out.below hb).cell 2 rfl; have z3 := (HBA.out.below hb).cell 3 rfl; have k5 := (HBK.out.below hb).cell 5 rfl)
          | (go_at_call 82; with_reducible refine (DB.out _ (HT1.out.below hb)).mono ?_; rintro e w1 ⟨rfl, hBx⟩; have ho := OwnV.below ho hBx; have hb := hb.trans (hBx.mono hb.size); have z1 := (HBA.out.below hb).cell 1 rfl; have z2 := (HBA.out.below hb).cell 2 rfl; have z3 := (HBA.out.below hb).cell 3 rfl; have k5 := (HBK.out.below hb).cell 5 rfl)
          | (go_at_call 83; with_reducible refine (NT.out _ (HR1.out.below hb) (HT1.out.below hb)).mono ?_; rintro e w1 ⟨rfl, hBx⟩; have ho := OwnV.below ho hBx; have hb := hb.trans (hBx.mono hb.size))
          | (at_builtin; refine wpList_append_val rfl _ _ rfl 16 (.string ByteArray.empty) Tryz.underlying69 infoS rfl (by omega) rfl ho rfl rfl hb (by simp) hb.size (Nat.le_refl _) ?_; intro v' w2 ho hb hz2 hk2; have z1 := (HBA.out.below hb).cell 1 rfl; have z2 := (HBA.out.below hb).cell 2 rfl; have z3 := (HBA.out.below hb).cell 3 rfl; have k5 := (HBK.out.below hb).cell 5 rfl)
          | (at_builtin; refine wpList_append_vals [.string ⟨#[111, 102]⟩, .string (bs NS)] rfl _ _ rfl 16 (.string ByteArray.empty) Tryz.underlying69 infoS rfl (by omega) rfl ho rfl (two_one _ _) two_len hb (by simp) hb.size (Nat.le_refl _) ?_; intro v' w2 ho hb hz2 hk2)
          | (go_at_call 84; refine (JN.out _ _ _ [nm, NA, NB] (W0.out _ HSS.out) ho).mono ?_; rintro e w1 ⟨rfl, hBx⟩; have hb := hb.trans (hBx.mono hb.size))
          | fail)
      go_ret
      exact ⟨by rw [← HWS.out]; rfl, HB1.out.trans (hb.mono HS1.out)⟩
    · obtain ⟨SS, hSS⟩ : ∃ s : List (List UInt8), s = [nm, NA, NB, [111, 102], NS] := ⟨_, rfl⟩
      have HSS : Hid (SS = [nm] ++ (if kLo i ≤ kHi i then [NA] else []) ++ (if kBb i = true then [NB] else []) ++ (if src = [] then [] else [[111, 102], NS])) := by
        unfold Hid; rw [hSS]; simp [hA, hBb, hS]
      have hAd : decide (kLo i ≤ kHi i) = true := by simp [hA]
      rw [hBb] at k5 HBK
      have hsl : (src.length : Int) > 0 := by have := List.length_pos_iff.2 hS; omega
      subst hSS
      go_wp2_with (first
          | (go_at_call 72; refine (HA.out _ _ _ _ _).mono ?_; rintro e w1 ⟨rfl, hBx⟩; have ho := OwnV.below ho hBx; have hb := hb.trans (hBx.mono hb.size); have z1 := (HBA.out.below hb).cell 1 rfl; have z2 := (HBA.out.below hb).cell 2 rfl; have z3 := (HBA.out.below hb).cell 3 rfl; have k5 := (HBK.out.below hb).cell 5 rfl)
          | (go_at_call 82; with_reducible refine (DA.out _ (HT1.out.below hb)).mono ?_; rintro e w1 ⟨rfl, hBx⟩; have ho := OwnV.below ho hBx; have hb := hb.trans (hBx.mono hb.size); have z1 := (HBA.out.below hb).cell 1 rfl; have z2 := (HBA.out.below hb).cell 2 rfl; have z3 := (HBA.out.below hb).cell 3 rfl; have k5 := (HBK.out.below hb).cell 5 rfl)
          | (go_at_call 82; with_reducible refine (DB.out _ (HT1.out.below hb)).mono ?_; rintro e w1 ⟨rfl, hBx⟩; have ho := OwnV.below ho hBx; have hb := hb.trans (hBx.mono hb.size); have z1 := (HBA.out.below hb).cell 1 rfl; have z2 := (HBA.out.below hb).cell 2 rfl; have z3 := (HBA.out.below hb).cell 3 rfl; have k5 := (HBK.out.below hb).cell 5 rfl)
          | (go_at_call 83; with_reducible refine (NT.out _ (HR1.out.below hb) (HT1.out.below hb)).mono ?_; rintro e w1 ⟨rfl, hBx⟩; have ho := OwnV.below ho hBx; have hb := hb.trans (hBx.mono hb.size))
          | (at_builtin; refine wpList_append_val rfl _ _ rfl 16 (.string ByteArray.empty) Tryz.underlying69 infoS rfl (by omega) rfl ho rfl rfl hb (by simp) hb.size (Nat.le_refl _) ?_; intro v' w2 ho hb hz2 hk2; have z1 := (HBA.out.below hb).cell 1 rfl; have z2 := (HBA.out.below hb).cell 2 rfl; have z3 := (HBA.out.below hb).cell 3 rfl; have k5 := (HBK.out.below hb).cell 5 rfl)
          | (at_builtin; refine wpList_append_vals [.string ⟨#[111, 102]⟩, .string (bs NS)] rfl _ _ rfl 16 (.string ByteArray.empty) Tryz.underlying69 infoS rfl (by omega) rfl ho rfl (two_one _ _) two_len hb (by simp) hb.size (Nat.le_refl _) ?_; intro v' w2 ho hb hz2 hk2)
          | (go_at_call 84; refine (JN.out _ _ _ [nm, NA, NB, [111, 102], NS] (W0.out _ HSS.out) ho).mono ?_; rintro e w1 ⟨rfl, hBx⟩; have hb := hb.trans (hBx.mono hb.size))
          | fail)
      go_ret
      exact ⟨by rw [← HWS.out]; rfl, HB1.out.trans (hb.mono HS1.out)⟩
    · obtain ⟨SS, hSS⟩ : ∃ s : List (List UInt8), s = [nm] := ⟨_, rfl⟩
      have HSS : Hid (SS = [nm] ++ (if kLo i ≤ kHi i then [NA] else []) ++ (if kBb i = true then [NB] else []) ++ (if src = [] then [] else [[111, 102], NS])) := by
        unfold Hid; rw [hSS]; simp [hA, hBb, hS]
      have hAd : decide (kLo i ≤ kHi i) = false := by simp [hA]
      rw [hBb] at k5 HBK
      have hsl : (src.length : Int) = 0 := by rw [hS]; rfl
      subst hSS
      go_wp2_with (first
          | (go_at_call 72; refine (HA.out _ _ _ _ _).mono ?_; rintro e w1 ⟨rfl, hBx⟩; have ho := OwnV.below ho hBx; have hb := hb.trans (hBx.mono hb.size); have z1 := (HBA.out.below hb).cell 1 rfl; have z2 := (HBA.out.below hb).cell 2 rfl; have z3 := (HBA.out.below hb).cell 3 rfl; have k5 := (HBK.out.below hb).cell 5 rfl)
          | (go_at_call 82; with_reducible refine (DA.out _ (HT1.out.below hb)).mono ?_; rintro e w1 ⟨rfl, hBx⟩; have ho := OwnV.below ho hBx; have hb := hb.trans (hBx.mono hb.size); have z1 := (HBA.out.below hb).cell 1 rfl; have z2 := (HBA.out.below hb).cell 2 rfl; have z3 := (HBA.out.below hb).cell 3 rfl; have k5 := (HBK.out.below hb).cell 5 rfl)
          | (go_at_call 82; with_reducible refine (DB.out _ (HT1.out.below hb)).mono ?_; rintro e w1 ⟨rfl, hBx⟩; have ho := OwnV.below ho hBx; have hb := hb.trans (hBx.mono hb.size); have z1 := (HBA.out.below hb).cell 1 rfl; have z2 := (HBA.out.below hb).cell 2 rfl; have z3 := (HBA.out.below hb).cell 3 rfl; have k5 := (HBK.out.below hb).cell 5 rfl)
          | (go_at_call 83; with_reducible refine (NT.out _ (HR1.out.below hb) (HT1.out.below hb)).mono ?_; rintro e w1 ⟨rfl, hBx⟩; have ho := OwnV.below ho hBx; have hb := hb.trans (hBx.mono hb.size))
          | (at_builtin; refine wpList_append_val rfl _ _ rfl 16 (.string ByteArray.empty) Tryz.underlying69 infoS rfl (by omega) rfl ho rfl rfl hb (by simp) hb.size (Nat.le_refl _) ?_; intro v' w2 ho hb hz2 hk2; have z1 := (HBA.out.below hb).cell 1 rfl; have z2 := (HBA.out.below hb).cell 2 rfl; have z3 := (HBA.out.below hb).cell 3 rfl; have k5 := (HBK.out.below hb).cell 5 rfl)
          | (at_builtin; refine wpList_append_vals [.string ⟨#[111, 102]⟩, .string (bs NS)] rfl _ _ rfl 16 (.string ByteArray.empty) Tryz.underlying69 infoS rfl (by omega) rfl ho rfl (two_one _ _) two_len hb (by simp) hb.size (Nat.le_refl _) ?_; intro v' w2 ho hb hz2 hk2)
          | (go_at_call 84; refine (JN.out _ _ _ [nm] (W0.out _ HSS.out) ho).mono ?_; rintro e w1 ⟨rfl, hBx⟩; have hb := hb.trans (hBx.mono hb.size))
          | fail)
      go_ret
      exact ⟨by rw [← HWS.out]; rfl, HB1.out.trans (hb.mono HS1.out)⟩
    · obtain ⟨SS, hSS⟩ : ∃ s : List (List UInt8), s = [nm, [111, 102], NS] := ⟨_, rfl⟩
      have HSS : Hid (SS = [nm] ++ (if kLo i ≤ kHi i then [NA] else []) ++ (if kBb i = true then [NB] else []) ++ (if src = [] then [] else [[111, 102], NS])) := by
        unfold Hid; rw [hSS]; simp [hA, hBb, hS]
      have hAd : decide (kLo i ≤ kHi i) = false := by simp [hA]
      rw [hBb] at k5 HBK
      have hsl : (src.length : Int) > 0 := by have := List.length_pos_iff.2 hS; omega
      subst hSS
      go_wp2_with (first
          | (go_at_call 72; refine (HA.out _ _ _ _ _).mono ?_; rintro e w1 ⟨rfl, hBx⟩; have ho := OwnV.below ho hBx; have hb := hb.trans (hBx.mono hb.size); have z1 := (HBA.out.below hb).cell 1 rfl; have z2 := (HBA.out.below hb).cell 2 rfl; have z3 := (HBA.out.below hb).cell 3 rfl; have k5 := (HBK.out.below hb).cell 5 rfl)
          | (go_at_call 82; with_reducible refine (DA.out _ (HT1.out.below hb)).mono ?_; rintro e w1 ⟨rfl, hBx⟩; have ho := OwnV.below ho hBx; have hb := hb.trans (hBx.mono hb.size); have z1 := (HBA.out.below hb).cell 1 rfl; have z2 := (HBA.out.below hb).cell 2 rfl; have z3 := (HBA.out.below hb).cell 3 rfl; have k5 := (HBK.out.below hb).cell 5 rfl)
          | (go_at_call 82; with_reducible refine (DB.out _ (HT1.out.below hb)).mono ?_; rintro e w1 ⟨rfl, hBx⟩; have ho := OwnV.below ho hBx; have hb := hb.trans (hBx.mono hb.size); have z1 := (HBA.out.below hb).cell 1 rfl; have z2 := (HBA.out.below hb).cell 2 rfl; have z3 := (HBA.out.below hb).cell 3 rfl; have k5 := (HBK.out.below hb).cell 5 rfl)
          | (go_at_call 83; with_reducible refine (NT.out _ (HR1.out.below hb) (HT1.out.below hb)).mono ?_; rintro e w1 ⟨rfl, hBx⟩; have ho := OwnV.below ho hBx; have hb := hb.trans (hBx.mono hb.size))
          | (at_builtin; refine wpList_append_val rfl _ _ rfl 16 (.string ByteArray.empty) Tryz.underlying69 infoS rfl (by omega) rfl ho rfl rfl hb (by simp) hb.size (Nat.le_refl _) ?_; intro v' w2 ho hb hz2 hk2; have z1 := (HBA.out.below hb).cell 1 rfl; have z2 := (HBA.out.below hb).cell 2 rfl; have z3 := (HBA.out.below hb).cell 3 rfl; have k5 := (HBK.out.below hb).cell 5 rfl)
          | (at_builtin; refine wpList_append_vals [.string ⟨#[111, 102]⟩, .string (bs NS)] rfl _ _ rfl 16 (.string ByteArray.empty) Tryz.underlying69 infoS rfl (by omega) rfl ho rfl (two_one _ _) two_len hb (by simp) hb.size (Nat.le_refl _) ?_; intro v' w2 ho hb hz2 hk2)
          | (go_at_call 84; refine (JN.out _ _ _ [nm, [111, 102], NS] (W0.out _ HSS.out) ho).mono ?_; rintro e w1 ⟨rfl, hBx⟩; have hb := hb.trans (hBx.mono hb.size))
          | fail)
      go_ret
      exact ⟨by rw [← HWS.out]; rfl, HB1.out.trans (hb.mono HS1.out)⟩
    · obtain ⟨SS, hSS⟩ : ∃ s : List (List UInt8), s = [nm, NB] := ⟨_, rfl⟩
      have HSS : Hid (SS = [nm] ++ (if kLo i ≤ kHi i then [NA] else []) ++ (if kBb i = true then [NB] else []) ++ (if src = [] then [] else [[111, 102], NS])) := by
        unfold Hid; rw [hSS]; simp [hA, hBb, hS]
      have hAd : decide (kLo i ≤ kHi i) = false := by simp [hA]
      rw [hBb] at k5 HBK
      have hsl : (src.length : Int) = 0 := by rw [hS]; rfl
      subst hSS
      go_wp2_with (first
          | (go_at_call 72; refine (HA.out _ _ _ _ _).mono ?_; rintro e w1 ⟨rfl, hBx⟩; have ho := OwnV.below ho hBx; have hb := hb.trans (hBx.mono hb.size); have z1 := (HBA.out.below hb).cell 1 rfl; have z2 := (HBA.out.below hb).cell 2 rfl; have z3 := (HBA.out.below hb).cell 3 rfl; have k5 := (HBK.out.below hb).cell 5 rfl)
          | (go_at_call 82; with_reducible refine (DA.out _ (HT1.out.below hb)).mono ?_; rintro e w1 ⟨rfl, hBx⟩; have ho := OwnV.below ho hBx; have hb := hb.trans (hBx.mono hb.size); have z1 := (HBA.out.below hb).cell 1 rfl; have z2 := (HBA.out.below hb).cell 2 rfl; have z3 := (HBA.out.below hb).cell 3 rfl; have k5 := (HBK.out.below hb).cell 5 rfl)
          | (go_at_call 82; with_reducible refine (DB.out _ (HT1.out.below hb)).mono ?_; rintro e w1 ⟨rfl, hBx⟩; have ho := OwnV.below ho hBx; have hb := hb.trans (hBx.mono hb.size); have z1 := (HBA.out.below hb).cell 1 rfl; have z2 := (HBA.out.below hb).cell 2 rfl; have z3 := (HBA.out.below hb).cell 3 rfl; have k5 := (HBK.out.below hb).cell 5 rfl)
          | (go_at_call 83; with_reducible refine (NT.out _ (HR1.out.below hb) (HT1.out.below hb)).mono ?_; rintro e w1 ⟨rfl, hBx⟩; have ho := OwnV.below ho hBx; have hb := hb.trans (hBx.mono hb.size))
          | (at_builtin; refine wpList_append_val rfl _ _ rfl 16 (.string ByteArray.empty) Tryz.underlying69 infoS rfl (by omega) rfl ho rfl rfl hb (by simp) hb.size (Nat.le_refl _) ?_; intro v' w2 ho hb hz2 hk2; have z1 := (HBA.out.below hb).cell 1 rfl; have z2 := (HBA.out.below hb).cell 2 rfl; have z3 := (HBA.out.below hb).cell 3 rfl; have k5 := (HBK.out.below hb).cell 5 rfl)
          | (at_builtin; refine wpList_append_vals [.string ⟨#[111, 102]⟩, .string (bs NS)] rfl _ _ rfl 16 (.string ByteArray.empty) Tryz.underlying69 infoS rfl (by omega) rfl ho rfl (two_one _ _) two_len hb (by simp) hb.size (Nat.le_refl _) ?_; intro v' w2 ho hb hz2 hk2)
          | (go_at_call 84; refine (JN.out _ _ _ [nm, NB] (W0.out _ HSS.out) ho).mono ?_; rintro e w1 ⟨rfl, hBx⟩; have hb := hb.trans (hBx.mono hb.size))
          | fail)
      go_ret
      exact ⟨by rw [← HWS.out]; rfl, HB1.out.trans (hb.mono HS1.out)⟩
    · obtain ⟨SS, hSS⟩ : ∃ s : List (List UInt8), s = [nm, NB, [111, 102], NS] := ⟨_, rfl⟩
      have HSS : Hid (SS = [nm] ++ (if kLo i ≤ kHi i then [NA] else []) ++ (if kBb i = true then [NB] else []) ++ (if src = [] then [] else [[111, 102], NS])) := by
        unfold Hid; rw [hSS]; simp [hA, hBb, hS]
      have hAd : decide (kLo i ≤ kHi i) = false := by simp [hA]
      rw [hBb] at k5 HBK
      have hsl : (src.length : Int) > 0 := by have := List.length_pos_iff.2 hS; omega
      subst hSS
      go_wp2_with (first
          | (go_at_call 72; refine (HA.out _ _ _ _ _).mono ?_; rintro e w1 ⟨rfl, hBx⟩; have ho := OwnV.below ho hBx; have hb := hb.trans (hBx.mono hb.size); have z1 := (HBA.out.below hb).cell 1 rfl; have z2 := (HBA.out.below hb).cell 2 rfl; have z3 := (HBA.out.below hb).cell 3 rfl; have k5 := (HBK.out.below hb).cell 5 rfl)
          | (go_at_call 82; with_reducible refine (DA.out _ (HT1.out.below hb)).mono ?_; rintro e w1 ⟨rfl, hBx⟩; have ho := OwnV.below ho hBx; have hb := hb.trans (hBx.mono hb.size); have z1 := (HBA.out.below hb).cell 1 rfl; have z2 := (HBA.out.below hb).cell 2 rfl; have z3 := (HBA.out.below hb).cell 3 rfl; have k5 := (HBK.out.below hb).cell 5 rfl)
          | (go_at_call 82; with_reducible refine (DB.out _ (HT1.out.below hb)).mono ?_; rintro e w1 ⟨rfl, hBx⟩; have ho := OwnV.below ho hBx; have hb := hb.trans (hBx.mono hb.size); have z1 := (HBA.out.below hb).cell 1 rfl; have z2 := (HBA.out.below hb).cell 2 rfl; have z3 := (HBA.out.below hb).cell 3 rfl; have k5 := (HBK.out.below hb).cell 5 rfl)
          | (go_at_call 83; with_reducible refine (NT.out _ (HR1.out.below hb) (HT1.out.below hb)).mono ?_; rintro e w1 ⟨rfl, hBx⟩; have ho := OwnV.below ho hBx; have hb := hb.trans (hBx.mono hb.size))
          | (at_builtin; refine wpList_append_val rfl _ _ rfl 16 (.string ByteArray.empty) Tryz.underlying69 infoS rfl (by omega) rfl ho rfl rfl hb (by simp) hb.size (Nat.le_refl _) ?_; intro v' w2 ho hb hz2 hk2; have z1 := (HBA.out.below hb).cell 1 rfl; have z2 := (HBA.out.below hb).cell 2 rfl; have z3 := (HBA.out.below hb).cell 3 rfl; have k5 := (HBK.out.below hb).cell 5 rfl)
          | (at_builtin; refine wpList_append_vals [.string ⟨#[111, 102]⟩, .string (bs NS)] rfl _ _ rfl 16 (.string ByteArray.empty) Tryz.underlying69 infoS rfl (by omega) rfl ho rfl (two_one _ _) two_len hb (by simp) hb.size (Nat.le_refl _) ?_; intro v' w2 ho hb hz2 hk2)
          | (go_at_call 84; refine (JN.out _ _ _ [nm, NB, [111, 102], NS] (W0.out _ HSS.out) ho).mono ?_; rintro e w1 ⟨rfl, hBx⟩; have hb := hb.trans (hBx.mono hb.size))
          | fail)
      go_ret
      exact ⟨by rw [← HWS.out]; rfl, HB1.out.trans (hb.mono HS1.out)⟩
end Go.Proofs.YtdcacmmglkcliaaGreatDoor
