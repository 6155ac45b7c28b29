/-
  The walks of the exact laws on matrices with results in memory.
-/
import Derived.Test.YtlfhdocgemiogaaMat
namespace Go.Proofs.Ytlfhdocgemiogaa
open Go.ChangeShapes Go.WideShapes Go.ChangeAt Go.RowKit
set_option linter.unusedVariables false

set_option maxHeartbeats 8000000 in
theorem fnExactMulMatrix_walk (w : World) {v0 : Value} {x0 : List (List Int)} (h0 : VII w v0 x0) {v1 : Value} {x1 : List (List Int)} (h1 : VII w v1 x1) :
    Calls Try.prog 6 #[v0, v1] w fun e w' => e = .returned (.bool true) ∧ Below w.heap.size w w' := by
  have hv0 := h0
  obtain ⟨a0p, a0c, rfl, hr0⟩ := hv0
  have hl0 := hr0.len
  unfold maxLen at hl0
  clear hr0
  have hv1 := h1
  obtain ⟨a1p, a1c, rfl, hr1⟩ := hv1
  have hl1 := hr1.len
  unfold maxLen at hl1
  clear hr1
  have HB0 := Below.refl w.heap.size w
  go_enter Try.func6, Try.ntmps6
  go_wp2_with fail
  refine (szII_v _ _ (h0.below HB0) (by omega) (by omega)).mono ?_
  rintro e E1 ⟨rfl, hb⟩
  have hz1 : w.heap.size ≤ E1.heap.size := hb.size
  have hB1 := HB0.trans (hb.mono HB0.size)
  clear hb 
  by_cases k1 : szF 1048576 (wtII x0) < 0
  case pos =>
    go_wp2_with fail
    go_ret
    exact ⟨rfl, hB1⟩
  have hn0 : wtII x0 ≤ 1048576 := by have := (szF_pos k1).2; omega
  have s1 := (szF_pos k1).1
  have l1 : 0 ≤ szF 1048576 (wtII x0) := by omega
  have g1 : szF 1048576 (wtII x0) ≤ 1048576 := by omega
  clear s1
  go_wp2_with fail
  refine (szII_v _ _ (h1.below hB1) (by omega) (by omega)).mono ?_
  rintro e E2 ⟨rfl, hb⟩
  have hz2 : E1.heap.size ≤ E2.heap.size := hb.size
  have hB2 := hB1.trans (hb.mono hB1.size)
  clear hb hB1
  by_cases k2 : szF (szF 1048576 (wtII x0)) (wtII x1) < 0
  case pos =>
    go_wp2_with fail
    go_ret
    exact ⟨rfl, hB2⟩
  have hn1 : wtII x1 ≤ 1048576 := by have := (szF_pos k2).2; omega
  have s2 := (szF_pos k2).1
  have l2 : 0 ≤ szF (szF 1048576 (wtII x0)) (wtII x1) := by omega
  have g2 : szF (szF 1048576 (wtII x0)) (wtII x1) ≤ 1048576 := by omega
  clear s2
  go_wp2_with fail
  refine (toII_v _ (h0.below hB2) hn0).mono ?_
  rintro e E3 ⟨u3, L3, rfl, o3, D3, hb⟩
  have HBW_o3 : Hid (w.heap.size ≤ E2.heap.size) := hB2.size
  have HR_o3 : Hid (∀ b, Blk L3 b → E2.heap.size ≤ b ∧ b < E3.heap.size) := fun b hbk => o3.blk hbk
  have hz3 : E2.heap.size ≤ E3.heap.size := hb.size
  have hB3 := hB2.trans (hb.mono hB2.size)
  clear hb hB2
  have hv := o3.rdv
  obtain ⟨b3p, b3c, rfl, -⟩ := hv
  go_wp2_with fail
  refine (toII_v _ (h1.below hB3) hn1).mono ?_
  rintro e E4 ⟨u4, L4, rfl, o4, D4, hb⟩
  have HBW_o4 : Hid (w.heap.size ≤ E3.heap.size) := hB3.size
  have HR_o4 : Hid (∀ b, Blk L4 b → E3.heap.size ≤ b ∧ b < E4.heap.size) := fun b hbk => o4.blk hbk
  have hz4 : E3.heap.size ≤ E4.heap.size := hb.size
  have hB4 := hB3.trans (hb.mono hB3.size)
  have o3_4 := o3.below hb
  clear hb hB3 o3
  have hv := o4.rdv
  obtain ⟨b4p, b4c, rfl, -⟩ := hv
  go_wp2_with fail
  refine (specMulMatrix_v _ o3_4.rdv o4.rdv).mono ?_
  rintro e E5 ⟨u5_0, L5_0, rfl, o5_0, D5, hb⟩
  have HBW_o5_0 : Hid (w.heap.size ≤ E4.heap.size) := hB4.size
  have HR_o5_0 : Hid (∀ b, Blk L5_0 b → E4.heap.size ≤ b ∧ b < E5.heap.size) := fun b hbk => o5_0.blk hbk
  have hz5 : E4.heap.size ≤ E5.heap.size := hb.size
  have hB5 := hB4.trans (hb.mono hB4.size)
  have o3_5 := o3_4.below hb
  have o4_5 := o4.below hb
  clear hb hB4 o3_4 o4
  have hv := o5_0.rdv
  obtain ⟨b500p, b500c, rfl, -⟩ := hv
  go_wp2_with fail
  refine (toII_v _ (h0.below hB5) hn0).mono ?_
  rintro e E6 ⟨u6, L6, rfl, o6, D6, hb⟩
  have HBW_o6 : Hid (w.heap.size ≤ E5.heap.size) := hB5.size
  have HR_o6 : Hid (∀ b, Blk L6 b → E5.heap.size ≤ b ∧ b < E6.heap.size) := fun b hbk => o6.blk hbk
  have hz6 : E5.heap.size ≤ E6.heap.size := hb.size
  have hB6 := hB5.trans (hb.mono hB5.size)
  have o3_6 := o3_5.below hb
  have o4_6 := o4_5.below hb
  have o5_0_6 := o5_0.below hb
  clear hb hB5 o3_5 o4_5 o5_0
  have hv := o6.rdv
  obtain ⟨b6p, b6c, rfl, -⟩ := hv
  go_wp2_with fail
  refine (toII_v _ (h1.below hB6) hn1).mono ?_
  rintro e E7 ⟨u7, L7, rfl, o7, D7, hb⟩
  have HBW_o7 : Hid (w.heap.size ≤ E6.heap.size) := hB6.size
  have HR_o7 : Hid (∀ b, Blk L7 b → E6.heap.size ≤ b ∧ b < E7.heap.size) := fun b hbk => o7.blk hbk
  have hz7 : E6.heap.size ≤ E7.heap.size := hb.size
  have hB7 := hB6.trans (hb.mono hB6.size)
  have o3_7 := o3_6.below hb
  have o4_7 := o4_6.below hb
  have o5_0_7 := o5_0_6.below hb
  have o6_7 := o6.below hb
  clear hb hB6 o3_6 o4_6 o5_0_6 o6
  have hv := o7.rdv
  obtain ⟨b7p, b7c, rfl, -⟩ := hv
  go_wp2_with fail
  refine (implMulMatrix_v _ o6_7.rdv o7.rdv).mono ?_
  rintro e E8 ⟨u8_0, L8_0, rfl, o8_0, D8, hb⟩
  have HBW_o8_0 : Hid (w.heap.size ≤ E7.heap.size) := hB7.size
  have HR_o8_0 : Hid (∀ b, Blk L8_0 b → E7.heap.size ≤ b ∧ b < E8.heap.size) := fun b hbk => o8_0.blk hbk
  have hz8 : E7.heap.size ≤ E8.heap.size := hb.size
  have hB8 := hB7.trans (hb.mono hB7.size)
  have o3_8 := o3_7.below hb
  have o4_8 := o4_7.below hb
  have o5_0_8 := o5_0_7.below hb
  have o6_8 := o6_7.below hb
  have o7_8 := o7.below hb
  clear hb hB7 o3_7 o4_7 o5_0_7 o6_7 o7
  have hv := o8_0.rdv
  obtain ⟨b800p, b800c, rfl, -⟩ := hv
  go_wp2_with fail
  refine (eqII_v _ o8_0.rdv o5_0_8.rdv).mono ?_
  rintro e E9 ⟨rfl, hb⟩
  have hz9 : E8.heap.size ≤ E9.heap.size := hb.size
  have hB9 := hB8.trans (hb.mono hB8.size)
  have o3_9 := o3_8.below hb
  have o4_9 := o4_8.below hb
  have o5_0_9 := o5_0_8.below hb
  have o6_9 := o6_8.below hb
  have o7_9 := o7_8.below hb
  have o8_0_9 := o8_0.below hb
  clear hb hB8 o3_8 o4_8 o5_0_8 o6_8 o7_8 o8_0
  go_wp2_with fail
  refine (toII_v _ (h0.below hB9) hn0).mono ?_
  rintro e E10 ⟨u10, L10, rfl, o10, D10, hb⟩
  have HBW_o10 : Hid (w.heap.size ≤ E9.heap.size) := hB9.size
  have HR_o10 : Hid (∀ b, Blk L10 b → E9.heap.size ≤ b ∧ b < E10.heap.size) := fun b hbk => o10.blk hbk
  have hz10 : E9.heap.size ≤ E10.heap.size := hb.size
  have hB10 := hB9.trans (hb.mono hB9.size)
  have o3_10 := o3_9.below hb
  have o4_10 := o4_9.below hb
  have o5_0_10 := o5_0_9.below hb
  have o6_10 := o6_9.below hb
  have o7_10 := o7_9.below hb
  have o8_0_10 := o8_0_9.below hb
  clear hb hB9 o3_9 o4_9 o5_0_9 o6_9 o7_9 o8_0_9
  have hv := o10.rdv
  obtain ⟨b10p, b10c, rfl, -⟩ := hv
  go_wp2_with fail
  refine (eqII_v _ o6_10.rdv o10.rdv).mono ?_
  rintro e E11 ⟨rfl, hb⟩
  have hz11 : E10.heap.size ≤ E11.heap.size := hb.size
  have hB11 := hB10.trans (hb.mono hB10.size)
  have o3_11 := o3_10.below hb
  have o4_11 := o4_10.below hb
  have o5_0_11 := o5_0_10.below hb
  have o6_11 := o6_10.below hb
  have o7_11 := o7_10.below hb
  have o8_0_11 := o8_0_10.below hb
  have o10_11 := o10.below hb
  clear hb hB10 o3_10 o4_10 o5_0_10 o6_10 o7_10 o8_0_10 o10
  go_wp2_with fail
  refine (toII_v _ (h1.below hB11) hn1).mono ?_
  rintro e E12 ⟨u12, L12, rfl, o12, D12, hb⟩
  have HBW_o12 : Hid (w.heap.size ≤ E11.heap.size) := hB11.size
  have HR_o12 : Hid (∀ b, Blk L12 b → E11.heap.size ≤ b ∧ b < E12.heap.size) := fun b hbk => o12.blk hbk
  have hz12 : E11.heap.size ≤ E12.heap.size := hb.size
  have hB12 := hB11.trans (hb.mono hB11.size)
  have o3_12 := o3_11.below hb
  have o4_12 := o4_11.below hb
  have o5_0_12 := o5_0_11.below hb
  have o6_12 := o6_11.below hb
  have o7_12 := o7_11.below hb
  have o8_0_12 := o8_0_11.below hb
  have o10_12 := o10_11.below hb
  clear hb hB11 o3_11 o4_11 o5_0_11 o6_11 o7_11 o8_0_11 o10_11
  have hv := o12.rdv
  obtain ⟨b12p, b12c, rfl, -⟩ := hv
  go_wp2_with fail
  refine (eqII_v _ o7_12.rdv o12.rdv).mono ?_
  rintro e E13 ⟨rfl, hb⟩
  have hz13 : E12.heap.size ≤ E13.heap.size := hb.size
  have hB13 := hB12.trans (hb.mono hB12.size)
  have o3_13 := o3_12.below hb
  have o4_13 := o4_12.below hb
  have o5_0_13 := o5_0_12.below hb
  have o6_13 := o6_12.below hb
  have o7_13 := o7_12.below hb
  have o8_0_13 := o8_0_12.below hb
  have o10_13 := o10_12.below hb
  have o12_13 := o12.below hb
  clear hb hB12 o3_12 o4_12 o5_0_12 o6_12 o7_12 o8_0_12 o10_12 o12
  go_wp2_with fail
  have hc_o6 := (Nat.le_trans (cntII_le x0) hn0)
  refine (markII_v _ _ o6_13 D6 (by omega) (by omega)).mono ?_
  rintro e E14 ⟨rfl, om14, hf⟩
  have hz14 : E13.heap.size ≤ E14.heap.size := hf.size
  have hB14 := hB13.trans (hf.below (fun b hbk => by have h1 := (HR_o6.out b hbk).1; have h2 := HBW_o6.out; omega) hB13.size)
  have o3_14 := o3_13.offBlk o6_13.ints (apart (fun x h => (HR_o3.out x h).2) (fun x h => (HR_o6.out x h).1) (by omega)) hf
  have o4_14 := o4_13.offBlk o6_13.ints (apart (fun x h => (HR_o4.out x h).2) (fun x h => (HR_o6.out x h).1) (by omega)) hf
  have o5_0_14 := o5_0_13.offBlk o6_13.ints (apart (fun x h => (HR_o5_0.out x h).2) (fun x h => (HR_o6.out x h).1) (by omega)) hf
  have o7_14 := o7_13.offBlk o6_13.ints (apart' (fun x h => (HR_o6.out x h).2) (fun x h => (HR_o7.out x h).1) (by omega)) hf
  have o8_0_14 := o8_0_13.offBlk o6_13.ints (apart' (fun x h => (HR_o6.out x h).2) (fun x h => (HR_o8_0.out x h).1) (by omega)) hf
  have o10_14 := o10_13.offBlk o6_13.ints (apart' (fun x h => (HR_o6.out x h).2) (fun x h => (HR_o10.out x h).1) (by omega)) hf
  have o12_14 := o12_13.offBlk o6_13.ints (apart' (fun x h => (HR_o6.out x h).2) (fun x h => (HR_o12.out x h).1) (by omega)) hf
  clear hf hB13 o3_13 o4_13 o5_0_13 o7_13 o8_0_13 o10_13 o12_13 o6_13
  go_wp2_with fail
  have hc_o7 := (Nat.le_trans (cntII_le x1) hn1)
  refine (markII_v _ _ o7_14 D7 (by omega) (by omega)).mono ?_
  rintro e E15 ⟨rfl, om15, hf⟩
  have hz15 : E14.heap.size ≤ E15.heap.size := hf.size
  have hB15 := hB14.trans (hf.below (fun b hbk => by have h1 := (HR_o7.out b hbk).1; have h2 := HBW_o7.out; omega) hB14.size)
  have o3_15 := o3_14.offBlk o7_14.ints (apart (fun x h => (HR_o3.out x h).2) (fun x h => (HR_o7.out x h).1) (by omega)) hf
  have o4_15 := o4_14.offBlk o7_14.ints (apart (fun x h => (HR_o4.out x h).2) (fun x h => (HR_o7.out x h).1) (by omega)) hf
  have o5_0_15 := o5_0_14.offBlk o7_14.ints (apart (fun x h => (HR_o5_0.out x h).2) (fun x h => (HR_o7.out x h).1) (by omega)) hf
  have o6_15 := om14.offBlk o7_14.ints (apart (fun x h => (HR_o6.out x h).2) (fun x h => (HR_o7.out x h).1) (by omega)) hf
  have o8_0_15 := o8_0_14.offBlk o7_14.ints (apart' (fun x h => (HR_o7.out x h).2) (fun x h => (HR_o8_0.out x h).1) (by omega)) hf
  have o10_15 := o10_14.offBlk o7_14.ints (apart' (fun x h => (HR_o7.out x h).2) (fun x h => (HR_o10.out x h).1) (by omega)) hf
  have o12_15 := o12_14.offBlk o7_14.ints (apart' (fun x h => (HR_o7.out x h).2) (fun x h => (HR_o12.out x h).1) (by omega)) hf
  clear hf hB14 o3_14 o4_14 o5_0_14 om14 o8_0_14 o10_14 o12_14 o7_14
  go_wp2_with fail
  refine (eqII_v _ o8_0_15.rdv o5_0_15.rdv).mono ?_
  rintro e E16 ⟨rfl, hb⟩
  have hz16 : E15.heap.size ≤ E16.heap.size := hb.size
  have hB16 := hB15.trans (hb.mono hB15.size)
  have o3_16 := o3_15.below hb
  have o4_16 := o4_15.below hb
  have o5_0_16 := o5_0_15.below hb
  have o6_16 := o6_15.below hb
  have o7_16 := om15.below hb
  have o8_0_16 := o8_0_15.below hb
  have o10_16 := o10_15.below hb
  have o12_16 := o12_15.below hb
  clear hb hB15 o3_15 o4_15 o5_0_15 o6_15 om15 o8_0_15 o10_15 o12_15
  go_wp2_with fail
  have hc_o8_0 := mulRes_small x0 x1
  refine (markII_v _ _ o8_0_16 D8 (by omega) (by omega)).mono ?_
  rintro e E17 ⟨rfl, om17, hf⟩
  have hz17 : E16.heap.size ≤ E17.heap.size := hf.size
  have hB17 := hB16.trans (hf.below (fun b hbk => by have h1 := (HR_o8_0.out b hbk).1; have h2 := HBW_o8_0.out; omega) hB16.size)
  have o3_17 := o3_16.offBlk o8_0_16.ints (apart (fun x h => (HR_o3.out x h).2) (fun x h => (HR_o8_0.out x h).1) (by omega)) hf
  have o4_17 := o4_16.offBlk o8_0_16.ints (apart (fun x h => (HR_o4.out x h).2) (fun x h => (HR_o8_0.out x h).1) (by omega)) hf
  have o5_0_17 := o5_0_16.offBlk o8_0_16.ints (apart (fun x h => (HR_o5_0.out x h).2) (fun x h => (HR_o8_0.out x h).1) (by omega)) hf
  have o6_17 := o6_16.offBlk o8_0_16.ints (apart (fun x h => (HR_o6.out x h).2) (fun x h => (HR_o8_0.out x h).1) (by omega)) hf
  have o7_17 := o7_16.offBlk o8_0_16.ints (apart (fun x h => (HR_o7.out x h).2) (fun x h => (HR_o8_0.out x h).1) (by omega)) hf
  have o10_17 := o10_16.offBlk o8_0_16.ints (apart' (fun x h => (HR_o8_0.out x h).2) (fun x h => (HR_o10.out x h).1) (by omega)) hf
  have o12_17 := o12_16.offBlk o8_0_16.ints (apart' (fun x h => (HR_o8_0.out x h).2) (fun x h => (HR_o12.out x h).1) (by omega)) hf
  clear hf hB16 o3_16 o4_16 o5_0_16 o6_16 o7_16 o10_16 o12_16 o8_0_16
  go_wp2_with fail
  refine (heldII_v (xs := (mulRes x0 x1)) _ _ om17.rdv (by omega) (by omega)).mono ?_
  rintro e E18 ⟨rfl, hb⟩
  have hz18 : E17.heap.size ≤ E18.heap.size := hb.size
  have hB18 := hB17.trans (hb.mono hB17.size)
  have o3_18 := o3_17.below hb
  have o4_18 := o4_17.below hb
  have o5_0_18 := o5_0_17.below hb
  have o6_18 := o6_17.below hb
  have o7_18 := o7_17.below hb
  have o8_0_18 := om17.below hb
  have o10_18 := o10_17.below hb
  have o12_18 := o12_17.below hb
  clear hb hB17 o3_17 o4_17 o5_0_17 o6_17 o7_17 om17 o10_17 o12_17
  go_wp2_with fail
  refine (toII_v _ (h0.below hB18) hn0).mono ?_
  rintro e E19 ⟨u19, L19, rfl, o19, D19, hb⟩
  have HBW_o19 : Hid (w.heap.size ≤ E18.heap.size) := hB18.size
  have HR_o19 : Hid (∀ b, Blk L19 b → E18.heap.size ≤ b ∧ b < E19.heap.size) := fun b hbk => o19.blk hbk
  have hz19 : E18.heap.size ≤ E19.heap.size := hb.size
  have hB19 := hB18.trans (hb.mono hB18.size)
  have o3_19 := o3_18.below hb
  have o4_19 := o4_18.below hb
  have o5_0_19 := o5_0_18.below hb
  have o6_19 := o6_18.below hb
  have o7_19 := o7_18.below hb
  have o8_0_19 := o8_0_18.below hb
  have o10_19 := o10_18.below hb
  have o12_19 := o12_18.below hb
  clear hb hB18 o3_18 o4_18 o5_0_18 o6_18 o7_18 o8_0_18 o10_18 o12_18
  have hv := o19.rdv
  obtain ⟨b19p, b19c, rfl, -⟩ := hv
  go_wp2_with fail
  refine (toII_v _ (h1.below hB19) hn1).mono ?_
  rintro e E20 ⟨u20, L20, rfl, o20, D20, hb⟩
  have HBW_o20 : Hid (w.heap.size ≤ E19.heap.size) := hB19.size
  have HR_o20 : Hid (∀ b, Blk L20 b → E19.heap.size ≤ b ∧ b < E20.heap.size) := fun b hbk => o20.blk hbk
  have hz20 : E19.heap.size ≤ E20.heap.size := hb.size
  have hB20 := hB19.trans (hb.mono hB19.size)
  have o3_20 := o3_19.below hb
  have o4_20 := o4_19.below hb
  have o5_0_20 := o5_0_19.below hb
  have o6_20 := o6_19.below hb
  have o7_20 := o7_19.below hb
  have o8_0_20 := o8_0_19.below hb
  have o10_20 := o10_19.below hb
  have o12_20 := o12_19.below hb
  have o19_20 := o19.below hb
  clear hb hB19 o3_19 o4_19 o5_0_19 o6_19 o7_19 o8_0_19 o10_19 o12_19 o19
  have hv := o20.rdv
  obtain ⟨b20p, b20c, rfl, -⟩ := hv
  go_wp2_with fail
  refine (implMulMatrix_v _ o19_20.rdv o20.rdv).mono ?_
  rintro e E21 ⟨u21_0, L21_0, rfl, o21_0, D21, hb⟩
  have HBW_o21_0 : Hid (w.heap.size ≤ E20.heap.size) := hB20.size
  have HR_o21_0 : Hid (∀ b, Blk L21_0 b → E20.heap.size ≤ b ∧ b < E21.heap.size) := fun b hbk => o21_0.blk hbk
  have hz21 : E20.heap.size ≤ E21.heap.size := hb.size
  have hB21 := hB20.trans (hb.mono hB20.size)
  have o3_21 := o3_20.below hb
  have o4_21 := o4_20.below hb
  have o5_0_21 := o5_0_20.below hb
  have o6_21 := o6_20.below hb
  have o7_21 := o7_20.below hb
  have o8_0_21 := o8_0_20.below hb
  have o10_21 := o10_20.below hb
  have o12_21 := o12_20.below hb
  have o19_21 := o19_20.below hb
  have o20_21 := o20.below hb
  clear hb hB20 o3_20 o4_20 o5_0_20 o6_20 o7_20 o8_0_20 o10_20 o12_20 o19_20 o20
  have hv := o21_0.rdv
  obtain ⟨b2100p, b2100c, rfl, -⟩ := hv
  go_wp2_with fail
  refine (eqII_v _ o21_0.rdv o5_0_21.rdv).mono ?_
  rintro e E22 ⟨rfl, hb⟩
  have hz22 : E21.heap.size ≤ E22.heap.size := hb.size
  have hB22 := hB21.trans (hb.mono hB21.size)
  have o3_22 := o3_21.below hb
  have o4_22 := o4_21.below hb
  have o5_0_22 := o5_0_21.below hb
  have o6_22 := o6_21.below hb
  have o7_22 := o7_21.below hb
  have o8_0_22 := o8_0_21.below hb
  have o10_22 := o10_21.below hb
  have o12_22 := o12_21.below hb
  have o19_22 := o19_21.below hb
  have o20_22 := o20_21.below hb
  have o21_0_22 := o21_0.below hb
  clear hb hB21 o3_21 o4_21 o5_0_21 o6_21 o7_21 o8_0_21 o10_21 o12_21 o19_21 o20_21 o21_0
  go_wp2_with fail
  refine (heldII_v (xs := (mulRes x0 x1)) _ _ o8_0_22.rdv (by omega) (by omega)).mono ?_
  rintro e E23 ⟨rfl, hb⟩
  have hz23 : E22.heap.size ≤ E23.heap.size := hb.size
  have hB23 := hB22.trans (hb.mono hB22.size)
  have o3_23 := o3_22.below hb
  have o4_23 := o4_22.below hb
  have o5_0_23 := o5_0_22.below hb
  have o6_23 := o6_22.below hb
  have o7_23 := o7_22.below hb
  have o8_0_23 := o8_0_22.below hb
  have o10_23 := o10_22.below hb
  have o12_23 := o12_22.below hb
  have o19_23 := o19_22.below hb
  have o20_23 := o20_22.below hb
  have o21_0_23 := o21_0_22.below hb
  clear hb hB22 o3_22 o4_22 o5_0_22 o6_22 o7_22 o8_0_22 o10_22 o12_22 o19_22 o20_22 o21_0_22
  go_wp2_with fail
  go_ret
  exact ⟨rfl, hB23⟩

end Go.Proofs.Ytlfhdocgemiogaa
