/-
  The walks of the exact laws on the characteristic polynomial and the determinant.
-/
import Derived.Test.YtlfhdocgemiogaaChar3
namespace Go.Proofs.Ytlfhdocgemiogaa
open Go.ChangeShapes Go.WideShapes Go.ChangeAt Go.RowKit
set_option linter.unusedVariables false

set_option maxHeartbeats 8000000 in
theorem fnExactCharPoly_walk (w : World) {v0 : Value} {x0 : List (List Int)} (h0 : VII w v0 x0) :
    Calls Try.prog 8 #[v0] w fun e w' => e = .returned (.bool true) ∧ Below w.heap.size w w' := by
  have hv0 := h0
  obtain ⟨a0p, a0c, rfl, hr0⟩ := hv0
  have hl0 := hr0.len
  unfold maxLen at hl0
  clear hr0
  have HB0 := Below.refl w.heap.size w
  go_enter Try.func8, Try.ntmps8
  go_wp2_with fail
  refine (szII_v _ _ (h0.below HB0) (by omega) (by omega)).mono ?_
  rintro e E1 ⟨rfl, hb⟩
  have hz1 : w.heap.size ≤ E1.heap.size := hb.size
  have hB1 := HB0.trans (hb.mono HB0.size)
  clear hb 
  by_cases k1 : szF 1048576 (wtII x0) < 0
  case pos =>
    go_wp2_with fail
    go_ret
    exact ⟨rfl, hB1⟩
  have hn0 : wtII x0 ≤ 1048576 := by have := (szF_pos k1).2; omega
  have s1 := (szF_pos k1).1
  have l1 : 0 ≤ szF 1048576 (wtII x0) := by omega
  have g1 : szF 1048576 (wtII x0) ≤ 1048576 := by omega
  clear s1
  go_wp2_with fail
  refine (toII_v _ (h0.below hB1) hn0).mono ?_
  rintro e E2 ⟨u2, L2, rfl, o2, D2, hb⟩
  have HBW_o2 : Hid (w.heap.size ≤ E1.heap.size) := hB1.size
  have HR_o2 : Hid (∀ b, Blk L2 b → E1.heap.size ≤ b ∧ b < E2.heap.size) := fun b hbk => o2.blk hbk
  have hz2 : E1.heap.size ≤ E2.heap.size := hb.size
  have hB2 := hB1.trans (hb.mono hB1.size)
  clear hb hB1
  have hv := o2.rdv
  obtain ⟨b2p, b2c, rfl, -⟩ := hv
  go_wp2_with fail
  refine (specCharPoly_v _ o2.rdv).mono ?_
  rintro e E3 ⟨u3_0, L3_0, rfl, o3_0, D3, hb⟩
  have HBW_o3_0 : Hid (w.heap.size ≤ E2.heap.size) := hB2.size
  have HR_o3_0 : Hid (∀ b, Blk L3_0 b → E2.heap.size ≤ b ∧ b < E3.heap.size) := fun b hbk => o3_0.blk hbk
  have hz3 : E2.heap.size ≤ E3.heap.size := hb.size
  have hB3 := hB2.trans (hb.mono hB2.size)
  have o2_3 := o2.below hb
  clear hb hB2 o2
  have hv := o3_0.rd
  obtain ⟨b300p, b300c, rfl, -⟩ := hv
  go_wp2_with fail
  refine (toII_v _ (h0.below hB3) hn0).mono ?_
  rintro e E4 ⟨u4, L4, rfl, o4, D4, hb⟩
  have HBW_o4 : Hid (w.heap.size ≤ E3.heap.size) := hB3.size
  have HR_o4 : Hid (∀ b, Blk L4 b → E3.heap.size ≤ b ∧ b < E4.heap.size) := fun b hbk => o4.blk hbk
  have hz4 : E3.heap.size ≤ E4.heap.size := hb.size
  have hB4 := hB3.trans (hb.mono hB3.size)
  have o2_4 := o2_3.below hb
  have o3_0_4 := o3_0.below hb
  clear hb hB3 o2_3 o3_0
  have hv := o4.rdv
  obtain ⟨b4p, b4c, rfl, -⟩ := hv
  go_wp2_with fail
  refine (implCharPoly_v _ o4.rdv).mono ?_
  rintro e E5 ⟨u5_0, L5_0, rfl, o5_0, D5, hb⟩
  have HBW_o5_0 : Hid (w.heap.size ≤ E4.heap.size) := hB4.size
  have HR_o5_0 : Hid (∀ b, Blk L5_0 b → E4.heap.size ≤ b ∧ b < E5.heap.size) := fun b hbk => o5_0.blk hbk
  have hz5 : E4.heap.size ≤ E5.heap.size := hb.size
  have hB5 := hB4.trans (hb.mono hB4.size)
  have o2_5 := o2_4.below hb
  have o3_0_5 := o3_0_4.below hb
  have o4_5 := o4.below hb
  clear hb hB4 o2_4 o3_0_4 o4
  have hv := o5_0.rd
  obtain ⟨b500p, b500c, rfl, -⟩ := hv
  go_wp2_with fail
  refine (eqI_v _ o5_0.rd o3_0_5.rd).mono ?_
  rintro e E6 ⟨rfl, hb⟩
  have hz6 : E5.heap.size ≤ E6.heap.size := hb.size
  have hB6 := hB5.trans (hb.mono hB5.size)
  have o2_6 := o2_5.below hb
  have o3_0_6 := o3_0_5.below hb
  have o4_6 := o4_5.below hb
  have o5_0_6 := o5_0.below hb
  clear hb hB5 o2_5 o3_0_5 o4_5 o5_0
  go_wp2_with fail
  refine (toII_v _ (h0.below hB6) hn0).mono ?_
  rintro e E7 ⟨u7, L7, rfl, o7, D7, hb⟩
  have HBW_o7 : Hid (w.heap.size ≤ E6.heap.size) := hB6.size
  have HR_o7 : Hid (∀ b, Blk L7 b → E6.heap.size ≤ b ∧ b < E7.heap.size) := fun b hbk => o7.blk hbk
  have hz7 : E6.heap.size ≤ E7.heap.size := hb.size
  have hB7 := hB6.trans (hb.mono hB6.size)
  have o2_7 := o2_6.below hb
  have o3_0_7 := o3_0_6.below hb
  have o4_7 := o4_6.below hb
  have o5_0_7 := o5_0_6.below hb
  clear hb hB6 o2_6 o3_0_6 o4_6 o5_0_6
  have hv := o7.rdv
  obtain ⟨b7p, b7c, rfl, -⟩ := hv
  go_wp2_with fail
  refine (eqII_v _ o4_7.rdv o7.rdv).mono ?_
  rintro e E8 ⟨rfl, hb⟩
  have hz8 : E7.heap.size ≤ E8.heap.size := hb.size
  have hB8 := hB7.trans (hb.mono hB7.size)
  have o2_8 := o2_7.below hb
  have o3_0_8 := o3_0_7.below hb
  have o4_8 := o4_7.below hb
  have o5_0_8 := o5_0_7.below hb
  have o7_8 := o7.below hb
  clear hb hB7 o2_7 o3_0_7 o4_7 o5_0_7 o7
  go_wp2_with fail
  have hc_o4 := (Nat.le_trans (cntII_le x0) hn0)
  refine (markII_v _ _ o4_8 D4 (by omega) (by omega)).mono ?_
  rintro e E9 ⟨rfl, om9, hf⟩
  have hz9 : E8.heap.size ≤ E9.heap.size := hf.size
  have hB9 := hB8.trans (hf.below (fun b hbk => by have h1 := (HR_o4.out b hbk).1; have h2 := HBW_o4.out; omega) hB8.size)
  have o2_9 := o2_8.offBlk o4_8.ints (apart (fun x h => (HR_o2.out x h).2) (fun x h => (HR_o4.out x h).1) (by omega)) hf
  have o3_0_9 := o3_0_8.offBlk o4_8.ints (apart (fun x h => (HR_o3_0.out x h).2) (fun x h => (HR_o4.out x h).1) (by omega)) hf
  have o5_0_9 := o5_0_8.offBlk o4_8.ints (apart' (fun x h => (HR_o4.out x h).2) (fun x h => (HR_o5_0.out x h).1) (by omega)) hf
  have o7_9 := o7_8.offBlk o4_8.ints (apart' (fun x h => (HR_o4.out x h).2) (fun x h => (HR_o7.out x h).1) (by omega)) hf
  clear hf hB8 o2_8 o3_0_8 o5_0_8 o7_8 o4_8
  go_wp2_with fail
  refine (eqI_v _ o5_0_9.rd o3_0_9.rd).mono ?_
  rintro e E10 ⟨rfl, hb⟩
  have hz10 : E9.heap.size ≤ E10.heap.size := hb.size
  have hB10 := hB9.trans (hb.mono hB9.size)
  have o2_10 := o2_9.below hb
  have o3_0_10 := o3_0_9.below hb
  have o4_10 := om9.below hb
  have o5_0_10 := o5_0_9.below hb
  have o7_10 := o7_9.below hb
  clear hb hB9 o2_9 o3_0_9 om9 o5_0_9 o7_9
  go_wp2_with fail
  have hc_o5_0 := chpRes_small x0
  refine (markI_v _ _ o5_0_10 D5 (by omega) (by omega)).mono ?_
  rintro e E11 ⟨rfl, om11, hf⟩
  have hz11 : E10.heap.size ≤ E11.heap.size := hf.size
  have hB11 := hB10.trans (hf.below (fun b hbk => by have h1 := (HR_o5_0.out b hbk).1; have h2 := HBW_o5_0.out; omega) hB10.size)
  have o2_11 := o2_10.offBlk o5_0_10.ints (apart (fun x h => (HR_o2.out x h).2) (fun x h => (HR_o5_0.out x h).1) (by omega)) hf
  have o3_0_11 := o3_0_10.offBlk o5_0_10.ints (apart (fun x h => (HR_o3_0.out x h).2) (fun x h => (HR_o5_0.out x h).1) (by omega)) hf
  have o4_11 := o4_10.offBlk o5_0_10.ints (apart (fun x h => (HR_o4.out x h).2) (fun x h => (HR_o5_0.out x h).1) (by omega)) hf
  have o7_11 := o7_10.offBlk o5_0_10.ints (apart' (fun x h => (HR_o5_0.out x h).2) (fun x h => (HR_o7.out x h).1) (by omega)) hf
  clear hf hB10 o2_10 o3_0_10 o4_10 o7_10 o5_0_10
  go_wp2_with fail
  refine (heldI_v (xs := (chpRes x0)) _ _ om11.rd (by omega) (by omega)).mono ?_
  rintro e E12 ⟨rfl, hb⟩
  have hz12 : E11.heap.size ≤ E12.heap.size := hb.size
  have hB12 := hB11.trans (hb.mono hB11.size)
  have o2_12 := o2_11.below hb
  have o3_0_12 := o3_0_11.below hb
  have o4_12 := o4_11.below hb
  have o5_0_12 := om11.below hb
  have o7_12 := o7_11.below hb
  clear hb hB11 o2_11 o3_0_11 o4_11 om11 o7_11
  go_wp2_with fail
  refine (toII_v _ (h0.below hB12) hn0).mono ?_
  rintro e E13 ⟨u13, L13, rfl, o13, D13, hb⟩
  have HBW_o13 : Hid (w.heap.size ≤ E12.heap.size) := hB12.size
  have HR_o13 : Hid (∀ b, Blk L13 b → E12.heap.size ≤ b ∧ b < E13.heap.size) := fun b hbk => o13.blk hbk
  have hz13 : E12.heap.size ≤ E13.heap.size := hb.size
  have hB13 := hB12.trans (hb.mono hB12.size)
  have o2_13 := o2_12.below hb
  have o3_0_13 := o3_0_12.below hb
  have o4_13 := o4_12.below hb
  have o5_0_13 := o5_0_12.below hb
  have o7_13 := o7_12.below hb
  clear hb hB12 o2_12 o3_0_12 o4_12 o5_0_12 o7_12
  have hv := o13.rdv
  obtain ⟨b13p, b13c, rfl, -⟩ := hv
  go_wp2_with fail
  refine (implCharPoly_v _ o13.rdv).mono ?_
  rintro e E14 ⟨u14_0, L14_0, rfl, o14_0, D14, hb⟩
  have HBW_o14_0 : Hid (w.heap.size ≤ E13.heap.size) := hB13.size
  have HR_o14_0 : Hid (∀ b, Blk L14_0 b → E13.heap.size ≤ b ∧ b < E14.heap.size) := fun b hbk => o14_0.blk hbk
  have hz14 : E13.heap.size ≤ E14.heap.size := hb.size
  have hB14 := hB13.trans (hb.mono hB13.size)
  have o2_14 := o2_13.below hb
  have o3_0_14 := o3_0_13.below hb
  have o4_14 := o4_13.below hb
  have o5_0_14 := o5_0_13.below hb
  have o7_14 := o7_13.below hb
  have o13_14 := o13.below hb
  clear hb hB13 o2_13 o3_0_13 o4_13 o5_0_13 o7_13 o13
  have hv := o14_0.rd
  obtain ⟨b1400p, b1400c, rfl, -⟩ := hv
  go_wp2_with fail
  refine (eqI_v _ o14_0.rd o3_0_14.rd).mono ?_
  rintro e E15 ⟨rfl, hb⟩
  have hz15 : E14.heap.size ≤ E15.heap.size := hb.size
  have hB15 := hB14.trans (hb.mono hB14.size)
  have o2_15 := o2_14.below hb
  have o3_0_15 := o3_0_14.below hb
  have o4_15 := o4_14.below hb
  have o5_0_15 := o5_0_14.below hb
  have o7_15 := o7_14.below hb
  have o13_15 := o13_14.below hb
  have o14_0_15 := o14_0.below hb
  clear hb hB14 o2_14 o3_0_14 o4_14 o5_0_14 o7_14 o13_14 o14_0
  go_wp2_with fail
  refine (heldI_v (xs := (chpRes x0)) _ _ o5_0_15.rd (by omega) (by omega)).mono ?_
  rintro e E16 ⟨rfl, hb⟩
  have hz16 : E15.heap.size ≤ E16.heap.size := hb.size
  have hB16 := hB15.trans (hb.mono hB15.size)
  have o2_16 := o2_15.below hb
  have o3_0_16 := o3_0_15.below hb
  have o4_16 := o4_15.below hb
  have o5_0_16 := o5_0_15.below hb
  have o7_16 := o7_15.below hb
  have o13_16 := o13_15.below hb
  have o14_0_16 := o14_0_15.below hb
  clear hb hB15 o2_15 o3_0_15 o4_15 o5_0_15 o7_15 o13_15 o14_0_15
  go_wp2_with fail
  go_ret
  exact ⟨rfl, hB16⟩

set_option maxHeartbeats 8000000 in
theorem fnExactDeterminant_walk (w : World) {v0 : Value} {x0 : List (List Int)} (h0 : VII w v0 x0) :
    Calls Try.prog 7 #[v0] w fun e w' => e = .returned (.bool true) ∧ Below w.heap.size w w' := by
  have hv0 := h0
  obtain ⟨a0p, a0c, rfl, hr0⟩ := hv0
  have hl0 := hr0.len
  unfold maxLen at hl0
  clear hr0
  have HB0 := Below.refl w.heap.size w
  go_enter Try.func7, Try.ntmps7
  go_wp2_with fail
  refine (szII_v _ _ (h0.below HB0) (by omega) (by omega)).mono ?_
  rintro e E1 ⟨rfl, hb⟩
  have hB1 := HB0.trans (hb.mono HB0.size)
  clear hb 
  by_cases k1 : szF 1048576 (wtII x0) < 0
  case pos =>
    go_wp2_with fail
    go_ret
    exact ⟨rfl, hB1⟩
  have hn0 : wtII x0 ≤ 1048576 := by have := (szF_pos k1).2; omega
  have s1 := (szF_pos k1).1
  have l1 : 0 ≤ szF 1048576 (wtII x0) := by omega
  have g1 : szF 1048576 (wtII x0) ≤ 1048576 := by omega
  clear s1
  go_wp2_with fail
  refine (toII_v _ (h0.below hB1) hn0).mono ?_
  rintro e E2 ⟨u2, L2, rfl, o2, D2, hb⟩
  have hB2 := hB1.trans (hb.mono hB1.size)
  clear hb hB1
  clear D2
  have hv := o2.rdv
  obtain ⟨b2p, b2c, rfl, -⟩ := hv
  go_wp2_with fail
  refine (specDeterminant_v _ o2.rdv).mono ?_
  rintro e E3 ⟨rfl, hb⟩
  have hB3 := hB2.trans (hb.mono hB2.size)
  have o2_3 := o2.below hb
  clear hb hB2 o2
  go_wp2_with fail
  refine (toII_v _ (h0.below hB3) hn0).mono ?_
  rintro e E4 ⟨u4, L4, rfl, o4, D4, hb⟩
  have hB4 := hB3.trans (hb.mono hB3.size)
  have o2_4 := o2_3.below hb
  clear hb hB3 o2_3
  clear D4
  have hv := o4.rdv
  obtain ⟨b4p, b4c, rfl, -⟩ := hv
  go_wp2_with fail
  refine (implDeterminant_v _ o4.rdv).mono ?_
  rintro e E5 ⟨rfl, hb⟩
  have hB5 := hB4.trans (hb.mono hB4.size)
  have o2_5 := o2_4.below hb
  have o4_5 := o4.below hb
  clear hb hB4 o2_4 o4
  go_wp2_with fail
  refine (toII_v _ (h0.below hB5) hn0).mono ?_
  rintro e E6 ⟨u6, L6, rfl, o6, D6, hb⟩
  have hB6 := hB5.trans (hb.mono hB5.size)
  have o2_6 := o2_5.below hb
  have o4_6 := o4_5.below hb
  clear hb hB5 o2_5 o4_5
  clear D6
  have hv := o6.rdv
  obtain ⟨b6p, b6c, rfl, -⟩ := hv
  go_wp2_with fail
  refine (eqII_v _ o4_6.rdv o6.rdv).mono ?_
  rintro e E7 ⟨rfl, hb⟩
  have hB7 := hB6.trans (hb.mono hB6.size)
  have o2_7 := o2_6.below hb
  have o4_7 := o4_6.below hb
  have o6_7 := o6.below hb
  clear hb hB6 o2_6 o4_6 o6
  go_wp2_with fail
  go_ret
  exact ⟨rfl, hB7⟩

end Go.Proofs.Ytlfhdocgemiogaa
