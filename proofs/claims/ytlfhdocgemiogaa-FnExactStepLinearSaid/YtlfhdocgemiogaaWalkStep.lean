/-
  The walk of the exact law on steps of linear systems.
-/
import Derived.Test.YtlfhdocgemiogaaStep2
namespace Go.Proofs.Ytlfhdocgemiogaa
open Go.ChangeShapes Go.WideShapes Go.ChangeAt Go.RowKit
set_option linter.unusedVariables false

set_option maxHeartbeats 8000000 in
set_option maxRecDepth 100000 in
theorem fnExactStepLinear_walk (w : World) {v0 : Value} {x0 : LinearD} (h0 : VLinear w v0 x0) {v1 : Value} {x1 : List Int} (h1 : VI w v1 x1) {v2 : Value} {x2 : List Int} (h2 : VI w v2 x2) :
    Calls Try.prog 9 #[v0, v1, v2] w fun e w' => e = .returned (.bool true) ∧ Below w.heap.size w w' := by
  have hv0 := h0
  obtain ⟨a0p1, a0c1, a0p2, a0c2, a0p3, a0c3, a0p4, a0c4, rfl, -, -, -, -⟩ := hv0
  have hv1 := h1
  obtain ⟨a1p, a1c, rfl, hr1⟩ := hv1
  have hl1 := hr1.len
  unfold maxLen at hl1
  clear hr1
  have hv2 := h2
  obtain ⟨a2p, a2c, rfl, hr2⟩ := hv2
  have hl2 := hr2.len
  unfold maxLen at hl2
  clear hr2
  obtain ⟨E0, hE0⟩ : ∃ E, E = (w.alloc (.cells #[.int .i64 x0.inputs, .slice a0p1 x0.A.length a0c1, .slice a0p2 x0.B.length a0c2, .slice a0p3 x0.C.length a0c3, .slice a0p4 x0.D.length a0c4] 28)) := ⟨_, rfl⟩
  have HB0 : Below w.heap.size w E0 := by rw [hE0]; exact ((Below.refl _ _).alloc (Nat.le_refl _) _)
  have ba0 : Box E0 (w.heap.size) [.int .i64 x0.inputs, .slice a0p1 x0.A.length a0c1, .slice a0p2 x0.B.length a0c2, .slice a0p3 x0.C.length a0c3, .slice a0p4 x0.D.length a0c4] 28 := by rw [hE0]; exact Box.newAt _ [.int .i64 x0.inputs, .slice a0p1 x0.A.length a0c1, .slice a0p2 x0.B.length a0c2, .slice a0p3 x0.C.length a0c3, .slice a0p4 x0.D.length a0c4] _ (by simp)
  have HE0 := Lib.hid hE0
  clear hE0
  by_cases n1 : (1048576 : Int) < (x1.length : Int)
  case pos =>
    go_enter Try.func9, Try.ntmps9
    go_wp2_with fail
    go_ret
    exact ⟨rfl, by rw [← HE0.out]; exact HB0⟩
  by_cases n2 : (1048576 : Int) < (x2.length : Int)
  case pos =>
    go_enter Try.func9, Try.ntmps9
    go_wp2_with fail
    go_ret
    exact ⟨rfl, by rw [← HE0.out]; exact HB0⟩
  go_enter Try.func9, Try.ntmps9
  go_wp2_with fail
  rw [← HE0.out]
  refine (szLinear_v _ _ (h0.below HB0) (by omega) (by omega)).mono ?_
  rintro e E1 ⟨rfl, hb⟩
  have hz1 : E0.heap.size ≤ E1.heap.size := hb.size
  have hB1 := HB0.trans (hb.mono HB0.size)
  have ba0_1 := ba0.below hb
  clear hb ba0
  by_cases k1 : szF 1048576 (wtLinear x0) < 0
  case pos =>
    go_wp2_with fail
    go_ret
    exact ⟨rfl, hB1⟩
  have hn0 : wtLinear x0 ≤ 1048576 := by have := (szF_pos k1).2; omega
  have s1 := (szF_pos k1).1
  have l1 : 0 ≤ szF 1048576 (wtLinear x0) := by omega
  have g1 : szF 1048576 (wtLinear x0) ≤ 1048576 := by omega
  clear s1
  have z_ba0_0 := ba0_1.cell 0 rfl
  have z_ba0_1 := ba0_1.cell 1 rfl
  have z_ba0_2 := ba0_1.cell 2 rfl
  have z_ba0_3 := ba0_1.cell 3 rfl
  have z_ba0_4 := ba0_1.cell 4 rfl
  go_wp2_with fail
  clear z_ba0_0 z_ba0_1 z_ba0_2 z_ba0_3 z_ba0_4
  refine (toLinear_v _ (h0.below hB1) hn0).mono ?_
  rintro e E2 ⟨u2, L2, rfl, o2, D2, hb⟩
  have HBW_o2 : Hid (w.heap.size ≤ E1.heap.size) := hB1.size
  have HR_o2 : Hid (∀ b, Blk L2 b → E1.heap.size ≤ b ∧ b < E2.heap.size) := fun b hbk => o2.blk hbk
  have hz2 : E1.heap.size ≤ E2.heap.size := hb.size
  have hB2 := hB1.trans (hb.mono hB1.size)
  have ba0_2 := ba0_1.below hb
  clear hb hB1 ba0_1
  have hv := o2.rd
  obtain ⟨b2p1, b2c1, b2p2, b2c2, b2p3, b2c3, b2p4, b2c4, rfl, -, -, -, -⟩ := hv
  go_wp2_with fail
  refine (toI_v _ (h1.below hB2) (by unfold wtI; omega)).mono ?_
  rintro e E3 ⟨u3, L3, rfl, o3, D3, hb⟩
  have HBW_o3 : Hid (w.heap.size ≤ E2.heap.size) := hB2.size
  have HR_o3 : Hid (∀ b, Blk L3 b → E2.heap.size ≤ b ∧ b < E3.heap.size) := fun b hbk => o3.blk hbk
  have hz3 : E2.heap.size ≤ E3.heap.size := hb.size
  have hB3 := hB2.trans (hb.mono hB2.size)
  have ba0_3 := ba0_2.below hb
  have o2_3 := o2.below hb
  clear hb hB2 ba0_2 o2
  have hv := o3.rd
  obtain ⟨b3p, b3c, rfl, -⟩ := hv
  go_wp2_with fail
  refine (toI_v _ (h2.below hB3) (by unfold wtI; omega)).mono ?_
  rintro e E4 ⟨u4, L4, rfl, o4, D4, hb⟩
  have HBW_o4 : Hid (w.heap.size ≤ E3.heap.size) := hB3.size
  have HR_o4 : Hid (∀ b, Blk L4 b → E3.heap.size ≤ b ∧ b < E4.heap.size) := fun b hbk => o4.blk hbk
  have hz4 : E3.heap.size ≤ E4.heap.size := hb.size
  have hB4 := hB3.trans (hb.mono hB3.size)
  have ba0_4 := ba0_3.below hb
  have o2_4 := o2_3.below hb
  have o3_4 := o3.below hb
  clear hb hB3 ba0_3 o2_3 o3
  have hv := o4.rd
  obtain ⟨b4p, b4c, rfl, -⟩ := hv
  go_wp2_with fail
  refine (specStepLinear_v _ o2_4.rd o3_4.rd o4.rd).mono ?_
  rintro e E5 ⟨u5_0, u5_1, L5_0, L5_1, rfl, o5_0, o5_1, D5, hb⟩
  have HBW_o5_0 : Hid (w.heap.size ≤ E4.heap.size) := hB4.size
  have HR_o5_0 : Hid (∀ b, Blk L5_0 b → E4.heap.size ≤ b ∧ b < E5.heap.size) := fun b hbk => o5_0.blk hbk
  have HBW_o5_1 : Hid (w.heap.size ≤ E4.heap.size) := hB4.size
  have HR_o5_1 : Hid (∀ b, Blk L5_1 b → E4.heap.size ≤ b ∧ b < E5.heap.size) := fun b hbk => o5_1.blk hbk
  have hz5 : E4.heap.size ≤ E5.heap.size := hb.size
  have hB5 := hB4.trans (hb.mono hB4.size)
  have ba0_5 := ba0_4.below hb
  have o2_5 := o2_4.below hb
  have o3_5 := o3_4.below hb
  have o4_5 := o4.below hb
  clear hb hB4 ba0_4 o2_4 o3_4 o4
  have D5_0 := D5.left
  have D5_1 := D5.right
  have S5 := Lib.hid D5.sep
  have hv := o5_0.rd
  obtain ⟨b500p, b500c, rfl, -⟩ := hv
  have hv := o5_1.rd
  obtain ⟨b501p, b501c, rfl, -⟩ := hv
  have z_ba0_0 := ba0_5.cell 0 rfl
  have z_ba0_1 := ba0_5.cell 1 rfl
  have z_ba0_2 := ba0_5.cell 2 rfl
  have z_ba0_3 := ba0_5.cell 3 rfl
  have z_ba0_4 := ba0_5.cell 4 rfl
  go_wp2_with fail
  clear z_ba0_0 z_ba0_1 z_ba0_2 z_ba0_3 z_ba0_4
  refine (toLinear_v _ (h0.below hB5) hn0).mono ?_
  rintro e E6 ⟨u6, L6, rfl, o6, D6, hb⟩
  have HBW_o6 : Hid (w.heap.size ≤ E5.heap.size) := hB5.size
  have HR_o6 : Hid (∀ b, Blk L6 b → E5.heap.size ≤ b ∧ b < E6.heap.size) := fun b hbk => o6.blk hbk
  have hz6 : E5.heap.size ≤ E6.heap.size := hb.size
  have hB6 := hB5.trans (hb.mono hB5.size)
  have ba0_6 := ba0_5.below hb
  have o2_6 := o2_5.below hb
  have o3_6 := o3_5.below hb
  have o4_6 := o4_5.below hb
  have o5_0_6 := o5_0.below hb
  have o5_1_6 := o5_1.below hb
  clear hb hB5 ba0_5 o2_5 o3_5 o4_5 o5_0 o5_1
  have hv := o6.rd
  obtain ⟨b6p1, b6c1, b6p2, b6c2, b6p3, b6c3, b6p4, b6c4, rfl, -, -, -, -⟩ := hv
  go_wp2_with fail
  obtain ⟨E7, hE⟩ : ∃ E, E = E6.alloc (.cells #[.int .i64 x0.inputs, .slice b6p1 x0.A.length b6c1, .slice b6p2 x0.B.length b6c2, .slice b6p3 x0.C.length b6c3, .slice b6p4 x0.D.length b6c4] 31) := ⟨_, rfl⟩
  have hb : Below E6.heap.size E6 E7 := by rw [hE]; exact (Below.refl _ _).alloc (Nat.le_refl _) _
  have bx7 : Box E7 E6.heap.size [.int .i64 x0.inputs, .slice b6p1 x0.A.length b6c1, .slice b6p2 x0.B.length b6c2, .slice b6p3 x0.C.length b6c3, .slice b6p4 x0.D.length b6c4] 31 := by rw [hE]; exact Box.newAt _ [.int .i64 x0.inputs, .slice b6p1 x0.A.length b6c1, .slice b6p2 x0.B.length b6c2, .slice b6p3 x0.C.length b6c3, .slice b6p4 x0.D.length b6c4] _ rfl
  rw [← hE]
  clear hE
  have hz7 : E6.heap.size ≤ E7.heap.size := hb.size
  have hB7 := hB6.trans (hb.mono hB6.size)
  have ba0_7 := ba0_6.below hb
  have o2_7 := o2_6.below hb
  have o3_7 := o3_6.below hb
  have o4_7 := o4_6.below hb
  have o5_0_7 := o5_0_6.below hb
  have o5_1_7 := o5_1_6.below hb
  have o6_7 := o6.below hb
  clear hb hB6 ba0_6 o2_6 o3_6 o4_6 o5_0_6 o5_1_6 o6
  refine (toI_v _ (h1.below hB7) (by unfold wtI; omega)).mono ?_
  rintro e E8 ⟨u8, L8, rfl, o8, D8, hb⟩
  have HBW_o8 : Hid (w.heap.size ≤ E7.heap.size) := hB7.size
  have HR_o8 : Hid (∀ b, Blk L8 b → E7.heap.size ≤ b ∧ b < E8.heap.size) := fun b hbk => o8.blk hbk
  have hz8 : E7.heap.size ≤ E8.heap.size := hb.size
  have hB8 := hB7.trans (hb.mono hB7.size)
  have ba0_8 := ba0_7.below hb
  have bx7_8 := bx7.below hb
  have o2_8 := o2_7.below hb
  have o3_8 := o3_7.below hb
  have o4_8 := o4_7.below hb
  have o5_0_8 := o5_0_7.below hb
  have o5_1_8 := o5_1_7.below hb
  have o6_8 := o6_7.below hb
  clear hb hB7 ba0_7 bx7 o2_7 o3_7 o4_7 o5_0_7 o5_1_7 o6_7
  have hv := o8.rd
  obtain ⟨b8p, b8c, rfl, -⟩ := hv
  go_wp2_with fail
  refine (toI_v _ (h2.below hB8) (by unfold wtI; omega)).mono ?_
  rintro e E9 ⟨u9, L9, rfl, o9, D9, hb⟩
  have HBW_o9 : Hid (w.heap.size ≤ E8.heap.size) := hB8.size
  have HR_o9 : Hid (∀ b, Blk L9 b → E8.heap.size ≤ b ∧ b < E9.heap.size) := fun b hbk => o9.blk hbk
  have hz9 : E8.heap.size ≤ E9.heap.size := hb.size
  have hB9 := hB8.trans (hb.mono hB8.size)
  have ba0_9 := ba0_8.below hb
  have bx7_9 := bx7_8.below hb
  have o2_9 := o2_8.below hb
  have o3_9 := o3_8.below hb
  have o4_9 := o4_8.below hb
  have o5_0_9 := o5_0_8.below hb
  have o5_1_9 := o5_1_8.below hb
  have o6_9 := o6_8.below hb
  have o8_9 := o8.below hb
  clear hb hB8 ba0_8 bx7_8 o2_8 o3_8 o4_8 o5_0_8 o5_1_8 o6_8 o8
  have hv := o9.rd
  obtain ⟨b9p, b9c, rfl, -⟩ := hv
  have z_bx7_0 := bx7_9.cell 0 rfl
  have z_bx7_1 := bx7_9.cell 1 rfl
  have z_bx7_2 := bx7_9.cell 2 rfl
  have z_bx7_3 := bx7_9.cell 3 rfl
  have z_bx7_4 := bx7_9.cell 4 rfl
  go_wp2_with fail
  clear z_bx7_0 z_bx7_1 z_bx7_2 z_bx7_3 z_bx7_4
  refine (implStepLinear_v _ o6_9.rd o8_9.rd o9.rd).mono ?_
  rintro e E10 ⟨u10_0, u10_1, L10_0, L10_1, rfl, o10_0, o10_1, D10, hb⟩
  have HBW_o10_0 : Hid (w.heap.size ≤ E9.heap.size) := hB9.size
  have HR_o10_0 : Hid (∀ b, Blk L10_0 b → E9.heap.size ≤ b ∧ b < E10.heap.size) := fun b hbk => o10_0.blk hbk
  have HBW_o10_1 : Hid (w.heap.size ≤ E9.heap.size) := hB9.size
  have HR_o10_1 : Hid (∀ b, Blk L10_1 b → E9.heap.size ≤ b ∧ b < E10.heap.size) := fun b hbk => o10_1.blk hbk
  have hz10 : E9.heap.size ≤ E10.heap.size := hb.size
  have hB10 := hB9.trans (hb.mono hB9.size)
  have ba0_10 := ba0_9.below hb
  have bx7_10 := bx7_9.below hb
  have o2_10 := o2_9.below hb
  have o3_10 := o3_9.below hb
  have o4_10 := o4_9.below hb
  have o5_0_10 := o5_0_9.below hb
  have o5_1_10 := o5_1_9.below hb
  have o6_10 := o6_9.below hb
  have o8_10 := o8_9.below hb
  have o9_10 := o9.below hb
  clear hb hB9 ba0_9 bx7_9 o2_9 o3_9 o4_9 o5_0_9 o5_1_9 o6_9 o8_9 o9
  have D10_0 := D10.left
  have D10_1 := D10.right
  have S10 := Lib.hid D10.sep
  have hv := o10_0.rd
  obtain ⟨b1000p, b1000c, rfl, -⟩ := hv
  have hv := o10_1.rd
  obtain ⟨b1001p, b1001c, rfl, -⟩ := hv
  go_wp2_with fail
  refine (eqI_v _ o10_0.rd o5_0_10.rd).mono ?_
  rintro e E11 ⟨rfl, hb⟩
  have hz11 : E10.heap.size ≤ E11.heap.size := hb.size
  have hB11 := hB10.trans (hb.mono hB10.size)
  have ba0_11 := ba0_10.below hb
  have bx7_11 := bx7_10.below hb
  have o2_11 := o2_10.below hb
  have o3_11 := o3_10.below hb
  have o4_11 := o4_10.below hb
  have o5_0_11 := o5_0_10.below hb
  have o5_1_11 := o5_1_10.below hb
  have o6_11 := o6_10.below hb
  have o8_11 := o8_10.below hb
  have o9_11 := o9_10.below hb
  have o10_0_11 := o10_0.below hb
  have o10_1_11 := o10_1.below hb
  clear hb hB10 ba0_10 bx7_10 o2_10 o3_10 o4_10 o5_0_10 o5_1_10 o6_10 o8_10 o9_10 o10_0 o10_1
  go_wp2_with fail
  refine (eqI_v _ o10_1_11.rd o5_1_11.rd).mono ?_
  rintro e E12 ⟨rfl, hb⟩
  have hz12 : E11.heap.size ≤ E12.heap.size := hb.size
  have hB12 := hB11.trans (hb.mono hB11.size)
  have ba0_12 := ba0_11.below hb
  have bx7_12 := bx7_11.below hb
  have o2_12 := o2_11.below hb
  have o3_12 := o3_11.below hb
  have o4_12 := o4_11.below hb
  have o5_0_12 := o5_0_11.below hb
  have o5_1_12 := o5_1_11.below hb
  have o6_12 := o6_11.below hb
  have o8_12 := o8_11.below hb
  have o9_12 := o9_11.below hb
  have o10_0_12 := o10_0_11.below hb
  have o10_1_12 := o10_1_11.below hb
  clear hb hB11 ba0_11 bx7_11 o2_11 o3_11 o4_11 o5_0_11 o5_1_11 o6_11 o8_11 o9_11 o10_0_11 o10_1_11
  go_upto_region 16 with fail
  go_cut [78] (fun s78 wr => s78 = .bool false ∧ Below E12.heap.size E12 wr)
  case first =>
    have z_bx7_0 := bx7_12.cell 0 rfl
    have z_bx7_1 := bx7_12.cell 1 rfl
    have z_bx7_2 := bx7_12.cell 2 rfl
    have z_bx7_3 := bx7_12.cell 3 rfl
    have z_bx7_4 := bx7_12.cell 4 rfl
    have z_ba0_0 := ba0_12.cell 0 rfl
    have z_ba0_1 := ba0_12.cell 1 rfl
    have z_ba0_2 := ba0_12.cell 2 rfl
    have z_ba0_3 := ba0_12.cell 3 rfl
    have z_ba0_4 := ba0_12.cell 4 rfl
    go_region_with (first | (go_at_call_of 18 (Value.agg #[.int .i64 x0.inputs, .slice a0p1 x0.A.length a0c1, .slice a0p2 x0.B.length a0c2, .slice a0p3 x0.C.length a0c3, .slice a0p4 x0.D.length a0c4]); refine (toLinear_v _ ((h0.below hB12).below (below_drew' (Below.refl _ _))) hn0).mono ?_; rintro e G16_1 ⟨u, L, rfl, o16_1, DD, hb⟩; clear DD; have hbb : Below E12.heap.size E12 G16_1 := below_drew' hb; have hBG16_1 := hB12.trans (hbb.mono hB12.size); have hRG16_1 := hbb; have o2G16_1 := o2_12.below hbb; have o3G16_1 := o3_12.below hbb; have o4G16_1 := o4_12.below hbb; have o5_0G16_1 := o5_0_12.below hbb; have o5_1G16_1 := o5_1_12.below hbb; have o6G16_1 := o6_12.below hbb; have o8G16_1 := o8_12.below hbb; have o9G16_1 := o9_12.below hbb; have o10_0G16_1 := o10_0_12.below hbb; have o10_1G16_1 := o10_1_12.below hbb; have bx7G16_1 := bx7_12.below hbb; have y_bx7_0 := bx7G16_1.cell 0 rfl; have y_bx7_1 := bx7G16_1.cell 1 rfl; have y_bx7_2 := bx7G16_1.cell 2 rfl; have y_bx7_3 := bx7G16_1.cell 3 rfl; have y_bx7_4 := bx7G16_1.cell 4 rfl; have ba0G16_1 := ba0_12.below hbb; have y_ba0_0 := ba0G16_1.cell 0 rfl; have y_ba0_1 := ba0G16_1.cell 1 rfl; have y_ba0_2 := ba0G16_1.cell 2 rfl; have y_ba0_3 := ba0G16_1.cell 3 rfl; have y_ba0_4 := ba0G16_1.cell 4 rfl; clear hb hbb) | (go_at_call 20; refine (eqLinear_v _ o6G16_1.rd o16_1.rd).mono ?_; rintro e G16_2 ⟨rfl, hb⟩; have hbb : Below G16_1.heap.size G16_1 G16_2 := hb; have hBG16_2 := hBG16_1.trans (hbb.mono hBG16_1.size); have hRG16_2 := hRG16_1.trans (hbb.mono hRG16_1.size); have o2G16_2 := o2G16_1.below hbb; have o3G16_2 := o3G16_1.below hbb; have o4G16_2 := o4G16_1.below hbb; have o5_0G16_2 := o5_0G16_1.below hbb; have o5_1G16_2 := o5_1G16_1.below hbb; have o6G16_2 := o6G16_1.below hbb; have o8G16_2 := o8G16_1.below hbb; have o9G16_2 := o9G16_1.below hbb; have o10_0G16_2 := o10_0G16_1.below hbb; have o10_1G16_2 := o10_1G16_1.below hbb; have o16_1G16_2 := o16_1.below hbb; have bx7G16_2 := bx7G16_1.below hbb; have ba0G16_2 := ba0G16_1.below hbb; clear hb hbb))
    all_goals (go_wp2_with fail; go_meet; exact ⟨rfl, hRG16_2⟩)
  case rest =>
    obtain ⟨rfl, hb⟩ := hcut
    obtain ⟨E13, rfl⟩ : ∃ E, E = wc := ⟨_, rfl⟩
    have hz13 : E12.heap.size ≤ E13.heap.size := hb.size
    have hB13 := hB12.trans (hb.mono hB12.size)
    have ba0_13 := ba0_12.below hb
    have bx7_13 := bx7_12.below hb
    have o2_13 := o2_12.below hb
    have o3_13 := o3_12.below hb
    have o4_13 := o4_12.below hb
    have o5_0_13 := o5_0_12.below hb
    have o5_1_13 := o5_1_12.below hb
    have o6_13 := o6_12.below hb
    have o8_13 := o8_12.below hb
    have o9_13 := o9_12.below hb
    have o10_0_13 := o10_0_12.below hb
    have o10_1_13 := o10_1_12.below hb
    clear hb hB12 ba0_12 bx7_12 o2_12 o3_12 o4_12 o5_0_12 o5_1_12 o6_12 o8_12 o9_12 o10_0_12 o10_1_12
    go_wp2_with fail
    refine (toI_v _ (h1.below hB13) (by unfold wtI; omega)).mono ?_
    rintro e E14 ⟨u14, L14, rfl, o14, D14, hb⟩
    have HBW_o14 : Hid (w.heap.size ≤ E13.heap.size) := hB13.size
    have HR_o14 : Hid (∀ b, Blk L14 b → E13.heap.size ≤ b ∧ b < E14.heap.size) := fun b hbk => o14.blk hbk
    have hz14 : E13.heap.size ≤ E14.heap.size := hb.size
    have hB14 := hB13.trans (hb.mono hB13.size)
    have ba0_14 := ba0_13.below hb
    have bx7_14 := bx7_13.below hb
    have o2_14 := o2_13.below hb
    have o3_14 := o3_13.below hb
    have o4_14 := o4_13.below hb
    have o5_0_14 := o5_0_13.below hb
    have o5_1_14 := o5_1_13.below hb
    have o6_14 := o6_13.below hb
    have o8_14 := o8_13.below hb
    have o9_14 := o9_13.below hb
    have o10_0_14 := o10_0_13.below hb
    have o10_1_14 := o10_1_13.below hb
    clear hb hB13 ba0_13 bx7_13 o2_13 o3_13 o4_13 o5_0_13 o5_1_13 o6_13 o8_13 o9_13 o10_0_13 o10_1_13
    have hv := o14.rd
    obtain ⟨b14p, b14c, rfl, -⟩ := hv
    go_wp2_with fail
    refine (eqI_v _ o8_14.rd o14.rd).mono ?_
    rintro e E15 ⟨rfl, hb⟩
    have hz15 : E14.heap.size ≤ E15.heap.size := hb.size
    have hB15 := hB14.trans (hb.mono hB14.size)
    have ba0_15 := ba0_14.below hb
    have bx7_15 := bx7_14.below hb
    have o2_15 := o2_14.below hb
    have o3_15 := o3_14.below hb
    have o4_15 := o4_14.below hb
    have o5_0_15 := o5_0_14.below hb
    have o5_1_15 := o5_1_14.below hb
    have o6_15 := o6_14.below hb
    have o8_15 := o8_14.below hb
    have o9_15 := o9_14.below hb
    have o10_0_15 := o10_0_14.below hb
    have o10_1_15 := o10_1_14.below hb
    have o14_15 := o14.below hb
    clear hb hB14 ba0_14 bx7_14 o2_14 o3_14 o4_14 o5_0_14 o5_1_14 o6_14 o8_14 o9_14 o10_0_14 o10_1_14 o14
    go_wp2_with fail
    refine (toI_v _ (h2.below hB15) (by unfold wtI; omega)).mono ?_
    rintro e E16 ⟨u16, L16, rfl, o16, D16, hb⟩
    have HBW_o16 : Hid (w.heap.size ≤ E15.heap.size) := hB15.size
    have HR_o16 : Hid (∀ b, Blk L16 b → E15.heap.size ≤ b ∧ b < E16.heap.size) := fun b hbk => o16.blk hbk
    have hz16 : E15.heap.size ≤ E16.heap.size := hb.size
    have hB16 := hB15.trans (hb.mono hB15.size)
    have ba0_16 := ba0_15.below hb
    have bx7_16 := bx7_15.below hb
    have o2_16 := o2_15.below hb
    have o3_16 := o3_15.below hb
    have o4_16 := o4_15.below hb
    have o5_0_16 := o5_0_15.below hb
    have o5_1_16 := o5_1_15.below hb
    have o6_16 := o6_15.below hb
    have o8_16 := o8_15.below hb
    have o9_16 := o9_15.below hb
    have o10_0_16 := o10_0_15.below hb
    have o10_1_16 := o10_1_15.below hb
    have o14_16 := o14_15.below hb
    clear hb hB15 ba0_15 bx7_15 o2_15 o3_15 o4_15 o5_0_15 o5_1_15 o6_15 o8_15 o9_15 o10_0_15 o10_1_15 o14_15
    have hv := o16.rd
    obtain ⟨b16p, b16c, rfl, -⟩ := hv
    go_wp2_with fail
    refine (eqI_v _ o9_16.rd o16.rd).mono ?_
    rintro e E17 ⟨rfl, hb⟩
    have hz17 : E16.heap.size ≤ E17.heap.size := hb.size
    have hB17 := hB16.trans (hb.mono hB16.size)
    have ba0_17 := ba0_16.below hb
    have bx7_17 := bx7_16.below hb
    have o2_17 := o2_16.below hb
    have o3_17 := o3_16.below hb
    have o4_17 := o4_16.below hb
    have o5_0_17 := o5_0_16.below hb
    have o5_1_17 := o5_1_16.below hb
    have o6_17 := o6_16.below hb
    have o8_17 := o8_16.below hb
    have o9_17 := o9_16.below hb
    have o10_0_17 := o10_0_16.below hb
    have o10_1_17 := o10_1_16.below hb
    have o14_17 := o14_16.below hb
    have o16_17 := o16.below hb
    clear hb hB16 ba0_16 bx7_16 o2_16 o3_16 o4_16 o5_0_16 o5_1_16 o6_16 o8_16 o9_16 o10_0_16 o10_1_16 o14_16 o16
    have z_bx7_0 := bx7_17.cell 0 rfl
    have z_bx7_1 := bx7_17.cell 1 rfl
    have z_bx7_2 := bx7_17.cell 2 rfl
    have z_bx7_3 := bx7_17.cell 3 rfl
    have z_bx7_4 := bx7_17.cell 4 rfl
    go_wp2_with fail
    clear z_bx7_0 z_bx7_1 z_bx7_2 z_bx7_3 z_bx7_4
    have hc_o6 := (Nat.le_trans (cntLinear_le x0) hn0)
    refine (markLinear_v _ _ o6_17 D6 (by omega) (by omega)).mono ?_
    rintro e E18 ⟨rfl, om18, hf⟩
    have hz18 : E17.heap.size ≤ E18.heap.size := hf.size
    have hB18 := hB17.trans (hf.below (fun b hbk => by have h1 := (HR_o6.out b hbk).1; have h2 := HBW_o6.out; omega) hB17.size)
    have ba0_18 := ba0_17.offBlk (by decide) o6_17.ints hf
    have bx7_18 := bx7_17.offBlk (by decide) o6_17.ints hf
    have o2_18 := o2_17.offBlk o6_17.ints (apart (fun x h => (HR_o2.out x h).2) (fun x h => (HR_o6.out x h).1) (by omega)) hf
    have o3_18 := o3_17.offBlk o6_17.ints (apart (fun x h => (HR_o3.out x h).2) (fun x h => (HR_o6.out x h).1) (by omega)) hf
    have o4_18 := o4_17.offBlk o6_17.ints (apart (fun x h => (HR_o4.out x h).2) (fun x h => (HR_o6.out x h).1) (by omega)) hf
    have o5_0_18 := o5_0_17.offBlk o6_17.ints (apart (fun x h => (HR_o5_0.out x h).2) (fun x h => (HR_o6.out x h).1) (by omega)) hf
    have o5_1_18 := o5_1_17.offBlk o6_17.ints (apart (fun x h => (HR_o5_1.out x h).2) (fun x h => (HR_o6.out x h).1) (by omega)) hf
    have o8_18 := o8_17.offBlk o6_17.ints (apart' (fun x h => (HR_o6.out x h).2) (fun x h => (HR_o8.out x h).1) (by omega)) hf
    have o9_18 := o9_17.offBlk o6_17.ints (apart' (fun x h => (HR_o6.out x h).2) (fun x h => (HR_o9.out x h).1) (by omega)) hf
    have o10_0_18 := o10_0_17.offBlk o6_17.ints (apart' (fun x h => (HR_o6.out x h).2) (fun x h => (HR_o10_0.out x h).1) (by omega)) hf
    have o10_1_18 := o10_1_17.offBlk o6_17.ints (apart' (fun x h => (HR_o6.out x h).2) (fun x h => (HR_o10_1.out x h).1) (by omega)) hf
    have o14_18 := o14_17.offBlk o6_17.ints (apart' (fun x h => (HR_o6.out x h).2) (fun x h => (HR_o14.out x h).1) (by omega)) hf
    have o16_18 := o16_17.offBlk o6_17.ints (apart' (fun x h => (HR_o6.out x h).2) (fun x h => (HR_o16.out x h).1) (by omega)) hf
    clear hf hB17 ba0_17 bx7_17 o2_17 o3_17 o4_17 o5_0_17 o5_1_17 o8_17 o9_17 o10_0_17 o10_1_17 o14_17 o16_17 o6_17
    go_wp2_with fail
    have hc_o8 := (show cntI x1 ≤ 1048576 by unfold cntI; omega)
    refine (markI_v _ _ o8_18 D8 (by omega) (by omega)).mono ?_
    rintro e E19 ⟨rfl, om19, hf⟩
    have hz19 : E18.heap.size ≤ E19.heap.size := hf.size
    have hB19 := hB18.trans (hf.below (fun b hbk => by have h1 := (HR_o8.out b hbk).1; have h2 := HBW_o8.out; omega) hB18.size)
    have ba0_19 := ba0_18.offBlk (by decide) o8_18.ints hf
    have bx7_19 := bx7_18.offBlk (by decide) o8_18.ints hf
    have o2_19 := o2_18.offBlk o8_18.ints (apart (fun x h => (HR_o2.out x h).2) (fun x h => (HR_o8.out x h).1) (by omega)) hf
    have o3_19 := o3_18.offBlk o8_18.ints (apart (fun x h => (HR_o3.out x h).2) (fun x h => (HR_o8.out x h).1) (by omega)) hf
    have o4_19 := o4_18.offBlk o8_18.ints (apart (fun x h => (HR_o4.out x h).2) (fun x h => (HR_o8.out x h).1) (by omega)) hf
    have o5_0_19 := o5_0_18.offBlk o8_18.ints (apart (fun x h => (HR_o5_0.out x h).2) (fun x h => (HR_o8.out x h).1) (by omega)) hf
    have o5_1_19 := o5_1_18.offBlk o8_18.ints (apart (fun x h => (HR_o5_1.out x h).2) (fun x h => (HR_o8.out x h).1) (by omega)) hf
    have o6_19 := om18.offBlk o8_18.ints (apart (fun x h => (HR_o6.out x h).2) (fun x h => (HR_o8.out x h).1) (by omega)) hf
    have o9_19 := o9_18.offBlk o8_18.ints (apart' (fun x h => (HR_o8.out x h).2) (fun x h => (HR_o9.out x h).1) (by omega)) hf
    have o10_0_19 := o10_0_18.offBlk o8_18.ints (apart' (fun x h => (HR_o8.out x h).2) (fun x h => (HR_o10_0.out x h).1) (by omega)) hf
    have o10_1_19 := o10_1_18.offBlk o8_18.ints (apart' (fun x h => (HR_o8.out x h).2) (fun x h => (HR_o10_1.out x h).1) (by omega)) hf
    have o14_19 := o14_18.offBlk o8_18.ints (apart' (fun x h => (HR_o8.out x h).2) (fun x h => (HR_o14.out x h).1) (by omega)) hf
    have o16_19 := o16_18.offBlk o8_18.ints (apart' (fun x h => (HR_o8.out x h).2) (fun x h => (HR_o16.out x h).1) (by omega)) hf
    clear hf hB18 ba0_18 bx7_18 o2_18 o3_18 o4_18 o5_0_18 o5_1_18 om18 o9_18 o10_0_18 o10_1_18 o14_18 o16_18 o8_18
    go_wp2_with fail
    have hc_o9 := (show cntI x2 ≤ 1048576 by unfold cntI; omega)
    refine (markI_v _ _ o9_19 D9 (by omega) (by omega)).mono ?_
    rintro e E20 ⟨rfl, om20, hf⟩
    have hz20 : E19.heap.size ≤ E20.heap.size := hf.size
    have hB20 := hB19.trans (hf.below (fun b hbk => by have h1 := (HR_o9.out b hbk).1; have h2 := HBW_o9.out; omega) hB19.size)
    have ba0_20 := ba0_19.offBlk (by decide) o9_19.ints hf
    have bx7_20 := bx7_19.offBlk (by decide) o9_19.ints hf
    have o2_20 := o2_19.offBlk o9_19.ints (apart (fun x h => (HR_o2.out x h).2) (fun x h => (HR_o9.out x h).1) (by omega)) hf
    have o3_20 := o3_19.offBlk o9_19.ints (apart (fun x h => (HR_o3.out x h).2) (fun x h => (HR_o9.out x h).1) (by omega)) hf
    have o4_20 := o4_19.offBlk o9_19.ints (apart (fun x h => (HR_o4.out x h).2) (fun x h => (HR_o9.out x h).1) (by omega)) hf
    have o5_0_20 := o5_0_19.offBlk o9_19.ints (apart (fun x h => (HR_o5_0.out x h).2) (fun x h => (HR_o9.out x h).1) (by omega)) hf
    have o5_1_20 := o5_1_19.offBlk o9_19.ints (apart (fun x h => (HR_o5_1.out x h).2) (fun x h => (HR_o9.out x h).1) (by omega)) hf
    have o6_20 := o6_19.offBlk o9_19.ints (apart (fun x h => (HR_o6.out x h).2) (fun x h => (HR_o9.out x h).1) (by omega)) hf
    have o8_20 := om19.offBlk o9_19.ints (apart (fun x h => (HR_o8.out x h).2) (fun x h => (HR_o9.out x h).1) (by omega)) hf
    have o10_0_20 := o10_0_19.offBlk o9_19.ints (apart' (fun x h => (HR_o9.out x h).2) (fun x h => (HR_o10_0.out x h).1) (by omega)) hf
    have o10_1_20 := o10_1_19.offBlk o9_19.ints (apart' (fun x h => (HR_o9.out x h).2) (fun x h => (HR_o10_1.out x h).1) (by omega)) hf
    have o14_20 := o14_19.offBlk o9_19.ints (apart' (fun x h => (HR_o9.out x h).2) (fun x h => (HR_o14.out x h).1) (by omega)) hf
    have o16_20 := o16_19.offBlk o9_19.ints (apart' (fun x h => (HR_o9.out x h).2) (fun x h => (HR_o16.out x h).1) (by omega)) hf
    clear hf hB19 ba0_19 bx7_19 o2_19 o3_19 o4_19 o5_0_19 o5_1_19 o6_19 om19 o10_0_19 o10_1_19 o14_19 o16_19 o9_19
    go_wp2_with fail
    refine (eqI_v _ o10_0_20.rd o5_0_20.rd).mono ?_
    rintro e E21 ⟨rfl, hb⟩
    have hz21 : E20.heap.size ≤ E21.heap.size := hb.size
    have hB21 := hB20.trans (hb.mono hB20.size)
    have ba0_21 := ba0_20.below hb
    have bx7_21 := bx7_20.below hb
    have o2_21 := o2_20.below hb
    have o3_21 := o3_20.below hb
    have o4_21 := o4_20.below hb
    have o5_0_21 := o5_0_20.below hb
    have o5_1_21 := o5_1_20.below hb
    have o6_21 := o6_20.below hb
    have o8_21 := o8_20.below hb
    have o9_21 := om20.below hb
    have o10_0_21 := o10_0_20.below hb
    have o10_1_21 := o10_1_20.below hb
    have o14_21 := o14_20.below hb
    have o16_21 := o16_20.below hb
    clear hb hB20 ba0_20 bx7_20 o2_20 o3_20 o4_20 o5_0_20 o5_1_20 o6_20 o8_20 om20 o10_0_20 o10_1_20 o14_20 o16_20
    go_wp2_with fail
    refine (eqI_v _ o10_1_21.rd o5_1_21.rd).mono ?_
    rintro e E22 ⟨rfl, hb⟩
    have hz22 : E21.heap.size ≤ E22.heap.size := hb.size
    have hB22 := hB21.trans (hb.mono hB21.size)
    have ba0_22 := ba0_21.below hb
    have bx7_22 := bx7_21.below hb
    have o2_22 := o2_21.below hb
    have o3_22 := o3_21.below hb
    have o4_22 := o4_21.below hb
    have o5_0_22 := o5_0_21.below hb
    have o5_1_22 := o5_1_21.below hb
    have o6_22 := o6_21.below hb
    have o8_22 := o8_21.below hb
    have o9_22 := o9_21.below hb
    have o10_0_22 := o10_0_21.below hb
    have o10_1_22 := o10_1_21.below hb
    have o14_22 := o14_21.below hb
    have o16_22 := o16_21.below hb
    clear hb hB21 ba0_21 bx7_21 o2_21 o3_21 o4_21 o5_0_21 o5_1_21 o6_21 o8_21 o9_21 o10_0_21 o10_1_21 o14_21 o16_21
    go_wp2_with fail
    have hc_o10_0 := stepA_small x0 x1 x2
    refine (markI_v _ _ o10_0_22 D10_0 (by omega) (by omega)).mono ?_
    rintro e E23 ⟨rfl, om23, hf⟩
    have hz23 : E22.heap.size ≤ E23.heap.size := hf.size
    have hB23 := hB22.trans (hf.below (fun b hbk => by have h1 := (HR_o10_0.out b hbk).1; have h2 := HBW_o10_0.out; omega) hB22.size)
    have ba0_23 := ba0_22.offBlk (by decide) o10_0_22.ints hf
    have bx7_23 := bx7_22.offBlk (by decide) o10_0_22.ints hf
    have o2_23 := o2_22.offBlk o10_0_22.ints (apart (fun x h => (HR_o2.out x h).2) (fun x h => (HR_o10_0.out x h).1) (by omega)) hf
    have o3_23 := o3_22.offBlk o10_0_22.ints (apart (fun x h => (HR_o3.out x h).2) (fun x h => (HR_o10_0.out x h).1) (by omega)) hf
    have o4_23 := o4_22.offBlk o10_0_22.ints (apart (fun x h => (HR_o4.out x h).2) (fun x h => (HR_o10_0.out x h).1) (by omega)) hf
    have o5_0_23 := o5_0_22.offBlk o10_0_22.ints (apart (fun x h => (HR_o5_0.out x h).2) (fun x h => (HR_o10_0.out x h).1) (by omega)) hf
    have o5_1_23 := o5_1_22.offBlk o10_0_22.ints (apart (fun x h => (HR_o5_1.out x h).2) (fun x h => (HR_o10_0.out x h).1) (by omega)) hf
    have o6_23 := o6_22.offBlk o10_0_22.ints (apart (fun x h => (HR_o6.out x h).2) (fun x h => (HR_o10_0.out x h).1) (by omega)) hf
    have o8_23 := o8_22.offBlk o10_0_22.ints (apart (fun x h => (HR_o8.out x h).2) (fun x h => (HR_o10_0.out x h).1) (by omega)) hf
    have o9_23 := o9_22.offBlk o10_0_22.ints (apart (fun x h => (HR_o9.out x h).2) (fun x h => (HR_o10_0.out x h).1) (by omega)) hf
    have o10_1_23 := o10_1_22.offBlk o10_0_22.ints (fun x h h' => S10.out x h' h) hf
    have o14_23 := o14_22.offBlk o10_0_22.ints (apart' (fun x h => (HR_o10_0.out x h).2) (fun x h => (HR_o14.out x h).1) (by omega)) hf
    have o16_23 := o16_22.offBlk o10_0_22.ints (apart' (fun x h => (HR_o10_0.out x h).2) (fun x h => (HR_o16.out x h).1) (by omega)) hf
    clear hf hB22 ba0_22 bx7_22 o2_22 o3_22 o4_22 o5_0_22 o5_1_22 o6_22 o8_22 o9_22 o10_1_22 o14_22 o16_22 o10_0_22
    go_wp2_with fail
    have hc_o10_1 := stepC_small x0 x1 x2
    refine (markI_v _ _ o10_1_23 D10_1 (by omega) (by omega)).mono ?_
    rintro e E24 ⟨rfl, om24, hf⟩
    have hz24 : E23.heap.size ≤ E24.heap.size := hf.size
    have hB24 := hB23.trans (hf.below (fun b hbk => by have h1 := (HR_o10_1.out b hbk).1; have h2 := HBW_o10_1.out; omega) hB23.size)
    have ba0_24 := ba0_23.offBlk (by decide) o10_1_23.ints hf
    have bx7_24 := bx7_23.offBlk (by decide) o10_1_23.ints hf
    have o2_24 := o2_23.offBlk o10_1_23.ints (apart (fun x h => (HR_o2.out x h).2) (fun x h => (HR_o10_1.out x h).1) (by omega)) hf
    have o3_24 := o3_23.offBlk o10_1_23.ints (apart (fun x h => (HR_o3.out x h).2) (fun x h => (HR_o10_1.out x h).1) (by omega)) hf
    have o4_24 := o4_23.offBlk o10_1_23.ints (apart (fun x h => (HR_o4.out x h).2) (fun x h => (HR_o10_1.out x h).1) (by omega)) hf
    have o5_0_24 := o5_0_23.offBlk o10_1_23.ints (apart (fun x h => (HR_o5_0.out x h).2) (fun x h => (HR_o10_1.out x h).1) (by omega)) hf
    have o5_1_24 := o5_1_23.offBlk o10_1_23.ints (apart (fun x h => (HR_o5_1.out x h).2) (fun x h => (HR_o10_1.out x h).1) (by omega)) hf
    have o6_24 := o6_23.offBlk o10_1_23.ints (apart (fun x h => (HR_o6.out x h).2) (fun x h => (HR_o10_1.out x h).1) (by omega)) hf
    have o8_24 := o8_23.offBlk o10_1_23.ints (apart (fun x h => (HR_o8.out x h).2) (fun x h => (HR_o10_1.out x h).1) (by omega)) hf
    have o9_24 := o9_23.offBlk o10_1_23.ints (apart (fun x h => (HR_o9.out x h).2) (fun x h => (HR_o10_1.out x h).1) (by omega)) hf
    have o10_0_24 := om23.offBlk o10_1_23.ints S10.out hf
    have o14_24 := o14_23.offBlk o10_1_23.ints (apart' (fun x h => (HR_o10_1.out x h).2) (fun x h => (HR_o14.out x h).1) (by omega)) hf
    have o16_24 := o16_23.offBlk o10_1_23.ints (apart' (fun x h => (HR_o10_1.out x h).2) (fun x h => (HR_o16.out x h).1) (by omega)) hf
    clear hf hB23 ba0_23 bx7_23 o2_23 o3_23 o4_23 o5_0_23 o5_1_23 o6_23 o8_23 o9_23 om23 o14_23 o16_23 o10_1_23
    go_wp2_with fail
    refine (heldI_v (xs := (stepA x0 x1 x2)) _ _ o10_0_24.rd (by omega) (by omega)).mono ?_
    rintro e E25 ⟨rfl, hb⟩
    have hz25 : E24.heap.size ≤ E25.heap.size := hb.size
    have hB25 := hB24.trans (hb.mono hB24.size)
    have ba0_25 := ba0_24.below hb
    have bx7_25 := bx7_24.below hb
    have o2_25 := o2_24.below hb
    have o3_25 := o3_24.below hb
    have o4_25 := o4_24.below hb
    have o5_0_25 := o5_0_24.below hb
    have o5_1_25 := o5_1_24.below hb
    have o6_25 := o6_24.below hb
    have o8_25 := o8_24.below hb
    have o9_25 := o9_24.below hb
    have o10_0_25 := o10_0_24.below hb
    have o10_1_25 := om24.below hb
    have o14_25 := o14_24.below hb
    have o16_25 := o16_24.below hb
    clear hb hB24 ba0_24 bx7_24 o2_24 o3_24 o4_24 o5_0_24 o5_1_24 o6_24 o8_24 o9_24 o10_0_24 om24 o14_24 o16_24
    go_wp2_with fail
    refine (heldI_v (xs := (stepC x0 x1 x2)) _ _ o10_1_25.rd (by omega) (by omega)).mono ?_
    rintro e E26 ⟨rfl, hb⟩
    have hz26 : E25.heap.size ≤ E26.heap.size := hb.size
    have hB26 := hB25.trans (hb.mono hB25.size)
    have ba0_26 := ba0_25.below hb
    have bx7_26 := bx7_25.below hb
    have o2_26 := o2_25.below hb
    have o3_26 := o3_25.below hb
    have o4_26 := o4_25.below hb
    have o5_0_26 := o5_0_25.below hb
    have o5_1_26 := o5_1_25.below hb
    have o6_26 := o6_25.below hb
    have o8_26 := o8_25.below hb
    have o9_26 := o9_25.below hb
    have o10_0_26 := o10_0_25.below hb
    have o10_1_26 := o10_1_25.below hb
    have o14_26 := o14_25.below hb
    have o16_26 := o16_25.below hb
    clear hb hB25 ba0_25 bx7_25 o2_25 o3_25 o4_25 o5_0_25 o5_1_25 o6_25 o8_25 o9_25 o10_0_25 o10_1_25 o14_25 o16_25
    have z_ba0_0 := ba0_26.cell 0 rfl
    have z_ba0_1 := ba0_26.cell 1 rfl
    have z_ba0_2 := ba0_26.cell 2 rfl
    have z_ba0_3 := ba0_26.cell 3 rfl
    have z_ba0_4 := ba0_26.cell 4 rfl
    go_wp2_with fail
    clear z_ba0_0 z_ba0_1 z_ba0_2 z_ba0_3 z_ba0_4
    refine (toLinear_v _ (h0.below hB26) hn0).mono ?_
    rintro e E27 ⟨u27, L27, rfl, o27, D27, hb⟩
    have HBW_o27 : Hid (w.heap.size ≤ E26.heap.size) := hB26.size
    have HR_o27 : Hid (∀ b, Blk L27 b → E26.heap.size ≤ b ∧ b < E27.heap.size) := fun b hbk => o27.blk hbk
    have hz27 : E26.heap.size ≤ E27.heap.size := hb.size
    have hB27 := hB26.trans (hb.mono hB26.size)
    have ba0_27 := ba0_26.below hb
    have bx7_27 := bx7_26.below hb
    have o2_27 := o2_26.below hb
    have o3_27 := o3_26.below hb
    have o4_27 := o4_26.below hb
    have o5_0_27 := o5_0_26.below hb
    have o5_1_27 := o5_1_26.below hb
    have o6_27 := o6_26.below hb
    have o8_27 := o8_26.below hb
    have o9_27 := o9_26.below hb
    have o10_0_27 := o10_0_26.below hb
    have o10_1_27 := o10_1_26.below hb
    have o14_27 := o14_26.below hb
    have o16_27 := o16_26.below hb
    clear hb hB26 ba0_26 bx7_26 o2_26 o3_26 o4_26 o5_0_26 o5_1_26 o6_26 o8_26 o9_26 o10_0_26 o10_1_26 o14_26 o16_26
    have hv := o27.rd
    obtain ⟨b27p1, b27c1, b27p2, b27c2, b27p3, b27c3, b27p4, b27c4, rfl, -, -, -, -⟩ := hv
    go_wp2_with fail
    refine (toI_v _ (h1.below hB27) (by unfold wtI; omega)).mono ?_
    rintro e E28 ⟨u28, L28, rfl, o28, D28, hb⟩
    have HBW_o28 : Hid (w.heap.size ≤ E27.heap.size) := hB27.size
    have HR_o28 : Hid (∀ b, Blk L28 b → E27.heap.size ≤ b ∧ b < E28.heap.size) := fun b hbk => o28.blk hbk
    have hz28 : E27.heap.size ≤ E28.heap.size := hb.size
    have hB28 := hB27.trans (hb.mono hB27.size)
    have ba0_28 := ba0_27.below hb
    have bx7_28 := bx7_27.below hb
    have o2_28 := o2_27.below hb
    have o3_28 := o3_27.below hb
    have o4_28 := o4_27.below hb
    have o5_0_28 := o5_0_27.below hb
    have o5_1_28 := o5_1_27.below hb
    have o6_28 := o6_27.below hb
    have o8_28 := o8_27.below hb
    have o9_28 := o9_27.below hb
    have o10_0_28 := o10_0_27.below hb
    have o10_1_28 := o10_1_27.below hb
    have o14_28 := o14_27.below hb
    have o16_28 := o16_27.below hb
    have o27_28 := o27.below hb
    clear hb hB27 ba0_27 bx7_27 o2_27 o3_27 o4_27 o5_0_27 o5_1_27 o6_27 o8_27 o9_27 o10_0_27 o10_1_27 o14_27 o16_27 o27
    have hv := o28.rd
    obtain ⟨b28p, b28c, rfl, -⟩ := hv
    go_wp2_with fail
    refine (toI_v _ (h2.below hB28) (by unfold wtI; omega)).mono ?_
    rintro e E29 ⟨u29, L29, rfl, o29, D29, hb⟩
    have HBW_o29 : Hid (w.heap.size ≤ E28.heap.size) := hB28.size
    have HR_o29 : Hid (∀ b, Blk L29 b → E28.heap.size ≤ b ∧ b < E29.heap.size) := fun b hbk => o29.blk hbk
    have hz29 : E28.heap.size ≤ E29.heap.size := hb.size
    have hB29 := hB28.trans (hb.mono hB28.size)
    have ba0_29 := ba0_28.below hb
    have bx7_29 := bx7_28.below hb
    have o2_29 := o2_28.below hb
    have o3_29 := o3_28.below hb
    have o4_29 := o4_28.below hb
    have o5_0_29 := o5_0_28.below hb
    have o5_1_29 := o5_1_28.below hb
    have o6_29 := o6_28.below hb
    have o8_29 := o8_28.below hb
    have o9_29 := o9_28.below hb
    have o10_0_29 := o10_0_28.below hb
    have o10_1_29 := o10_1_28.below hb
    have o14_29 := o14_28.below hb
    have o16_29 := o16_28.below hb
    have o27_29 := o27_28.below hb
    have o28_29 := o28.below hb
    clear hb hB28 ba0_28 bx7_28 o2_28 o3_28 o4_28 o5_0_28 o5_1_28 o6_28 o8_28 o9_28 o10_0_28 o10_1_28 o14_28 o16_28 o27_28 o28
    have hv := o29.rd
    obtain ⟨b29p, b29c, rfl, -⟩ := hv
    go_wp2_with fail
    refine (implStepLinear_v _ o27_29.rd o28_29.rd o29.rd).mono ?_
    rintro e E30 ⟨u30_0, u30_1, L30_0, L30_1, rfl, o30_0, o30_1, D30, hb⟩
    have HBW_o30_0 : Hid (w.heap.size ≤ E29.heap.size) := hB29.size
    have HR_o30_0 : Hid (∀ b, Blk L30_0 b → E29.heap.size ≤ b ∧ b < E30.heap.size) := fun b hbk => o30_0.blk hbk
    have HBW_o30_1 : Hid (w.heap.size ≤ E29.heap.size) := hB29.size
    have HR_o30_1 : Hid (∀ b, Blk L30_1 b → E29.heap.size ≤ b ∧ b < E30.heap.size) := fun b hbk => o30_1.blk hbk
    have hz30 : E29.heap.size ≤ E30.heap.size := hb.size
    have hB30 := hB29.trans (hb.mono hB29.size)
    have ba0_30 := ba0_29.below hb
    have bx7_30 := bx7_29.below hb
    have o2_30 := o2_29.below hb
    have o3_30 := o3_29.below hb
    have o4_30 := o4_29.below hb
    have o5_0_30 := o5_0_29.below hb
    have o5_1_30 := o5_1_29.below hb
    have o6_30 := o6_29.below hb
    have o8_30 := o8_29.below hb
    have o9_30 := o9_29.below hb
    have o10_0_30 := o10_0_29.below hb
    have o10_1_30 := o10_1_29.below hb
    have o14_30 := o14_29.below hb
    have o16_30 := o16_29.below hb
    have o27_30 := o27_29.below hb
    have o28_30 := o28_29.below hb
    have o29_30 := o29.below hb
    clear hb hB29 ba0_29 bx7_29 o2_29 o3_29 o4_29 o5_0_29 o5_1_29 o6_29 o8_29 o9_29 o10_0_29 o10_1_29 o14_29 o16_29 o27_29 o28_29 o29
    have D30_0 := D30.left
    have D30_1 := D30.right
    have S30 := Lib.hid D30.sep
    have hv := o30_0.rd
    obtain ⟨b3000p, b3000c, rfl, -⟩ := hv
    have hv := o30_1.rd
    obtain ⟨b3001p, b3001c, rfl, -⟩ := hv
    go_wp2_with fail
    refine (eqI_v _ o30_0.rd o5_0_30.rd).mono ?_
    rintro e E31 ⟨rfl, hb⟩
    have hz31 : E30.heap.size ≤ E31.heap.size := hb.size
    have hB31 := hB30.trans (hb.mono hB30.size)
    have ba0_31 := ba0_30.below hb
    have bx7_31 := bx7_30.below hb
    have o2_31 := o2_30.below hb
    have o3_31 := o3_30.below hb
    have o4_31 := o4_30.below hb
    have o5_0_31 := o5_0_30.below hb
    have o5_1_31 := o5_1_30.below hb
    have o6_31 := o6_30.below hb
    have o8_31 := o8_30.below hb
    have o9_31 := o9_30.below hb
    have o10_0_31 := o10_0_30.below hb
    have o10_1_31 := o10_1_30.below hb
    have o14_31 := o14_30.below hb
    have o16_31 := o16_30.below hb
    have o27_31 := o27_30.below hb
    have o28_31 := o28_30.below hb
    have o29_31 := o29_30.below hb
    have o30_0_31 := o30_0.below hb
    have o30_1_31 := o30_1.below hb
    clear hb hB30 ba0_30 bx7_30 o2_30 o3_30 o4_30 o5_0_30 o5_1_30 o6_30 o8_30 o9_30 o10_0_30 o10_1_30 o14_30 o16_30 o27_30 o28_30 o29_30 o30_0 o30_1
    go_wp2_with fail
    refine (eqI_v _ o30_1_31.rd o5_1_31.rd).mono ?_
    rintro e E32 ⟨rfl, hb⟩
    have hz32 : E31.heap.size ≤ E32.heap.size := hb.size
    have hB32 := hB31.trans (hb.mono hB31.size)
    have ba0_32 := ba0_31.below hb
    have bx7_32 := bx7_31.below hb
    have o2_32 := o2_31.below hb
    have o3_32 := o3_31.below hb
    have o4_32 := o4_31.below hb
    have o5_0_32 := o5_0_31.below hb
    have o5_1_32 := o5_1_31.below hb
    have o6_32 := o6_31.below hb
    have o8_32 := o8_31.below hb
    have o9_32 := o9_31.below hb
    have o10_0_32 := o10_0_31.below hb
    have o10_1_32 := o10_1_31.below hb
    have o14_32 := o14_31.below hb
    have o16_32 := o16_31.below hb
    have o27_32 := o27_31.below hb
    have o28_32 := o28_31.below hb
    have o29_32 := o29_31.below hb
    have o30_0_32 := o30_0_31.below hb
    have o30_1_32 := o30_1_31.below hb
    clear hb hB31 ba0_31 bx7_31 o2_31 o3_31 o4_31 o5_0_31 o5_1_31 o6_31 o8_31 o9_31 o10_0_31 o10_1_31 o14_31 o16_31 o27_31 o28_31 o29_31 o30_0_31 o30_1_31
    go_wp2_with fail
    refine (heldI_v (xs := (stepA x0 x1 x2)) _ _ o10_0_32.rd (by omega) (by omega)).mono ?_
    rintro e E33 ⟨rfl, hb⟩
    have hz33 : E32.heap.size ≤ E33.heap.size := hb.size
    have hB33 := hB32.trans (hb.mono hB32.size)
    have ba0_33 := ba0_32.below hb
    have bx7_33 := bx7_32.below hb
    have o2_33 := o2_32.below hb
    have o3_33 := o3_32.below hb
    have o4_33 := o4_32.below hb
    have o5_0_33 := o5_0_32.below hb
    have o5_1_33 := o5_1_32.below hb
    have o6_33 := o6_32.below hb
    have o8_33 := o8_32.below hb
    have o9_33 := o9_32.below hb
    have o10_0_33 := o10_0_32.below hb
    have o10_1_33 := o10_1_32.below hb
    have o14_33 := o14_32.below hb
    have o16_33 := o16_32.below hb
    have o27_33 := o27_32.below hb
    have o28_33 := o28_32.below hb
    have o29_33 := o29_32.below hb
    have o30_0_33 := o30_0_32.below hb
    have o30_1_33 := o30_1_32.below hb
    clear hb hB32 ba0_32 bx7_32 o2_32 o3_32 o4_32 o5_0_32 o5_1_32 o6_32 o8_32 o9_32 o10_0_32 o10_1_32 o14_32 o16_32 o27_32 o28_32 o29_32 o30_0_32 o30_1_32
    go_wp2_with fail
    refine (heldI_v (xs := (stepC x0 x1 x2)) _ _ o10_1_33.rd (by omega) (by omega)).mono ?_
    rintro e E34 ⟨rfl, hb⟩
    have hz34 : E33.heap.size ≤ E34.heap.size := hb.size
    have hB34 := hB33.trans (hb.mono hB33.size)
    have ba0_34 := ba0_33.below hb
    have bx7_34 := bx7_33.below hb
    have o2_34 := o2_33.below hb
    have o3_34 := o3_33.below hb
    have o4_34 := o4_33.below hb
    have o5_0_34 := o5_0_33.below hb
    have o5_1_34 := o5_1_33.below hb
    have o6_34 := o6_33.below hb
    have o8_34 := o8_33.below hb
    have o9_34 := o9_33.below hb
    have o10_0_34 := o10_0_33.below hb
    have o10_1_34 := o10_1_33.below hb
    have o14_34 := o14_33.below hb
    have o16_34 := o16_33.below hb
    have o27_34 := o27_33.below hb
    have o28_34 := o28_33.below hb
    have o29_34 := o29_33.below hb
    have o30_0_34 := o30_0_33.below hb
    have o30_1_34 := o30_1_33.below hb
    clear hb hB33 ba0_33 bx7_33 o2_33 o3_33 o4_33 o5_0_33 o5_1_33 o6_33 o8_33 o9_33 o10_0_33 o10_1_33 o14_33 o16_33 o27_33 o28_33 o29_33 o30_0_33 o30_1_33
    go_wp2_with fail
    go_ret
    exact ⟨rfl, hB34⟩

end Go.Proofs.Ytlfhdocgemiogaa
