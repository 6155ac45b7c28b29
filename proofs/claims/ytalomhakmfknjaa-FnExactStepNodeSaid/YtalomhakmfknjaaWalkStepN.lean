/-
  The walks of exact laws on patches.
-/
import Derived.Test.YtalomhakmfknjaaStepN2
namespace Go.Proofs.Ytalomhakmfknjaa
open Go.ChangeShapes Go.WideShapes Go.ChangeAt Go.RowKit
set_option linter.unusedVariables false

set_option maxHeartbeats 8000000 in
set_option maxRecDepth 100000 in
theorem fnExactStepNode_walk (w : World) {v0 : Value} {x0 : NodeD} (h0 : VNode w v0 x0) {v1 : Value} {x1 : List (List Int)} (h1 : VII w v1 x1) {v2 : Value} {x2 : List Int} (h2 : VI w v2 x2) {v3 : Value} {x3 : List Int} (h3 : VI w v3 x3) :
    Calls Try.prog 9 #[v0, v1, v2, v3] w fun e w' => e = .returned (.bool true) ∧ Below w.heap.size w w' := by
  have hv0 := h0
  obtain ⟨a0p3, a0c3, rfl, -⟩ := hv0
  have hv1 := h1
  obtain ⟨a1p, a1c, rfl, hr1⟩ := hv1
  have hl1 := hr1.len
  unfold maxLen at hl1
  clear hr1
  have hv2 := h2
  obtain ⟨a2p, a2c, rfl, hr2⟩ := hv2
  have hl2 := hr2.len
  unfold maxLen at hl2
  clear hr2
  have hv3 := h3
  obtain ⟨a3p, a3c, rfl, hr3⟩ := hv3
  have hl3 := hr3.len
  unfold maxLen at hl3
  clear hr3
  obtain ⟨E0, hE0⟩ : ∃ E, E = (w.alloc (.cells #[.int .i64 x0.kind, .int .i64 x0.a, .int .i64 x0.b, .slice a0p3 x0.src.length a0c3] 53)) := ⟨_, rfl⟩
  have HB0 : Below w.heap.size w E0 := by rw [hE0]; exact ((Below.refl _ _).alloc (Nat.le_refl _) _)
  have ba0 : Box E0 (w.heap.size) [.int .i64 x0.kind, .int .i64 x0.a, .int .i64 x0.b, .slice a0p3 x0.src.length a0c3] 53 := by rw [hE0]; exact Box.newAt _ [.int .i64 x0.kind, .int .i64 x0.a, .int .i64 x0.b, .slice a0p3 x0.src.length a0c3] _ (by simp)
  have lq_ba0 := ba0.lt
  have HE0 := Lib.hid hE0
  clear hE0
  by_cases n2 : (1048576 : Int) < (x2.length : Int)
  case pos =>
    go_enter Try.func9, Try.ntmps9
    go_wp2_with fail
    go_ret
    exact ⟨rfl, by rw [← HE0.out]; exact HB0⟩
  by_cases n3 : (1048576 : Int) < (x3.length : Int)
  case pos =>
    go_enter Try.func9, Try.ntmps9
    go_wp2_with fail
    go_ret
    exact ⟨rfl, by rw [← HE0.out]; exact HB0⟩
  go_enter Try.func9, Try.ntmps9
  go_wp2_with fail
  rw [← HE0.out]
  refine (szNode_v _ _ (h0.below HB0) (by omega) (by omega)).mono ?_
  rintro e E1 ⟨rfl, hb⟩
  have hz1 : E0.heap.size ≤ E1.heap.size := hb.size
  have hB1 := HB0.trans (hb.mono HB0.size)
  have ba0_1 := ba0.below hb
  clear hb ba0
  by_cases k1 : szF 1048576 (wtNode x0) < 0
  case pos =>
    go_wp2_with fail
    go_ret
    exact ⟨rfl, hB1⟩
  have hn0 : wtNode x0 ≤ 1048576 := by have := (szF_pos k1).2; omega
  have s1 := (szF_pos k1).1
  have l1 : 0 ≤ szF 1048576 (wtNode x0) := by omega
  have g1 : szF 1048576 (wtNode x0) ≤ 1048576 := by omega
  clear s1
  go_wp2_with fail
  refine (szII_v _ _ (h1.below hB1) (by omega) (by omega)).mono ?_
  rintro e E2 ⟨rfl, hb⟩
  have hz2 : E1.heap.size ≤ E2.heap.size := hb.size
  have hB2 := hB1.trans (hb.mono hB1.size)
  have ba0_2 := ba0_1.below hb
  clear hb hB1 ba0_1
  by_cases k2 : szF (szF 1048576 (wtNode x0)) (wtII x1) < 0
  case pos =>
    go_wp2_with fail
    go_ret
    exact ⟨rfl, hB2⟩
  have hn1 : wtII x1 ≤ 1048576 := by have := (szF_pos k2).2; omega
  have s2 := (szF_pos k2).1
  have l2 : 0 ≤ szF (szF 1048576 (wtNode x0)) (wtII x1) := by omega
  have g2 : szF (szF 1048576 (wtNode x0)) (wtII x1) ≤ 1048576 := by omega
  clear s2
  have z_ba0_0 := ba0_2.cell 0 rfl
  have z_ba0_1 := ba0_2.cell 1 rfl
  have z_ba0_2 := ba0_2.cell 2 rfl
  have z_ba0_3 := ba0_2.cell 3 rfl
  go_wp2_with fail
  clear z_ba0_0 z_ba0_1 z_ba0_2 z_ba0_3
  refine (toNode_v _ (h0.below hB2) hn0).mono ?_
  rintro e E3 ⟨u3, L3, rfl, o3, D3, hb⟩
  have HBW_o3 : Hid (w.heap.size ≤ E2.heap.size) := hB2.size
  have HR_o3 : Hid (∀ b, Blk L3 b → E2.heap.size ≤ b ∧ b < E3.heap.size) := fun b hbk => o3.blk hbk
  have hz3 : E2.heap.size ≤ E3.heap.size := hb.size
  have hB3 := hB2.trans (hb.mono hB2.size)
  have ba0_3 := ba0_2.below hb
  clear hb hB2 ba0_2
  have hv := o3.rd
  obtain ⟨b3p3, b3c3, rfl, -⟩ := hv
  go_wp2_with fail
  refine (toII_v _ (h1.below hB3) hn1).mono ?_
  rintro e E4 ⟨u4, L4, rfl, o4, D4, hb⟩
  have HBW_o4 : Hid (w.heap.size ≤ E3.heap.size) := hB3.size
  have HR_o4 : Hid (∀ b, Blk L4 b → E3.heap.size ≤ b ∧ b < E4.heap.size) := fun b hbk => o4.blk hbk
  have hz4 : E3.heap.size ≤ E4.heap.size := hb.size
  have hB4 := hB3.trans (hb.mono hB3.size)
  have ba0_4 := ba0_3.below hb
  have o3_4 := o3.below hb
  clear hb hB3 ba0_3 o3
  have hv := o4.rdv
  obtain ⟨b4p, b4c, rfl, -⟩ := hv
  go_wp2_with fail
  refine (toI_v _ (h2.below hB4) (by unfold wtI; omega)).mono ?_
  rintro e E5 ⟨u5, L5, rfl, o5, D5, hb⟩
  have HBW_o5 : Hid (w.heap.size ≤ E4.heap.size) := hB4.size
  have HR_o5 : Hid (∀ b, Blk L5 b → E4.heap.size ≤ b ∧ b < E5.heap.size) := fun b hbk => o5.blk hbk
  have hz5 : E4.heap.size ≤ E5.heap.size := hb.size
  have hB5 := hB4.trans (hb.mono hB4.size)
  have ba0_5 := ba0_4.below hb
  have o3_5 := o3_4.below hb
  have o4_5 := o4.below hb
  clear hb hB4 ba0_4 o3_4 o4
  have hv := o5.rd
  obtain ⟨b5p, b5c, rfl, -⟩ := hv
  go_wp2_with fail
  refine (toI_v _ (h3.below hB5) (by unfold wtI; omega)).mono ?_
  rintro e E6 ⟨u6, L6, rfl, o6, D6, hb⟩
  have HBW_o6 : Hid (w.heap.size ≤ E5.heap.size) := hB5.size
  have HR_o6 : Hid (∀ b, Blk L6 b → E5.heap.size ≤ b ∧ b < E6.heap.size) := fun b hbk => o6.blk hbk
  have hz6 : E5.heap.size ≤ E6.heap.size := hb.size
  have hB6 := hB5.trans (hb.mono hB5.size)
  have ba0_6 := ba0_5.below hb
  have o3_6 := o3_5.below hb
  have o4_6 := o4_5.below hb
  have o5_6 := o5.below hb
  clear hb hB5 ba0_5 o3_5 o4_5 o5
  have hv := o6.rd
  obtain ⟨b6p, b6c, rfl, -⟩ := hv
  go_wp2_with fail
  refine (specStepNode_v _ o3_6.rd o4_6.rdv o5_6.rd o6.rdc).mono ?_
  rintro e E7 ⟨u7_0, L7_0, rfl, o7_0, D7, hb⟩
  have HBW_o7_0 : Hid (w.heap.size ≤ E6.heap.size) := hB6.size
  have HR_o7_0 : Hid (∀ b, Blk L7_0 b → E6.heap.size ≤ b ∧ b < E7.heap.size) := fun b hbk => o7_0.blk hbk
  have hz7 : E6.heap.size ≤ E7.heap.size := hb.size
  have hB7 := hB6.trans (hb.mono hB6.size)
  have ba0_7 := ba0_6.below hb
  have o3_7 := o3_6.below hb
  have o4_7 := o4_6.below hb
  have o5_7 := o5_6.below hb
  have o6_7 := o6.below hb
  clear hb hB6 ba0_6 o3_6 o4_6 o5_6 o6
  have hv := o7_0.rd
  obtain ⟨b700p, b700c, rfl, -⟩ := hv
  have z_ba0_0 := ba0_7.cell 0 rfl
  have z_ba0_1 := ba0_7.cell 1 rfl
  have z_ba0_2 := ba0_7.cell 2 rfl
  have z_ba0_3 := ba0_7.cell 3 rfl
  go_wp2_with fail
  clear z_ba0_0 z_ba0_1 z_ba0_2 z_ba0_3
  refine (toNode_v _ (h0.below hB7) hn0).mono ?_
  rintro e E8 ⟨u8, L8, rfl, o8, D8, hb⟩
  have HBW_o8 : Hid (w.heap.size ≤ E7.heap.size) := hB7.size
  have HR_o8 : Hid (∀ b, Blk L8 b → E7.heap.size ≤ b ∧ b < E8.heap.size) := fun b hbk => o8.blk hbk
  have hz8 : E7.heap.size ≤ E8.heap.size := hb.size
  have hB8 := hB7.trans (hb.mono hB7.size)
  have ba0_8 := ba0_7.below hb
  have o3_8 := o3_7.below hb
  have o4_8 := o4_7.below hb
  have o5_8 := o5_7.below hb
  have o6_8 := o6_7.below hb
  have o7_0_8 := o7_0.below hb
  clear hb hB7 ba0_7 o3_7 o4_7 o5_7 o6_7 o7_0
  have hv := o8.rd
  obtain ⟨b8p3, b8c3, rfl, -⟩ := hv
  go_wp2_with fail
  obtain ⟨E9, hE⟩ : ∃ E, E = E8.alloc (.cells #[.int .i64 x0.kind, .int .i64 x0.a, .int .i64 x0.b, .slice b8p3 x0.src.length b8c3] 58) := ⟨_, rfl⟩
  have hb : Below E8.heap.size E8 E9 := by rw [hE]; exact (Below.refl _ _).alloc (Nat.le_refl _) _
  have bx9 : Box E9 E8.heap.size [.int .i64 x0.kind, .int .i64 x0.a, .int .i64 x0.b, .slice b8p3 x0.src.length b8c3] 58 := by rw [hE]; exact Box.newAt _ [.int .i64 x0.kind, .int .i64 x0.a, .int .i64 x0.b, .slice b8p3 x0.src.length b8c3] _ rfl
  rw [← hE]
  clear hE
  have lq_bx9 := bx9.lt
  have hz9 : E8.heap.size ≤ E9.heap.size := hb.size
  have hB9 := hB8.trans (hb.mono hB8.size)
  have ba0_9 := ba0_8.below hb
  have o3_9 := o3_8.below hb
  have o4_9 := o4_8.below hb
  have o5_9 := o5_8.below hb
  have o6_9 := o6_8.below hb
  have o7_0_9 := o7_0_8.below hb
  have o8_9 := o8.below hb
  clear hb hB8 ba0_8 o3_8 o4_8 o5_8 o6_8 o7_0_8 o8
  refine (toII_v _ (h1.below hB9) hn1).mono ?_
  rintro e E10 ⟨u10, L10, rfl, o10, D10, hb⟩
  have HBW_o10 : Hid (w.heap.size ≤ E9.heap.size) := hB9.size
  have HR_o10 : Hid (∀ b, Blk L10 b → E9.heap.size ≤ b ∧ b < E10.heap.size) := fun b hbk => o10.blk hbk
  have hz10 : E9.heap.size ≤ E10.heap.size := hb.size
  have hB10 := hB9.trans (hb.mono hB9.size)
  have ba0_10 := ba0_9.below hb
  have bx9_10 := bx9.below hb
  have o3_10 := o3_9.below hb
  have o4_10 := o4_9.below hb
  have o5_10 := o5_9.below hb
  have o6_10 := o6_9.below hb
  have o7_0_10 := o7_0_9.below hb
  have o8_10 := o8_9.below hb
  clear hb hB9 ba0_9 bx9 o3_9 o4_9 o5_9 o6_9 o7_0_9 o8_9
  have hv := o10.rdv
  obtain ⟨b10p, b10c, rfl, -⟩ := hv
  go_wp2_with fail
  refine (toI_v _ (h2.below hB10) (by unfold wtI; omega)).mono ?_
  rintro e E11 ⟨u11, L11, rfl, o11, D11, hb⟩
  have HBW_o11 : Hid (w.heap.size ≤ E10.heap.size) := hB10.size
  have HR_o11 : Hid (∀ b, Blk L11 b → E10.heap.size ≤ b ∧ b < E11.heap.size) := fun b hbk => o11.blk hbk
  have hz11 : E10.heap.size ≤ E11.heap.size := hb.size
  have hB11 := hB10.trans (hb.mono hB10.size)
  have ba0_11 := ba0_10.below hb
  have bx9_11 := bx9_10.below hb
  have o3_11 := o3_10.below hb
  have o4_11 := o4_10.below hb
  have o5_11 := o5_10.below hb
  have o6_11 := o6_10.below hb
  have o7_0_11 := o7_0_10.below hb
  have o8_11 := o8_10.below hb
  have o10_11 := o10.below hb
  clear hb hB10 ba0_10 bx9_10 o3_10 o4_10 o5_10 o6_10 o7_0_10 o8_10 o10
  have hv := o11.rd
  obtain ⟨b11p, b11c, rfl, -⟩ := hv
  go_wp2_with fail
  refine (toI_v _ (h3.below hB11) (by unfold wtI; omega)).mono ?_
  rintro e E12 ⟨u12, L12, rfl, o12, D12, hb⟩
  have HBW_o12 : Hid (w.heap.size ≤ E11.heap.size) := hB11.size
  have HR_o12 : Hid (∀ b, Blk L12 b → E11.heap.size ≤ b ∧ b < E12.heap.size) := fun b hbk => o12.blk hbk
  have hz12 : E11.heap.size ≤ E12.heap.size := hb.size
  have hB12 := hB11.trans (hb.mono hB11.size)
  have ba0_12 := ba0_11.below hb
  have bx9_12 := bx9_11.below hb
  have o3_12 := o3_11.below hb
  have o4_12 := o4_11.below hb
  have o5_12 := o5_11.below hb
  have o6_12 := o6_11.below hb
  have o7_0_12 := o7_0_11.below hb
  have o8_12 := o8_11.below hb
  have o10_12 := o10_11.below hb
  have o11_12 := o11.below hb
  clear hb hB11 ba0_11 bx9_11 o3_11 o4_11 o5_11 o6_11 o7_0_11 o8_11 o10_11 o11
  have hv := o12.rd
  obtain ⟨b12p, b12c, rfl, -⟩ := hv
  have z_bx9_0 := bx9_12.cell 0 rfl
  have z_bx9_1 := bx9_12.cell 1 rfl
  have z_bx9_2 := bx9_12.cell 2 rfl
  have z_bx9_3 := bx9_12.cell 3 rfl
  go_wp2_with fail
  clear z_bx9_0 z_bx9_1 z_bx9_2 z_bx9_3
  refine (implStepNode_v _ o8_12.rd o10_12.rdv o11_12.rd o12.rdc).mono ?_
  rintro e E13 ⟨u13_0, L13_0, rfl, o13_0, D13, hb⟩
  have HBW_o13_0 : Hid (w.heap.size ≤ E12.heap.size) := hB12.size
  have HR_o13_0 : Hid (∀ b, Blk L13_0 b → E12.heap.size ≤ b ∧ b < E13.heap.size) := fun b hbk => o13_0.blk hbk
  have hz13 : E12.heap.size ≤ E13.heap.size := hb.size
  have hB13 := hB12.trans (hb.mono hB12.size)
  have ba0_13 := ba0_12.below hb
  have bx9_13 := bx9_12.below hb
  have o3_13 := o3_12.below hb
  have o4_13 := o4_12.below hb
  have o5_13 := o5_12.below hb
  have o6_13 := o6_12.below hb
  have o7_0_13 := o7_0_12.below hb
  have o8_13 := o8_12.below hb
  have o10_13 := o10_12.below hb
  have o11_13 := o11_12.below hb
  have o12_13 := o12.below hb
  clear hb hB12 ba0_12 bx9_12 o3_12 o4_12 o5_12 o6_12 o7_0_12 o8_12 o10_12 o11_12 o12
  have hv := o13_0.rd
  obtain ⟨b1300p, b1300c, rfl, -⟩ := hv
  go_wp2_with fail
  refine (eqI_v _ o13_0.rd o7_0_13.rd).mono ?_
  rintro e E14 ⟨rfl, hb⟩
  have hz14 : E13.heap.size ≤ E14.heap.size := hb.size
  have hB14 := hB13.trans (hb.mono hB13.size)
  have ba0_14 := ba0_13.below hb
  have bx9_14 := bx9_13.below hb
  have o3_14 := o3_13.below hb
  have o4_14 := o4_13.below hb
  have o5_14 := o5_13.below hb
  have o6_14 := o6_13.below hb
  have o7_0_14 := o7_0_13.below hb
  have o8_14 := o8_13.below hb
  have o10_14 := o10_13.below hb
  have o11_14 := o11_13.below hb
  have o12_14 := o12_13.below hb
  have o13_0_14 := o13_0.below hb
  clear hb hB13 ba0_13 bx9_13 o3_13 o4_13 o5_13 o6_13 o7_0_13 o8_13 o10_13 o11_13 o12_13 o13_0
  go_upto_region 20 with fail
  go_cut [90] (fun s90 wr => s90 = .bool false ∧ Below E14.heap.size E14 wr)
  case first =>
    have z_bx9_0 := bx9_14.cell 0 rfl
    have z_bx9_1 := bx9_14.cell 1 rfl
    have z_bx9_2 := bx9_14.cell 2 rfl
    have z_bx9_3 := bx9_14.cell 3 rfl
    have z_ba0_0 := ba0_14.cell 0 rfl
    have z_ba0_1 := ba0_14.cell 1 rfl
    have z_ba0_2 := ba0_14.cell 2 rfl
    have z_ba0_3 := ba0_14.cell 3 rfl
    go_region_with (first | (go_at_call_of 37 (Value.agg #[.int .i64 x0.kind, .int .i64 x0.a, .int .i64 x0.b, .slice a0p3 x0.src.length a0c3]); refine (toNode_v _ ((h0.below hB14).below (below_drew' (Below.refl _ _))) hn0).mono ?_; rintro e G20_1 ⟨u, L, rfl, o20_1, DD, hb⟩; clear DD; have hbb : Below E14.heap.size E14 G20_1 := below_drew' hb; have hBG20_1 := hB14.trans (hbb.mono hB14.size); have hRG20_1 := hbb; have o3G20_1 := o3_14.below hbb; have o4G20_1 := o4_14.below hbb; have o5G20_1 := o5_14.below hbb; have o6G20_1 := o6_14.below hbb; have o7_0G20_1 := o7_0_14.below hbb; have o8G20_1 := o8_14.below hbb; have o10G20_1 := o10_14.below hbb; have o11G20_1 := o11_14.below hbb; have o12G20_1 := o12_14.below hbb; have o13_0G20_1 := o13_0_14.below hbb; have bx9G20_1 := bx9_14.below hbb; have y_bx9_0 := bx9G20_1.cell 0 rfl; have y_bx9_1 := bx9G20_1.cell 1 rfl; have y_bx9_2 := bx9G20_1.cell 2 rfl; have y_bx9_3 := bx9G20_1.cell 3 rfl; have ba0G20_1 := ba0_14.below hbb; have y_ba0_0 := ba0G20_1.cell 0 rfl; have y_ba0_1 := ba0G20_1.cell 1 rfl; have y_ba0_2 := ba0G20_1.cell 2 rfl; have y_ba0_3 := ba0G20_1.cell 3 rfl; clear hb hbb) | (go_at_call 41; refine (eqNode_v _ o8G20_1.rd o20_1.rd).mono ?_; rintro e G20_2 ⟨rfl, hb⟩; have hbb : Below G20_1.heap.size G20_1 G20_2 := hb; have hBG20_2 := hBG20_1.trans (hbb.mono hBG20_1.size); have hRG20_2 := hRG20_1.trans (hbb.mono hRG20_1.size); have o3G20_2 := o3G20_1.below hbb; have o4G20_2 := o4G20_1.below hbb; have o5G20_2 := o5G20_1.below hbb; have o6G20_2 := o6G20_1.below hbb; have o7_0G20_2 := o7_0G20_1.below hbb; have o8G20_2 := o8G20_1.below hbb; have o10G20_2 := o10G20_1.below hbb; have o11G20_2 := o11G20_1.below hbb; have o12G20_2 := o12G20_1.below hbb; have o13_0G20_2 := o13_0G20_1.below hbb; have o20_1G20_2 := o20_1.below hbb; have bx9G20_2 := bx9G20_1.below hbb; have ba0G20_2 := ba0G20_1.below hbb; clear hb hbb))
    all_goals (go_wp2_with fail; go_meet; exact ⟨rfl, hRG20_2⟩)
  case rest =>
    obtain ⟨rfl, hb⟩ := hcut
    obtain ⟨E15, rfl⟩ : ∃ E, E = wc := ⟨_, rfl⟩
    have hz15 : E14.heap.size ≤ E15.heap.size := hb.size
    have hB15 := hB14.trans (hb.mono hB14.size)
    have ba0_15 := ba0_14.below hb
    have bx9_15 := bx9_14.below hb
    have o3_15 := o3_14.below hb
    have o4_15 := o4_14.below hb
    have o5_15 := o5_14.below hb
    have o6_15 := o6_14.below hb
    have o7_0_15 := o7_0_14.below hb
    have o8_15 := o8_14.below hb
    have o10_15 := o10_14.below hb
    have o11_15 := o11_14.below hb
    have o12_15 := o12_14.below hb
    have o13_0_15 := o13_0_14.below hb
    clear hb hB14 ba0_14 bx9_14 o3_14 o4_14 o5_14 o6_14 o7_0_14 o8_14 o10_14 o11_14 o12_14 o13_0_14
    go_wp2_with fail
    refine (toII_v _ (h1.below hB15) hn1).mono ?_
    rintro e E16 ⟨u16, L16, rfl, o16, D16, hb⟩
    have HBW_o16 : Hid (w.heap.size ≤ E15.heap.size) := hB15.size
    have HR_o16 : Hid (∀ b, Blk L16 b → E15.heap.size ≤ b ∧ b < E16.heap.size) := fun b hbk => o16.blk hbk
    have hz16 : E15.heap.size ≤ E16.heap.size := hb.size
    have hB16 := hB15.trans (hb.mono hB15.size)
    have ba0_16 := ba0_15.below hb
    have bx9_16 := bx9_15.below hb
    have o3_16 := o3_15.below hb
    have o4_16 := o4_15.below hb
    have o5_16 := o5_15.below hb
    have o6_16 := o6_15.below hb
    have o7_0_16 := o7_0_15.below hb
    have o8_16 := o8_15.below hb
    have o10_16 := o10_15.below hb
    have o11_16 := o11_15.below hb
    have o12_16 := o12_15.below hb
    have o13_0_16 := o13_0_15.below hb
    clear hb hB15 ba0_15 bx9_15 o3_15 o4_15 o5_15 o6_15 o7_0_15 o8_15 o10_15 o11_15 o12_15 o13_0_15
    have hv := o16.rdv
    obtain ⟨b16p, b16c, rfl, -⟩ := hv
    go_wp2_with fail
    refine (eqII_v _ o10_16.rdv o16.rdv).mono ?_
    rintro e E17 ⟨rfl, hb⟩
    have hz17 : E16.heap.size ≤ E17.heap.size := hb.size
    have hB17 := hB16.trans (hb.mono hB16.size)
    have ba0_17 := ba0_16.below hb
    have bx9_17 := bx9_16.below hb
    have o3_17 := o3_16.below hb
    have o4_17 := o4_16.below hb
    have o5_17 := o5_16.below hb
    have o6_17 := o6_16.below hb
    have o7_0_17 := o7_0_16.below hb
    have o8_17 := o8_16.below hb
    have o10_17 := o10_16.below hb
    have o11_17 := o11_16.below hb
    have o12_17 := o12_16.below hb
    have o13_0_17 := o13_0_16.below hb
    have o16_17 := o16.below hb
    clear hb hB16 ba0_16 bx9_16 o3_16 o4_16 o5_16 o6_16 o7_0_16 o8_16 o10_16 o11_16 o12_16 o13_0_16 o16
    go_wp2_with fail
    refine (toI_v _ (h2.below hB17) (by unfold wtI; omega)).mono ?_
    rintro e E18 ⟨u18, L18, rfl, o18, D18, hb⟩
    have HBW_o18 : Hid (w.heap.size ≤ E17.heap.size) := hB17.size
    have HR_o18 : Hid (∀ b, Blk L18 b → E17.heap.size ≤ b ∧ b < E18.heap.size) := fun b hbk => o18.blk hbk
    have hz18 : E17.heap.size ≤ E18.heap.size := hb.size
    have hB18 := hB17.trans (hb.mono hB17.size)
    have ba0_18 := ba0_17.below hb
    have bx9_18 := bx9_17.below hb
    have o3_18 := o3_17.below hb
    have o4_18 := o4_17.below hb
    have o5_18 := o5_17.below hb
    have o6_18 := o6_17.below hb
    have o7_0_18 := o7_0_17.below hb
    have o8_18 := o8_17.below hb
    have o10_18 := o10_17.below hb
    have o11_18 := o11_17.below hb
    have o12_18 := o12_17.below hb
    have o13_0_18 := o13_0_17.below hb
    have o16_18 := o16_17.below hb
    clear hb hB17 ba0_17 bx9_17 o3_17 o4_17 o5_17 o6_17 o7_0_17 o8_17 o10_17 o11_17 o12_17 o13_0_17 o16_17
    have hv := o18.rd
    obtain ⟨b18p, b18c, rfl, -⟩ := hv
    go_wp2_with fail
    refine (eqI_v _ o11_18.rd o18.rd).mono ?_
    rintro e E19 ⟨rfl, hb⟩
    have hz19 : E18.heap.size ≤ E19.heap.size := hb.size
    have hB19 := hB18.trans (hb.mono hB18.size)
    have ba0_19 := ba0_18.below hb
    have bx9_19 := bx9_18.below hb
    have o3_19 := o3_18.below hb
    have o4_19 := o4_18.below hb
    have o5_19 := o5_18.below hb
    have o6_19 := o6_18.below hb
    have o7_0_19 := o7_0_18.below hb
    have o8_19 := o8_18.below hb
    have o10_19 := o10_18.below hb
    have o11_19 := o11_18.below hb
    have o12_19 := o12_18.below hb
    have o13_0_19 := o13_0_18.below hb
    have o16_19 := o16_18.below hb
    have o18_19 := o18.below hb
    clear hb hB18 ba0_18 bx9_18 o3_18 o4_18 o5_18 o6_18 o7_0_18 o8_18 o10_18 o11_18 o12_18 o13_0_18 o16_18 o18
    go_wp2_with fail
    refine (toI_v _ (h3.below hB19) (by unfold wtI; omega)).mono ?_
    rintro e E20 ⟨u20, L20, rfl, o20, D20, hb⟩
    have HBW_o20 : Hid (w.heap.size ≤ E19.heap.size) := hB19.size
    have HR_o20 : Hid (∀ b, Blk L20 b → E19.heap.size ≤ b ∧ b < E20.heap.size) := fun b hbk => o20.blk hbk
    have hz20 : E19.heap.size ≤ E20.heap.size := hb.size
    have hB20 := hB19.trans (hb.mono hB19.size)
    have ba0_20 := ba0_19.below hb
    have bx9_20 := bx9_19.below hb
    have o3_20 := o3_19.below hb
    have o4_20 := o4_19.below hb
    have o5_20 := o5_19.below hb
    have o6_20 := o6_19.below hb
    have o7_0_20 := o7_0_19.below hb
    have o8_20 := o8_19.below hb
    have o10_20 := o10_19.below hb
    have o11_20 := o11_19.below hb
    have o12_20 := o12_19.below hb
    have o13_0_20 := o13_0_19.below hb
    have o16_20 := o16_19.below hb
    have o18_20 := o18_19.below hb
    clear hb hB19 ba0_19 bx9_19 o3_19 o4_19 o5_19 o6_19 o7_0_19 o8_19 o10_19 o11_19 o12_19 o13_0_19 o16_19 o18_19
    have hv := o20.rd
    obtain ⟨b20p, b20c, rfl, -⟩ := hv
    go_wp2_with fail
    refine (eqI_v _ o12_20.rd o20.rd).mono ?_
    rintro e E21 ⟨rfl, hb⟩
    have hz21 : E20.heap.size ≤ E21.heap.size := hb.size
    have hB21 := hB20.trans (hb.mono hB20.size)
    have ba0_21 := ba0_20.below hb
    have bx9_21 := bx9_20.below hb
    have o3_21 := o3_20.below hb
    have o4_21 := o4_20.below hb
    have o5_21 := o5_20.below hb
    have o6_21 := o6_20.below hb
    have o7_0_21 := o7_0_20.below hb
    have o8_21 := o8_20.below hb
    have o10_21 := o10_20.below hb
    have o11_21 := o11_20.below hb
    have o12_21 := o12_20.below hb
    have o13_0_21 := o13_0_20.below hb
    have o16_21 := o16_20.below hb
    have o18_21 := o18_20.below hb
    have o20_21 := o20.below hb
    clear hb hB20 ba0_20 bx9_20 o3_20 o4_20 o5_20 o6_20 o7_0_20 o8_20 o10_20 o11_20 o12_20 o13_0_20 o16_20 o18_20 o20
    have z_bx9_0 := bx9_21.cell 0 rfl
    have z_bx9_1 := bx9_21.cell 1 rfl
    have z_bx9_2 := bx9_21.cell 2 rfl
    have z_bx9_3 := bx9_21.cell 3 rfl
    go_wp2_with fail
    clear z_bx9_0 z_bx9_1 z_bx9_2 z_bx9_3
    have hc_o8 := (Nat.le_trans (cntNode_le x0) hn0)
    refine (markNode_v _ _ o8_21 D8 (by omega) (by omega)).mono ?_
    rintro e E22 ⟨rfl, om22, hf⟩
    have hz22 : E21.heap.size ≤ E22.heap.size := hf.size
    have hB22 := hB21.trans (hf.below (fun b hbk => by have h1 := (HR_o8.out b hbk).1; have h2 := HBW_o8.out; omega) hB21.size)
    (first | (have ba0_22 := ba0_21.offBlk (by decide) o8_21.ints hf) | (have ba0_22 := ba0_21.off hf (fun hbk => by have h1 := HR_o8.out _ hbk; omega)))
    (first | (have bx9_22 := bx9_21.offBlk (by decide) o8_21.ints hf) | (have bx9_22 := bx9_21.off hf (fun hbk => by have h1 := HR_o8.out _ hbk; omega)))
    have o3_22 := o3_21.offBlk o8_21.ints (apart (fun x h => (HR_o3.out x h).2) (fun x h => (HR_o8.out x h).1) (by omega)) hf
    have o4_22 := o4_21.offBlk o8_21.ints (apart (fun x h => (HR_o4.out x h).2) (fun x h => (HR_o8.out x h).1) (by omega)) hf
    have o5_22 := o5_21.offBlk o8_21.ints (apart (fun x h => (HR_o5.out x h).2) (fun x h => (HR_o8.out x h).1) (by omega)) hf
    have o6_22 := o6_21.offBlk o8_21.ints (apart (fun x h => (HR_o6.out x h).2) (fun x h => (HR_o8.out x h).1) (by omega)) hf
    have o7_0_22 := o7_0_21.offBlk o8_21.ints (apart (fun x h => (HR_o7_0.out x h).2) (fun x h => (HR_o8.out x h).1) (by omega)) hf
    have o10_22 := o10_21.offBlk o8_21.ints (apart' (fun x h => (HR_o8.out x h).2) (fun x h => (HR_o10.out x h).1) (by omega)) hf
    have o11_22 := o11_21.offBlk o8_21.ints (apart' (fun x h => (HR_o8.out x h).2) (fun x h => (HR_o11.out x h).1) (by omega)) hf
    have o12_22 := o12_21.offBlk o8_21.ints (apart' (fun x h => (HR_o8.out x h).2) (fun x h => (HR_o12.out x h).1) (by omega)) hf
    have o13_0_22 := o13_0_21.offBlk o8_21.ints (apart' (fun x h => (HR_o8.out x h).2) (fun x h => (HR_o13_0.out x h).1) (by omega)) hf
    have o16_22 := o16_21.offBlk o8_21.ints (apart' (fun x h => (HR_o8.out x h).2) (fun x h => (HR_o16.out x h).1) (by omega)) hf
    have o18_22 := o18_21.offBlk o8_21.ints (apart' (fun x h => (HR_o8.out x h).2) (fun x h => (HR_o18.out x h).1) (by omega)) hf
    have o20_22 := o20_21.offBlk o8_21.ints (apart' (fun x h => (HR_o8.out x h).2) (fun x h => (HR_o20.out x h).1) (by omega)) hf
    clear hf hB21 ba0_21 bx9_21 o3_21 o4_21 o5_21 o6_21 o7_0_21 o10_21 o11_21 o12_21 o13_0_21 o16_21 o18_21 o20_21 o8_21
    go_wp2_with fail
    have hc_o10 := (Nat.le_trans (cntII_le x1) hn1)
    refine (markII_v _ _ o10_22 D10 (by omega) (by omega)).mono ?_
    rintro e E23 ⟨rfl, om23, hf⟩
    have hz23 : E22.heap.size ≤ E23.heap.size := hf.size
    have hB23 := hB22.trans (hf.below (fun b hbk => by have h1 := (HR_o10.out b hbk).1; have h2 := HBW_o10.out; omega) hB22.size)
    (first | (have ba0_23 := ba0_22.offBlk (by decide) o10_22.ints hf) | (have ba0_23 := ba0_22.off hf (fun hbk => by have h1 := HR_o10.out _ hbk; omega)))
    (first | (have bx9_23 := bx9_22.offBlk (by decide) o10_22.ints hf) | (have bx9_23 := bx9_22.off hf (fun hbk => by have h1 := HR_o10.out _ hbk; omega)))
    have o3_23 := o3_22.offBlk o10_22.ints (apart (fun x h => (HR_o3.out x h).2) (fun x h => (HR_o10.out x h).1) (by omega)) hf
    have o4_23 := o4_22.offBlk o10_22.ints (apart (fun x h => (HR_o4.out x h).2) (fun x h => (HR_o10.out x h).1) (by omega)) hf
    have o5_23 := o5_22.offBlk o10_22.ints (apart (fun x h => (HR_o5.out x h).2) (fun x h => (HR_o10.out x h).1) (by omega)) hf
    have o6_23 := o6_22.offBlk o10_22.ints (apart (fun x h => (HR_o6.out x h).2) (fun x h => (HR_o10.out x h).1) (by omega)) hf
    have o7_0_23 := o7_0_22.offBlk o10_22.ints (apart (fun x h => (HR_o7_0.out x h).2) (fun x h => (HR_o10.out x h).1) (by omega)) hf
    have o8_23 := om22.offBlk o10_22.ints (apart (fun x h => (HR_o8.out x h).2) (fun x h => (HR_o10.out x h).1) (by omega)) hf
    have o11_23 := o11_22.offBlk o10_22.ints (apart' (fun x h => (HR_o10.out x h).2) (fun x h => (HR_o11.out x h).1) (by omega)) hf
    have o12_23 := o12_22.offBlk o10_22.ints (apart' (fun x h => (HR_o10.out x h).2) (fun x h => (HR_o12.out x h).1) (by omega)) hf
    have o13_0_23 := o13_0_22.offBlk o10_22.ints (apart' (fun x h => (HR_o10.out x h).2) (fun x h => (HR_o13_0.out x h).1) (by omega)) hf
    have o16_23 := o16_22.offBlk o10_22.ints (apart' (fun x h => (HR_o10.out x h).2) (fun x h => (HR_o16.out x h).1) (by omega)) hf
    have o18_23 := o18_22.offBlk o10_22.ints (apart' (fun x h => (HR_o10.out x h).2) (fun x h => (HR_o18.out x h).1) (by omega)) hf
    have o20_23 := o20_22.offBlk o10_22.ints (apart' (fun x h => (HR_o10.out x h).2) (fun x h => (HR_o20.out x h).1) (by omega)) hf
    clear hf hB22 ba0_22 bx9_22 o3_22 o4_22 o5_22 o6_22 o7_0_22 om22 o11_22 o12_22 o13_0_22 o16_22 o18_22 o20_22 o10_22
    go_wp2_with fail
    have hc_o11 := (show cntI x2 ≤ 1048576 by unfold cntI; omega)
    refine (markI_v _ _ o11_23 D11 (by omega) (by omega)).mono ?_
    rintro e E24 ⟨rfl, om24, hf⟩
    have hz24 : E23.heap.size ≤ E24.heap.size := hf.size
    have hB24 := hB23.trans (hf.below (fun b hbk => by have h1 := (HR_o11.out b hbk).1; have h2 := HBW_o11.out; omega) hB23.size)
    (first | (have ba0_24 := ba0_23.offBlk (by decide) o11_23.ints hf) | (have ba0_24 := ba0_23.off hf (fun hbk => by have h1 := HR_o11.out _ hbk; omega)))
    (first | (have bx9_24 := bx9_23.offBlk (by decide) o11_23.ints hf) | (have bx9_24 := bx9_23.off hf (fun hbk => by have h1 := HR_o11.out _ hbk; omega)))
    have o3_24 := o3_23.offBlk o11_23.ints (apart (fun x h => (HR_o3.out x h).2) (fun x h => (HR_o11.out x h).1) (by omega)) hf
    have o4_24 := o4_23.offBlk o11_23.ints (apart (fun x h => (HR_o4.out x h).2) (fun x h => (HR_o11.out x h).1) (by omega)) hf
    have o5_24 := o5_23.offBlk o11_23.ints (apart (fun x h => (HR_o5.out x h).2) (fun x h => (HR_o11.out x h).1) (by omega)) hf
    have o6_24 := o6_23.offBlk o11_23.ints (apart (fun x h => (HR_o6.out x h).2) (fun x h => (HR_o11.out x h).1) (by omega)) hf
    have o7_0_24 := o7_0_23.offBlk o11_23.ints (apart (fun x h => (HR_o7_0.out x h).2) (fun x h => (HR_o11.out x h).1) (by omega)) hf
    have o8_24 := o8_23.offBlk o11_23.ints (apart (fun x h => (HR_o8.out x h).2) (fun x h => (HR_o11.out x h).1) (by omega)) hf
    have o10_24 := om23.offBlk o11_23.ints (apart (fun x h => (HR_o10.out x h).2) (fun x h => (HR_o11.out x h).1) (by omega)) hf
    have o12_24 := o12_23.offBlk o11_23.ints (apart' (fun x h => (HR_o11.out x h).2) (fun x h => (HR_o12.out x h).1) (by omega)) hf
    have o13_0_24 := o13_0_23.offBlk o11_23.ints (apart' (fun x h => (HR_o11.out x h).2) (fun x h => (HR_o13_0.out x h).1) (by omega)) hf
    have o16_24 := o16_23.offBlk o11_23.ints (apart' (fun x h => (HR_o11.out x h).2) (fun x h => (HR_o16.out x h).1) (by omega)) hf
    have o18_24 := o18_23.offBlk o11_23.ints (apart' (fun x h => (HR_o11.out x h).2) (fun x h => (HR_o18.out x h).1) (by omega)) hf
    have o20_24 := o20_23.offBlk o11_23.ints (apart' (fun x h => (HR_o11.out x h).2) (fun x h => (HR_o20.out x h).1) (by omega)) hf
    clear hf hB23 ba0_23 bx9_23 o3_23 o4_23 o5_23 o6_23 o7_0_23 o8_23 om23 o12_23 o13_0_23 o16_23 o18_23 o20_23 o11_23
    go_wp2_with fail
    have hc_o12 := (show cntI x3 ≤ 1048576 by unfold cntI; omega)
    refine (markI_v _ _ o12_24 D12 (by omega) (by omega)).mono ?_
    rintro e E25 ⟨rfl, om25, hf⟩
    have hz25 : E24.heap.size ≤ E25.heap.size := hf.size
    have hB25 := hB24.trans (hf.below (fun b hbk => by have h1 := (HR_o12.out b hbk).1; have h2 := HBW_o12.out; omega) hB24.size)
    (first | (have ba0_25 := ba0_24.offBlk (by decide) o12_24.ints hf) | (have ba0_25 := ba0_24.off hf (fun hbk => by have h1 := HR_o12.out _ hbk; omega)))
    (first | (have bx9_25 := bx9_24.offBlk (by decide) o12_24.ints hf) | (have bx9_25 := bx9_24.off hf (fun hbk => by have h1 := HR_o12.out _ hbk; omega)))
    have o3_25 := o3_24.offBlk o12_24.ints (apart (fun x h => (HR_o3.out x h).2) (fun x h => (HR_o12.out x h).1) (by omega)) hf
    have o4_25 := o4_24.offBlk o12_24.ints (apart (fun x h => (HR_o4.out x h).2) (fun x h => (HR_o12.out x h).1) (by omega)) hf
    have o5_25 := o5_24.offBlk o12_24.ints (apart (fun x h => (HR_o5.out x h).2) (fun x h => (HR_o12.out x h).1) (by omega)) hf
    have o6_25 := o6_24.offBlk o12_24.ints (apart (fun x h => (HR_o6.out x h).2) (fun x h => (HR_o12.out x h).1) (by omega)) hf
    have o7_0_25 := o7_0_24.offBlk o12_24.ints (apart (fun x h => (HR_o7_0.out x h).2) (fun x h => (HR_o12.out x h).1) (by omega)) hf
    have o8_25 := o8_24.offBlk o12_24.ints (apart (fun x h => (HR_o8.out x h).2) (fun x h => (HR_o12.out x h).1) (by omega)) hf
    have o10_25 := o10_24.offBlk o12_24.ints (apart (fun x h => (HR_o10.out x h).2) (fun x h => (HR_o12.out x h).1) (by omega)) hf
    have o11_25 := om24.offBlk o12_24.ints (apart (fun x h => (HR_o11.out x h).2) (fun x h => (HR_o12.out x h).1) (by omega)) hf
    have o13_0_25 := o13_0_24.offBlk o12_24.ints (apart' (fun x h => (HR_o12.out x h).2) (fun x h => (HR_o13_0.out x h).1) (by omega)) hf
    have o16_25 := o16_24.offBlk o12_24.ints (apart' (fun x h => (HR_o12.out x h).2) (fun x h => (HR_o16.out x h).1) (by omega)) hf
    have o18_25 := o18_24.offBlk o12_24.ints (apart' (fun x h => (HR_o12.out x h).2) (fun x h => (HR_o18.out x h).1) (by omega)) hf
    have o20_25 := o20_24.offBlk o12_24.ints (apart' (fun x h => (HR_o12.out x h).2) (fun x h => (HR_o20.out x h).1) (by omega)) hf
    clear hf hB24 ba0_24 bx9_24 o3_24 o4_24 o5_24 o6_24 o7_0_24 o8_24 o10_24 om24 o13_0_24 o16_24 o18_24 o20_24 o12_24
    go_wp2_with fail
    refine (eqI_v _ o13_0_25.rd o7_0_25.rd).mono ?_
    rintro e E26 ⟨rfl, hb⟩
    have hz26 : E25.heap.size ≤ E26.heap.size := hb.size
    have hB26 := hB25.trans (hb.mono hB25.size)
    have ba0_26 := ba0_25.below hb
    have bx9_26 := bx9_25.below hb
    have o3_26 := o3_25.below hb
    have o4_26 := o4_25.below hb
    have o5_26 := o5_25.below hb
    have o6_26 := o6_25.below hb
    have o7_0_26 := o7_0_25.below hb
    have o8_26 := o8_25.below hb
    have o10_26 := o10_25.below hb
    have o11_26 := o11_25.below hb
    have o12_26 := om25.below hb
    have o13_0_26 := o13_0_25.below hb
    have o16_26 := o16_25.below hb
    have o18_26 := o18_25.below hb
    have o20_26 := o20_25.below hb
    clear hb hB25 ba0_25 bx9_25 o3_25 o4_25 o5_25 o6_25 o7_0_25 o8_25 o10_25 o11_25 om25 o13_0_25 o16_25 o18_25 o20_25
    go_wp2_with fail
    have hc_o13_0 := snNext_small x0 x1 x2 x3
    refine (markI_v _ _ o13_0_26 D13 (by omega) (by omega)).mono ?_
    rintro e E27 ⟨rfl, om27, hf⟩
    have hz27 : E26.heap.size ≤ E27.heap.size := hf.size
    have hB27 := hB26.trans (hf.below (fun b hbk => by have h1 := (HR_o13_0.out b hbk).1; have h2 := HBW_o13_0.out; omega) hB26.size)
    (first | (have ba0_27 := ba0_26.offBlk (by decide) o13_0_26.ints hf) | (have ba0_27 := ba0_26.off hf (fun hbk => by have h1 := HR_o13_0.out _ hbk; omega)))
    (first | (have bx9_27 := bx9_26.offBlk (by decide) o13_0_26.ints hf) | (have bx9_27 := bx9_26.off hf (fun hbk => by have h1 := HR_o13_0.out _ hbk; omega)))
    have o3_27 := o3_26.offBlk o13_0_26.ints (apart (fun x h => (HR_o3.out x h).2) (fun x h => (HR_o13_0.out x h).1) (by omega)) hf
    have o4_27 := o4_26.offBlk o13_0_26.ints (apart (fun x h => (HR_o4.out x h).2) (fun x h => (HR_o13_0.out x h).1) (by omega)) hf
    have o5_27 := o5_26.offBlk o13_0_26.ints (apart (fun x h => (HR_o5.out x h).2) (fun x h => (HR_o13_0.out x h).1) (by omega)) hf
    have o6_27 := o6_26.offBlk o13_0_26.ints (apart (fun x h => (HR_o6.out x h).2) (fun x h => (HR_o13_0.out x h).1) (by omega)) hf
    have o7_0_27 := o7_0_26.offBlk o13_0_26.ints (apart (fun x h => (HR_o7_0.out x h).2) (fun x h => (HR_o13_0.out x h).1) (by omega)) hf
    have o8_27 := o8_26.offBlk o13_0_26.ints (apart (fun x h => (HR_o8.out x h).2) (fun x h => (HR_o13_0.out x h).1) (by omega)) hf
    have o10_27 := o10_26.offBlk o13_0_26.ints (apart (fun x h => (HR_o10.out x h).2) (fun x h => (HR_o13_0.out x h).1) (by omega)) hf
    have o11_27 := o11_26.offBlk o13_0_26.ints (apart (fun x h => (HR_o11.out x h).2) (fun x h => (HR_o13_0.out x h).1) (by omega)) hf
    have o12_27 := o12_26.offBlk o13_0_26.ints (apart (fun x h => (HR_o12.out x h).2) (fun x h => (HR_o13_0.out x h).1) (by omega)) hf
    have o16_27 := o16_26.offBlk o13_0_26.ints (apart' (fun x h => (HR_o13_0.out x h).2) (fun x h => (HR_o16.out x h).1) (by omega)) hf
    have o18_27 := o18_26.offBlk o13_0_26.ints (apart' (fun x h => (HR_o13_0.out x h).2) (fun x h => (HR_o18.out x h).1) (by omega)) hf
    have o20_27 := o20_26.offBlk o13_0_26.ints (apart' (fun x h => (HR_o13_0.out x h).2) (fun x h => (HR_o20.out x h).1) (by omega)) hf
    clear hf hB26 ba0_26 bx9_26 o3_26 o4_26 o5_26 o6_26 o7_0_26 o8_26 o10_26 o11_26 o12_26 o16_26 o18_26 o20_26 o13_0_26
    go_wp2_with fail
    refine (heldI_v (xs := (snNext x0 x1 x2 x3)) _ _ om27.rd (by omega) (by omega)).mono ?_
    rintro e E28 ⟨rfl, hb⟩
    have hz28 : E27.heap.size ≤ E28.heap.size := hb.size
    have hB28 := hB27.trans (hb.mono hB27.size)
    have ba0_28 := ba0_27.below hb
    have bx9_28 := bx9_27.below hb
    have o3_28 := o3_27.below hb
    have o4_28 := o4_27.below hb
    have o5_28 := o5_27.below hb
    have o6_28 := o6_27.below hb
    have o7_0_28 := o7_0_27.below hb
    have o8_28 := o8_27.below hb
    have o10_28 := o10_27.below hb
    have o11_28 := o11_27.below hb
    have o12_28 := o12_27.below hb
    have o13_0_28 := om27.below hb
    have o16_28 := o16_27.below hb
    have o18_28 := o18_27.below hb
    have o20_28 := o20_27.below hb
    clear hb hB27 ba0_27 bx9_27 o3_27 o4_27 o5_27 o6_27 o7_0_27 o8_27 o10_27 o11_27 o12_27 om27 o16_27 o18_27 o20_27
    have z_ba0_0 := ba0_28.cell 0 rfl
    have z_ba0_1 := ba0_28.cell 1 rfl
    have z_ba0_2 := ba0_28.cell 2 rfl
    have z_ba0_3 := ba0_28.cell 3 rfl
    go_wp2_with fail
    clear z_ba0_0 z_ba0_1 z_ba0_2 z_ba0_3
    refine (toNode_v _ (h0.below hB28) hn0).mono ?_
    rintro e E29 ⟨u29, L29, rfl, o29, D29, hb⟩
    have HBW_o29 : Hid (w.heap.size ≤ E28.heap.size) := hB28.size
    have HR_o29 : Hid (∀ b, Blk L29 b → E28.heap.size ≤ b ∧ b < E29.heap.size) := fun b hbk => o29.blk hbk
    have hz29 : E28.heap.size ≤ E29.heap.size := hb.size
    have hB29 := hB28.trans (hb.mono hB28.size)
    have ba0_29 := ba0_28.below hb
    have bx9_29 := bx9_28.below hb
    have o3_29 := o3_28.below hb
    have o4_29 := o4_28.below hb
    have o5_29 := o5_28.below hb
    have o6_29 := o6_28.below hb
    have o7_0_29 := o7_0_28.below hb
    have o8_29 := o8_28.below hb
    have o10_29 := o10_28.below hb
    have o11_29 := o11_28.below hb
    have o12_29 := o12_28.below hb
    have o13_0_29 := o13_0_28.below hb
    have o16_29 := o16_28.below hb
    have o18_29 := o18_28.below hb
    have o20_29 := o20_28.below hb
    clear hb hB28 ba0_28 bx9_28 o3_28 o4_28 o5_28 o6_28 o7_0_28 o8_28 o10_28 o11_28 o12_28 o13_0_28 o16_28 o18_28 o20_28
    have hv := o29.rd
    obtain ⟨b29p3, b29c3, rfl, -⟩ := hv
    go_wp2_with fail
    refine (toII_v _ (h1.below hB29) hn1).mono ?_
    rintro e E30 ⟨u30, L30, rfl, o30, D30, hb⟩
    have HBW_o30 : Hid (w.heap.size ≤ E29.heap.size) := hB29.size
    have HR_o30 : Hid (∀ b, Blk L30 b → E29.heap.size ≤ b ∧ b < E30.heap.size) := fun b hbk => o30.blk hbk
    have hz30 : E29.heap.size ≤ E30.heap.size := hb.size
    have hB30 := hB29.trans (hb.mono hB29.size)
    have ba0_30 := ba0_29.below hb
    have bx9_30 := bx9_29.below hb
    have o3_30 := o3_29.below hb
    have o4_30 := o4_29.below hb
    have o5_30 := o5_29.below hb
    have o6_30 := o6_29.below hb
    have o7_0_30 := o7_0_29.below hb
    have o8_30 := o8_29.below hb
    have o10_30 := o10_29.below hb
    have o11_30 := o11_29.below hb
    have o12_30 := o12_29.below hb
    have o13_0_30 := o13_0_29.below hb
    have o16_30 := o16_29.below hb
    have o18_30 := o18_29.below hb
    have o20_30 := o20_29.below hb
    have o29_30 := o29.below hb
    clear hb hB29 ba0_29 bx9_29 o3_29 o4_29 o5_29 o6_29 o7_0_29 o8_29 o10_29 o11_29 o12_29 o13_0_29 o16_29 o18_29 o20_29 o29
    have hv := o30.rdv
    obtain ⟨b30p, b30c, rfl, -⟩ := hv
    go_wp2_with fail
    refine (toI_v _ (h2.below hB30) (by unfold wtI; omega)).mono ?_
    rintro e E31 ⟨u31, L31, rfl, o31, D31, hb⟩
    have HBW_o31 : Hid (w.heap.size ≤ E30.heap.size) := hB30.size
    have HR_o31 : Hid (∀ b, Blk L31 b → E30.heap.size ≤ b ∧ b < E31.heap.size) := fun b hbk => o31.blk hbk
    have hz31 : E30.heap.size ≤ E31.heap.size := hb.size
    have hB31 := hB30.trans (hb.mono hB30.size)
    have ba0_31 := ba0_30.below hb
    have bx9_31 := bx9_30.below hb
    have o3_31 := o3_30.below hb
    have o4_31 := o4_30.below hb
    have o5_31 := o5_30.below hb
    have o6_31 := o6_30.below hb
    have o7_0_31 := o7_0_30.below hb
    have o8_31 := o8_30.below hb
    have o10_31 := o10_30.below hb
    have o11_31 := o11_30.below hb
    have o12_31 := o12_30.below hb
    have o13_0_31 := o13_0_30.below hb
    have o16_31 := o16_30.below hb
    have o18_31 := o18_30.below hb
    have o20_31 := o20_30.below hb
    have o29_31 := o29_30.below hb
    have o30_31 := o30.below hb
    clear hb hB30 ba0_30 bx9_30 o3_30 o4_30 o5_30 o6_30 o7_0_30 o8_30 o10_30 o11_30 o12_30 o13_0_30 o16_30 o18_30 o20_30 o29_30 o30
    have hv := o31.rd
    obtain ⟨b31p, b31c, rfl, -⟩ := hv
    go_wp2_with fail
    refine (toI_v _ (h3.below hB31) (by unfold wtI; omega)).mono ?_
    rintro e E32 ⟨u32, L32, rfl, o32, D32, hb⟩
    have HBW_o32 : Hid (w.heap.size ≤ E31.heap.size) := hB31.size
    have HR_o32 : Hid (∀ b, Blk L32 b → E31.heap.size ≤ b ∧ b < E32.heap.size) := fun b hbk => o32.blk hbk
    have hz32 : E31.heap.size ≤ E32.heap.size := hb.size
    have hB32 := hB31.trans (hb.mono hB31.size)
    have ba0_32 := ba0_31.below hb
    have bx9_32 := bx9_31.below hb
    have o3_32 := o3_31.below hb
    have o4_32 := o4_31.below hb
    have o5_32 := o5_31.below hb
    have o6_32 := o6_31.below hb
    have o7_0_32 := o7_0_31.below hb
    have o8_32 := o8_31.below hb
    have o10_32 := o10_31.below hb
    have o11_32 := o11_31.below hb
    have o12_32 := o12_31.below hb
    have o13_0_32 := o13_0_31.below hb
    have o16_32 := o16_31.below hb
    have o18_32 := o18_31.below hb
    have o20_32 := o20_31.below hb
    have o29_32 := o29_31.below hb
    have o30_32 := o30_31.below hb
    have o31_32 := o31.below hb
    clear hb hB31 ba0_31 bx9_31 o3_31 o4_31 o5_31 o6_31 o7_0_31 o8_31 o10_31 o11_31 o12_31 o13_0_31 o16_31 o18_31 o20_31 o29_31 o30_31 o31
    have hv := o32.rd
    obtain ⟨b32p, b32c, rfl, -⟩ := hv
    go_wp2_with fail
    refine (implStepNode_v _ o29_32.rd o30_32.rdv o31_32.rd o32.rdc).mono ?_
    rintro e E33 ⟨u33_0, L33_0, rfl, o33_0, D33, hb⟩
    have HBW_o33_0 : Hid (w.heap.size ≤ E32.heap.size) := hB32.size
    have HR_o33_0 : Hid (∀ b, Blk L33_0 b → E32.heap.size ≤ b ∧ b < E33.heap.size) := fun b hbk => o33_0.blk hbk
    have hz33 : E32.heap.size ≤ E33.heap.size := hb.size
    have hB33 := hB32.trans (hb.mono hB32.size)
    have ba0_33 := ba0_32.below hb
    have bx9_33 := bx9_32.below hb
    have o3_33 := o3_32.below hb
    have o4_33 := o4_32.below hb
    have o5_33 := o5_32.below hb
    have o6_33 := o6_32.below hb
    have o7_0_33 := o7_0_32.below hb
    have o8_33 := o8_32.below hb
    have o10_33 := o10_32.below hb
    have o11_33 := o11_32.below hb
    have o12_33 := o12_32.below hb
    have o13_0_33 := o13_0_32.below hb
    have o16_33 := o16_32.below hb
    have o18_33 := o18_32.below hb
    have o20_33 := o20_32.below hb
    have o29_33 := o29_32.below hb
    have o30_33 := o30_32.below hb
    have o31_33 := o31_32.below hb
    have o32_33 := o32.below hb
    clear hb hB32 ba0_32 bx9_32 o3_32 o4_32 o5_32 o6_32 o7_0_32 o8_32 o10_32 o11_32 o12_32 o13_0_32 o16_32 o18_32 o20_32 o29_32 o30_32 o31_32 o32
    have hv := o33_0.rd
    obtain ⟨b3300p, b3300c, rfl, -⟩ := hv
    go_wp2_with fail
    refine (eqI_v _ o33_0.rd o7_0_33.rd).mono ?_
    rintro e E34 ⟨rfl, hb⟩
    have hz34 : E33.heap.size ≤ E34.heap.size := hb.size
    have hB34 := hB33.trans (hb.mono hB33.size)
    have ba0_34 := ba0_33.below hb
    have bx9_34 := bx9_33.below hb
    have o3_34 := o3_33.below hb
    have o4_34 := o4_33.below hb
    have o5_34 := o5_33.below hb
    have o6_34 := o6_33.below hb
    have o7_0_34 := o7_0_33.below hb
    have o8_34 := o8_33.below hb
    have o10_34 := o10_33.below hb
    have o11_34 := o11_33.below hb
    have o12_34 := o12_33.below hb
    have o13_0_34 := o13_0_33.below hb
    have o16_34 := o16_33.below hb
    have o18_34 := o18_33.below hb
    have o20_34 := o20_33.below hb
    have o29_34 := o29_33.below hb
    have o30_34 := o30_33.below hb
    have o31_34 := o31_33.below hb
    have o32_34 := o32_33.below hb
    have o33_0_34 := o33_0.below hb
    clear hb hB33 ba0_33 bx9_33 o3_33 o4_33 o5_33 o6_33 o7_0_33 o8_33 o10_33 o11_33 o12_33 o13_0_33 o16_33 o18_33 o20_33 o29_33 o30_33 o31_33 o32_33 o33_0
    go_wp2_with fail
    refine (heldI_v (xs := (snNext x0 x1 x2 x3)) _ _ o13_0_34.rd (by omega) (by omega)).mono ?_
    rintro e E35 ⟨rfl, hb⟩
    have hz35 : E34.heap.size ≤ E35.heap.size := hb.size
    have hB35 := hB34.trans (hb.mono hB34.size)
    have ba0_35 := ba0_34.below hb
    have bx9_35 := bx9_34.below hb
    have o3_35 := o3_34.below hb
    have o4_35 := o4_34.below hb
    have o5_35 := o5_34.below hb
    have o6_35 := o6_34.below hb
    have o7_0_35 := o7_0_34.below hb
    have o8_35 := o8_34.below hb
    have o10_35 := o10_34.below hb
    have o11_35 := o11_34.below hb
    have o12_35 := o12_34.below hb
    have o13_0_35 := o13_0_34.below hb
    have o16_35 := o16_34.below hb
    have o18_35 := o18_34.below hb
    have o20_35 := o20_34.below hb
    have o29_35 := o29_34.below hb
    have o30_35 := o30_34.below hb
    have o31_35 := o31_34.below hb
    have o32_35 := o32_34.below hb
    have o33_0_35 := o33_0_34.below hb
    clear hb hB34 ba0_34 bx9_34 o3_34 o4_34 o5_34 o6_34 o7_0_34 o8_34 o10_34 o11_34 o12_34 o13_0_34 o16_34 o18_34 o20_34 o29_34 o30_34 o31_34 o32_34 o33_0_34
    go_wp2_with fail
    go_ret
    exact ⟨rfl, hB35⟩

end Go.Proofs.Ytalomhakmfknjaa
