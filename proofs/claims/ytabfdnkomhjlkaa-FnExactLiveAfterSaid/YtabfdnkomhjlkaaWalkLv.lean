/-
  The walks of exact laws on patches.
-/
import Derived.Test.YtabfdnkomhjlkaaLvI
namespace Go.Proofs.Ytabfdnkomhjlkaa
open Go.ChangeShapes Go.WideShapes Go.ChangeAt Go.RowKit
set_option linter.unusedVariables false
set_option linter.unusedSimpArgs false

set_option maxHeartbeats 8000000 in
set_option maxRecDepth 100000 in
theorem fnExactLiveAfter_walk (w : World) {v0 : Value} {x0 : ProgramD} (h0 : VProgram w v0 x0) (x1 : Int) (w1 : (Lit.int .i64 x1).wf = true) :
    Calls Try.prog 4 #[v0, .int .i64 x1] w fun e w' => e = .returned (.bool true) ∧ Below w.heap.size w w' := by
  have hv0 := h0
  obtain ⟨a0p2, a0c2, a0p3, a0c3, a0p4, a0c4, rfl, -, -, -⟩ := hv0
  have i1 := I64.of_wf w1
  unfold I64 at i1
  obtain ⟨E0, hE0⟩ : ∃ E, E = (w.alloc (.cells #[.int .i64 x0.inputs, .int .i64 x0.registers, .slice a0p2 x0.tables.length a0c2, .slice a0p3 x0.code.length a0c3, .slice a0p4 x0.outputs.length a0c4] 26)) := ⟨_, rfl⟩
  have HB0 : Below w.heap.size w E0 := by rw [hE0]; exact ((Below.refl _ _).alloc (Nat.le_refl _) _)
  have ba0 : Box E0 (w.heap.size) [.int .i64 x0.inputs, .int .i64 x0.registers, .slice a0p2 x0.tables.length a0c2, .slice a0p3 x0.code.length a0c3, .slice a0p4 x0.outputs.length a0c4] 26 := by rw [hE0]; exact Box.newAt _ [.int .i64 x0.inputs, .int .i64 x0.registers, .slice a0p2 x0.tables.length a0c2, .slice a0p3 x0.code.length a0c3, .slice a0p4 x0.outputs.length a0c4] _ (by simp)
  have lq_ba0 := ba0.lt
  have HE0 := Lib.hid hE0
  clear hE0
  go_enter Try.func4, Try.ntmps4
  go_wp2_with fail
  rw [← HE0.out]
  refine (szProgram_v _ _ (h0.below HB0) (by omega) (by omega)).mono ?_
  rintro e E1 ⟨rfl, hb⟩
  have hz1 : E0.heap.size ≤ E1.heap.size := hb.size
  have hB1 := HB0.trans (hb.mono HB0.size)
  have ba0_1 := ba0.below hb
  clear hb ba0
  by_cases k1 : szF 1048576 (wtProgram x0) < 0
  case pos =>
    go_wp2_with fail
    go_ret
    exact ⟨rfl, hB1⟩
  have hn0 : wtProgram x0 ≤ 1048576 := by have := (szF_pos k1).2; omega
  have s1 := (szF_pos k1).1
  have l1 : 0 ≤ szF 1048576 (wtProgram x0) := by omega
  have g1 : szF 1048576 (wtProgram x0) ≤ 1048576 := by omega
  clear s1
  have z_ba0_0 := ba0_1.cell 0 rfl
  have z_ba0_1 := ba0_1.cell 1 rfl
  have z_ba0_2 := ba0_1.cell 2 rfl
  have z_ba0_3 := ba0_1.cell 3 rfl
  have z_ba0_4 := ba0_1.cell 4 rfl
  go_wp2_with fail
  clear z_ba0_0 z_ba0_1 z_ba0_2 z_ba0_3 z_ba0_4
  refine (toProgram_v _ (h0.below hB1) hn0).mono ?_
  rintro e E2 ⟨u2, L2, rfl, o2, D2, hb⟩
  have HBW_o2 : Hid (w.heap.size ≤ E1.heap.size) := hB1.size
  have HR_o2 : Hid (∀ b, Blk L2 b → E1.heap.size ≤ b ∧ b < E2.heap.size) := fun b hbk => o2.blk hbk
  have hz2 : E1.heap.size ≤ E2.heap.size := hb.size
  have hB2 := hB1.trans (hb.mono hB1.size)
  have ba0_2 := ba0_1.below hb
  clear hb hB1 ba0_1
  have hv := o2.rd
  obtain ⟨b2p2, b2c2, b2p3, b2c3, b2p4, b2c4, rfl, -, -, -⟩ := hv
  go_wp2_with fail
  refine (specLiveAfter_v _ o2.rd).mono ?_
  rintro e E3 ⟨u3_0, L3_0, rfl, o3_0, D3, hb⟩
  have HBW_o3_0 : Hid (w.heap.size ≤ E2.heap.size) := hB2.size
  have HR_o3_0 : Hid (∀ b, Blk L3_0 b → E2.heap.size ≤ b ∧ b < E3.heap.size) := fun b hbk => o3_0.blk hbk
  have hz3 : E2.heap.size ≤ E3.heap.size := hb.size
  have hB3 := hB2.trans (hb.mono hB2.size)
  have ba0_3 := ba0_2.below hb
  have o2_3 := o2.below hb
  clear hb hB2 ba0_2 o2
  have hv := o3_0.rd
  obtain ⟨b300p, b300c, rfl, -⟩ := hv
  have z_ba0_0 := ba0_3.cell 0 rfl
  have z_ba0_1 := ba0_3.cell 1 rfl
  have z_ba0_2 := ba0_3.cell 2 rfl
  have z_ba0_3 := ba0_3.cell 3 rfl
  have z_ba0_4 := ba0_3.cell 4 rfl
  go_wp2_with fail
  clear z_ba0_0 z_ba0_1 z_ba0_2 z_ba0_3 z_ba0_4
  refine (toProgram_v _ (h0.below hB3) hn0).mono ?_
  rintro e E4 ⟨u4, L4, rfl, o4, D4, hb⟩
  have HBW_o4 : Hid (w.heap.size ≤ E3.heap.size) := hB3.size
  have HR_o4 : Hid (∀ b, Blk L4 b → E3.heap.size ≤ b ∧ b < E4.heap.size) := fun b hbk => o4.blk hbk
  have hz4 : E3.heap.size ≤ E4.heap.size := hb.size
  have hB4 := hB3.trans (hb.mono hB3.size)
  have ba0_4 := ba0_3.below hb
  have o2_4 := o2_3.below hb
  have o3_0_4 := o3_0.below hb
  clear hb hB3 ba0_3 o2_3 o3_0
  have hv := o4.rd
  obtain ⟨b4p2, b4c2, b4p3, b4c3, b4p4, b4c4, rfl, -, -, -⟩ := hv
  go_wp2_with fail
  obtain ⟨E5, hE⟩ : ∃ E, E = E4.alloc (.cells #[.int .i64 x0.inputs, .int .i64 x0.registers, .slice b4p2 x0.tables.length b4c2, .slice b4p3 x0.code.length b4c3, .slice b4p4 x0.outputs.length b4c4] 31) := ⟨_, rfl⟩
  have hb : Below E4.heap.size E4 E5 := by rw [hE]; exact (Below.refl _ _).alloc (Nat.le_refl _) _
  have bx5 : Box E5 E4.heap.size [.int .i64 x0.inputs, .int .i64 x0.registers, .slice b4p2 x0.tables.length b4c2, .slice b4p3 x0.code.length b4c3, .slice b4p4 x0.outputs.length b4c4] 31 := by rw [hE]; exact Box.newAt _ [.int .i64 x0.inputs, .int .i64 x0.registers, .slice b4p2 x0.tables.length b4c2, .slice b4p3 x0.code.length b4c3, .slice b4p4 x0.outputs.length b4c4] _ rfl
  rw [← hE]
  clear hE
  have lq_bx5 := bx5.lt
  have hz5 : E4.heap.size ≤ E5.heap.size := hb.size
  have hB5 := hB4.trans (hb.mono hB4.size)
  have ba0_5 := ba0_4.below hb
  have o2_5 := o2_4.below hb
  have o3_0_5 := o3_0_4.below hb
  have o4_5 := o4.below hb
  clear hb hB4 ba0_4 o2_4 o3_0_4 o4
  refine (implLiveAfter_v _ o4_5.rd).mono ?_
  rintro e E6 ⟨u6_0, L6_0, rfl, o6_0, D6, hb⟩
  have HBW_o6_0 : Hid (w.heap.size ≤ E5.heap.size) := hB5.size
  have HR_o6_0 : Hid (∀ b, Blk L6_0 b → E5.heap.size ≤ b ∧ b < E6.heap.size) := fun b hbk => o6_0.blk hbk
  have hz6 : E5.heap.size ≤ E6.heap.size := hb.size
  have hB6 := hB5.trans (hb.mono hB5.size)
  have ba0_6 := ba0_5.below hb
  have bx5_6 := bx5.below hb
  have o2_6 := o2_5.below hb
  have o3_0_6 := o3_0_5.below hb
  have o4_6 := o4_5.below hb
  clear hb hB5 ba0_5 bx5 o2_5 o3_0_5 o4_5
  have hv := o6_0.rd
  obtain ⟨b600p, b600c, rfl, -⟩ := hv
  go_wp2_with fail
  refine (eqI_v _ o6_0.rd o3_0_6.rd).mono ?_
  rintro e E7 ⟨rfl, hb⟩
  have hz7 : E6.heap.size ≤ E7.heap.size := hb.size
  have hB7 := hB6.trans (hb.mono hB6.size)
  have ba0_7 := ba0_6.below hb
  have bx5_7 := bx5_6.below hb
  have o2_7 := o2_6.below hb
  have o3_0_7 := o3_0_6.below hb
  have o4_7 := o4_6.below hb
  have o6_0_7 := o6_0.below hb
  clear hb hB6 ba0_6 bx5_6 o2_6 o3_0_6 o4_6 o6_0
  go_upto_region 10 with fail
  go_cut [49] (fun s49 wr => s49 = .bool false ∧ Below E7.heap.size E7 wr)
  case first =>
    have z_bx5_0 := bx5_7.cell 0 rfl
    have z_bx5_1 := bx5_7.cell 1 rfl
    have z_bx5_2 := bx5_7.cell 2 rfl
    have z_bx5_3 := bx5_7.cell 3 rfl
    have z_bx5_4 := bx5_7.cell 4 rfl
    have z_ba0_0 := ba0_7.cell 0 rfl
    have z_ba0_1 := ba0_7.cell 1 rfl
    have z_ba0_2 := ba0_7.cell 2 rfl
    have z_ba0_3 := ba0_7.cell 3 rfl
    have z_ba0_4 := ba0_7.cell 4 rfl
    go_region_with (first | (go_at_call_of 7 (Value.agg #[.int .i64 x0.inputs, .int .i64 x0.registers, .slice a0p2 x0.tables.length a0c2, .slice a0p3 x0.code.length a0c3, .slice a0p4 x0.outputs.length a0c4]); refine (toProgram_v _ ((h0.below hB7).below (below_drew' (Below.refl _ _))) hn0).mono ?_; rintro e G10_1 ⟨u, L, rfl, o10_1, DD, hb⟩; clear DD; have hbb : Below E7.heap.size E7 G10_1 := below_drew' hb; have hBG10_1 := hB7.trans (hbb.mono hB7.size); have hRG10_1 := hbb; have o2G10_1 := o2_7.below hbb; have o3_0G10_1 := o3_0_7.below hbb; have o4G10_1 := o4_7.below hbb; have o6_0G10_1 := o6_0_7.below hbb; have bx5G10_1 := bx5_7.below hbb; have y_bx5_0 := bx5G10_1.cell 0 rfl; have y_bx5_1 := bx5G10_1.cell 1 rfl; have y_bx5_2 := bx5G10_1.cell 2 rfl; have y_bx5_3 := bx5G10_1.cell 3 rfl; have y_bx5_4 := bx5G10_1.cell 4 rfl; have ba0G10_1 := ba0_7.below hbb; have y_ba0_0 := ba0G10_1.cell 0 rfl; have y_ba0_1 := ba0G10_1.cell 1 rfl; have y_ba0_2 := ba0G10_1.cell 2 rfl; have y_ba0_3 := ba0G10_1.cell 3 rfl; have y_ba0_4 := ba0G10_1.cell 4 rfl; clear hb hbb) | (go_at_call 9; refine (eqProgram_v _ o4G10_1.rd o10_1.rd).mono ?_; rintro e G10_2 ⟨rfl, hb⟩; have hbb : Below G10_1.heap.size G10_1 G10_2 := hb; have hBG10_2 := hBG10_1.trans (hbb.mono hBG10_1.size); have hRG10_2 := hRG10_1.trans (hbb.mono hRG10_1.size); have o2G10_2 := o2G10_1.below hbb; have o3_0G10_2 := o3_0G10_1.below hbb; have o4G10_2 := o4G10_1.below hbb; have o6_0G10_2 := o6_0G10_1.below hbb; have o10_1G10_2 := o10_1.below hbb; have bx5G10_2 := bx5G10_1.below hbb; have ba0G10_2 := ba0G10_1.below hbb; clear hb hbb))
    all_goals (go_wp2_with fail; go_meet; exact ⟨rfl, hRG10_2⟩)
  case rest =>
    obtain ⟨rfl, hb⟩ := hcut
    obtain ⟨E8, rfl⟩ : ∃ E, E = wc := ⟨_, rfl⟩
    have hz8 : E7.heap.size ≤ E8.heap.size := hb.size
    have hB8 := hB7.trans (hb.mono hB7.size)
    have ba0_8 := ba0_7.below hb
    have bx5_8 := bx5_7.below hb
    have o2_8 := o2_7.below hb
    have o3_0_8 := o3_0_7.below hb
    have o4_8 := o4_7.below hb
    have o6_0_8 := o6_0_7.below hb
    clear hb hB7 ba0_7 bx5_7 o2_7 o3_0_7 o4_7 o6_0_7
    have z_bx5_0 := bx5_8.cell 0 rfl
    have z_bx5_1 := bx5_8.cell 1 rfl
    have z_bx5_2 := bx5_8.cell 2 rfl
    have z_bx5_3 := bx5_8.cell 3 rfl
    have z_bx5_4 := bx5_8.cell 4 rfl
    go_wp2_with fail
    clear z_bx5_0 z_bx5_1 z_bx5_2 z_bx5_3 z_bx5_4
    have hc_o4 := (show cntProgram x0 ≤ 6291456 by have h1 := cntProgram_le x0; have h2 := hn0; omega)
    refine (markProgram_v _ _ o4_8 D4 (by omega) (by omega)).mono ?_
    rintro e E9 ⟨rfl, om9, hf⟩
    have hz9 : E8.heap.size ≤ E9.heap.size := hf.size
    have hB9 := hB8.trans (hf.below (fun b hbk => by have h1 := (HR_o4.out b hbk).1; have h2 := HBW_o4.out; omega) hB8.size)
    (first | (have ba0_9 := ba0_8.offBlk (by decide) o4_8.ints hf) | (have ba0_9 := ba0_8.off hf (fun hbk => by have h1 := HR_o4.out _ hbk; omega)))
    (first | (have bx5_9 := bx5_8.offBlk (by decide) o4_8.ints hf) | (have bx5_9 := bx5_8.off hf (fun hbk => by have h1 := HR_o4.out _ hbk; omega)))
    have o2_9 := o2_8.offBlk o4_8.ints (apart (fun x h => (HR_o2.out x h).2) (fun x h => (HR_o4.out x h).1) (by omega)) hf
    have o3_0_9 := o3_0_8.offBlk o4_8.ints (apart (fun x h => (HR_o3_0.out x h).2) (fun x h => (HR_o4.out x h).1) (by omega)) hf
    have o6_0_9 := o6_0_8.offBlk o4_8.ints (apart' (fun x h => (HR_o4.out x h).2) (fun x h => (HR_o6_0.out x h).1) (by omega)) hf
    clear hf hB8 ba0_8 bx5_8 o2_8 o3_0_8 o6_0_8 o4_8
    go_wp2_with fail
    refine (eqI_v _ o6_0_9.rd o3_0_9.rd).mono ?_
    rintro e E10 ⟨rfl, hb⟩
    have hz10 : E9.heap.size ≤ E10.heap.size := hb.size
    have hB10 := hB9.trans (hb.mono hB9.size)
    have ba0_10 := ba0_9.below hb
    have bx5_10 := bx5_9.below hb
    have o2_10 := o2_9.below hb
    have o3_0_10 := o3_0_9.below hb
    have o4_10 := om9.below hb
    have o6_0_10 := o6_0_9.below hb
    clear hb hB9 ba0_9 bx5_9 o2_9 o3_0_9 om9 o6_0_9
    go_wp2_with fail
    have hc_o6_0 := liveRes_small x0 x1
    refine (markI_v _ _ o6_0_10 D6 (by omega) (by omega)).mono ?_
    rintro e E11 ⟨rfl, om11, hf⟩
    have hz11 : E10.heap.size ≤ E11.heap.size := hf.size
    have hB11 := hB10.trans (hf.below (fun b hbk => by have h1 := (HR_o6_0.out b hbk).1; have h2 := HBW_o6_0.out; omega) hB10.size)
    (first | (have ba0_11 := ba0_10.offBlk (by decide) o6_0_10.ints hf) | (have ba0_11 := ba0_10.off hf (fun hbk => by have h1 := HR_o6_0.out _ hbk; omega)))
    (first | (have bx5_11 := bx5_10.offBlk (by decide) o6_0_10.ints hf) | (have bx5_11 := bx5_10.off hf (fun hbk => by have h1 := HR_o6_0.out _ hbk; omega)))
    have o2_11 := o2_10.offBlk o6_0_10.ints (apart (fun x h => (HR_o2.out x h).2) (fun x h => (HR_o6_0.out x h).1) (by omega)) hf
    have o3_0_11 := o3_0_10.offBlk o6_0_10.ints (apart (fun x h => (HR_o3_0.out x h).2) (fun x h => (HR_o6_0.out x h).1) (by omega)) hf
    have o4_11 := o4_10.offBlk o6_0_10.ints (apart (fun x h => (HR_o4.out x h).2) (fun x h => (HR_o6_0.out x h).1) (by omega)) hf
    clear hf hB10 ba0_10 bx5_10 o2_10 o3_0_10 o4_10 o6_0_10
    go_wp2_with fail
    refine (heldI_v (xs := (liveRes x0 x1)) _ _ om11.rd (by omega) (by omega)).mono ?_
    rintro e E12 ⟨rfl, hb⟩
    have hz12 : E11.heap.size ≤ E12.heap.size := hb.size
    have hB12 := hB11.trans (hb.mono hB11.size)
    have ba0_12 := ba0_11.below hb
    have bx5_12 := bx5_11.below hb
    have o2_12 := o2_11.below hb
    have o3_0_12 := o3_0_11.below hb
    have o4_12 := o4_11.below hb
    have o6_0_12 := om11.below hb
    clear hb hB11 ba0_11 bx5_11 o2_11 o3_0_11 o4_11 om11
    have z_ba0_0 := ba0_12.cell 0 rfl
    have z_ba0_1 := ba0_12.cell 1 rfl
    have z_ba0_2 := ba0_12.cell 2 rfl
    have z_ba0_3 := ba0_12.cell 3 rfl
    have z_ba0_4 := ba0_12.cell 4 rfl
    go_wp2_with fail
    clear z_ba0_0 z_ba0_1 z_ba0_2 z_ba0_3 z_ba0_4
    refine (toProgram_v _ (h0.below hB12) hn0).mono ?_
    rintro e E13 ⟨u13, L13, rfl, o13, D13, hb⟩
    have HBW_o13 : Hid (w.heap.size ≤ E12.heap.size) := hB12.size
    have HR_o13 : Hid (∀ b, Blk L13 b → E12.heap.size ≤ b ∧ b < E13.heap.size) := fun b hbk => o13.blk hbk
    have hz13 : E12.heap.size ≤ E13.heap.size := hb.size
    have hB13 := hB12.trans (hb.mono hB12.size)
    have ba0_13 := ba0_12.below hb
    have bx5_13 := bx5_12.below hb
    have o2_13 := o2_12.below hb
    have o3_0_13 := o3_0_12.below hb
    have o4_13 := o4_12.below hb
    have o6_0_13 := o6_0_12.below hb
    clear hb hB12 ba0_12 bx5_12 o2_12 o3_0_12 o4_12 o6_0_12
    have hv := o13.rd
    obtain ⟨b13p2, b13c2, b13p3, b13c3, b13p4, b13c4, rfl, -, -, -⟩ := hv
    go_wp2_with fail
    refine (implLiveAfter_v _ o13.rd).mono ?_
    rintro e E14 ⟨u14_0, L14_0, rfl, o14_0, D14, hb⟩
    have HBW_o14_0 : Hid (w.heap.size ≤ E13.heap.size) := hB13.size
    have HR_o14_0 : Hid (∀ b, Blk L14_0 b → E13.heap.size ≤ b ∧ b < E14.heap.size) := fun b hbk => o14_0.blk hbk
    have hz14 : E13.heap.size ≤ E14.heap.size := hb.size
    have hB14 := hB13.trans (hb.mono hB13.size)
    have ba0_14 := ba0_13.below hb
    have bx5_14 := bx5_13.below hb
    have o2_14 := o2_13.below hb
    have o3_0_14 := o3_0_13.below hb
    have o4_14 := o4_13.below hb
    have o6_0_14 := o6_0_13.below hb
    have o13_14 := o13.below hb
    clear hb hB13 ba0_13 bx5_13 o2_13 o3_0_13 o4_13 o6_0_13 o13
    have hv := o14_0.rd
    obtain ⟨b1400p, b1400c, rfl, -⟩ := hv
    go_wp2_with fail
    refine (eqI_v _ o14_0.rd o3_0_14.rd).mono ?_
    rintro e E15 ⟨rfl, hb⟩
    have hz15 : E14.heap.size ≤ E15.heap.size := hb.size
    have hB15 := hB14.trans (hb.mono hB14.size)
    have ba0_15 := ba0_14.below hb
    have bx5_15 := bx5_14.below hb
    have o2_15 := o2_14.below hb
    have o3_0_15 := o3_0_14.below hb
    have o4_15 := o4_14.below hb
    have o6_0_15 := o6_0_14.below hb
    have o13_15 := o13_14.below hb
    have o14_0_15 := o14_0.below hb
    clear hb hB14 ba0_14 bx5_14 o2_14 o3_0_14 o4_14 o6_0_14 o13_14 o14_0
    go_wp2_with fail
    refine (heldI_v (xs := (liveRes x0 x1)) _ _ o6_0_15.rd (by omega) (by omega)).mono ?_
    rintro e E16 ⟨rfl, hb⟩
    have hz16 : E15.heap.size ≤ E16.heap.size := hb.size
    have hB16 := hB15.trans (hb.mono hB15.size)
    have ba0_16 := ba0_15.below hb
    have bx5_16 := bx5_15.below hb
    have o2_16 := o2_15.below hb
    have o3_0_16 := o3_0_15.below hb
    have o4_16 := o4_15.below hb
    have o6_0_16 := o6_0_15.below hb
    have o13_16 := o13_15.below hb
    have o14_0_16 := o14_0_15.below hb
    clear hb hB15 ba0_15 bx5_15 o2_15 o3_0_15 o4_15 o6_0_15 o13_15 o14_0_15
    go_wp2_with fail
    go_ret
    exact ⟨rfl, hB16⟩

end Go.Proofs.Ytabfdnkomhjlkaa
