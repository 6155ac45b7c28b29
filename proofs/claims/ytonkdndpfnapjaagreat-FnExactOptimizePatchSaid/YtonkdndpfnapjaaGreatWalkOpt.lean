/-
  The walks of exact laws on patches.
-/
import Derived.Test.YtonkdndpfnapjaaGreatApY
namespace Go.Proofs.YtonkdndpfnapjaaGreat
open Go.ChangeShapes Go.WideShapes Go.ChangeAt Go.RowKit
set_option linter.unusedVariables false

set_option maxHeartbeats 8000000 in
set_option maxRecDepth 100000 in
theorem fnExactOptimizePatch_walk (w : World) {v0 : Value} {x0 : PatchD} (h0 : VPatch w v0 x0) :
    Calls Tryz.prog 6 #[v0] w fun e w' => e = .returned (.bool true) ∧ Below w.heap.size w w' := by
  have hv0 := h0
  obtain ⟨a0p1, a0c1, a0p2, a0c2, a0p3, a0c3, rfl, -, -, -⟩ := hv0
  obtain ⟨E0, hE0⟩ : ∃ E, E = (w.alloc (.cells #[.int .i64 x0.inputs, .slice a0p1 x0.tables.length a0c1, .slice a0p2 x0.nodes.length a0c2, .slice a0p3 x0.outputs.length a0c3] 26)) := ⟨_, rfl⟩
  have HB0 : Below w.heap.size w E0 := by rw [hE0]; exact ((Below.refl _ _).alloc (Nat.le_refl _) _)
  have ba0 : Box E0 (w.heap.size) [.int .i64 x0.inputs, .slice a0p1 x0.tables.length a0c1, .slice a0p2 x0.nodes.length a0c2, .slice a0p3 x0.outputs.length a0c3] 26 := by rw [hE0]; exact Box.newAt _ [.int .i64 x0.inputs, .slice a0p1 x0.tables.length a0c1, .slice a0p2 x0.nodes.length a0c2, .slice a0p3 x0.outputs.length a0c3] _ (by simp)
  have lq_ba0 := ba0.lt
  have HE0 := Lib.hid hE0
  clear hE0
  go_enter Tryz.func6, Tryz.ntmps6
  go_wp2_with fail
  rw [← HE0.out]
  refine (szPatch_v _ _ (h0.below HB0) (by omega) (by omega)).mono ?_
  rintro e E1 ⟨rfl, hb⟩
  have hz1 : E0.heap.size ≤ E1.heap.size := hb.size
  have hB1 := HB0.trans (hb.mono HB0.size)
  have ba0_1 := ba0.below hb
  clear hb ba0
  by_cases k1 : szF 1048576 (wtPatch x0) < 0
  case pos =>
    go_wp2_with fail
    go_ret
    exact ⟨rfl, hB1⟩
  have hn0 : wtPatch x0 ≤ 1048576 := by have := (szF_pos k1).2; omega
  have s1 := (szF_pos k1).1
  have l1 : 0 ≤ szF 1048576 (wtPatch x0) := by omega
  have g1 : szF 1048576 (wtPatch x0) ≤ 1048576 := by omega
  clear s1
  have z_ba0_0 := ba0_1.cell 0 rfl
  have z_ba0_1 := ba0_1.cell 1 rfl
  have z_ba0_2 := ba0_1.cell 2 rfl
  have z_ba0_3 := ba0_1.cell 3 rfl
  go_wp2_with fail
  clear z_ba0_0 z_ba0_1 z_ba0_2 z_ba0_3
  refine (toPatch_v _ (h0.below hB1) hn0).mono ?_
  rintro e E2 ⟨u2, L2, rfl, o2, D2, hb⟩
  have HBW_o2 : Hid (w.heap.size ≤ E1.heap.size) := hB1.size
  have HR_o2 : Hid (∀ b, Blk L2 b → E1.heap.size ≤ b ∧ b < E2.heap.size) := fun b hbk => o2.blk hbk
  have hz2 : E1.heap.size ≤ E2.heap.size := hb.size
  have hB2 := hB1.trans (hb.mono hB1.size)
  have ba0_2 := ba0_1.below hb
  clear hb hB1 ba0_1
  have hv := o2.rd
  obtain ⟨b2p1, b2c1, b2p2, b2c2, b2p3, b2c3, rfl, -, -, -⟩ := hv
  go_wp2_with fail
  refine (specOptimizePatch_v _ o2.rd).mono ?_
  rintro e E3 ⟨u3_0, L3_0, rfl, o3_0, D3, hb⟩
  have HBW_o3_0 : Hid (w.heap.size ≤ E2.heap.size) := hB2.size
  have HR_o3_0 : Hid (∀ b, Blk L3_0 b → E2.heap.size ≤ b ∧ b < E3.heap.size) := fun b hbk => o3_0.blk hbk
  have hz3 : E2.heap.size ≤ E3.heap.size := hb.size
  have hB3 := hB2.trans (hb.mono hB2.size)
  have ba0_3 := ba0_2.below hb
  have o2_3 := o2.below hb
  clear hb hB2 ba0_2 o2
  have hv := o3_0.rd
  obtain ⟨b300p1, b300c1, b300p2, b300c2, b300p3, b300c3, rfl, -, -, -⟩ := hv
  have z_ba0_0 := (ba0_3.alloc (.cells #[.int .i64 (optRes x0).inputs, .slice b300p1 (optRes x0).tables.length b300c1, .slice b300p2 (optRes x0).nodes.length b300c2, .slice b300p3 (optRes x0).outputs.length b300c3] 32)).cell 0 rfl
  have z_ba0_1 := (ba0_3.alloc (.cells #[.int .i64 (optRes x0).inputs, .slice b300p1 (optRes x0).tables.length b300c1, .slice b300p2 (optRes x0).nodes.length b300c2, .slice b300p3 (optRes x0).outputs.length b300c3] 32)).cell 1 rfl
  have z_ba0_2 := (ba0_3.alloc (.cells #[.int .i64 (optRes x0).inputs, .slice b300p1 (optRes x0).tables.length b300c1, .slice b300p2 (optRes x0).nodes.length b300c2, .slice b300p3 (optRes x0).outputs.length b300c3] 32)).cell 2 rfl
  have z_ba0_3 := (ba0_3.alloc (.cells #[.int .i64 (optRes x0).inputs, .slice b300p1 (optRes x0).tables.length b300c1, .slice b300p2 (optRes x0).nodes.length b300c2, .slice b300p3 (optRes x0).outputs.length b300c3] 32)).cell 3 rfl
  go_wp2_with fail
  clear z_ba0_0 z_ba0_1 z_ba0_2 z_ba0_3
  obtain ⟨E4, hE⟩ : ∃ E, E = E3.alloc (.cells #[.int .i64 (optRes x0).inputs, .slice b300p1 (optRes x0).tables.length b300c1, .slice b300p2 (optRes x0).nodes.length b300c2, .slice b300p3 (optRes x0).outputs.length b300c3] 32) := ⟨_, rfl⟩
  have hb : Below E3.heap.size E3 E4 := by rw [hE]; exact (Below.refl _ _).alloc (Nat.le_refl _) _
  have bx4 : Box E4 E3.heap.size [.int .i64 (optRes x0).inputs, .slice b300p1 (optRes x0).tables.length b300c1, .slice b300p2 (optRes x0).nodes.length b300c2, .slice b300p3 (optRes x0).outputs.length b300c3] 32 := by rw [hE]; exact Box.newAt _ [.int .i64 (optRes x0).inputs, .slice b300p1 (optRes x0).tables.length b300c1, .slice b300p2 (optRes x0).nodes.length b300c2, .slice b300p3 (optRes x0).outputs.length b300c3] _ rfl
  rw [← hE]
  clear hE
  have hz4 : E3.heap.size ≤ E4.heap.size := hb.size
  have hB4 := hB3.trans (hb.mono hB3.size)
  have ba0_4 := ba0_3.below hb
  have o2_4 := o2_3.below hb
  have o3_0_4 := o3_0.below hb
  clear hb hB3 ba0_3 o2_3 o3_0
  refine (toPatch_v _ (h0.below hB4) hn0).mono ?_
  rintro e E5 ⟨u5, L5, rfl, o5, D5, hb⟩
  have HBW_o5 : Hid (w.heap.size ≤ E4.heap.size) := hB4.size
  have HR_o5 : Hid (∀ b, Blk L5 b → E4.heap.size ≤ b ∧ b < E5.heap.size) := fun b hbk => o5.blk hbk
  have hz5 : E4.heap.size ≤ E5.heap.size := hb.size
  have hB5 := hB4.trans (hb.mono hB4.size)
  have ba0_5 := ba0_4.below hb
  have bx4_5 := bx4.below hb
  have o2_5 := o2_4.below hb
  have o3_0_5 := o3_0_4.below hb
  clear hb hB4 ba0_4 bx4 o2_4 o3_0_4
  have hv := o5.rd
  obtain ⟨b5p1, b5c1, b5p2, b5c2, b5p3, b5c3, rfl, -, -, -⟩ := hv
  go_wp2_with fail
  obtain ⟨E6, hE⟩ : ∃ E, E = E5.alloc (.cells #[.int .i64 x0.inputs, .slice b5p1 x0.tables.length b5c1, .slice b5p2 x0.nodes.length b5c2, .slice b5p3 x0.outputs.length b5c3] 32) := ⟨_, rfl⟩
  have hb : Below E5.heap.size E5 E6 := by rw [hE]; exact (Below.refl _ _).alloc (Nat.le_refl _) _
  have bx6 : Box E6 E5.heap.size [.int .i64 x0.inputs, .slice b5p1 x0.tables.length b5c1, .slice b5p2 x0.nodes.length b5c2, .slice b5p3 x0.outputs.length b5c3] 32 := by rw [hE]; exact Box.newAt _ [.int .i64 x0.inputs, .slice b5p1 x0.tables.length b5c1, .slice b5p2 x0.nodes.length b5c2, .slice b5p3 x0.outputs.length b5c3] _ rfl
  rw [← hE]
  clear hE
  have lq_bx6 := bx6.lt
  have hz6 : E5.heap.size ≤ E6.heap.size := hb.size
  have hB6 := hB5.trans (hb.mono hB5.size)
  have ba0_6 := ba0_5.below hb
  have bx4_6 := bx4_5.below hb
  have o2_6 := o2_5.below hb
  have o3_0_6 := o3_0_5.below hb
  have o5_6 := o5.below hb
  clear hb hB5 ba0_5 bx4_5 o2_5 o3_0_5 o5
  refine (implOptimizePatch_v _ o5_6.rd).mono ?_
  rintro e E7 ⟨u7_0, L7_0, rfl, o7_0, D7, hb⟩
  have HBW_o7_0 : Hid (w.heap.size ≤ E6.heap.size) := hB6.size
  have HR_o7_0 : Hid (∀ b, Blk L7_0 b → E6.heap.size ≤ b ∧ b < E7.heap.size) := fun b hbk => o7_0.blk hbk
  have hz7 : E6.heap.size ≤ E7.heap.size := hb.size
  have hB7 := hB6.trans (hb.mono hB6.size)
  have ba0_7 := ba0_6.below hb
  have bx4_7 := bx4_6.below hb
  have bx6_7 := bx6.below hb
  have o2_7 := o2_6.below hb
  have o3_0_7 := o3_0_6.below hb
  have o5_7 := o5_6.below hb
  clear hb hB6 ba0_6 bx4_6 bx6 o2_6 o3_0_6 o5_6
  have hv := o7_0.rd
  obtain ⟨b700p1, b700c1, b700p2, b700c2, b700p3, b700c3, rfl, -, -, -⟩ := hv
  have z_bx4_0 := (bx4_7.alloc (.cells #[.int .i64 (optRes x0).inputs, .slice b700p1 (optRes x0).tables.length b700c1, .slice b700p2 (optRes x0).nodes.length b700c2, .slice b700p3 (optRes x0).outputs.length b700c3] 32)).cell 0 rfl
  have z_bx4_1 := (bx4_7.alloc (.cells #[.int .i64 (optRes x0).inputs, .slice b700p1 (optRes x0).tables.length b700c1, .slice b700p2 (optRes x0).nodes.length b700c2, .slice b700p3 (optRes x0).outputs.length b700c3] 32)).cell 1 rfl
  have z_bx4_2 := (bx4_7.alloc (.cells #[.int .i64 (optRes x0).inputs, .slice b700p1 (optRes x0).tables.length b700c1, .slice b700p2 (optRes x0).nodes.length b700c2, .slice b700p3 (optRes x0).outputs.length b700c3] 32)).cell 2 rfl
  have z_bx4_3 := (bx4_7.alloc (.cells #[.int .i64 (optRes x0).inputs, .slice b700p1 (optRes x0).tables.length b700c1, .slice b700p2 (optRes x0).nodes.length b700c2, .slice b700p3 (optRes x0).outputs.length b700c3] 32)).cell 3 rfl
  go_wp2_with fail
  clear z_bx4_0 z_bx4_1 z_bx4_2 z_bx4_3
  obtain ⟨E8, hE⟩ : ∃ E, E = E7.alloc (.cells #[.int .i64 (optRes x0).inputs, .slice b700p1 (optRes x0).tables.length b700c1, .slice b700p2 (optRes x0).nodes.length b700c2, .slice b700p3 (optRes x0).outputs.length b700c3] 32) := ⟨_, rfl⟩
  have hb : Below E7.heap.size E7 E8 := by rw [hE]; exact (Below.refl _ _).alloc (Nat.le_refl _) _
  have bx8 : Box E8 E7.heap.size [.int .i64 (optRes x0).inputs, .slice b700p1 (optRes x0).tables.length b700c1, .slice b700p2 (optRes x0).nodes.length b700c2, .slice b700p3 (optRes x0).outputs.length b700c3] 32 := by rw [hE]; exact Box.newAt _ [.int .i64 (optRes x0).inputs, .slice b700p1 (optRes x0).tables.length b700c1, .slice b700p2 (optRes x0).nodes.length b700c2, .slice b700p3 (optRes x0).outputs.length b700c3] _ rfl
  rw [← hE]
  clear hE
  have hz8 : E7.heap.size ≤ E8.heap.size := hb.size
  have hB8 := hB7.trans (hb.mono hB7.size)
  have ba0_8 := ba0_7.below hb
  have bx4_8 := bx4_7.below hb
  have bx6_8 := bx6_7.below hb
  have o2_8 := o2_7.below hb
  have o3_0_8 := o3_0_7.below hb
  have o5_8 := o5_7.below hb
  have o7_0_8 := o7_0.below hb
  clear hb hB7 ba0_7 bx4_7 bx6_7 o2_7 o3_0_7 o5_7 o7_0
  refine (eqPatch_v _ o7_0_8.rd o3_0_8.rd).mono ?_
  rintro e E9 ⟨rfl, hb⟩
  have hz9 : E8.heap.size ≤ E9.heap.size := hb.size
  have hB9 := hB8.trans (hb.mono hB8.size)
  have ba0_9 := ba0_8.below hb
  have bx4_9 := bx4_8.below hb
  have bx6_9 := bx6_8.below hb
  have bx8_9 := bx8.below hb
  have o2_9 := o2_8.below hb
  have o3_0_9 := o3_0_8.below hb
  have o5_9 := o5_8.below hb
  have o7_0_9 := o7_0_8.below hb
  clear hb hB8 ba0_8 bx4_8 bx6_8 bx8 o2_8 o3_0_8 o5_8 o7_0_8
  go_upto_region 10 with fail
  go_cut [45] (fun s45 wr => s45 = .bool false ∧ Below E9.heap.size E9 wr)
  case first =>
    have z_bx6_0 := bx6_9.cell 0 rfl
    have z_bx6_1 := bx6_9.cell 1 rfl
    have z_bx6_2 := bx6_9.cell 2 rfl
    have z_bx6_3 := bx6_9.cell 3 rfl
    have z_ba0_0 := ba0_9.cell 0 rfl
    have z_ba0_1 := ba0_9.cell 1 rfl
    have z_ba0_2 := ba0_9.cell 2 rfl
    have z_ba0_3 := ba0_9.cell 3 rfl
    go_region_with (first | (go_at_call_of 9 (Value.agg #[.int .i64 x0.inputs, .slice a0p1 x0.tables.length a0c1, .slice a0p2 x0.nodes.length a0c2, .slice a0p3 x0.outputs.length a0c3]); refine (toPatch_v _ ((h0.below hB9).below (below_drew' (Below.refl _ _))) hn0).mono ?_; rintro e G10_1 ⟨u, L, rfl, o10_1, DD, hb⟩; clear DD; have hbb : Below E9.heap.size E9 G10_1 := below_drew' hb; have hBG10_1 := hB9.trans (hbb.mono hB9.size); have hRG10_1 := hbb; have o2G10_1 := o2_9.below hbb; have o3_0G10_1 := o3_0_9.below hbb; have o5G10_1 := o5_9.below hbb; have o7_0G10_1 := o7_0_9.below hbb; have bx6G10_1 := bx6_9.below hbb; have y_bx6_0 := bx6G10_1.cell 0 rfl; have y_bx6_1 := bx6G10_1.cell 1 rfl; have y_bx6_2 := bx6G10_1.cell 2 rfl; have y_bx6_3 := bx6G10_1.cell 3 rfl; have ba0G10_1 := ba0_9.below hbb; have y_ba0_0 := ba0G10_1.cell 0 rfl; have y_ba0_1 := ba0G10_1.cell 1 rfl; have y_ba0_2 := ba0G10_1.cell 2 rfl; have y_ba0_3 := ba0G10_1.cell 3 rfl; clear hb hbb) | (go_at_call 11; refine (eqPatch_v _ o5G10_1.rd o10_1.rd).mono ?_; rintro e G10_2 ⟨rfl, hb⟩; have hbb : Below G10_1.heap.size G10_1 G10_2 := hb; have hBG10_2 := hBG10_1.trans (hbb.mono hBG10_1.size); have hRG10_2 := hRG10_1.trans (hbb.mono hRG10_1.size); have o2G10_2 := o2G10_1.below hbb; have o3_0G10_2 := o3_0G10_1.below hbb; have o5G10_2 := o5G10_1.below hbb; have o7_0G10_2 := o7_0G10_1.below hbb; have o10_1G10_2 := o10_1.below hbb; have bx6G10_2 := bx6G10_1.below hbb; have ba0G10_2 := ba0G10_1.below hbb; clear hb hbb))
    all_goals (go_wp2_with fail; go_meet; exact ⟨rfl, hRG10_2⟩)
  case rest =>
    obtain ⟨rfl, hb⟩ := hcut
    obtain ⟨E10, rfl⟩ : ∃ E, E = wc := ⟨_, rfl⟩
    have hz10 : E9.heap.size ≤ E10.heap.size := hb.size
    have hB10 := hB9.trans (hb.mono hB9.size)
    have ba0_10 := ba0_9.below hb
    have bx4_10 := bx4_9.below hb
    have bx6_10 := bx6_9.below hb
    have bx8_10 := bx8_9.below hb
    have o2_10 := o2_9.below hb
    have o3_0_10 := o3_0_9.below hb
    have o5_10 := o5_9.below hb
    have o7_0_10 := o7_0_9.below hb
    clear hb hB9 ba0_9 bx4_9 bx6_9 bx8_9 o2_9 o3_0_9 o5_9 o7_0_9
    have z_bx6_0 := bx6_10.cell 0 rfl
    have z_bx6_1 := bx6_10.cell 1 rfl
    have z_bx6_2 := bx6_10.cell 2 rfl
    have z_bx6_3 := bx6_10.cell 3 rfl
    go_wp2_with fail
    clear z_bx6_0 z_bx6_1 z_bx6_2 z_bx6_3
    have hc_o5 := (show cntPatch x0 ≤ 6291456 by have h1 := cntPatch_le x0; have h2 := hn0; omega)
    refine (markPatch_v _ _ o5_10 D5 (by omega) (by omega)).mono ?_
    rintro e E11 ⟨rfl, om11, hf⟩
    have hz11 : E10.heap.size ≤ E11.heap.size := hf.size
    have hB11 := hB10.trans (hf.below (fun b hbk => by have h1 := (HR_o5.out b hbk).1; have h2 := HBW_o5.out; omega) hB10.size)
    (first | (have ba0_11 := ba0_10.offBlk (by decide) o5_10.ints hf) | (have ba0_11 := ba0_10.off hf (fun hbk => by have h1 := HR_o5.out _ hbk; omega)))
    (first | (have bx4_11 := bx4_10.offBlk (by decide) o5_10.ints hf) | (have bx4_11 := bx4_10.off hf (fun hbk => by have h1 := HR_o5.out _ hbk; omega)))
    (first | (have bx6_11 := bx6_10.offBlk (by decide) o5_10.ints hf) | (have bx6_11 := bx6_10.off hf (fun hbk => by have h1 := HR_o5.out _ hbk; omega)))
    (first | (have bx8_11 := bx8_10.offBlk (by decide) o5_10.ints hf) | (have bx8_11 := bx8_10.off hf (fun hbk => by have h1 := HR_o5.out _ hbk; omega)))
    have o2_11 := o2_10.offBlk o5_10.ints (apart (fun x h => (HR_o2.out x h).2) (fun x h => (HR_o5.out x h).1) (by omega)) hf
    have o3_0_11 := o3_0_10.offBlk o5_10.ints (apart (fun x h => (HR_o3_0.out x h).2) (fun x h => (HR_o5.out x h).1) (by omega)) hf
    have o7_0_11 := o7_0_10.offBlk o5_10.ints (apart' (fun x h => (HR_o5.out x h).2) (fun x h => (HR_o7_0.out x h).1) (by omega)) hf
    clear hf hB10 ba0_10 bx4_10 bx6_10 bx8_10 o2_10 o3_0_10 o7_0_10 o5_10
    have z_bx8_0 := bx8_11.cell 0 rfl
    have z_bx8_1 := bx8_11.cell 1 rfl
    have z_bx8_2 := bx8_11.cell 2 rfl
    have z_bx8_3 := bx8_11.cell 3 rfl
    have z_bx4_0 := bx4_11.cell 0 rfl
    have z_bx4_1 := bx4_11.cell 1 rfl
    have z_bx4_2 := bx4_11.cell 2 rfl
    have z_bx4_3 := bx4_11.cell 3 rfl
    go_wp2_with fail
    clear z_bx8_0 z_bx8_1 z_bx8_2 z_bx8_3 z_bx4_0 z_bx4_1 z_bx4_2 z_bx4_3
    refine (eqPatch_v _ o7_0_11.rd o3_0_11.rd).mono ?_
    rintro e E12 ⟨rfl, hb⟩
    have hz12 : E11.heap.size ≤ E12.heap.size := hb.size
    have hB12 := hB11.trans (hb.mono hB11.size)
    have ba0_12 := ba0_11.below hb
    have bx4_12 := bx4_11.below hb
    have bx6_12 := bx6_11.below hb
    have bx8_12 := bx8_11.below hb
    have o2_12 := o2_11.below hb
    have o3_0_12 := o3_0_11.below hb
    have o5_12 := om11.below hb
    have o7_0_12 := o7_0_11.below hb
    clear hb hB11 ba0_11 bx4_11 bx6_11 bx8_11 o2_11 o3_0_11 om11 o7_0_11
    have z_bx8_0 := bx8_12.cell 0 rfl
    have z_bx8_1 := bx8_12.cell 1 rfl
    have z_bx8_2 := bx8_12.cell 2 rfl
    have z_bx8_3 := bx8_12.cell 3 rfl
    go_wp2_with fail
    clear z_bx8_0 z_bx8_1 z_bx8_2 z_bx8_3
    have hc_o7_0 := optRes_small x0
    refine (markPatch_v _ _ o7_0_12 D7 (by omega) (by omega)).mono ?_
    rintro e E13 ⟨rfl, om13, hf⟩
    have hz13 : E12.heap.size ≤ E13.heap.size := hf.size
    have hB13 := hB12.trans (hf.below (fun b hbk => by have h1 := (HR_o7_0.out b hbk).1; have h2 := HBW_o7_0.out; omega) hB12.size)
    (first | (have ba0_13 := ba0_12.offBlk (by decide) o7_0_12.ints hf) | (have ba0_13 := ba0_12.off hf (fun hbk => by have h1 := HR_o7_0.out _ hbk; omega)))
    (first | (have bx4_13 := bx4_12.offBlk (by decide) o7_0_12.ints hf) | (have bx4_13 := bx4_12.off hf (fun hbk => by have h1 := HR_o7_0.out _ hbk; omega)))
    (first | (have bx6_13 := bx6_12.offBlk (by decide) o7_0_12.ints hf) | (have bx6_13 := bx6_12.off hf (fun hbk => by have h1 := HR_o7_0.out _ hbk; omega)))
    (first | (have bx8_13 := bx8_12.offBlk (by decide) o7_0_12.ints hf) | (have bx8_13 := bx8_12.off hf (fun hbk => by have h1 := HR_o7_0.out _ hbk; omega)))
    have o2_13 := o2_12.offBlk o7_0_12.ints (apart (fun x h => (HR_o2.out x h).2) (fun x h => (HR_o7_0.out x h).1) (by omega)) hf
    have o3_0_13 := o3_0_12.offBlk o7_0_12.ints (apart (fun x h => (HR_o3_0.out x h).2) (fun x h => (HR_o7_0.out x h).1) (by omega)) hf
    have o5_13 := o5_12.offBlk o7_0_12.ints (apart (fun x h => (HR_o5.out x h).2) (fun x h => (HR_o7_0.out x h).1) (by omega)) hf
    clear hf hB12 ba0_12 bx4_12 bx6_12 bx8_12 o2_12 o3_0_12 o5_12 o7_0_12
    have z_bx8_0 := bx8_13.cell 0 rfl
    have z_bx8_1 := bx8_13.cell 1 rfl
    have z_bx8_2 := bx8_13.cell 2 rfl
    have z_bx8_3 := bx8_13.cell 3 rfl
    go_wp2_with fail
    clear z_bx8_0 z_bx8_1 z_bx8_2 z_bx8_3
    refine (heldPatch_v (x := (optRes x0)) _ _ om13.rd (by omega) (by omega)).mono ?_
    rintro e E14 ⟨rfl, hb⟩
    have hz14 : E13.heap.size ≤ E14.heap.size := hb.size
    have hB14 := hB13.trans (hb.mono hB13.size)
    have ba0_14 := ba0_13.below hb
    have bx4_14 := bx4_13.below hb
    have bx6_14 := bx6_13.below hb
    have bx8_14 := bx8_13.below hb
    have o2_14 := o2_13.below hb
    have o3_0_14 := o3_0_13.below hb
    have o5_14 := o5_13.below hb
    have o7_0_14 := om13.below hb
    clear hb hB13 ba0_13 bx4_13 bx6_13 bx8_13 o2_13 o3_0_13 o5_13 om13
    have z_ba0_0 := ba0_14.cell 0 rfl
    have z_ba0_1 := ba0_14.cell 1 rfl
    have z_ba0_2 := ba0_14.cell 2 rfl
    have z_ba0_3 := ba0_14.cell 3 rfl
    go_wp2_with fail
    clear z_ba0_0 z_ba0_1 z_ba0_2 z_ba0_3
    refine (toPatch_v _ (h0.below hB14) hn0).mono ?_
    rintro e E15 ⟨u15, L15, rfl, o15, D15, hb⟩
    have HBW_o15 : Hid (w.heap.size ≤ E14.heap.size) := hB14.size
    have HR_o15 : Hid (∀ b, Blk L15 b → E14.heap.size ≤ b ∧ b < E15.heap.size) := fun b hbk => o15.blk hbk
    have hz15 : E14.heap.size ≤ E15.heap.size := hb.size
    have hB15 := hB14.trans (hb.mono hB14.size)
    have ba0_15 := ba0_14.below hb
    have bx4_15 := bx4_14.below hb
    have bx6_15 := bx6_14.below hb
    have bx8_15 := bx8_14.below hb
    have o2_15 := o2_14.below hb
    have o3_0_15 := o3_0_14.below hb
    have o5_15 := o5_14.below hb
    have o7_0_15 := o7_0_14.below hb
    clear hb hB14 ba0_14 bx4_14 bx6_14 bx8_14 o2_14 o3_0_14 o5_14 o7_0_14
    have hv := o15.rd
    obtain ⟨b15p1, b15c1, b15p2, b15c2, b15p3, b15c3, rfl, -, -, -⟩ := hv
    go_wp2_with fail
    refine (implOptimizePatch_v _ o15.rd).mono ?_
    rintro e E16 ⟨u16_0, L16_0, rfl, o16_0, D16, hb⟩
    have HBW_o16_0 : Hid (w.heap.size ≤ E15.heap.size) := hB15.size
    have HR_o16_0 : Hid (∀ b, Blk L16_0 b → E15.heap.size ≤ b ∧ b < E16.heap.size) := fun b hbk => o16_0.blk hbk
    have hz16 : E15.heap.size ≤ E16.heap.size := hb.size
    have hB16 := hB15.trans (hb.mono hB15.size)
    have ba0_16 := ba0_15.below hb
    have bx4_16 := bx4_15.below hb
    have bx6_16 := bx6_15.below hb
    have bx8_16 := bx8_15.below hb
    have o2_16 := o2_15.below hb
    have o3_0_16 := o3_0_15.below hb
    have o5_16 := o5_15.below hb
    have o7_0_16 := o7_0_15.below hb
    have o15_16 := o15.below hb
    clear hb hB15 ba0_15 bx4_15 bx6_15 bx8_15 o2_15 o3_0_15 o5_15 o7_0_15 o15
    have hv := o16_0.rd
    obtain ⟨b1600p1, b1600c1, b1600p2, b1600c2, b1600p3, b1600c3, rfl, -, -, -⟩ := hv
    have z_bx4_0 := (bx4_16.alloc (.cells #[.int .i64 (optRes x0).inputs, .slice b1600p1 (optRes x0).tables.length b1600c1, .slice b1600p2 (optRes x0).nodes.length b1600c2, .slice b1600p3 (optRes x0).outputs.length b1600c3] 32)).cell 0 rfl
    have z_bx4_1 := (bx4_16.alloc (.cells #[.int .i64 (optRes x0).inputs, .slice b1600p1 (optRes x0).tables.length b1600c1, .slice b1600p2 (optRes x0).nodes.length b1600c2, .slice b1600p3 (optRes x0).outputs.length b1600c3] 32)).cell 1 rfl
    have z_bx4_2 := (bx4_16.alloc (.cells #[.int .i64 (optRes x0).inputs, .slice b1600p1 (optRes x0).tables.length b1600c1, .slice b1600p2 (optRes x0).nodes.length b1600c2, .slice b1600p3 (optRes x0).outputs.length b1600c3] 32)).cell 2 rfl
    have z_bx4_3 := (bx4_16.alloc (.cells #[.int .i64 (optRes x0).inputs, .slice b1600p1 (optRes x0).tables.length b1600c1, .slice b1600p2 (optRes x0).nodes.length b1600c2, .slice b1600p3 (optRes x0).outputs.length b1600c3] 32)).cell 3 rfl
    go_wp2_with fail
    clear z_bx4_0 z_bx4_1 z_bx4_2 z_bx4_3
    obtain ⟨E17, hE⟩ : ∃ E, E = E16.alloc (.cells #[.int .i64 (optRes x0).inputs, .slice b1600p1 (optRes x0).tables.length b1600c1, .slice b1600p2 (optRes x0).nodes.length b1600c2, .slice b1600p3 (optRes x0).outputs.length b1600c3] 32) := ⟨_, rfl⟩
    have hb : Below E16.heap.size E16 E17 := by rw [hE]; exact (Below.refl _ _).alloc (Nat.le_refl _) _
    have bx17 : Box E17 E16.heap.size [.int .i64 (optRes x0).inputs, .slice b1600p1 (optRes x0).tables.length b1600c1, .slice b1600p2 (optRes x0).nodes.length b1600c2, .slice b1600p3 (optRes x0).outputs.length b1600c3] 32 := by rw [hE]; exact Box.newAt _ [.int .i64 (optRes x0).inputs, .slice b1600p1 (optRes x0).tables.length b1600c1, .slice b1600p2 (optRes x0).nodes.length b1600c2, .slice b1600p3 (optRes x0).outputs.length b1600c3] _ rfl
    rw [← hE]
    clear hE
    have hz17 : E16.heap.size ≤ E17.heap.size := hb.size
    have hB17 := hB16.trans (hb.mono hB16.size)
    have ba0_17 := ba0_16.below hb
    have bx4_17 := bx4_16.below hb
    have bx6_17 := bx6_16.below hb
    have bx8_17 := bx8_16.below hb
    have o2_17 := o2_16.below hb
    have o3_0_17 := o3_0_16.below hb
    have o5_17 := o5_16.below hb
    have o7_0_17 := o7_0_16.below hb
    have o15_17 := o15_16.below hb
    have o16_0_17 := o16_0.below hb
    clear hb hB16 ba0_16 bx4_16 bx6_16 bx8_16 o2_16 o3_0_16 o5_16 o7_0_16 o15_16 o16_0
    refine (eqPatch_v _ o16_0_17.rd o3_0_17.rd).mono ?_
    rintro e E18 ⟨rfl, hb⟩
    have hz18 : E17.heap.size ≤ E18.heap.size := hb.size
    have hB18 := hB17.trans (hb.mono hB17.size)
    have ba0_18 := ba0_17.below hb
    have bx4_18 := bx4_17.below hb
    have bx6_18 := bx6_17.below hb
    have bx8_18 := bx8_17.below hb
    have bx17_18 := bx17.below hb
    have o2_18 := o2_17.below hb
    have o3_0_18 := o3_0_17.below hb
    have o5_18 := o5_17.below hb
    have o7_0_18 := o7_0_17.below hb
    have o15_18 := o15_17.below hb
    have o16_0_18 := o16_0_17.below hb
    clear hb hB17 ba0_17 bx4_17 bx6_17 bx8_17 bx17 o2_17 o3_0_17 o5_17 o7_0_17 o15_17 o16_0_17
    have z_bx8_0 := bx8_18.cell 0 rfl
    have z_bx8_1 := bx8_18.cell 1 rfl
    have z_bx8_2 := bx8_18.cell 2 rfl
    have z_bx8_3 := bx8_18.cell 3 rfl
    go_wp2_with fail
    clear z_bx8_0 z_bx8_1 z_bx8_2 z_bx8_3
    refine (heldPatch_v (x := (optRes x0)) _ _ o7_0_18.rd (by omega) (by omega)).mono ?_
    rintro e E19 ⟨rfl, hb⟩
    have hz19 : E18.heap.size ≤ E19.heap.size := hb.size
    have hB19 := hB18.trans (hb.mono hB18.size)
    have ba0_19 := ba0_18.below hb
    have bx4_19 := bx4_18.below hb
    have bx6_19 := bx6_18.below hb
    have bx8_19 := bx8_18.below hb
    have bx17_19 := bx17_18.below hb
    have o2_19 := o2_18.below hb
    have o3_0_19 := o3_0_18.below hb
    have o5_19 := o5_18.below hb
    have o7_0_19 := o7_0_18.below hb
    have o15_19 := o15_18.below hb
    have o16_0_19 := o16_0_18.below hb
    clear hb hB18 ba0_18 bx4_18 bx6_18 bx8_18 bx17_18 o2_18 o3_0_18 o5_18 o7_0_18 o15_18 o16_0_18
    go_wp2_with fail
    go_ret
    exact ⟨rfl, hB19⟩

end Go.Proofs.YtonkdndpfnapjaaGreat
