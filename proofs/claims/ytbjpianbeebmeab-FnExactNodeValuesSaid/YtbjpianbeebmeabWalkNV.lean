/-
  The walks of exact laws on patches.
-/
import Derived.Test.YtbjpianbeebmeabFrameN
namespace Go.Proofs.Ytbjpianbeebmeab
open Go.ChangeShapes Go.WideShapes Go.ChangeAt Go.RowKit
set_option linter.unusedVariables false
set_option linter.unusedSimpArgs false

set_option maxHeartbeats 8000000 in
set_option maxRecDepth 100000 in
theorem fnExactNodeValues_walk (w : World) {v0 : Value} {x0 : PatchD} (h0 : VPatch w v0 x0) {v1 : Value} {x1 : StateD} (h1 : VState w v1 x1) {v2 : Value} {x2 : List Int} (h2 : VI w v2 x2) :
    Calls Try.prog 3 #[v0, v1, v2] w fun e w' => e = .returned (.bool true) ∧ Below w.heap.size w w' := by
  have hv0 := h0
  obtain ⟨a0p1, a0c1, a0p2, a0c2, a0p3, a0c3, rfl, -, -, -⟩ := hv0
  have hv1 := h1
  obtain ⟨a1p0, a1c0, rfl, -⟩ := hv1
  have hv2 := h2
  obtain ⟨a2p, a2c, rfl, hr2⟩ := hv2
  have hl2 := hr2.len
  unfold maxLen at hl2
  clear hr2
  obtain ⟨E0, hE0⟩ : ∃ E, E = ((w.alloc (.cells #[.int .i64 x0.inputs, .slice a0p1 x0.tables.length a0c1, .slice a0p2 x0.nodes.length a0c2, .slice a0p3 x0.outputs.length a0c3] 26)).alloc (.cells #[.slice a1p0 x1.rows.length a1c0] 28)) := ⟨_, rfl⟩
  have HB0 : Below w.heap.size w E0 := by rw [hE0]; exact (((Below.refl _ _).alloc (Nat.le_refl _) _).alloc (by simp) _)
  have ba0 : Box E0 (w.heap.size) [.int .i64 x0.inputs, .slice a0p1 x0.tables.length a0c1, .slice a0p2 x0.nodes.length a0c2, .slice a0p3 x0.outputs.length a0c3] 26 := by rw [hE0]; exact (Box.newAt _ [.int .i64 x0.inputs, .slice a0p1 x0.tables.length a0c1, .slice a0p2 x0.nodes.length a0c2, .slice a0p3 x0.outputs.length a0c3] _ (by simp)).alloc _
  have lq_ba0 := ba0.lt
  have ba1 : Box E0 (w.heap.size + 1) [.slice a1p0 x1.rows.length a1c0] 28 := by rw [hE0]; exact Box.newAt _ [.slice a1p0 x1.rows.length a1c0] _ (by simp)
  have lq_ba1 := ba1.lt
  have HE0 := Lib.hid hE0
  clear hE0
  by_cases n2 : (1048576 : Int) < (x2.length : Int)
  case pos =>
    go_enter Try.func3, Try.ntmps3
    go_wp2_with fail
    go_ret
    exact ⟨rfl, by rw [← HE0.out]; exact HB0⟩
  go_enter Try.func3, Try.ntmps3
  go_wp2_with fail
  rw [← HE0.out]
  refine (szPatch_v _ _ (h0.below HB0) (by omega) (by omega)).mono ?_
  rintro e E1 ⟨rfl, hb⟩
  have hz1 : E0.heap.size ≤ E1.heap.size := hb.size
  have hB1 := HB0.trans (hb.mono HB0.size)
  have ba0_1 := ba0.below hb
  have ba1_1 := ba1.below hb
  clear hb ba0 ba1
  by_cases k1 : szF 1048576 (wtPatch x0) < 0
  case pos =>
    go_wp2_with fail
    go_ret
    exact ⟨rfl, hB1⟩
  have hn0 : wtPatch x0 ≤ 1048576 := by have := (szF_pos k1).2; omega
  have s1 := (szF_pos k1).1
  have l1 : 0 ≤ szF 1048576 (wtPatch x0) := by omega
  have g1 : szF 1048576 (wtPatch x0) ≤ 1048576 := by omega
  clear s1
  have z_ba1_0 := ba1_1.cell 0 rfl
  go_wp2_with fail
  clear z_ba1_0
  refine (szState_v _ _ (h1.below hB1) (by omega) (by omega)).mono ?_
  rintro e E2 ⟨rfl, hb⟩
  have hz2 : E1.heap.size ≤ E2.heap.size := hb.size
  have hB2 := hB1.trans (hb.mono hB1.size)
  have ba0_2 := ba0_1.below hb
  have ba1_2 := ba1_1.below hb
  clear hb hB1 ba0_1 ba1_1
  by_cases k2 : szF (szF 1048576 (wtPatch x0)) (wtState x1) < 0
  case pos =>
    go_wp2_with fail
    go_ret
    exact ⟨rfl, hB2⟩
  have hn1 : wtState x1 ≤ 1048576 := by have := (szF_pos k2).2; omega
  have s2 := (szF_pos k2).1
  have l2 : 0 ≤ szF (szF 1048576 (wtPatch x0)) (wtState x1) := by omega
  have g2 : szF (szF 1048576 (wtPatch x0)) (wtState x1) ≤ 1048576 := by omega
  clear s2
  go_upto_region 10 with fail
  have z_ba0_0 := ba0_2.cell 0 rfl
  have z_ba0_1 := ba0_2.cell 1 rfl
  have z_ba0_2 := ba0_2.cell 2 rfl
  have z_ba0_3 := ba0_2.cell 3 rfl
  have z_ba1_0 := ba1_2.cell 0 rfl
  have lt_ba0 := ba0_2.lt
  have lt_ba1 := ba1_2.lt
  have CK : Hid (∀ W, Below E2.heap.size E2 W → W.cell? ⟨w.heap.size, 0, none⟩ = some (.int .i64 x0.inputs) ∧ W.cell? ⟨w.heap.size, 1, none⟩ = some (.slice a0p1 x0.tables.length a0c1) ∧ W.cell? ⟨w.heap.size, 2, none⟩ = some (.slice a0p2 x0.nodes.length a0c2) ∧ W.cell? ⟨w.heap.size, 3, none⟩ = some (.slice a0p3 x0.outputs.length a0c3) ∧ W.cell? ⟨w.heap.size + 1, 0, none⟩ = some (.slice a1p0 x1.rows.length a1c0)) := fun W hW => ⟨(hW.cell (p := ⟨w.heap.size, 0, none⟩) lt_ba0).trans z_ba0_0, (hW.cell (p := ⟨w.heap.size, 1, none⟩) lt_ba0).trans z_ba0_1, (hW.cell (p := ⟨w.heap.size, 2, none⟩) lt_ba0).trans z_ba0_2, (hW.cell (p := ⟨w.heap.size, 3, none⟩) lt_ba0).trans z_ba0_3, (hW.cell (p := ⟨w.heap.size + 1, 0, none⟩) lt_ba1).trans z_ba1_0⟩
  have hcur := belowDrew E2
  refine wp_region_plan (fun W => W.cell? ⟨w.heap.size, 0, none⟩ = some (.int .i64 x0.inputs) ∧ W.cell? ⟨w.heap.size, 1, none⟩ = some (.slice a0p1 x0.tables.length a0c1) ∧ W.cell? ⟨w.heap.size, 2, none⟩ = some (.slice a0p2 x0.nodes.length a0c2) ∧ W.cell? ⟨w.heap.size, 3, none⟩ = some (.slice a0p3 x0.outputs.length a0c3) ∧ W.cell? ⟨w.heap.size + 1, 0, none⟩ = some (.slice a1p0 x1.rows.length a1c0)) 10 [(0, 1), (2, 1), (4, 0), (1, 2), (3, 2), (5, 2), (6, 2), (7, 0), (8, 0), (9, 0), (10, 3), (11, 0)] (by kernel_rfl) (by kernel_rfl) (CK.out _ hcur) ?_
  repeat ((first | refine wpPlan_take (v := ?_) rfl (by rfl) (by (intro w hSw; clear hSw; go_simp; try with_reducible rfl)) (fun _ _ _ h => h) ?_ | refine wpPlan_load (v := ?_) rfl (by rfl) (by (intro w hSw; (try dsimp only at hSw); go_simp; try with_reducible rfl)) (fun _ _ _ h => h) ?_); try simp only [Act.put, List.setIfInBounds_toArray, List.set_cons_zero, List.set_cons_succ])
  refine wpPlan_call rfl (by rfl) (fun K hK => ?_)
  go_simp
  refine (toPatch_v _ (h0.below (hB2.trans (hcur.mono hB2.size))) hn0).mono ?_; rintro e G10_1 ⟨u, Mog10_1, rfl, og10_1, DD, hb⟩; clear DD; have hcur := hcur.trans (hb.mono hcur.size); obtain ⟨g10_1p1, g10_1c1, g10_1p2, g10_1c2, g10_1p3, g10_1c3, rfl, -, -, -⟩ := og10_1.rd
  refine hK _ _ (CK.out _ hcur) ?_
  clear hK K
  try simp only [Act.put, List.setIfInBounds_toArray, List.set_cons_zero, List.set_cons_succ]
  repeat ((first | refine wpPlan_take (v := ?_) rfl (by rfl) (by (intro w hSw; clear hSw; go_simp; try with_reducible rfl)) (fun _ _ _ h => h) ?_ | refine wpPlan_load (v := ?_) rfl (by rfl) (by (intro w hSw; (try dsimp only at hSw); go_simp; try with_reducible rfl)) (fun _ _ _ h => h) ?_); try simp only [Act.put, List.setIfInBounds_toArray, List.set_cons_zero, List.set_cons_succ])
  refine wpPlan_call rfl (by rfl) (fun K hK => ?_)
  go_simp
  refine (toState_v _ (h1.below (hB2.trans (hcur.mono hB2.size))) hn1).mono ?_; rintro e G10_2 ⟨u, Mog10_2, rfl, og10_2, DD, hb⟩; clear DD; have og10_1 := og10_1.below hb; have hcur := hcur.trans (hb.mono hcur.size); obtain ⟨g10_2p0, g10_2c0, rfl, -⟩ := og10_2.rd
  refine hK _ _ (CK.out _ hcur) ?_
  clear hK K
  try simp only [Act.put, List.setIfInBounds_toArray, List.set_cons_zero, List.set_cons_succ]
  repeat ((first | refine wpPlan_take (v := ?_) rfl (by rfl) (by (intro w hSw; clear hSw; go_simp; try with_reducible rfl)) (fun _ _ _ h => h) ?_ | refine wpPlan_load (v := ?_) rfl (by rfl) (by (intro w hSw; (try dsimp only at hSw); go_simp; try with_reducible rfl)) (fun _ _ _ h => h) ?_); try simp only [Act.put, List.setIfInBounds_toArray, List.set_cons_zero, List.set_cons_succ])
  refine wpPlan_call rfl (by rfl) (fun K hK => ?_)
  go_simp
  refine (toI_v _ (h2.below (hB2.trans (hcur.mono hB2.size))) (by unfold wtI; omega)).mono ?_; rintro e G10_3 ⟨u, Mog10_3, rfl, og10_3, DD, hb⟩; clear DD; have og10_1 := og10_1.below hb; have og10_2 := og10_2.below hb; have hcur := hcur.trans (hb.mono hcur.size); obtain ⟨g10_3p, g10_3c, rfl, -⟩ := og10_3.rd
  refine hK _ _ (CK.out _ hcur) ?_
  clear hK K
  try simp only [Act.put, List.setIfInBounds_toArray, List.set_cons_zero, List.set_cons_succ]
  repeat ((first | refine wpPlan_take (v := ?_) rfl (by rfl) (by (intro w hSw; clear hSw; go_simp; try with_reducible rfl)) (fun _ _ _ h => h) ?_ | refine wpPlan_load (v := ?_) rfl (by rfl) (by (intro w hSw; (try dsimp only at hSw); go_simp; try with_reducible rfl)) (fun _ _ _ h => h) ?_); try simp only [Act.put, List.setIfInBounds_toArray, List.set_cons_zero, List.set_cons_succ])
  refine wpPlan_call rfl (by rfl) (fun K hK => ?_)
  go_simp
  refine (specNodeValues_v _ og10_1.rd og10_2.rd og10_3.rd).mono ?_; rintro e E3 ⟨u, L3, rfl, o3, D3, hb⟩; have hszz := hcur.size; have hcur := hcur.trans (hb.mono hcur.size); obtain ⟨b300p, b300c, rfl, -⟩ := o3.rd
  refine hK _ _ (CK.out _ hcur) ?_
  clear hK K
  try simp only [Act.put, List.setIfInBounds_toArray, List.set_cons_zero, List.set_cons_succ]
  repeat ((first | refine wpPlan_take (v := ?_) rfl (by rfl) (by (intro w hSw; clear hSw; go_simp; try with_reducible rfl)) (fun _ _ _ h => h) ?_ | refine wpPlan_load (v := ?_) rfl (by rfl) (by (intro w hSw; (try dsimp only at hSw); go_simp; try with_reducible rfl)) (fun _ _ _ h => h) ?_); try simp only [Act.put, List.setIfInBounds_toArray, List.set_cons_zero, List.set_cons_succ])
  refine wpPlan_store rfl (by rfl) (fun K hK => ?_)
  go_simp
  refine hK _ _ ?_
  clear hK K
  try simp only [Act.put, List.setIfInBounds_toArray, List.set_cons_zero, List.set_cons_succ]
  repeat ((first | refine wpPlan_take (v := ?_) rfl (by rfl) (by (intro w hSw; clear hSw; go_simp; try with_reducible rfl)) (fun _ _ _ h => h) ?_ | refine wpPlan_load (v := ?_) rfl (by rfl) (by (intro w hSw; (try dsimp only at hSw); go_simp; try with_reducible rfl)) (fun _ _ _ h => h) ?_); try simp only [Act.put, List.setIfInBounds_toArray, List.set_cons_zero, List.set_cons_succ])
  refine wpPlan_nil ?_
  replace o3 := o3.mono hszz
  have hb := hcur
  clear CK hszz z_ba0_0 z_ba0_1 z_ba0_2 z_ba0_3 z_ba1_0 lt_ba0 lt_ba1 og10_1 og10_2 og10_3
  have HBW_o3 : Hid (w.heap.size ≤ E2.heap.size) := hB2.size
  have HR_o3 : Hid (∀ b, Blk L3 b → E2.heap.size ≤ b ∧ b < E3.heap.size) := fun b hbk => o3.blk hbk
  have hz3 : E2.heap.size ≤ E3.heap.size := hb.size
  have hB3 := hB2.trans (hb.mono hB2.size)
  have ba0_3 := ba0_2.below hb
  have ba1_3 := ba1_2.below hb
  clear hb hB2 ba0_2 ba1_2
  clear hcur
  have z_ba0_0 := ba0_3.cell 0 rfl
  have z_ba0_1 := ba0_3.cell 1 rfl
  have z_ba0_2 := ba0_3.cell 2 rfl
  have z_ba0_3 := ba0_3.cell 3 rfl
  go_wp2_with fail
  clear z_ba0_0 z_ba0_1 z_ba0_2 z_ba0_3
  refine (toPatch_v _ (h0.below hB3) hn0).mono ?_
  rintro e E4 ⟨u4, L4, rfl, o4, D4, hb⟩
  have HBW_o4 : Hid (w.heap.size ≤ E3.heap.size) := hB3.size
  have HR_o4 : Hid (∀ b, Blk L4 b → E3.heap.size ≤ b ∧ b < E4.heap.size) := fun b hbk => o4.blk hbk
  have hz4 : E3.heap.size ≤ E4.heap.size := hb.size
  have hB4 := hB3.trans (hb.mono hB3.size)
  have ba0_4 := ba0_3.below hb
  have ba1_4 := ba1_3.below hb
  have o3_4 := o3.below hb
  clear hb hB3 ba0_3 ba1_3 o3
  have hv := o4.rd
  obtain ⟨b4p1, b4c1, b4p2, b4c2, b4p3, b4c3, rfl, -, -, -⟩ := hv
  have z_ba1_0 := (ba1_4.alloc (.cells #[.int .i64 x0.inputs, .slice b4p1 x0.tables.length b4c1, .slice b4p2 x0.nodes.length b4c2, .slice b4p3 x0.outputs.length b4c3] 35)).cell 0 rfl
  go_wp2_with fail
  clear z_ba1_0
  obtain ⟨E5, hE⟩ : ∃ E, E = E4.alloc (.cells #[.int .i64 x0.inputs, .slice b4p1 x0.tables.length b4c1, .slice b4p2 x0.nodes.length b4c2, .slice b4p3 x0.outputs.length b4c3] 35) := ⟨_, rfl⟩
  have hb : Below E4.heap.size E4 E5 := by rw [hE]; exact (Below.refl _ _).alloc (Nat.le_refl _) _
  have bx5 : Box E5 E4.heap.size [.int .i64 x0.inputs, .slice b4p1 x0.tables.length b4c1, .slice b4p2 x0.nodes.length b4c2, .slice b4p3 x0.outputs.length b4c3] 35 := by rw [hE]; exact Box.newAt _ [.int .i64 x0.inputs, .slice b4p1 x0.tables.length b4c1, .slice b4p2 x0.nodes.length b4c2, .slice b4p3 x0.outputs.length b4c3] _ rfl
  rw [← hE]
  clear hE
  have lq_bx5 := bx5.lt
  have hz5 : E4.heap.size ≤ E5.heap.size := hb.size
  have hB5 := hB4.trans (hb.mono hB4.size)
  have ba0_5 := ba0_4.below hb
  have ba1_5 := ba1_4.below hb
  have o3_5 := o3_4.below hb
  have o4_5 := o4.below hb
  clear hb hB4 ba0_4 ba1_4 o3_4 o4
  refine (toState_v _ (h1.below hB5) hn1).mono ?_
  rintro e E6 ⟨u6, L6, rfl, o6, D6, hb⟩
  have HBW_o6 : Hid (w.heap.size ≤ E5.heap.size) := hB5.size
  have HR_o6 : Hid (∀ b, Blk L6 b → E5.heap.size ≤ b ∧ b < E6.heap.size) := fun b hbk => o6.blk hbk
  have hz6 : E5.heap.size ≤ E6.heap.size := hb.size
  have hB6 := hB5.trans (hb.mono hB5.size)
  have ba0_6 := ba0_5.below hb
  have ba1_6 := ba1_5.below hb
  have bx5_6 := bx5.below hb
  have o3_6 := o3_5.below hb
  have o4_6 := o4_5.below hb
  clear hb hB5 ba0_5 ba1_5 bx5 o3_5 o4_5
  have hv := o6.rd
  obtain ⟨b6p0, b6c0, rfl, -⟩ := hv
  go_wp2_with fail
  obtain ⟨E7, hE⟩ : ∃ E, E = E6.alloc (.cells #[.slice b6p0 x1.rows.length b6c0] 37) := ⟨_, rfl⟩
  have hb : Below E6.heap.size E6 E7 := by rw [hE]; exact (Below.refl _ _).alloc (Nat.le_refl _) _
  have bx7 : Box E7 E6.heap.size [.slice b6p0 x1.rows.length b6c0] 37 := by rw [hE]; exact Box.newAt _ [.slice b6p0 x1.rows.length b6c0] _ rfl
  rw [← hE]
  clear hE
  have lq_bx7 := bx7.lt
  have hz7 : E6.heap.size ≤ E7.heap.size := hb.size
  have hB7 := hB6.trans (hb.mono hB6.size)
  have ba0_7 := ba0_6.below hb
  have ba1_7 := ba1_6.below hb
  have bx5_7 := bx5_6.below hb
  have o3_7 := o3_6.below hb
  have o4_7 := o4_6.below hb
  have o6_7 := o6.below hb
  clear hb hB6 ba0_6 ba1_6 bx5_6 o3_6 o4_6 o6
  refine (toI_v _ (h2.below hB7) (by unfold wtI; omega)).mono ?_
  rintro e E8 ⟨u8, L8, rfl, o8, D8, hb⟩
  have HBW_o8 : Hid (w.heap.size ≤ E7.heap.size) := hB7.size
  have HR_o8 : Hid (∀ b, Blk L8 b → E7.heap.size ≤ b ∧ b < E8.heap.size) := fun b hbk => o8.blk hbk
  have hz8 : E7.heap.size ≤ E8.heap.size := hb.size
  have hB8 := hB7.trans (hb.mono hB7.size)
  have ba0_8 := ba0_7.below hb
  have ba1_8 := ba1_7.below hb
  have bx5_8 := bx5_7.below hb
  have bx7_8 := bx7.below hb
  have o3_8 := o3_7.below hb
  have o4_8 := o4_7.below hb
  have o6_8 := o6_7.below hb
  clear hb hB7 ba0_7 ba1_7 bx5_7 bx7 o3_7 o4_7 o6_7
  have hv := o8.rd
  obtain ⟨b8p, b8c, rfl, -⟩ := hv
  have z_bx5_0 := bx5_8.cell 0 rfl
  have z_bx5_1 := bx5_8.cell 1 rfl
  have z_bx5_2 := bx5_8.cell 2 rfl
  have z_bx5_3 := bx5_8.cell 3 rfl
  have z_bx7_0 := bx7_8.cell 0 rfl
  go_wp2_with fail
  clear z_bx5_0 z_bx5_1 z_bx5_2 z_bx5_3 z_bx7_0
  refine (implNodeValues_v _ o4_8.rd o6_8.rd o8.rd).mono ?_
  rintro e E9 ⟨u9_0, L9_0, rfl, o9_0, D9, hb⟩
  have HBW_o9_0 : Hid (w.heap.size ≤ E8.heap.size) := hB8.size
  have HR_o9_0 : Hid (∀ b, Blk L9_0 b → E8.heap.size ≤ b ∧ b < E9.heap.size) := fun b hbk => o9_0.blk hbk
  have hz9 : E8.heap.size ≤ E9.heap.size := hb.size
  have hB9 := hB8.trans (hb.mono hB8.size)
  have ba0_9 := ba0_8.below hb
  have ba1_9 := ba1_8.below hb
  have bx5_9 := bx5_8.below hb
  have bx7_9 := bx7_8.below hb
  have o3_9 := o3_8.below hb
  have o4_9 := o4_8.below hb
  have o6_9 := o6_8.below hb
  have o8_9 := o8.below hb
  clear hb hB8 ba0_8 ba1_8 bx5_8 bx7_8 o3_8 o4_8 o6_8 o8
  have hv := o9_0.rd
  obtain ⟨b900p, b900c, rfl, -⟩ := hv
  go_wp2_with fail
  refine (eqI_v _ o9_0.rd o3_9.rd).mono ?_
  rintro e E10 ⟨rfl, hb⟩
  have hz10 : E9.heap.size ≤ E10.heap.size := hb.size
  have hB10 := hB9.trans (hb.mono hB9.size)
  have ba0_10 := ba0_9.below hb
  have ba1_10 := ba1_9.below hb
  have bx5_10 := bx5_9.below hb
  have bx7_10 := bx7_9.below hb
  have o3_10 := o3_9.below hb
  have o4_10 := o4_9.below hb
  have o6_10 := o6_9.below hb
  have o8_10 := o8_9.below hb
  have o9_0_10 := o9_0.below hb
  clear hb hB9 ba0_9 ba1_9 bx5_9 bx7_9 o3_9 o4_9 o6_9 o8_9 o9_0
  go_upto_region 17 with fail
  go_cut [69] (fun s69 wr => s69 = .bool false ∧ Below E10.heap.size E10 wr)
  case first =>
    have z_bx5_0 := bx5_10.cell 0 rfl
    have z_bx5_1 := bx5_10.cell 1 rfl
    have z_bx5_2 := bx5_10.cell 2 rfl
    have z_bx5_3 := bx5_10.cell 3 rfl
    have z_ba0_0 := ba0_10.cell 0 rfl
    have z_ba0_1 := ba0_10.cell 1 rfl
    have z_ba0_2 := ba0_10.cell 2 rfl
    have z_ba0_3 := ba0_10.cell 3 rfl
    go_region_with (first | (go_at_call_of 7 (Value.agg #[.int .i64 x0.inputs, .slice a0p1 x0.tables.length a0c1, .slice a0p2 x0.nodes.length a0c2, .slice a0p3 x0.outputs.length a0c3]); refine (toPatch_v _ ((h0.below hB10).below (below_drew' (Below.refl _ _))) hn0).mono ?_; rintro e G17_1 ⟨u, L, rfl, o17_1, DD, hb⟩; clear DD; have hbb : Below E10.heap.size E10 G17_1 := below_drew' hb; have hBG17_1 := hB10.trans (hbb.mono hB10.size); have hRG17_1 := hbb; have o3G17_1 := o3_10.below hbb; have o4G17_1 := o4_10.below hbb; have o6G17_1 := o6_10.below hbb; have o8G17_1 := o8_10.below hbb; have o9_0G17_1 := o9_0_10.below hbb; have bx5G17_1 := bx5_10.below hbb; have y_bx5_0 := bx5G17_1.cell 0 rfl; have y_bx5_1 := bx5G17_1.cell 1 rfl; have y_bx5_2 := bx5G17_1.cell 2 rfl; have y_bx5_3 := bx5G17_1.cell 3 rfl; have ba0G17_1 := ba0_10.below hbb; have y_ba0_0 := ba0G17_1.cell 0 rfl; have y_ba0_1 := ba0G17_1.cell 1 rfl; have y_ba0_2 := ba0G17_1.cell 2 rfl; have y_ba0_3 := ba0G17_1.cell 3 rfl; clear hb hbb) | (go_at_call 12; refine (eqPatch_v _ o4G17_1.rd o17_1.rd).mono ?_; rintro e G17_2 ⟨rfl, hb⟩; have hbb : Below G17_1.heap.size G17_1 G17_2 := hb; have hBG17_2 := hBG17_1.trans (hbb.mono hBG17_1.size); have hRG17_2 := hRG17_1.trans (hbb.mono hRG17_1.size); have o3G17_2 := o3G17_1.below hbb; have o4G17_2 := o4G17_1.below hbb; have o6G17_2 := o6G17_1.below hbb; have o8G17_2 := o8G17_1.below hbb; have o9_0G17_2 := o9_0G17_1.below hbb; have o17_1G17_2 := o17_1.below hbb; have bx5G17_2 := bx5G17_1.below hbb; have ba0G17_2 := ba0G17_1.below hbb; clear hb hbb))
    all_goals (go_wp2_with fail; go_meet; exact ⟨rfl, hRG17_2⟩)
  case rest =>
    obtain ⟨rfl, hb⟩ := hcut
    obtain ⟨E11, rfl⟩ : ∃ E, E = wc := ⟨_, rfl⟩
    have hz11 : E10.heap.size ≤ E11.heap.size := hb.size
    have hB11 := hB10.trans (hb.mono hB10.size)
    have ba0_11 := ba0_10.below hb
    have ba1_11 := ba1_10.below hb
    have bx5_11 := bx5_10.below hb
    have bx7_11 := bx7_10.below hb
    have o3_11 := o3_10.below hb
    have o4_11 := o4_10.below hb
    have o6_11 := o6_10.below hb
    have o8_11 := o8_10.below hb
    have o9_0_11 := o9_0_10.below hb
    clear hb hB10 ba0_10 ba1_10 bx5_10 bx7_10 o3_10 o4_10 o6_10 o8_10 o9_0_10
    go_upto_region 19 with fail
    go_cut [74] (fun s74 wr => s74 = .bool false ∧ Below E11.heap.size E11 wr)
    case first =>
      have z_bx7_0 := bx7_11.cell 0 rfl
      have z_ba1_0 := ba1_11.cell 0 rfl
      go_region_with (first | (go_at_call_of 8 (Value.agg #[.slice a1p0 x1.rows.length a1c0]); refine (toState_v _ ((h1.below hB11).below (below_drew' (Below.refl _ _))) hn1).mono ?_; rintro e G19_1 ⟨u, L, rfl, o19_1, DD, hb⟩; clear DD; have hbb : Below E11.heap.size E11 G19_1 := below_drew' hb; have hBG19_1 := hB11.trans (hbb.mono hB11.size); have hRG19_1 := hbb; have o3G19_1 := o3_11.below hbb; have o4G19_1 := o4_11.below hbb; have o6G19_1 := o6_11.below hbb; have o8G19_1 := o8_11.below hbb; have o9_0G19_1 := o9_0_11.below hbb; have bx7G19_1 := bx7_11.below hbb; have y_bx7_0 := bx7G19_1.cell 0 rfl; have ba1G19_1 := ba1_11.below hbb; have y_ba1_0 := ba1G19_1.cell 0 rfl; clear hb hbb) | (go_at_call 13; refine (eqState_v _ o6G19_1.rd o19_1.rd).mono ?_; rintro e G19_2 ⟨rfl, hb⟩; have hbb : Below G19_1.heap.size G19_1 G19_2 := hb; have hBG19_2 := hBG19_1.trans (hbb.mono hBG19_1.size); have hRG19_2 := hRG19_1.trans (hbb.mono hRG19_1.size); have o3G19_2 := o3G19_1.below hbb; have o4G19_2 := o4G19_1.below hbb; have o6G19_2 := o6G19_1.below hbb; have o8G19_2 := o8G19_1.below hbb; have o9_0G19_2 := o9_0G19_1.below hbb; have o19_1G19_2 := o19_1.below hbb; have bx7G19_2 := bx7G19_1.below hbb; have ba1G19_2 := ba1G19_1.below hbb; clear hb hbb))
      all_goals (go_wp2_with fail; go_meet; exact ⟨rfl, hRG19_2⟩)
    case rest =>
      obtain ⟨rfl, hb⟩ := hcut
      obtain ⟨E12, rfl⟩ : ∃ E, E = wc := ⟨_, rfl⟩
      have hz12 : E11.heap.size ≤ E12.heap.size := hb.size
      have hB12 := hB11.trans (hb.mono hB11.size)
      have ba0_12 := ba0_11.below hb
      have ba1_12 := ba1_11.below hb
      have bx5_12 := bx5_11.below hb
      have bx7_12 := bx7_11.below hb
      have o3_12 := o3_11.below hb
      have o4_12 := o4_11.below hb
      have o6_12 := o6_11.below hb
      have o8_12 := o8_11.below hb
      have o9_0_12 := o9_0_11.below hb
      clear hb hB11 ba0_11 ba1_11 bx5_11 bx7_11 o3_11 o4_11 o6_11 o8_11 o9_0_11
      go_wp2_with fail
      refine (toI_v _ (h2.below hB12) (by unfold wtI; omega)).mono ?_
      rintro e E13 ⟨u13, L13, rfl, o13, D13, hb⟩
      have HBW_o13 : Hid (w.heap.size ≤ E12.heap.size) := hB12.size
      have HR_o13 : Hid (∀ b, Blk L13 b → E12.heap.size ≤ b ∧ b < E13.heap.size) := fun b hbk => o13.blk hbk
      have hz13 : E12.heap.size ≤ E13.heap.size := hb.size
      have hB13 := hB12.trans (hb.mono hB12.size)
      have ba0_13 := ba0_12.below hb
      have ba1_13 := ba1_12.below hb
      have bx5_13 := bx5_12.below hb
      have bx7_13 := bx7_12.below hb
      have o3_13 := o3_12.below hb
      have o4_13 := o4_12.below hb
      have o6_13 := o6_12.below hb
      have o8_13 := o8_12.below hb
      have o9_0_13 := o9_0_12.below hb
      clear hb hB12 ba0_12 ba1_12 bx5_12 bx7_12 o3_12 o4_12 o6_12 o8_12 o9_0_12
      have hv := o13.rd
      obtain ⟨b13p, b13c, rfl, -⟩ := hv
      go_wp2_with fail
      refine (eqI_v _ o8_13.rd o13.rd).mono ?_
      rintro e E14 ⟨rfl, hb⟩
      have hz14 : E13.heap.size ≤ E14.heap.size := hb.size
      have hB14 := hB13.trans (hb.mono hB13.size)
      have ba0_14 := ba0_13.below hb
      have ba1_14 := ba1_13.below hb
      have bx5_14 := bx5_13.below hb
      have bx7_14 := bx7_13.below hb
      have o3_14 := o3_13.below hb
      have o4_14 := o4_13.below hb
      have o6_14 := o6_13.below hb
      have o8_14 := o8_13.below hb
      have o9_0_14 := o9_0_13.below hb
      have o13_14 := o13.below hb
      clear hb hB13 ba0_13 ba1_13 bx5_13 bx7_13 o3_13 o4_13 o6_13 o8_13 o9_0_13 o13
      have z_bx5_0 := bx5_14.cell 0 rfl
      have z_bx5_1 := bx5_14.cell 1 rfl
      have z_bx5_2 := bx5_14.cell 2 rfl
      have z_bx5_3 := bx5_14.cell 3 rfl
      go_wp2_with fail
      clear z_bx5_0 z_bx5_1 z_bx5_2 z_bx5_3
      have hc_o4 := (show cntPatch x0 ≤ 6291456 by have h1 := cntPatch_le x0; have h2 := hn0; omega)
      refine (markPatch_v _ _ o4_14 D4 (by omega) (by omega)).mono ?_
      rintro e E15 ⟨rfl, om15, hf⟩
      have hz15 : E14.heap.size ≤ E15.heap.size := hf.size
      have hB15 := hB14.trans (hf.below (fun b hbk => by have h1 := (HR_o4.out b hbk).1; have h2 := HBW_o4.out; omega) hB14.size)
      (first | (have ba0_15 := ba0_14.offBlk (by decide) o4_14.ints hf) | (have ba0_15 := ba0_14.off hf (fun hbk => by have h1 := HR_o4.out _ hbk; omega)))
      (first | (have ba1_15 := ba1_14.offBlk (by decide) o4_14.ints hf) | (have ba1_15 := ba1_14.off hf (fun hbk => by have h1 := HR_o4.out _ hbk; omega)))
      (first | (have bx5_15 := bx5_14.offBlk (by decide) o4_14.ints hf) | (have bx5_15 := bx5_14.off hf (fun hbk => by have h1 := HR_o4.out _ hbk; omega)))
      (first | (have bx7_15 := bx7_14.offBlk (by decide) o4_14.ints hf) | (have bx7_15 := bx7_14.off hf (fun hbk => by have h1 := HR_o4.out _ hbk; omega)))
      have o3_15 := o3_14.offBlk o4_14.ints (apart (fun x h => (HR_o3.out x h).2) (fun x h => (HR_o4.out x h).1) (by omega)) hf
      have o6_15 := o6_14.offBlk o4_14.ints (apart' (fun x h => (HR_o4.out x h).2) (fun x h => (HR_o6.out x h).1) (by omega)) hf
      have o8_15 := o8_14.offBlk o4_14.ints (apart' (fun x h => (HR_o4.out x h).2) (fun x h => (HR_o8.out x h).1) (by omega)) hf
      have o9_0_15 := o9_0_14.offBlk o4_14.ints (apart' (fun x h => (HR_o4.out x h).2) (fun x h => (HR_o9_0.out x h).1) (by omega)) hf
      have o13_15 := o13_14.offBlk o4_14.ints (apart' (fun x h => (HR_o4.out x h).2) (fun x h => (HR_o13.out x h).1) (by omega)) hf
      clear hf hB14 ba0_14 ba1_14 bx5_14 bx7_14 o3_14 o6_14 o8_14 o9_0_14 o13_14 o4_14
      have z_bx7_0 := bx7_15.cell 0 rfl
      go_wp2_with fail
      clear z_bx7_0
      have hc_o6 := (Nat.le_trans (cntState_le x1) hn1)
      refine (markState_v _ _ o6_15 D6 (by omega) (by omega)).mono ?_
      rintro e E16 ⟨rfl, om16, hf⟩
      have hz16 : E15.heap.size ≤ E16.heap.size := hf.size
      have hB16 := hB15.trans (hf.below (fun b hbk => by have h1 := (HR_o6.out b hbk).1; have h2 := HBW_o6.out; omega) hB15.size)
      (first | (have ba0_16 := ba0_15.offBlk (by decide) o6_15.ints hf) | (have ba0_16 := ba0_15.off hf (fun hbk => by have h1 := HR_o6.out _ hbk; omega)))
      (first | (have ba1_16 := ba1_15.offBlk (by decide) o6_15.ints hf) | (have ba1_16 := ba1_15.off hf (fun hbk => by have h1 := HR_o6.out _ hbk; omega)))
      (first | (have bx5_16 := bx5_15.offBlk (by decide) o6_15.ints hf) | (have bx5_16 := bx5_15.off hf (fun hbk => by have h1 := HR_o6.out _ hbk; omega)))
      (first | (have bx7_16 := bx7_15.offBlk (by decide) o6_15.ints hf) | (have bx7_16 := bx7_15.off hf (fun hbk => by have h1 := HR_o6.out _ hbk; omega)))
      have o3_16 := o3_15.offBlk o6_15.ints (apart (fun x h => (HR_o3.out x h).2) (fun x h => (HR_o6.out x h).1) (by omega)) hf
      have o4_16 := om15.offBlk o6_15.ints (apart (fun x h => (HR_o4.out x h).2) (fun x h => (HR_o6.out x h).1) (by omega)) hf
      have o8_16 := o8_15.offBlk o6_15.ints (apart' (fun x h => (HR_o6.out x h).2) (fun x h => (HR_o8.out x h).1) (by omega)) hf
      have o9_0_16 := o9_0_15.offBlk o6_15.ints (apart' (fun x h => (HR_o6.out x h).2) (fun x h => (HR_o9_0.out x h).1) (by omega)) hf
      have o13_16 := o13_15.offBlk o6_15.ints (apart' (fun x h => (HR_o6.out x h).2) (fun x h => (HR_o13.out x h).1) (by omega)) hf
      clear hf hB15 ba0_15 ba1_15 bx5_15 bx7_15 o3_15 om15 o8_15 o9_0_15 o13_15 o6_15
      go_wp2_with fail
      have hc_o8 := (show cntI x2 ≤ 1048576 by unfold cntI; omega)
      refine (markI_v _ _ o8_16 D8 (by omega) (by omega)).mono ?_
      rintro e E17 ⟨rfl, om17, hf⟩
      have hz17 : E16.heap.size ≤ E17.heap.size := hf.size
      have hB17 := hB16.trans (hf.below (fun b hbk => by have h1 := (HR_o8.out b hbk).1; have h2 := HBW_o8.out; omega) hB16.size)
      (first | (have ba0_17 := ba0_16.offBlk (by decide) o8_16.ints hf) | (have ba0_17 := ba0_16.off hf (fun hbk => by have h1 := HR_o8.out _ hbk; omega)))
      (first | (have ba1_17 := ba1_16.offBlk (by decide) o8_16.ints hf) | (have ba1_17 := ba1_16.off hf (fun hbk => by have h1 := HR_o8.out _ hbk; omega)))
      (first | (have bx5_17 := bx5_16.offBlk (by decide) o8_16.ints hf) | (have bx5_17 := bx5_16.off hf (fun hbk => by have h1 := HR_o8.out _ hbk; omega)))
      (first | (have bx7_17 := bx7_16.offBlk (by decide) o8_16.ints hf) | (have bx7_17 := bx7_16.off hf (fun hbk => by have h1 := HR_o8.out _ hbk; omega)))
      have o3_17 := o3_16.offBlk o8_16.ints (apart (fun x h => (HR_o3.out x h).2) (fun x h => (HR_o8.out x h).1) (by omega)) hf
      have o4_17 := o4_16.offBlk o8_16.ints (apart (fun x h => (HR_o4.out x h).2) (fun x h => (HR_o8.out x h).1) (by omega)) hf
      have o6_17 := om16.offBlk o8_16.ints (apart (fun x h => (HR_o6.out x h).2) (fun x h => (HR_o8.out x h).1) (by omega)) hf
      have o9_0_17 := o9_0_16.offBlk o8_16.ints (apart' (fun x h => (HR_o8.out x h).2) (fun x h => (HR_o9_0.out x h).1) (by omega)) hf
      have o13_17 := o13_16.offBlk o8_16.ints (apart' (fun x h => (HR_o8.out x h).2) (fun x h => (HR_o13.out x h).1) (by omega)) hf
      clear hf hB16 ba0_16 ba1_16 bx5_16 bx7_16 o3_16 o4_16 om16 o9_0_16 o13_16 o8_16
      go_wp2_with fail
      refine (eqI_v _ o9_0_17.rd o3_17.rd).mono ?_
      rintro e E18 ⟨rfl, hb⟩
      have hz18 : E17.heap.size ≤ E18.heap.size := hb.size
      have hB18 := hB17.trans (hb.mono hB17.size)
      have ba0_18 := ba0_17.below hb
      have ba1_18 := ba1_17.below hb
      have bx5_18 := bx5_17.below hb
      have bx7_18 := bx7_17.below hb
      have o3_18 := o3_17.below hb
      have o4_18 := o4_17.below hb
      have o6_18 := o6_17.below hb
      have o8_18 := om17.below hb
      have o9_0_18 := o9_0_17.below hb
      have o13_18 := o13_17.below hb
      clear hb hB17 ba0_17 ba1_17 bx5_17 bx7_17 o3_17 o4_17 o6_17 om17 o9_0_17 o13_17
      go_wp2_with fail
      have hc_o9_0 := nvRes_small x0 x1 x2
      refine (markI_v _ _ o9_0_18 D9 (by omega) (by omega)).mono ?_
      rintro e E19 ⟨rfl, om19, hf⟩
      have hz19 : E18.heap.size ≤ E19.heap.size := hf.size
      have hB19 := hB18.trans (hf.below (fun b hbk => by have h1 := (HR_o9_0.out b hbk).1; have h2 := HBW_o9_0.out; omega) hB18.size)
      (first | (have ba0_19 := ba0_18.offBlk (by decide) o9_0_18.ints hf) | (have ba0_19 := ba0_18.off hf (fun hbk => by have h1 := HR_o9_0.out _ hbk; omega)))
      (first | (have ba1_19 := ba1_18.offBlk (by decide) o9_0_18.ints hf) | (have ba1_19 := ba1_18.off hf (fun hbk => by have h1 := HR_o9_0.out _ hbk; omega)))
      (first | (have bx5_19 := bx5_18.offBlk (by decide) o9_0_18.ints hf) | (have bx5_19 := bx5_18.off hf (fun hbk => by have h1 := HR_o9_0.out _ hbk; omega)))
      (first | (have bx7_19 := bx7_18.offBlk (by decide) o9_0_18.ints hf) | (have bx7_19 := bx7_18.off hf (fun hbk => by have h1 := HR_o9_0.out _ hbk; omega)))
      have o3_19 := o3_18.offBlk o9_0_18.ints (apart (fun x h => (HR_o3.out x h).2) (fun x h => (HR_o9_0.out x h).1) (by omega)) hf
      have o4_19 := o4_18.offBlk o9_0_18.ints (apart (fun x h => (HR_o4.out x h).2) (fun x h => (HR_o9_0.out x h).1) (by omega)) hf
      have o6_19 := o6_18.offBlk o9_0_18.ints (apart (fun x h => (HR_o6.out x h).2) (fun x h => (HR_o9_0.out x h).1) (by omega)) hf
      have o8_19 := o8_18.offBlk o9_0_18.ints (apart (fun x h => (HR_o8.out x h).2) (fun x h => (HR_o9_0.out x h).1) (by omega)) hf
      have o13_19 := o13_18.offBlk o9_0_18.ints (apart' (fun x h => (HR_o9_0.out x h).2) (fun x h => (HR_o13.out x h).1) (by omega)) hf
      clear hf hB18 ba0_18 ba1_18 bx5_18 bx7_18 o3_18 o4_18 o6_18 o8_18 o13_18 o9_0_18
      go_wp2_with fail
      refine (heldI_v (xs := (nvRes x0 x1 x2)) _ _ om19.rd (by omega) (by omega)).mono ?_
      rintro e E20 ⟨rfl, hb⟩
      have hz20 : E19.heap.size ≤ E20.heap.size := hb.size
      have hB20 := hB19.trans (hb.mono hB19.size)
      have ba0_20 := ba0_19.below hb
      have ba1_20 := ba1_19.below hb
      have bx5_20 := bx5_19.below hb
      have bx7_20 := bx7_19.below hb
      have o3_20 := o3_19.below hb
      have o4_20 := o4_19.below hb
      have o6_20 := o6_19.below hb
      have o8_20 := o8_19.below hb
      have o9_0_20 := om19.below hb
      have o13_20 := o13_19.below hb
      clear hb hB19 ba0_19 ba1_19 bx5_19 bx7_19 o3_19 o4_19 o6_19 o8_19 om19 o13_19
      go_upto_region 37 with fail
      have z_ba0_0 := ba0_20.cell 0 rfl
      have z_ba0_1 := ba0_20.cell 1 rfl
      have z_ba0_2 := ba0_20.cell 2 rfl
      have z_ba0_3 := ba0_20.cell 3 rfl
      have z_ba1_0 := ba1_20.cell 0 rfl
      have lt_ba0 := ba0_20.lt
      have lt_ba1 := ba1_20.lt
      have CK : Hid (∀ W, Below E20.heap.size E20 W → W.cell? ⟨w.heap.size, 0, none⟩ = some (.int .i64 x0.inputs) ∧ W.cell? ⟨w.heap.size, 1, none⟩ = some (.slice a0p1 x0.tables.length a0c1) ∧ W.cell? ⟨w.heap.size, 2, none⟩ = some (.slice a0p2 x0.nodes.length a0c2) ∧ W.cell? ⟨w.heap.size, 3, none⟩ = some (.slice a0p3 x0.outputs.length a0c3) ∧ W.cell? ⟨w.heap.size + 1, 0, none⟩ = some (.slice a1p0 x1.rows.length a1c0)) := fun W hW => ⟨(hW.cell (p := ⟨w.heap.size, 0, none⟩) lt_ba0).trans z_ba0_0, (hW.cell (p := ⟨w.heap.size, 1, none⟩) lt_ba0).trans z_ba0_1, (hW.cell (p := ⟨w.heap.size, 2, none⟩) lt_ba0).trans z_ba0_2, (hW.cell (p := ⟨w.heap.size, 3, none⟩) lt_ba0).trans z_ba0_3, (hW.cell (p := ⟨w.heap.size + 1, 0, none⟩) lt_ba1).trans z_ba1_0⟩
      have hcur := belowDrew E20
      refine wp_region_plan (fun W => W.cell? ⟨w.heap.size, 0, none⟩ = some (.int .i64 x0.inputs) ∧ W.cell? ⟨w.heap.size, 1, none⟩ = some (.slice a0p1 x0.tables.length a0c1) ∧ W.cell? ⟨w.heap.size, 2, none⟩ = some (.slice a0p2 x0.nodes.length a0c2) ∧ W.cell? ⟨w.heap.size, 3, none⟩ = some (.slice a0p3 x0.outputs.length a0c3) ∧ W.cell? ⟨w.heap.size + 1, 0, none⟩ = some (.slice a1p0 x1.rows.length a1c0)) 10 [(0, 1), (2, 1), (4, 0), (1, 2), (3, 2), (5, 2), (6, 2), (7, 0), (8, 0), (9, 0), (10, 3), (11, 0)] (by kernel_rfl) (by kernel_rfl) (CK.out _ hcur) ?_
      repeat ((first | refine wpPlan_take (v := ?_) rfl (by rfl) (by (intro w hSw; clear hSw; go_simp; try with_reducible rfl)) (fun _ _ _ h => h) ?_ | refine wpPlan_load (v := ?_) rfl (by rfl) (by (intro w hSw; (try dsimp only at hSw); go_simp; try with_reducible rfl)) (fun _ _ _ h => h) ?_); try simp only [Act.put, List.setIfInBounds_toArray, List.set_cons_zero, List.set_cons_succ])
      refine wpPlan_call rfl (by rfl) (fun K hK => ?_)
      go_simp
      refine (toPatch_v _ (h0.below (hB20.trans (hcur.mono hB20.size))) hn0).mono ?_; rintro e G37_1 ⟨u, Mog37_1, rfl, og37_1, DD, hb⟩; clear DD; have hcur := hcur.trans (hb.mono hcur.size); obtain ⟨g37_1p1, g37_1c1, g37_1p2, g37_1c2, g37_1p3, g37_1c3, rfl, -, -, -⟩ := og37_1.rd
      refine hK _ _ (CK.out _ hcur) ?_
      clear hK K
      try simp only [Act.put, List.setIfInBounds_toArray, List.set_cons_zero, List.set_cons_succ]
      repeat ((first | refine wpPlan_take (v := ?_) rfl (by rfl) (by (intro w hSw; clear hSw; go_simp; try with_reducible rfl)) (fun _ _ _ h => h) ?_ | refine wpPlan_load (v := ?_) rfl (by rfl) (by (intro w hSw; (try dsimp only at hSw); go_simp; try with_reducible rfl)) (fun _ _ _ h => h) ?_); try simp only [Act.put, List.setIfInBounds_toArray, List.set_cons_zero, List.set_cons_succ])
      refine wpPlan_call rfl (by rfl) (fun K hK => ?_)
      go_simp
      refine (toState_v _ (h1.below (hB20.trans (hcur.mono hB20.size))) hn1).mono ?_; rintro e G37_2 ⟨u, Mog37_2, rfl, og37_2, DD, hb⟩; clear DD; have og37_1 := og37_1.below hb; have hcur := hcur.trans (hb.mono hcur.size); obtain ⟨g37_2p0, g37_2c0, rfl, -⟩ := og37_2.rd
      refine hK _ _ (CK.out _ hcur) ?_
      clear hK K
      try simp only [Act.put, List.setIfInBounds_toArray, List.set_cons_zero, List.set_cons_succ]
      repeat ((first | refine wpPlan_take (v := ?_) rfl (by rfl) (by (intro w hSw; clear hSw; go_simp; try with_reducible rfl)) (fun _ _ _ h => h) ?_ | refine wpPlan_load (v := ?_) rfl (by rfl) (by (intro w hSw; (try dsimp only at hSw); go_simp; try with_reducible rfl)) (fun _ _ _ h => h) ?_); try simp only [Act.put, List.setIfInBounds_toArray, List.set_cons_zero, List.set_cons_succ])
      refine wpPlan_call rfl (by rfl) (fun K hK => ?_)
      go_simp
      refine (toI_v _ (h2.below (hB20.trans (hcur.mono hB20.size))) (by unfold wtI; omega)).mono ?_; rintro e G37_3 ⟨u, Mog37_3, rfl, og37_3, DD, hb⟩; clear DD; have og37_1 := og37_1.below hb; have og37_2 := og37_2.below hb; have hcur := hcur.trans (hb.mono hcur.size); obtain ⟨g37_3p, g37_3c, rfl, -⟩ := og37_3.rd
      refine hK _ _ (CK.out _ hcur) ?_
      clear hK K
      try simp only [Act.put, List.setIfInBounds_toArray, List.set_cons_zero, List.set_cons_succ]
      repeat ((first | refine wpPlan_take (v := ?_) rfl (by rfl) (by (intro w hSw; clear hSw; go_simp; try with_reducible rfl)) (fun _ _ _ h => h) ?_ | refine wpPlan_load (v := ?_) rfl (by rfl) (by (intro w hSw; (try dsimp only at hSw); go_simp; try with_reducible rfl)) (fun _ _ _ h => h) ?_); try simp only [Act.put, List.setIfInBounds_toArray, List.set_cons_zero, List.set_cons_succ])
      refine wpPlan_call rfl (by rfl) (fun K hK => ?_)
      go_simp
      refine (implNodeValues_v _ og37_1.rd og37_2.rd og37_3.rd).mono ?_; rintro e E21 ⟨u, L21, rfl, o21, D21, hb⟩; have hszz := hcur.size; have hcur := hcur.trans (hb.mono hcur.size); obtain ⟨b2100p, b2100c, rfl, -⟩ := o21.rd
      refine hK _ _ (CK.out _ hcur) ?_
      clear hK K
      try simp only [Act.put, List.setIfInBounds_toArray, List.set_cons_zero, List.set_cons_succ]
      repeat ((first | refine wpPlan_take (v := ?_) rfl (by rfl) (by (intro w hSw; clear hSw; go_simp; try with_reducible rfl)) (fun _ _ _ h => h) ?_ | refine wpPlan_load (v := ?_) rfl (by rfl) (by (intro w hSw; (try dsimp only at hSw); go_simp; try with_reducible rfl)) (fun _ _ _ h => h) ?_); try simp only [Act.put, List.setIfInBounds_toArray, List.set_cons_zero, List.set_cons_succ])
      refine wpPlan_store rfl (by rfl) (fun K hK => ?_)
      go_simp
      refine hK _ _ ?_
      clear hK K
      try simp only [Act.put, List.setIfInBounds_toArray, List.set_cons_zero, List.set_cons_succ]
      repeat ((first | refine wpPlan_take (v := ?_) rfl (by rfl) (by (intro w hSw; clear hSw; go_simp; try with_reducible rfl)) (fun _ _ _ h => h) ?_ | refine wpPlan_load (v := ?_) rfl (by rfl) (by (intro w hSw; (try dsimp only at hSw); go_simp; try with_reducible rfl)) (fun _ _ _ h => h) ?_); try simp only [Act.put, List.setIfInBounds_toArray, List.set_cons_zero, List.set_cons_succ])
      refine wpPlan_nil ?_
      replace o21 := o21.mono hszz
      have hb := hcur
      clear CK hszz z_ba0_0 z_ba0_1 z_ba0_2 z_ba0_3 z_ba1_0 lt_ba0 lt_ba1 og37_1 og37_2 og37_3
      have HBW_o21 : Hid (w.heap.size ≤ E20.heap.size) := hB20.size
      have HR_o21 : Hid (∀ b, Blk L21 b → E20.heap.size ≤ b ∧ b < E21.heap.size) := fun b hbk => o21.blk hbk
      have hz21 : E20.heap.size ≤ E21.heap.size := hb.size
      have hB21 := hB20.trans (hb.mono hB20.size)
      have ba0_21 := ba0_20.below hb
      have ba1_21 := ba1_20.below hb
      have bx5_21 := bx5_20.below hb
      have bx7_21 := bx7_20.below hb
      have o3_21 := o3_20.below hb
      have o4_21 := o4_20.below hb
      have o6_21 := o6_20.below hb
      have o8_21 := o8_20.below hb
      have o9_0_21 := o9_0_20.below hb
      have o13_21 := o13_20.below hb
      clear hb hB20 ba0_20 ba1_20 bx5_20 bx7_20 o3_20 o4_20 o6_20 o8_20 o9_0_20 o13_20
      clear hcur
      go_wp2_with fail
      refine (eqI_v _ o21.rd o3_21.rd).mono ?_
      rintro e E22 ⟨rfl, hb⟩
      have hz22 : E21.heap.size ≤ E22.heap.size := hb.size
      have hB22 := hB21.trans (hb.mono hB21.size)
      have ba0_22 := ba0_21.below hb
      have ba1_22 := ba1_21.below hb
      have bx5_22 := bx5_21.below hb
      have bx7_22 := bx7_21.below hb
      have o3_22 := o3_21.below hb
      have o4_22 := o4_21.below hb
      have o6_22 := o6_21.below hb
      have o8_22 := o8_21.below hb
      have o9_0_22 := o9_0_21.below hb
      have o13_22 := o13_21.below hb
      have o21_22 := o21.below hb
      clear hb hB21 ba0_21 ba1_21 bx5_21 bx7_21 o3_21 o4_21 o6_21 o8_21 o9_0_21 o13_21 o21
      go_wp2_with fail
      refine (heldI_v (xs := (nvRes x0 x1 x2)) _ _ o9_0_22.rd (by omega) (by omega)).mono ?_
      rintro e E23 ⟨rfl, hb⟩
      have hz23 : E22.heap.size ≤ E23.heap.size := hb.size
      have hB23 := hB22.trans (hb.mono hB22.size)
      have ba0_23 := ba0_22.below hb
      have ba1_23 := ba1_22.below hb
      have bx5_23 := bx5_22.below hb
      have bx7_23 := bx7_22.below hb
      have o3_23 := o3_22.below hb
      have o4_23 := o4_22.below hb
      have o6_23 := o6_22.below hb
      have o8_23 := o8_22.below hb
      have o9_0_23 := o9_0_22.below hb
      have o13_23 := o13_22.below hb
      have o21_23 := o21_22.below hb
      clear hb hB22 ba0_22 ba1_22 bx5_22 bx7_22 o3_22 o4_22 o6_22 o8_22 o9_0_22 o13_22 o21_22
      go_wp2_with fail
      go_ret
      exact ⟨rfl, hB23⟩

end Go.Proofs.Ytbjpianbeebmeab
