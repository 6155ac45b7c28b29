/-
  The walks of exact laws on patches.
-/
import Derived.Test.YtgkkmnfjndjkgaaPatS3
namespace Go.Proofs.Ytgkkmnfjndjkgaa
open Go.ChangeShapes Go.WideShapes Go.ChangeAt Go.RowKit
set_option linter.unusedVariables false

set_option maxHeartbeats 8000000 in
set_option maxRecDepth 100000 in
theorem fnExactValidState_walk (w : World) {v0 : Value} {x0 : PatchD} (h0 : VPatch w v0 x0) {v1 : Value} {x1 : StateD} (h1 : VState w v1 x1) :
    Calls Try.prog 12 #[v0, v1] w fun e w' => e = .returned (.bool true) ∧ Below w.heap.size w w' := by
  have hv0 := h0
  obtain ⟨a0p1, a0c1, a0p2, a0c2, a0p3, a0c3, rfl, -, -, -⟩ := hv0
  have hv1 := h1
  obtain ⟨a1p0, a1c0, rfl, -⟩ := hv1
  obtain ⟨E0, hE0⟩ : ∃ E, E = ((w.alloc (.cells #[.int .i64 x0.inputs, .slice a0p1 x0.tables.length a0c1, .slice a0p2 x0.nodes.length a0c2, .slice a0p3 x0.outputs.length a0c3] 26)).alloc (.cells #[.slice a1p0 x1.rows.length a1c0] 52)) := ⟨_, rfl⟩
  have HB0 : Below w.heap.size w E0 := by rw [hE0]; exact (((Below.refl _ _).alloc (Nat.le_refl _) _).alloc (by simp) _)
  have ba0 : Box E0 (w.heap.size) [.int .i64 x0.inputs, .slice a0p1 x0.tables.length a0c1, .slice a0p2 x0.nodes.length a0c2, .slice a0p3 x0.outputs.length a0c3] 26 := by rw [hE0]; exact (Box.newAt _ [.int .i64 x0.inputs, .slice a0p1 x0.tables.length a0c1, .slice a0p2 x0.nodes.length a0c2, .slice a0p3 x0.outputs.length a0c3] _ (by simp)).alloc _
  have ba1 : Box E0 (w.heap.size + 1) [.slice a1p0 x1.rows.length a1c0] 52 := by rw [hE0]; exact Box.newAt _ [.slice a1p0 x1.rows.length a1c0] _ (by simp)
  have HE0 := Lib.hid hE0
  clear hE0
  go_enter Try.func12, Try.ntmps12
  go_wp2_with fail
  rw [← HE0.out]
  refine (szPatch_v _ _ (h0.below HB0) (by omega) (by omega)).mono ?_
  rintro e E1 ⟨rfl, hb⟩
  have hB1 := HB0.trans (hb.mono HB0.size)
  have ba0_1 := ba0.below hb
  have ba1_1 := ba1.below hb
  clear hb ba0 ba1
  by_cases k1 : szF 1048576 (wtPatch x0) < 0
  case pos =>
    go_wp2_with fail
    go_ret
    exact ⟨rfl, hB1⟩
  have hn0 : wtPatch x0 ≤ 1048576 := by have := (szF_pos k1).2; omega
  have s1 := (szF_pos k1).1
  have l1 : 0 ≤ szF 1048576 (wtPatch x0) := by omega
  have g1 : szF 1048576 (wtPatch x0) ≤ 1048576 := by omega
  clear s1
  have z_ba1_0 := ba1_1.cell 0 rfl
  go_wp2_with fail
  clear z_ba1_0
  refine (szState_v _ _ (h1.below hB1) (by omega) (by omega)).mono ?_
  rintro e E2 ⟨rfl, hb⟩
  have hB2 := hB1.trans (hb.mono hB1.size)
  have ba0_2 := ba0_1.below hb
  have ba1_2 := ba1_1.below hb
  clear hb hB1 ba0_1 ba1_1
  by_cases k2 : szF (szF 1048576 (wtPatch x0)) (wtState x1) < 0
  case pos =>
    go_wp2_with fail
    go_ret
    exact ⟨rfl, hB2⟩
  have hn1 : wtState x1 ≤ 1048576 := by have := (szF_pos k2).2; omega
  have s2 := (szF_pos k2).1
  have l2 : 0 ≤ szF (szF 1048576 (wtPatch x0)) (wtState x1) := by omega
  have g2 : szF (szF 1048576 (wtPatch x0)) (wtState x1) ≤ 1048576 := by omega
  clear s2
  go_upto_region 8 with fail
  go_cut [6] (fun s6 wr => s6 = .bool (vsB x0 x1) ∧ Below E2.heap.size E2 wr)
  case first =>
    have z_ba0_0 := ba0_2.cell 0 rfl
    have z_ba0_1 := ba0_2.cell 1 rfl
    have z_ba0_2 := ba0_2.cell 2 rfl
    have z_ba0_3 := ba0_2.cell 3 rfl
    have z_ba1_0 := ba1_2.cell 0 rfl
    go_region_with (first | (go_at_call_of 17 (Value.agg #[.int .i64 x0.inputs, .slice a0p1 x0.tables.length a0c1, .slice a0p2 x0.nodes.length a0c2, .slice a0p3 x0.outputs.length a0c3]); refine (toPatch_v _ ((h0.below hB2).below (below_drew' (Below.refl _ _))) hn0).mono ?_; rintro e G8_1 ⟨u, L, rfl, o8_1, DD, hb⟩; clear DD; have hbb : Below E2.heap.size E2 G8_1 := below_drew' hb; have hBG8_1 := hB2.trans (hbb.mono hB2.size); have hRG8_1 := hbb; have ba0G8_1 := ba0_2.below hbb; have y_ba0_0 := ba0G8_1.cell 0 rfl; have y_ba0_1 := ba0G8_1.cell 1 rfl; have y_ba0_2 := ba0G8_1.cell 2 rfl; have y_ba0_3 := ba0G8_1.cell 3 rfl; have ba1G8_1 := ba1_2.below hbb; have y_ba1_0 := ba1G8_1.cell 0 rfl; clear hb hbb) | (go_at_call_of 45 (Value.agg #[.slice a1p0 x1.rows.length a1c0]); refine (toState_v _ (h1.below hBG8_1) hn1).mono ?_; rintro e G8_2 ⟨u, L, rfl, o8_2, DD, hb⟩; clear DD; have hbb : Below G8_1.heap.size G8_1 G8_2 := hb; have hBG8_2 := hBG8_1.trans (hbb.mono hBG8_1.size); have hRG8_2 := hRG8_1.trans (hbb.mono hRG8_1.size); have o8_1G8_2 := o8_1.below hbb; have ba0G8_2 := ba0G8_1.below hbb; have y_ba0_0 := ba0G8_2.cell 0 rfl; have y_ba0_1 := ba0G8_2.cell 1 rfl; have y_ba0_2 := ba0G8_2.cell 2 rfl; have y_ba0_3 := ba0G8_2.cell 3 rfl; have ba1G8_2 := ba1G8_1.below hbb; have y_ba1_0 := ba1G8_2.cell 0 rfl; clear hb hbb) | (go_at_call 44; refine (specValidState_v _ o8_1G8_2.rd o8_2.rd).mono ?_; rintro e G8_3 ⟨rfl, hb⟩; have hbb : Below G8_2.heap.size G8_2 G8_3 := hb; have hBG8_3 := hBG8_2.trans (hbb.mono hBG8_2.size); have hRG8_3 := hRG8_2.trans (hbb.mono hRG8_2.size); have o8_1G8_3 := o8_1G8_2.below hbb; have o8_2G8_3 := o8_2.below hbb; have ba0G8_3 := ba0G8_2.below hbb; have ba1G8_3 := ba1G8_2.below hbb; clear hb hbb))
    all_goals (go_wp2_with fail; go_meet; exact ⟨rfl, hRG8_3⟩)
  case rest =>
    obtain ⟨rfl, hb⟩ := hcut
    obtain ⟨E3, rfl⟩ : ∃ E, E = wc := ⟨_, rfl⟩
    have hB3 := hB2.trans (hb.mono hB2.size)
    have ba0_3 := ba0_2.below hb
    have ba1_3 := ba1_2.below hb
    clear hb hB2 ba0_2 ba1_2
    have z_ba0_0 := ba0_3.cell 0 rfl
    have z_ba0_1 := ba0_3.cell 1 rfl
    have z_ba0_2 := ba0_3.cell 2 rfl
    have z_ba0_3 := ba0_3.cell 3 rfl
    go_wp2_with fail
    clear z_ba0_0 z_ba0_1 z_ba0_2 z_ba0_3
    refine (toPatch_v _ (h0.below hB3) hn0).mono ?_
    rintro e E4 ⟨u4, L4, rfl, o4, D4, hb⟩
    have hB4 := hB3.trans (hb.mono hB3.size)
    have ba0_4 := ba0_3.below hb
    have ba1_4 := ba1_3.below hb
    clear hb hB3 ba0_3 ba1_3
    clear D4
    have hv := o4.rd
    obtain ⟨b4p1, b4c1, b4p2, b4c2, b4p3, b4c3, rfl, -, -, -⟩ := hv
    have z_ba1_0 := (ba1_4.alloc (.cells #[.int .i64 x0.inputs, .slice b4p1 x0.tables.length b4c1, .slice b4p2 x0.nodes.length b4c2, .slice b4p3 x0.outputs.length b4c3] 31)).cell 0 rfl
    go_wp2_with fail
    clear z_ba1_0
    obtain ⟨E5, hE⟩ : ∃ E, E = E4.alloc (.cells #[.int .i64 x0.inputs, .slice b4p1 x0.tables.length b4c1, .slice b4p2 x0.nodes.length b4c2, .slice b4p3 x0.outputs.length b4c3] 31) := ⟨_, rfl⟩
    have hb : Below E4.heap.size E4 E5 := by rw [hE]; exact (Below.refl _ _).alloc (Nat.le_refl _) _
    have bx5 : Box E5 E4.heap.size [.int .i64 x0.inputs, .slice b4p1 x0.tables.length b4c1, .slice b4p2 x0.nodes.length b4c2, .slice b4p3 x0.outputs.length b4c3] 31 := by rw [hE]; exact Box.newAt _ [.int .i64 x0.inputs, .slice b4p1 x0.tables.length b4c1, .slice b4p2 x0.nodes.length b4c2, .slice b4p3 x0.outputs.length b4c3] _ rfl
    rw [← hE]
    clear hE
    have hB5 := hB4.trans (hb.mono hB4.size)
    have ba0_5 := ba0_4.below hb
    have ba1_5 := ba1_4.below hb
    have o4_5 := o4.below hb
    clear hb hB4 ba0_4 ba1_4 o4
    refine (toState_v _ (h1.below hB5) hn1).mono ?_
    rintro e E6 ⟨u6, L6, rfl, o6, D6, hb⟩
    have hB6 := hB5.trans (hb.mono hB5.size)
    have ba0_6 := ba0_5.below hb
    have ba1_6 := ba1_5.below hb
    have bx5_6 := bx5.below hb
    have o4_6 := o4_5.below hb
    clear hb hB5 ba0_5 ba1_5 bx5 o4_5
    clear D6
    have hv := o6.rd
    obtain ⟨b6p0, b6c0, rfl, -⟩ := hv
    have z_bx5_0 := (bx5_6.alloc (.cells #[.slice b6p0 x1.rows.length b6c0] 47)).cell 0 rfl
    have z_bx5_1 := (bx5_6.alloc (.cells #[.slice b6p0 x1.rows.length b6c0] 47)).cell 1 rfl
    have z_bx5_2 := (bx5_6.alloc (.cells #[.slice b6p0 x1.rows.length b6c0] 47)).cell 2 rfl
    have z_bx5_3 := (bx5_6.alloc (.cells #[.slice b6p0 x1.rows.length b6c0] 47)).cell 3 rfl
    go_wp2_with fail
    clear z_bx5_0 z_bx5_1 z_bx5_2 z_bx5_3
    obtain ⟨E7, hE⟩ : ∃ E, E = E6.alloc (.cells #[.slice b6p0 x1.rows.length b6c0] 47) := ⟨_, rfl⟩
    have hb : Below E6.heap.size E6 E7 := by rw [hE]; exact (Below.refl _ _).alloc (Nat.le_refl _) _
    have bx7 : Box E7 E6.heap.size [.slice b6p0 x1.rows.length b6c0] 47 := by rw [hE]; exact Box.newAt _ [.slice b6p0 x1.rows.length b6c0] _ rfl
    rw [← hE]
    clear hE
    have hB7 := hB6.trans (hb.mono hB6.size)
    have ba0_7 := ba0_6.below hb
    have ba1_7 := ba1_6.below hb
    have bx5_7 := bx5_6.below hb
    have o4_7 := o4_6.below hb
    have o6_7 := o6.below hb
    clear hb hB6 ba0_6 ba1_6 bx5_6 o4_6 o6
    refine (implValidState_v _ o4_7.rd o6_7.rd).mono ?_
    rintro e E8 ⟨rfl, hb⟩
    have hB8 := hB7.trans (hb.mono hB7.size)
    have ba0_8 := ba0_7.below hb
    have ba1_8 := ba1_7.below hb
    have bx5_8 := bx5_7.below hb
    have bx7_8 := bx7.below hb
    have o4_8 := o4_7.below hb
    have o6_8 := o6_7.below hb
    clear hb hB7 ba0_7 ba1_7 bx5_7 bx7 o4_7 o6_7
    go_upto_region 14 with fail
    go_cut [39] (fun s39 wr => s39 = .bool false ∧ Below E8.heap.size E8 wr)
    case first =>
      have z_bx5_0 := bx5_8.cell 0 rfl
      have z_bx5_1 := bx5_8.cell 1 rfl
      have z_bx5_2 := bx5_8.cell 2 rfl
      have z_bx5_3 := bx5_8.cell 3 rfl
      have z_ba0_0 := ba0_8.cell 0 rfl
      have z_ba0_1 := ba0_8.cell 1 rfl
      have z_ba0_2 := ba0_8.cell 2 rfl
      have z_ba0_3 := ba0_8.cell 3 rfl
      go_region_with (first | (go_at_call_of 17 (Value.agg #[.int .i64 x0.inputs, .slice a0p1 x0.tables.length a0c1, .slice a0p2 x0.nodes.length a0c2, .slice a0p3 x0.outputs.length a0c3]); refine (toPatch_v _ ((h0.below hB8).below (below_drew' (Below.refl _ _))) hn0).mono ?_; rintro e G14_1 ⟨u, L, rfl, o14_1, DD, hb⟩; clear DD; have hbb : Below E8.heap.size E8 G14_1 := below_drew' hb; have hBG14_1 := hB8.trans (hbb.mono hB8.size); have hRG14_1 := hbb; have o4G14_1 := o4_8.below hbb; have o6G14_1 := o6_8.below hbb; have bx5G14_1 := bx5_8.below hbb; have y_bx5_0 := bx5G14_1.cell 0 rfl; have y_bx5_1 := bx5G14_1.cell 1 rfl; have y_bx5_2 := bx5G14_1.cell 2 rfl; have y_bx5_3 := bx5G14_1.cell 3 rfl; have ba0G14_1 := ba0_8.below hbb; have y_ba0_0 := ba0G14_1.cell 0 rfl; have y_ba0_1 := ba0G14_1.cell 1 rfl; have y_ba0_2 := ba0G14_1.cell 2 rfl; have y_ba0_3 := ba0G14_1.cell 3 rfl; clear hb hbb) | (go_at_call 19; refine (eqPatch_v _ o4G14_1.rd o14_1.rd).mono ?_; rintro e G14_2 ⟨rfl, hb⟩; have hbb : Below G14_1.heap.size G14_1 G14_2 := hb; have hBG14_2 := hBG14_1.trans (hbb.mono hBG14_1.size); have hRG14_2 := hRG14_1.trans (hbb.mono hRG14_1.size); have o4G14_2 := o4G14_1.below hbb; have o6G14_2 := o6G14_1.below hbb; have o14_1G14_2 := o14_1.below hbb; have bx5G14_2 := bx5G14_1.below hbb; have ba0G14_2 := ba0G14_1.below hbb; clear hb hbb))
      all_goals (go_wp2_with fail; go_meet; exact ⟨rfl, hRG14_2⟩)
    case rest =>
      obtain ⟨rfl, hb⟩ := hcut
      obtain ⟨E9, rfl⟩ : ∃ E, E = wc := ⟨_, rfl⟩
      have hB9 := hB8.trans (hb.mono hB8.size)
      have ba0_9 := ba0_8.below hb
      have ba1_9 := ba1_8.below hb
      have bx5_9 := bx5_8.below hb
      have bx7_9 := bx7_8.below hb
      have o4_9 := o4_8.below hb
      have o6_9 := o6_8.below hb
      clear hb hB8 ba0_8 ba1_8 bx5_8 bx7_8 o4_8 o6_8
      go_upto_region 16 with fail
      go_cut [44] (fun s44 wr => s44 = .bool false ∧ Below E9.heap.size E9 wr)
      case first =>
        have z_bx7_0 := bx7_9.cell 0 rfl
        have z_ba1_0 := ba1_9.cell 0 rfl
        go_region_with (first | (go_at_call_of 45 (Value.agg #[.slice a1p0 x1.rows.length a1c0]); refine (toState_v _ ((h1.below hB9).below (below_drew' (Below.refl _ _))) hn1).mono ?_; rintro e G16_1 ⟨u, L, rfl, o16_1, DD, hb⟩; clear DD; have hbb : Below E9.heap.size E9 G16_1 := below_drew' hb; have hBG16_1 := hB9.trans (hbb.mono hB9.size); have hRG16_1 := hbb; have o4G16_1 := o4_9.below hbb; have o6G16_1 := o6_9.below hbb; have bx7G16_1 := bx7_9.below hbb; have y_bx7_0 := bx7G16_1.cell 0 rfl; have ba1G16_1 := ba1_9.below hbb; have y_ba1_0 := ba1G16_1.cell 0 rfl; clear hb hbb) | (go_at_call 40; refine (eqState_v _ o6G16_1.rd o16_1.rd).mono ?_; rintro e G16_2 ⟨rfl, hb⟩; have hbb : Below G16_1.heap.size G16_1 G16_2 := hb; have hBG16_2 := hBG16_1.trans (hbb.mono hBG16_1.size); have hRG16_2 := hRG16_1.trans (hbb.mono hRG16_1.size); have o4G16_2 := o4G16_1.below hbb; have o6G16_2 := o6G16_1.below hbb; have o16_1G16_2 := o16_1.below hbb; have bx7G16_2 := bx7G16_1.below hbb; have ba1G16_2 := ba1G16_1.below hbb; clear hb hbb))
        all_goals (go_wp2_with fail; go_meet; exact ⟨rfl, hRG16_2⟩)
      case rest =>
        obtain ⟨rfl, hb⟩ := hcut
        obtain ⟨E10, rfl⟩ : ∃ E, E = wc := ⟨_, rfl⟩
        have hB10 := hB9.trans (hb.mono hB9.size)
        have ba0_10 := ba0_9.below hb
        have ba1_10 := ba1_9.below hb
        have bx5_10 := bx5_9.below hb
        have bx7_10 := bx7_9.below hb
        have o4_10 := o4_9.below hb
        have o6_10 := o6_9.below hb
        clear hb hB9 ba0_9 ba1_9 bx5_9 bx7_9 o4_9 o6_9
        go_wp2_with fail
        go_ret
        exact ⟨rfl, hB10⟩

end Go.Proofs.Ytgkkmnfjndjkgaa
