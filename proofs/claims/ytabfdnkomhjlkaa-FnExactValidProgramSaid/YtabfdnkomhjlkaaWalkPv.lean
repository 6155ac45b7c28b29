/-
  The walks of exact laws on patches.
-/
import Derived.Test.YtabfdnkomhjlkaaPvZ
namespace Go.Proofs.Ytabfdnkomhjlkaa
open Go.ChangeShapes Go.WideShapes Go.ChangeAt Go.RowKit
set_option linter.unusedVariables false
set_option linter.unusedSimpArgs false

set_option maxHeartbeats 8000000 in
set_option maxRecDepth 100000 in
theorem fnExactValidProgram_walk (w : World) {v0 : Value} {x0 : ProgramD} (h0 : VProgram w v0 x0) :
    Calls Try.prog 3 #[v0] w fun e w' => e = .returned (.bool true) ∧ Below w.heap.size w w' := by
  have hv0 := h0
  obtain ⟨a0p2, a0c2, a0p3, a0c3, a0p4, a0c4, rfl, -, -, -⟩ := hv0
  obtain ⟨E0, hE0⟩ : ∃ E, E = (w.alloc (.cells #[.int .i64 x0.inputs, .int .i64 x0.registers, .slice a0p2 x0.tables.length a0c2, .slice a0p3 x0.code.length a0c3, .slice a0p4 x0.outputs.length a0c4] 26)) := ⟨_, rfl⟩
  have HB0 : Below w.heap.size w E0 := by rw [hE0]; exact ((Below.refl _ _).alloc (Nat.le_refl _) _)
  have ba0 : Box E0 (w.heap.size) [.int .i64 x0.inputs, .int .i64 x0.registers, .slice a0p2 x0.tables.length a0c2, .slice a0p3 x0.code.length a0c3, .slice a0p4 x0.outputs.length a0c4] 26 := by rw [hE0]; exact Box.newAt _ [.int .i64 x0.inputs, .int .i64 x0.registers, .slice a0p2 x0.tables.length a0c2, .slice a0p3 x0.code.length a0c3, .slice a0p4 x0.outputs.length a0c4] _ (by simp)
  have HE0 := Lib.hid hE0
  clear hE0
  go_enter Try.func3, Try.ntmps3
  go_wp2_with fail
  rw [← HE0.out]
  refine (szProgram_v _ _ (h0.below HB0) (by omega) (by omega)).mono ?_
  rintro e E1 ⟨rfl, hb⟩
  have hB1 := HB0.trans (hb.mono HB0.size)
  have ba0_1 := ba0.below hb
  clear hb ba0
  by_cases k1 : szF 1048576 (wtProgram x0) < 0
  case pos =>
    go_wp2_with fail
    go_ret
    exact ⟨rfl, hB1⟩
  have hn0 : wtProgram x0 ≤ 1048576 := by have := (szF_pos k1).2; omega
  have s1 := (szF_pos k1).1
  have l1 : 0 ≤ szF 1048576 (wtProgram x0) := by omega
  have g1 : szF 1048576 (wtProgram x0) ≤ 1048576 := by omega
  clear s1
  have z_ba0_0 := ba0_1.cell 0 rfl
  have z_ba0_1 := ba0_1.cell 1 rfl
  have z_ba0_2 := ba0_1.cell 2 rfl
  have z_ba0_3 := ba0_1.cell 3 rfl
  have z_ba0_4 := ba0_1.cell 4 rfl
  go_wp2_with fail
  clear z_ba0_0 z_ba0_1 z_ba0_2 z_ba0_3 z_ba0_4
  refine (toProgram_v _ (h0.below hB1) hn0).mono ?_
  rintro e E2 ⟨u2, L2, rfl, o2, D2, hb⟩
  have hB2 := hB1.trans (hb.mono hB1.size)
  have ba0_2 := ba0_1.below hb
  clear hb hB1 ba0_1
  clear D2
  have hv := o2.rd
  obtain ⟨b2p2, b2c2, b2p3, b2c3, b2p4, b2c4, rfl, -, -, -⟩ := hv
  go_wp2_with fail
  refine (specValidProgram_v _ o2.rd).mono ?_
  rintro e E3 ⟨rfl, hb⟩
  have hB3 := hB2.trans (hb.mono hB2.size)
  have ba0_3 := ba0_2.below hb
  have o2_3 := o2.below hb
  clear hb hB2 ba0_2 o2
  have z_ba0_0 := ba0_3.cell 0 rfl
  have z_ba0_1 := ba0_3.cell 1 rfl
  have z_ba0_2 := ba0_3.cell 2 rfl
  have z_ba0_3 := ba0_3.cell 3 rfl
  have z_ba0_4 := ba0_3.cell 4 rfl
  go_wp2_with fail
  clear z_ba0_0 z_ba0_1 z_ba0_2 z_ba0_3 z_ba0_4
  refine (toProgram_v _ (h0.below hB3) hn0).mono ?_
  rintro e E4 ⟨u4, L4, rfl, o4, D4, hb⟩
  have hB4 := hB3.trans (hb.mono hB3.size)
  have ba0_4 := ba0_3.below hb
  have o2_4 := o2_3.below hb
  clear hb hB3 ba0_3 o2_3
  clear D4
  have hv := o4.rd
  obtain ⟨b4p2, b4c2, b4p3, b4c3, b4p4, b4c4, rfl, -, -, -⟩ := hv
  go_wp2_with fail
  obtain ⟨E5, hE⟩ : ∃ E, E = E4.alloc (.cells #[.int .i64 x0.inputs, .int .i64 x0.registers, .slice b4p2 x0.tables.length b4c2, .slice b4p3 x0.code.length b4c3, .slice b4p4 x0.outputs.length b4c4] 31) := ⟨_, rfl⟩
  have hb : Below E4.heap.size E4 E5 := by rw [hE]; exact (Below.refl _ _).alloc (Nat.le_refl _) _
  have bx5 : Box E5 E4.heap.size [.int .i64 x0.inputs, .int .i64 x0.registers, .slice b4p2 x0.tables.length b4c2, .slice b4p3 x0.code.length b4c3, .slice b4p4 x0.outputs.length b4c4] 31 := by rw [hE]; exact Box.newAt _ [.int .i64 x0.inputs, .int .i64 x0.registers, .slice b4p2 x0.tables.length b4c2, .slice b4p3 x0.code.length b4c3, .slice b4p4 x0.outputs.length b4c4] _ rfl
  rw [← hE]
  clear hE
  have hB5 := hB4.trans (hb.mono hB4.size)
  have ba0_5 := ba0_4.below hb
  have o2_5 := o2_4.below hb
  have o4_5 := o4.below hb
  clear hb hB4 ba0_4 o2_4 o4
  refine (implValidProgram_v _ o4_5.rd).mono ?_
  rintro e E6 ⟨rfl, hb⟩
  have hB6 := hB5.trans (hb.mono hB5.size)
  have ba0_6 := ba0_5.below hb
  have bx5_6 := bx5.below hb
  have o2_6 := o2_5.below hb
  have o4_6 := o4_5.below hb
  clear hb hB5 ba0_5 bx5 o2_5 o4_5
  go_upto_region 10 with fail
  go_cut [26] (fun s26 wr => s26 = .bool false ∧ Below E6.heap.size E6 wr)
  case first =>
    have z_bx5_0 := bx5_6.cell 0 rfl
    have z_bx5_1 := bx5_6.cell 1 rfl
    have z_bx5_2 := bx5_6.cell 2 rfl
    have z_bx5_3 := bx5_6.cell 3 rfl
    have z_bx5_4 := bx5_6.cell 4 rfl
    have z_ba0_0 := ba0_6.cell 0 rfl
    have z_ba0_1 := ba0_6.cell 1 rfl
    have z_ba0_2 := ba0_6.cell 2 rfl
    have z_ba0_3 := ba0_6.cell 3 rfl
    have z_ba0_4 := ba0_6.cell 4 rfl
    go_region_with (first | (go_at_call_of 7 (Value.agg #[.int .i64 x0.inputs, .int .i64 x0.registers, .slice a0p2 x0.tables.length a0c2, .slice a0p3 x0.code.length a0c3, .slice a0p4 x0.outputs.length a0c4]); refine (toProgram_v _ ((h0.below hB6).below (below_drew' (Below.refl _ _))) hn0).mono ?_; rintro e G10_1 ⟨u, L, rfl, o10_1, DD, hb⟩; clear DD; have hbb : Below E6.heap.size E6 G10_1 := below_drew' hb; have hBG10_1 := hB6.trans (hbb.mono hB6.size); have hRG10_1 := hbb; have o2G10_1 := o2_6.below hbb; have o4G10_1 := o4_6.below hbb; have bx5G10_1 := bx5_6.below hbb; have y_bx5_0 := bx5G10_1.cell 0 rfl; have y_bx5_1 := bx5G10_1.cell 1 rfl; have y_bx5_2 := bx5G10_1.cell 2 rfl; have y_bx5_3 := bx5G10_1.cell 3 rfl; have y_bx5_4 := bx5G10_1.cell 4 rfl; have ba0G10_1 := ba0_6.below hbb; have y_ba0_0 := ba0G10_1.cell 0 rfl; have y_ba0_1 := ba0G10_1.cell 1 rfl; have y_ba0_2 := ba0G10_1.cell 2 rfl; have y_ba0_3 := ba0G10_1.cell 3 rfl; have y_ba0_4 := ba0G10_1.cell 4 rfl; clear hb hbb) | (go_at_call 9; refine (eqProgram_v _ o4G10_1.rd o10_1.rd).mono ?_; rintro e G10_2 ⟨rfl, hb⟩; have hbb : Below G10_1.heap.size G10_1 G10_2 := hb; have hBG10_2 := hBG10_1.trans (hbb.mono hBG10_1.size); have hRG10_2 := hRG10_1.trans (hbb.mono hRG10_1.size); have o2G10_2 := o2G10_1.below hbb; have o4G10_2 := o4G10_1.below hbb; have o10_1G10_2 := o10_1.below hbb; have bx5G10_2 := bx5G10_1.below hbb; have ba0G10_2 := ba0G10_1.below hbb; clear hb hbb))
    all_goals (go_wp2_with fail; go_meet; exact ⟨rfl, hRG10_2⟩)
  case rest =>
    obtain ⟨rfl, hb⟩ := hcut
    obtain ⟨E7, rfl⟩ : ∃ E, E = wc := ⟨_, rfl⟩
    have hB7 := hB6.trans (hb.mono hB6.size)
    have ba0_7 := ba0_6.below hb
    have bx5_7 := bx5_6.below hb
    have o2_7 := o2_6.below hb
    have o4_7 := o4_6.below hb
    clear hb hB6 ba0_6 bx5_6 o2_6 o4_6
    go_wp2_with fail
    go_ret
    exact ⟨rfl, hB7⟩

end Go.Proofs.Ytabfdnkomhjlkaa
