/-
  The walks of exact laws on patches.
-/
import Derived.Test.YtalomhakmfknjaaChainK
namespace Go.Proofs.Ytalomhakmfknjaa
open Go.ChangeShapes Go.WideShapes Go.ChangeAt Go.RowKit
set_option linter.unusedVariables false

set_option maxHeartbeats 8000000 in
set_option maxRecDepth 100000 in
theorem fnExactChainPatches_walk (w : World) {v0 : Value} {x0 : PatchD} (h0 : VPatch w v0 x0) {v1 : Value} {x1 : PatchD} (h1 : VPatch w v1 x1) :
    Calls Try.prog 8 #[v0, v1] w fun e w' => e = .returned (.bool true) ∧ Below w.heap.size w w' := by
  have hv0 := h0
  obtain ⟨a0p1, a0c1, a0p2, a0c2, a0p3, a0c3, rfl, -, -, -⟩ := hv0
  have hv1 := h1
  obtain ⟨a1p1, a1c1, a1p2, a1c2, a1p3, a1c3, rfl, -, -, -⟩ := hv1
  obtain ⟨E0, hE0⟩ : ∃ E, E = ((w.alloc (.cells #[.int .i64 x0.inputs, .slice a0p1 x0.tables.length a0c1, .slice a0p2 x0.nodes.length a0c2, .slice a0p3 x0.outputs.length a0c3] 26)).alloc (.cells #[.int .i64 x1.inputs, .slice a1p1 x1.tables.length a1c1, .slice a1p2 x1.nodes.length a1c2, .slice a1p3 x1.outputs.length a1c3] 26)) := ⟨_, rfl⟩
  have HB0 : Below w.heap.size w E0 := by rw [hE0]; exact (((Below.refl _ _).alloc (Nat.le_refl _) _).alloc (by simp) _)
  have ba0 : Box E0 (w.heap.size) [.int .i64 x0.inputs, .slice a0p1 x0.tables.length a0c1, .slice a0p2 x0.nodes.length a0c2, .slice a0p3 x0.outputs.length a0c3] 26 := by rw [hE0]; exact (Box.newAt _ [.int .i64 x0.inputs, .slice a0p1 x0.tables.length a0c1, .slice a0p2 x0.nodes.length a0c2, .slice a0p3 x0.outputs.length a0c3] _ (by simp)).alloc _
  have ba1 : Box E0 (w.heap.size + 1) [.int .i64 x1.inputs, .slice a1p1 x1.tables.length a1c1, .slice a1p2 x1.nodes.length a1c2, .slice a1p3 x1.outputs.length a1c3] 26 := by rw [hE0]; exact Box.newAt _ [.int .i64 x1.inputs, .slice a1p1 x1.tables.length a1c1, .slice a1p2 x1.nodes.length a1c2, .slice a1p3 x1.outputs.length a1c3] _ (by simp)
  have HE0 := Lib.hid hE0
  clear hE0
  go_enter Try.func8, Try.ntmps8
  go_wp2_with fail
  rw [← HE0.out]
  refine (szPatch_v _ _ (h0.below HB0) (by omega) (by omega)).mono ?_
  rintro e E1 ⟨rfl, hb⟩
  have hz1 : E0.heap.size ≤ E1.heap.size := hb.size
  have hB1 := HB0.trans (hb.mono HB0.size)
  have ba0_1 := ba0.below hb
  have ba1_1 := ba1.below hb
  clear hb ba0 ba1
  by_cases k1 : szF 1048576 (wtPatch x0) < 0
  case pos =>
    go_wp2_with fail
    go_ret
    exact ⟨rfl, hB1⟩
  have hn0 : wtPatch x0 ≤ 1048576 := by have := (szF_pos k1).2; omega
  have s1 := (szF_pos k1).1
  have l1 : 0 ≤ szF 1048576 (wtPatch x0) := by omega
  have g1 : szF 1048576 (wtPatch x0) ≤ 1048576 := by omega
  clear s1
  have z_ba1_0 := ba1_1.cell 0 rfl
  have z_ba1_1 := ba1_1.cell 1 rfl
  have z_ba1_2 := ba1_1.cell 2 rfl
  have z_ba1_3 := ba1_1.cell 3 rfl
  go_wp2_with fail
  clear z_ba1_0 z_ba1_1 z_ba1_2 z_ba1_3
  refine (szPatch_v _ _ (h1.below hB1) (by omega) (by omega)).mono ?_
  rintro e E2 ⟨rfl, hb⟩
  have hz2 : E1.heap.size ≤ E2.heap.size := hb.size
  have hB2 := hB1.trans (hb.mono hB1.size)
  have ba0_2 := ba0_1.below hb
  have ba1_2 := ba1_1.below hb
  clear hb hB1 ba0_1 ba1_1
  by_cases k2 : szF (szF 1048576 (wtPatch x0)) (wtPatch x1) < 0
  case pos =>
    go_wp2_with fail
    go_ret
    exact ⟨rfl, hB2⟩
  have hn1 : wtPatch x1 ≤ 1048576 := by have := (szF_pos k2).2; omega
  have s2 := (szF_pos k2).1
  have l2 : 0 ≤ szF (szF 1048576 (wtPatch x0)) (wtPatch x1) := by omega
  have g2 : szF (szF 1048576 (wtPatch x0)) (wtPatch x1) ≤ 1048576 := by omega
  clear s2
  go_upto_region 8 with fail
  have z_ba0_0 := ba0_2.cell 0 rfl
  have z_ba0_1 := ba0_2.cell 1 rfl
  have z_ba0_2 := ba0_2.cell 2 rfl
  have z_ba0_3 := ba0_2.cell 3 rfl
  have z_ba1_0 := ba1_2.cell 0 rfl
  have z_ba1_1 := ba1_2.cell 1 rfl
  have z_ba1_2 := ba1_2.cell 2 rfl
  have z_ba1_3 := ba1_2.cell 3 rfl
  have lt_ba0 := ba0_2.lt
  have lt_ba1 := ba1_2.lt
  have CK : Hid (∀ W, Below E2.heap.size E2 W → W.cell? ⟨w.heap.size, 0, none⟩ = some (.int .i64 x0.inputs) ∧ W.cell? ⟨w.heap.size, 1, none⟩ = some (.slice a0p1 x0.tables.length a0c1) ∧ W.cell? ⟨w.heap.size, 2, none⟩ = some (.slice a0p2 x0.nodes.length a0c2) ∧ W.cell? ⟨w.heap.size, 3, none⟩ = some (.slice a0p3 x0.outputs.length a0c3) ∧ W.cell? ⟨w.heap.size + 1, 0, none⟩ = some (.int .i64 x1.inputs) ∧ W.cell? ⟨w.heap.size + 1, 1, none⟩ = some (.slice a1p1 x1.tables.length a1c1) ∧ W.cell? ⟨w.heap.size + 1, 2, none⟩ = some (.slice a1p2 x1.nodes.length a1c2) ∧ W.cell? ⟨w.heap.size + 1, 3, none⟩ = some (.slice a1p3 x1.outputs.length a1c3)) := fun W hW => ⟨(hW.cell (p := ⟨w.heap.size, 0, none⟩) lt_ba0).trans z_ba0_0, (hW.cell (p := ⟨w.heap.size, 1, none⟩) lt_ba0).trans z_ba0_1, (hW.cell (p := ⟨w.heap.size, 2, none⟩) lt_ba0).trans z_ba0_2, (hW.cell (p := ⟨w.heap.size, 3, none⟩) lt_ba0).trans z_ba0_3, (hW.cell (p := ⟨w.heap.size + 1, 0, none⟩) lt_ba1).trans z_ba1_0, (hW.cell (p := ⟨w.heap.size + 1, 1, none⟩) lt_ba1).trans z_ba1_1, (hW.cell (p := ⟨w.heap.size + 1, 2, none⟩) lt_ba1).trans z_ba1_2, (hW.cell (p := ⟨w.heap.size + 1, 3, none⟩) lt_ba1).trans z_ba1_3⟩
  have hcur := belowDrew0 E2
  go_cut [6, 7] (fun s6 s7 wr => ∃ (s : Nat) (bp1 : Option Addr) (bc1 : Nat) (bp2 : Option Addr) (bc2 : Nat) (bp3 : Option Addr) (bc3 : Nat) (L : List Value), s6 = .pointer (some ⟨s, 0, none⟩) ∧ s7 = .int .i64 (chCode x0 x1) ∧ HeldP E2 wr s (chRes x0 x1) (.slice bp1 (chRes x0 x1).tables.length bc1) (.slice bp2 (chRes x0 x1).nodes.length bc2) (.slice bp3 (chRes x0 x1).outputs.length bc3) L)
  case first =>
    go_region_held3 (fun W => W.cell? ⟨w.heap.size, 0, none⟩ = some (.int .i64 x0.inputs) ∧ W.cell? ⟨w.heap.size, 1, none⟩ = some (.slice a0p1 x0.tables.length a0c1) ∧ W.cell? ⟨w.heap.size, 2, none⟩ = some (.slice a0p2 x0.nodes.length a0c2) ∧ W.cell? ⟨w.heap.size, 3, none⟩ = some (.slice a0p3 x0.outputs.length a0c3) ∧ W.cell? ⟨w.heap.size + 1, 0, none⟩ = some (.int .i64 x1.inputs) ∧ W.cell? ⟨w.heap.size + 1, 1, none⟩ = some (.slice a1p1 x1.tables.length a1c1) ∧ W.cell? ⟨w.heap.size + 1, 2, none⟩ = some (.slice a1p2 x1.nodes.length a1c2) ∧ W.cell? ⟨w.heap.size + 1, 3, none⟩ = some (.slice a1p3 x1.outputs.length a1c3)) (first | go_keep | exact CK.out _ (by (repeat (first | exact Below.refl _ _ | assumption | refine Below.setCell ?_ (by first | exact Nat.le_refl _ | omega | (simp; done) | (simp; omega)) _ | refine Below.alloc ?_ (by first | exact Nat.le_refl _ | omega | (simp; done) | (simp; omega)) _ | refine below_drewN ?_ _)))) (first | (go_at_call_of 13 (Value.agg #[.int .i64 x0.inputs, .slice a0p1 x0.tables.length a0c1, .slice a0p2 x0.nodes.length a0c2, .slice a0p3 x0.outputs.length a0c3]); refine (toPatch_v _ (h0.below (hB2.trans (Below.mono (by first | exact hcur | exact hcur.alloc hcur.size _) hB2.size))) hn0).mono ?_; rintro e G8_1 ⟨u1, M1, rfl, o1, DD, hb⟩; clear DD; (first | (have hs2 := bq.lt; have bq := bq.below hb) | (have bq : Box G8_1 E2.heap.size zPatch 34 := Box.below (w := E2.drew.alloc _) (Box.newAt E2.drew zPatch _ rfl) hb; have hsb : E2.heap.size ≤ E2.heap.size := Nat.le_refl _; have hs2 : E2.heap.size < (E2.drew.alloc (.cells zPatch.toArray 34)).heap.size := by simp) | skip); have hcur : Below E2.heap.size E2 G8_1 := Below.via (by first | exact hcur | exact hcur.alloc hcur.size _) hb; have hcs1 := hcur.size; clear hb) | (go_at_call_of 13 (Value.agg #[.int .i64 x1.inputs, .slice a1p1 x1.tables.length a1c1, .slice a1p2 x1.nodes.length a1c2, .slice a1p3 x1.outputs.length a1c3]); refine (toPatch_v _ (h1.below (hB2.trans (Below.mono (by first | exact hcur | exact hcur.alloc hcur.size _) hB2.size))) hn1).mono ?_; rintro e G8_2 ⟨u2, M2, rfl, o2, DD, hb⟩; clear DD; have o1 := o1.below (by first | exact hb | exact Below.via ((Below.refl _ _).alloc (Nat.le_refl _) _) hb); (first | (have hs2 := bq.lt; have bq := bq.below hb) | (have bq : Box G8_2 G8_1.heap.size zPatch 34 := Box.below (w := G8_1.alloc _) (Box.newAt G8_1 zPatch _ rfl) hb; have hsb : E2.heap.size ≤ G8_1.heap.size := hcur.size; have hs2 : G8_1.heap.size < (G8_1.alloc (.cells zPatch.toArray 34)).heap.size := by simp) | skip); have hcur : Below E2.heap.size E2 G8_2 := Below.via (by first | exact hcur | exact hcur.alloc hcur.size _) hb; have hcs2 := hcur.size; clear hb) | (go_at_call 32; refine (specChainPatches_v _ (by first | exact o1.rd | exact (o1.below ((Below.refl _ _).alloc (Nat.le_refl _) _)).rd) (by first | exact o2.rd | exact (o2.below ((Below.refl _ _).alloc (Nat.le_refl _) _)).rd)).mono ?_; rintro e G8_3 ⟨u3, M3, rfl, oR, DR, hb⟩; (first | (have hs2 := bq.lt; have bq := bq.below hb) | (have bq : Box G8_3 G8_2.heap.size zPatch 34 := Box.below (w := G8_2.alloc _) (Box.newAt G8_2 zPatch _ rfl) hb; have hsb : E2.heap.size ≤ G8_2.heap.size := hcur.size; have hs2 : G8_2.heap.size < (G8_2.alloc (.cells zPatch.toArray 34)).heap.size := by simp) | skip); have hc0 := hcur; have hcur : Below E2.heap.size E2 G8_3 := Below.via (by first | exact hcur | exact hcur.alloc hcur.size _) hb; have hcs3 := hcur.size; clear hb; obtain ⟨bp1, bc1, bp2, bc2, bp3, bc3, rfl, -, -, -⟩ := oR.rd; (try (have tq0 := bq.cell 0 rfl; have fq0 := bq.frozen 0; have tq1 := bq.cell 1 rfl; have fq1 := bq.frozen 1; have tq2 := bq.cell 2 rfl; have fq2 := bq.frozen 2; have tq3 := bq.cell 3 rfl; have fq3 := bq.frozen 3))))
    all_goals (go_wp2_with fail; go_meet; first | exact ⟨_, _, _, _, _, _, _, _, rfl, rfl, HeldP.box oR DR hcur bq hsb (by first | exact hs2 | simpa using hs2)⟩ | exact ⟨_, _, _, _, _, _, _, _, rfl, rfl, HeldP.new oR DR hcur (by first | exact hc0.size | exact (hc0.alloc hc0.size _).size)⟩)
  case rest =>
    obtain ⟨s3, b3p1, b3c1, b3p2, b3c2, b3p3, b3c3, L3, rfl, rfl, bx3, oR3, D3, hb⟩ := hcut
    obtain ⟨E3, rfl⟩ : ∃ E, E = wc := ⟨_, rfl⟩
    clear CK hcur z_ba0_0 z_ba0_1 z_ba0_2 z_ba0_3 z_ba1_0 z_ba1_1 z_ba1_2 z_ba1_3 lt_ba0 lt_ba1
    have HBW_oR3 : Hid (w.heap.size ≤ E2.heap.size) := hB2.size
    have HR_oR3 : Hid (∀ b, Blk L3 b → E2.heap.size ≤ b ∧ b < E3.heap.size) := fun b hbk => oR3.blk hbk
    have hz3 : E2.heap.size ≤ E3.heap.size := hb.size
    have hB3 := hB2.trans (hb.mono hB2.size)
    have ba0_3 := ba0_2.below hb
    have ba1_3 := ba1_2.below hb
    clear hb hB2 ba0_2 ba1_2
    have z_ba0_0 := ba0_3.cell 0 rfl
    have z_ba0_1 := ba0_3.cell 1 rfl
    have z_ba0_2 := ba0_3.cell 2 rfl
    have z_ba0_3 := ba0_3.cell 3 rfl
    go_wp2_with fail
    clear z_ba0_0 z_ba0_1 z_ba0_2 z_ba0_3
    refine (toPatch_v _ (h0.below hB3) hn0).mono ?_
    rintro e E4 ⟨u4, L4, rfl, o4, D4, hb⟩
    have HBW_o4 : Hid (w.heap.size ≤ E3.heap.size) := hB3.size
    have HR_o4 : Hid (∀ b, Blk L4 b → E3.heap.size ≤ b ∧ b < E4.heap.size) := fun b hbk => o4.blk hbk
    have hz4 : E3.heap.size ≤ E4.heap.size := hb.size
    have hB4 := hB3.trans (hb.mono hB3.size)
    have ba0_4 := ba0_3.below hb
    have ba1_4 := ba1_3.below hb
    have bx3_4 := bx3.below hb
    have oR3_4 := oR3.below hb
    clear hb hB3 ba0_3 ba1_3 bx3 oR3
    have hv := o4.rd
    obtain ⟨b4p1, b4c1, b4p2, b4c2, b4p3, b4c3, rfl, -, -, -⟩ := hv
    have z_ba1_0 := (ba1_4.alloc (.cells #[.int .i64 x0.inputs, .slice b4p1 x0.tables.length b4c1, .slice b4p2 x0.nodes.length b4c2, .slice b4p3 x0.outputs.length b4c3] 34)).cell 0 rfl
    have z_ba1_1 := (ba1_4.alloc (.cells #[.int .i64 x0.inputs, .slice b4p1 x0.tables.length b4c1, .slice b4p2 x0.nodes.length b4c2, .slice b4p3 x0.outputs.length b4c3] 34)).cell 1 rfl
    have z_ba1_2 := (ba1_4.alloc (.cells #[.int .i64 x0.inputs, .slice b4p1 x0.tables.length b4c1, .slice b4p2 x0.nodes.length b4c2, .slice b4p3 x0.outputs.length b4c3] 34)).cell 2 rfl
    have z_ba1_3 := (ba1_4.alloc (.cells #[.int .i64 x0.inputs, .slice b4p1 x0.tables.length b4c1, .slice b4p2 x0.nodes.length b4c2, .slice b4p3 x0.outputs.length b4c3] 34)).cell 3 rfl
    go_wp2_with fail
    clear z_ba1_0 z_ba1_1 z_ba1_2 z_ba1_3
    obtain ⟨E5, hE⟩ : ∃ E, E = E4.alloc (.cells #[.int .i64 x0.inputs, .slice b4p1 x0.tables.length b4c1, .slice b4p2 x0.nodes.length b4c2, .slice b4p3 x0.outputs.length b4c3] 34) := ⟨_, rfl⟩
    have hb : Below E4.heap.size E4 E5 := by rw [hE]; exact (Below.refl _ _).alloc (Nat.le_refl _) _
    have bx5 : Box E5 E4.heap.size [.int .i64 x0.inputs, .slice b4p1 x0.tables.length b4c1, .slice b4p2 x0.nodes.length b4c2, .slice b4p3 x0.outputs.length b4c3] 34 := by rw [hE]; exact Box.newAt _ [.int .i64 x0.inputs, .slice b4p1 x0.tables.length b4c1, .slice b4p2 x0.nodes.length b4c2, .slice b4p3 x0.outputs.length b4c3] _ rfl
    rw [← hE]
    clear hE
    have hz5 : E4.heap.size ≤ E5.heap.size := hb.size
    have hB5 := hB4.trans (hb.mono hB4.size)
    have ba0_5 := ba0_4.below hb
    have ba1_5 := ba1_4.below hb
    have bx3_5 := bx3_4.below hb
    have oR3_5 := oR3_4.below hb
    have o4_5 := o4.below hb
    clear hb hB4 ba0_4 ba1_4 bx3_4 oR3_4 o4
    refine (toPatch_v _ (h1.below hB5) hn1).mono ?_
    rintro e E6 ⟨u6, L6, rfl, o6, D6, hb⟩
    have HBW_o6 : Hid (w.heap.size ≤ E5.heap.size) := hB5.size
    have HR_o6 : Hid (∀ b, Blk L6 b → E5.heap.size ≤ b ∧ b < E6.heap.size) := fun b hbk => o6.blk hbk
    have hz6 : E5.heap.size ≤ E6.heap.size := hb.size
    have hB6 := hB5.trans (hb.mono hB5.size)
    have ba0_6 := ba0_5.below hb
    have ba1_6 := ba1_5.below hb
    have bx3_6 := bx3_5.below hb
    have bx5_6 := bx5.below hb
    have oR3_6 := oR3_5.below hb
    have o4_6 := o4_5.below hb
    clear hb hB5 ba0_5 ba1_5 bx3_5 bx5 oR3_5 o4_5
    have hv := o6.rd
    obtain ⟨b6p1, b6c1, b6p2, b6c2, b6p3, b6c3, rfl, -, -, -⟩ := hv
    have z_bx5_0 := (bx5_6.alloc (.cells #[.int .i64 x1.inputs, .slice b6p1 x1.tables.length b6c1, .slice b6p2 x1.nodes.length b6c2, .slice b6p3 x1.outputs.length b6c3] 34)).cell 0 rfl
    have z_bx5_1 := (bx5_6.alloc (.cells #[.int .i64 x1.inputs, .slice b6p1 x1.tables.length b6c1, .slice b6p2 x1.nodes.length b6c2, .slice b6p3 x1.outputs.length b6c3] 34)).cell 1 rfl
    have z_bx5_2 := (bx5_6.alloc (.cells #[.int .i64 x1.inputs, .slice b6p1 x1.tables.length b6c1, .slice b6p2 x1.nodes.length b6c2, .slice b6p3 x1.outputs.length b6c3] 34)).cell 2 rfl
    have z_bx5_3 := (bx5_6.alloc (.cells #[.int .i64 x1.inputs, .slice b6p1 x1.tables.length b6c1, .slice b6p2 x1.nodes.length b6c2, .slice b6p3 x1.outputs.length b6c3] 34)).cell 3 rfl
    go_wp2_with fail
    clear z_bx5_0 z_bx5_1 z_bx5_2 z_bx5_3
    obtain ⟨E7, hE⟩ : ∃ E, E = E6.alloc (.cells #[.int .i64 x1.inputs, .slice b6p1 x1.tables.length b6c1, .slice b6p2 x1.nodes.length b6c2, .slice b6p3 x1.outputs.length b6c3] 34) := ⟨_, rfl⟩
    have hb : Below E6.heap.size E6 E7 := by rw [hE]; exact (Below.refl _ _).alloc (Nat.le_refl _) _
    have bx7 : Box E7 E6.heap.size [.int .i64 x1.inputs, .slice b6p1 x1.tables.length b6c1, .slice b6p2 x1.nodes.length b6c2, .slice b6p3 x1.outputs.length b6c3] 34 := by rw [hE]; exact Box.newAt _ [.int .i64 x1.inputs, .slice b6p1 x1.tables.length b6c1, .slice b6p2 x1.nodes.length b6c2, .slice b6p3 x1.outputs.length b6c3] _ rfl
    rw [← hE]
    clear hE
    have hz7 : E6.heap.size ≤ E7.heap.size := hb.size
    have hB7 := hB6.trans (hb.mono hB6.size)
    have ba0_7 := ba0_6.below hb
    have ba1_7 := ba1_6.below hb
    have bx3_7 := bx3_6.below hb
    have bx5_7 := bx5_6.below hb
    have oR3_7 := oR3_6.below hb
    have o4_7 := o4_6.below hb
    have o6_7 := o6.below hb
    clear hb hB6 ba0_6 ba1_6 bx3_6 bx5_6 oR3_6 o4_6 o6
    refine (implChainPatches_v _ o4_7.rd o6_7.rd).mono ?_
    rintro e E8 ⟨u8_0, L8_0, rfl, o8_0, D8, hb⟩
    have HBW_o8_0 : Hid (w.heap.size ≤ E7.heap.size) := hB7.size
    have HR_o8_0 : Hid (∀ b, Blk L8_0 b → E7.heap.size ≤ b ∧ b < E8.heap.size) := fun b hbk => o8_0.blk hbk
    have hz8 : E7.heap.size ≤ E8.heap.size := hb.size
    have hB8 := hB7.trans (hb.mono hB7.size)
    have ba0_8 := ba0_7.below hb
    have ba1_8 := ba1_7.below hb
    have bx3_8 := bx3_7.below hb
    have bx5_8 := bx5_7.below hb
    have bx7_8 := bx7.below hb
    have oR3_8 := oR3_7.below hb
    have o4_8 := o4_7.below hb
    have o6_8 := o6_7.below hb
    clear hb hB7 ba0_7 ba1_7 bx3_7 bx5_7 bx7 oR3_7 o4_7 o6_7
    have hv := o8_0.rd
    obtain ⟨b800p1, b800c1, b800p2, b800c2, b800p3, b800c3, rfl, -, -, -⟩ := hv
    have z_bx3_0 := (bx3_8.alloc (.cells #[.int .i64 (chRes x0 x1).inputs, .slice b800p1 (chRes x0 x1).tables.length b800c1, .slice b800p2 (chRes x0 x1).nodes.length b800c2, .slice b800p3 (chRes x0 x1).outputs.length b800c3] 34)).cell 0 rfl
    have z_bx3_1 := (bx3_8.alloc (.cells #[.int .i64 (chRes x0 x1).inputs, .slice b800p1 (chRes x0 x1).tables.length b800c1, .slice b800p2 (chRes x0 x1).nodes.length b800c2, .slice b800p3 (chRes x0 x1).outputs.length b800c3] 34)).cell 1 rfl
    have z_bx3_2 := (bx3_8.alloc (.cells #[.int .i64 (chRes x0 x1).inputs, .slice b800p1 (chRes x0 x1).tables.length b800c1, .slice b800p2 (chRes x0 x1).nodes.length b800c2, .slice b800p3 (chRes x0 x1).outputs.length b800c3] 34)).cell 2 rfl
    have z_bx3_3 := (bx3_8.alloc (.cells #[.int .i64 (chRes x0 x1).inputs, .slice b800p1 (chRes x0 x1).tables.length b800c1, .slice b800p2 (chRes x0 x1).nodes.length b800c2, .slice b800p3 (chRes x0 x1).outputs.length b800c3] 34)).cell 3 rfl
    go_wp2_with fail
    clear z_bx3_0 z_bx3_1 z_bx3_2 z_bx3_3
    obtain ⟨E9, hE⟩ : ∃ E, E = E8.alloc (.cells #[.int .i64 (chRes x0 x1).inputs, .slice b800p1 (chRes x0 x1).tables.length b800c1, .slice b800p2 (chRes x0 x1).nodes.length b800c2, .slice b800p3 (chRes x0 x1).outputs.length b800c3] 34) := ⟨_, rfl⟩
    have hb : Below E8.heap.size E8 E9 := by rw [hE]; exact (Below.refl _ _).alloc (Nat.le_refl _) _
    have bx9 : Box E9 E8.heap.size [.int .i64 (chRes x0 x1).inputs, .slice b800p1 (chRes x0 x1).tables.length b800c1, .slice b800p2 (chRes x0 x1).nodes.length b800c2, .slice b800p3 (chRes x0 x1).outputs.length b800c3] 34 := by rw [hE]; exact Box.newAt _ [.int .i64 (chRes x0 x1).inputs, .slice b800p1 (chRes x0 x1).tables.length b800c1, .slice b800p2 (chRes x0 x1).nodes.length b800c2, .slice b800p3 (chRes x0 x1).outputs.length b800c3] _ rfl
    rw [← hE]
    clear hE
    have hz9 : E8.heap.size ≤ E9.heap.size := hb.size
    have hB9 := hB8.trans (hb.mono hB8.size)
    have ba0_9 := ba0_8.below hb
    have ba1_9 := ba1_8.below hb
    have bx3_9 := bx3_8.below hb
    have bx5_9 := bx5_8.below hb
    have bx7_9 := bx7_8.below hb
    have oR3_9 := oR3_8.below hb
    have o4_9 := o4_8.below hb
    have o6_9 := o6_8.below hb
    have o8_0_9 := o8_0.below hb
    clear hb hB8 ba0_8 ba1_8 bx3_8 bx5_8 bx7_8 oR3_8 o4_8 o6_8 o8_0
    refine (eqPatch_v _ o8_0_9.rd oR3_9.rd).mono ?_
    rintro e E10 ⟨rfl, hb⟩
    have hz10 : E9.heap.size ≤ E10.heap.size := hb.size
    have hB10 := hB9.trans (hb.mono hB9.size)
    have ba0_10 := ba0_9.below hb
    have ba1_10 := ba1_9.below hb
    have bx3_10 := bx3_9.below hb
    have bx5_10 := bx5_9.below hb
    have bx7_10 := bx7_9.below hb
    have bx9_10 := bx9.below hb
    have oR3_10 := oR3_9.below hb
    have o4_10 := o4_9.below hb
    have o6_10 := o6_9.below hb
    have o8_0_10 := o8_0_9.below hb
    clear hb hB9 ba0_9 ba1_9 bx3_9 bx5_9 bx7_9 bx9 oR3_9 o4_9 o6_9 o8_0_9
    go_upto_region 14 with fail
    go_cut [58] (fun s58 wr => s58 = .bool false ∧ Below E10.heap.size E10 wr)
    case first =>
      have z_bx5_0 := bx5_10.cell 0 rfl
      have z_bx5_1 := bx5_10.cell 1 rfl
      have z_bx5_2 := bx5_10.cell 2 rfl
      have z_bx5_3 := bx5_10.cell 3 rfl
      have z_ba0_0 := ba0_10.cell 0 rfl
      have z_ba0_1 := ba0_10.cell 1 rfl
      have z_ba0_2 := ba0_10.cell 2 rfl
      have z_ba0_3 := ba0_10.cell 3 rfl
      go_region_with (first | (go_at_call_of 13 (Value.agg #[.int .i64 x0.inputs, .slice a0p1 x0.tables.length a0c1, .slice a0p2 x0.nodes.length a0c2, .slice a0p3 x0.outputs.length a0c3]); refine (toPatch_v _ ((h0.below hB10).below (below_drew' (Below.refl _ _))) hn0).mono ?_; rintro e G14_1 ⟨u, L, rfl, o14_1, DD, hb⟩; clear DD; have hbb : Below E10.heap.size E10 G14_1 := below_drew' hb; have hBG14_1 := hB10.trans (hbb.mono hB10.size); have hRG14_1 := hbb; have oR3G14_1 := oR3_10.below hbb; have o4G14_1 := o4_10.below hbb; have o6G14_1 := o6_10.below hbb; have o8_0G14_1 := o8_0_10.below hbb; have bx5G14_1 := bx5_10.below hbb; have y_bx5_0 := bx5G14_1.cell 0 rfl; have y_bx5_1 := bx5G14_1.cell 1 rfl; have y_bx5_2 := bx5G14_1.cell 2 rfl; have y_bx5_3 := bx5G14_1.cell 3 rfl; have ba0G14_1 := ba0_10.below hbb; have y_ba0_0 := ba0G14_1.cell 0 rfl; have y_ba0_1 := ba0G14_1.cell 1 rfl; have y_ba0_2 := ba0G14_1.cell 2 rfl; have y_ba0_3 := ba0G14_1.cell 3 rfl; clear hb hbb) | (go_at_call 16; refine (eqPatch_v _ o4G14_1.rd o14_1.rd).mono ?_; rintro e G14_2 ⟨rfl, hb⟩; have hbb : Below G14_1.heap.size G14_1 G14_2 := hb; have hBG14_2 := hBG14_1.trans (hbb.mono hBG14_1.size); have hRG14_2 := hRG14_1.trans (hbb.mono hRG14_1.size); have oR3G14_2 := oR3G14_1.below hbb; have o4G14_2 := o4G14_1.below hbb; have o6G14_2 := o6G14_1.below hbb; have o8_0G14_2 := o8_0G14_1.below hbb; have o14_1G14_2 := o14_1.below hbb; have bx5G14_2 := bx5G14_1.below hbb; have ba0G14_2 := ba0G14_1.below hbb; clear hb hbb))
      all_goals (go_wp2_with fail; go_meet; exact ⟨rfl, hRG14_2⟩)
    case rest =>
      obtain ⟨rfl, hb⟩ := hcut
      obtain ⟨E11, rfl⟩ : ∃ E, E = wc := ⟨_, rfl⟩
      have hz11 : E10.heap.size ≤ E11.heap.size := hb.size
      have hB11 := hB10.trans (hb.mono hB10.size)
      have ba0_11 := ba0_10.below hb
      have ba1_11 := ba1_10.below hb
      have bx3_11 := bx3_10.below hb
      have bx5_11 := bx5_10.below hb
      have bx7_11 := bx7_10.below hb
      have bx9_11 := bx9_10.below hb
      have oR3_11 := oR3_10.below hb
      have o4_11 := o4_10.below hb
      have o6_11 := o6_10.below hb
      have o8_0_11 := o8_0_10.below hb
      clear hb hB10 ba0_10 ba1_10 bx3_10 bx5_10 bx7_10 bx9_10 oR3_10 o4_10 o6_10 o8_0_10
      go_upto_region 16 with fail
      go_cut [63] (fun s63 wr => s63 = .bool false ∧ Below E11.heap.size E11 wr)
      case first =>
        have z_bx7_0 := bx7_11.cell 0 rfl
        have z_bx7_1 := bx7_11.cell 1 rfl
        have z_bx7_2 := bx7_11.cell 2 rfl
        have z_bx7_3 := bx7_11.cell 3 rfl
        have z_ba1_0 := ba1_11.cell 0 rfl
        have z_ba1_1 := ba1_11.cell 1 rfl
        have z_ba1_2 := ba1_11.cell 2 rfl
        have z_ba1_3 := ba1_11.cell 3 rfl
        go_region_with (first | (go_at_call_of 13 (Value.agg #[.int .i64 x1.inputs, .slice a1p1 x1.tables.length a1c1, .slice a1p2 x1.nodes.length a1c2, .slice a1p3 x1.outputs.length a1c3]); refine (toPatch_v _ ((h1.below hB11).below (below_drew' (Below.refl _ _))) hn1).mono ?_; rintro e G16_1 ⟨u, L, rfl, o16_1, DD, hb⟩; clear DD; have hbb : Below E11.heap.size E11 G16_1 := below_drew' hb; have hBG16_1 := hB11.trans (hbb.mono hB11.size); have hRG16_1 := hbb; have oR3G16_1 := oR3_11.below hbb; have o4G16_1 := o4_11.below hbb; have o6G16_1 := o6_11.below hbb; have o8_0G16_1 := o8_0_11.below hbb; have bx7G16_1 := bx7_11.below hbb; have y_bx7_0 := bx7G16_1.cell 0 rfl; have y_bx7_1 := bx7G16_1.cell 1 rfl; have y_bx7_2 := bx7G16_1.cell 2 rfl; have y_bx7_3 := bx7G16_1.cell 3 rfl; have ba1G16_1 := ba1_11.below hbb; have y_ba1_0 := ba1G16_1.cell 0 rfl; have y_ba1_1 := ba1G16_1.cell 1 rfl; have y_ba1_2 := ba1G16_1.cell 2 rfl; have y_ba1_3 := ba1G16_1.cell 3 rfl; clear hb hbb) | (go_at_call 16; refine (eqPatch_v _ o6G16_1.rd o16_1.rd).mono ?_; rintro e G16_2 ⟨rfl, hb⟩; have hbb : Below G16_1.heap.size G16_1 G16_2 := hb; have hBG16_2 := hBG16_1.trans (hbb.mono hBG16_1.size); have hRG16_2 := hRG16_1.trans (hbb.mono hRG16_1.size); have oR3G16_2 := oR3G16_1.below hbb; have o4G16_2 := o4G16_1.below hbb; have o6G16_2 := o6G16_1.below hbb; have o8_0G16_2 := o8_0G16_1.below hbb; have o16_1G16_2 := o16_1.below hbb; have bx7G16_2 := bx7G16_1.below hbb; have ba1G16_2 := ba1G16_1.below hbb; clear hb hbb))
        all_goals (go_wp2_with fail; go_meet; exact ⟨rfl, hRG16_2⟩)
      case rest =>
        obtain ⟨rfl, hb⟩ := hcut
        obtain ⟨E12, rfl⟩ : ∃ E, E = wc := ⟨_, rfl⟩
        have hz12 : E11.heap.size ≤ E12.heap.size := hb.size
        have hB12 := hB11.trans (hb.mono hB11.size)
        have ba0_12 := ba0_11.below hb
        have ba1_12 := ba1_11.below hb
        have bx3_12 := bx3_11.below hb
        have bx5_12 := bx5_11.below hb
        have bx7_12 := bx7_11.below hb
        have bx9_12 := bx9_11.below hb
        have oR3_12 := oR3_11.below hb
        have o4_12 := o4_11.below hb
        have o6_12 := o6_11.below hb
        have o8_0_12 := o8_0_11.below hb
        clear hb hB11 ba0_11 ba1_11 bx3_11 bx5_11 bx7_11 bx9_11 oR3_11 o4_11 o6_11 o8_0_11
        have z_bx5_0 := bx5_12.cell 0 rfl
        have z_bx5_1 := bx5_12.cell 1 rfl
        have z_bx5_2 := bx5_12.cell 2 rfl
        have z_bx5_3 := bx5_12.cell 3 rfl
        go_wp2_with fail
        clear z_bx5_0 z_bx5_1 z_bx5_2 z_bx5_3
        have hc_o4 := (show cntPatch x0 ≤ 6291456 by have h1 := cntPatch_le x0; have h2 := hn0; omega)
        refine (markPatch_v _ _ o4_12 D4 (by omega) (by omega)).mono ?_
        rintro e E13 ⟨rfl, om13, hf⟩
        have hz13 : E12.heap.size ≤ E13.heap.size := hf.size
        have hB13 := hB12.trans (hf.below (fun b hbk => by have h1 := (HR_o4.out b hbk).1; have h2 := HBW_o4.out; omega) hB12.size)
        have ba0_13 := ba0_12.offBlk (by decide) o4_12.ints hf
        have ba1_13 := ba1_12.offBlk (by decide) o4_12.ints hf
        have bx3_13 := bx3_12.offBlk (by decide) o4_12.ints hf
        have bx5_13 := bx5_12.offBlk (by decide) o4_12.ints hf
        have bx7_13 := bx7_12.offBlk (by decide) o4_12.ints hf
        have bx9_13 := bx9_12.offBlk (by decide) o4_12.ints hf
        have oR3_13 := oR3_12.offBlk o4_12.ints (apart (fun x h => (HR_oR3.out x h).2) (fun x h => (HR_o4.out x h).1) (by omega)) hf
        have o6_13 := o6_12.offBlk o4_12.ints (apart' (fun x h => (HR_o4.out x h).2) (fun x h => (HR_o6.out x h).1) (by omega)) hf
        have o8_0_13 := o8_0_12.offBlk o4_12.ints (apart' (fun x h => (HR_o4.out x h).2) (fun x h => (HR_o8_0.out x h).1) (by omega)) hf
        clear hf hB12 ba0_12 ba1_12 bx3_12 bx5_12 bx7_12 bx9_12 oR3_12 o6_12 o8_0_12 o4_12
        have z_bx7_0 := bx7_13.cell 0 rfl
        have z_bx7_1 := bx7_13.cell 1 rfl
        have z_bx7_2 := bx7_13.cell 2 rfl
        have z_bx7_3 := bx7_13.cell 3 rfl
        go_wp2_with fail
        clear z_bx7_0 z_bx7_1 z_bx7_2 z_bx7_3
        have hc_o6 := (show cntPatch x1 ≤ 6291456 by have h1 := cntPatch_le x1; have h2 := hn1; omega)
        refine (markPatch_v _ _ o6_13 D6 (by omega) (by omega)).mono ?_
        rintro e E14 ⟨rfl, om14, hf⟩
        have hz14 : E13.heap.size ≤ E14.heap.size := hf.size
        have hB14 := hB13.trans (hf.below (fun b hbk => by have h1 := (HR_o6.out b hbk).1; have h2 := HBW_o6.out; omega) hB13.size)
        have ba0_14 := ba0_13.offBlk (by decide) o6_13.ints hf
        have ba1_14 := ba1_13.offBlk (by decide) o6_13.ints hf
        have bx3_14 := bx3_13.offBlk (by decide) o6_13.ints hf
        have bx5_14 := bx5_13.offBlk (by decide) o6_13.ints hf
        have bx7_14 := bx7_13.offBlk (by decide) o6_13.ints hf
        have bx9_14 := bx9_13.offBlk (by decide) o6_13.ints hf
        have oR3_14 := oR3_13.offBlk o6_13.ints (apart (fun x h => (HR_oR3.out x h).2) (fun x h => (HR_o6.out x h).1) (by omega)) hf
        have o4_14 := om13.offBlk o6_13.ints (apart (fun x h => (HR_o4.out x h).2) (fun x h => (HR_o6.out x h).1) (by omega)) hf
        have o8_0_14 := o8_0_13.offBlk o6_13.ints (apart' (fun x h => (HR_o6.out x h).2) (fun x h => (HR_o8_0.out x h).1) (by omega)) hf
        clear hf hB13 ba0_13 ba1_13 bx3_13 bx5_13 bx7_13 bx9_13 oR3_13 om13 o8_0_13 o6_13
        have z_bx9_0 := bx9_14.cell 0 rfl
        have z_bx9_1 := bx9_14.cell 1 rfl
        have z_bx9_2 := bx9_14.cell 2 rfl
        have z_bx9_3 := bx9_14.cell 3 rfl
        have z_bx3_0 := bx3_14.cell 0 rfl
        have z_bx3_1 := bx3_14.cell 1 rfl
        have z_bx3_2 := bx3_14.cell 2 rfl
        have z_bx3_3 := bx3_14.cell 3 rfl
        go_wp2_with fail
        clear z_bx9_0 z_bx9_1 z_bx9_2 z_bx9_3 z_bx3_0 z_bx3_1 z_bx3_2 z_bx3_3
        refine (eqPatch_v _ o8_0_14.rd oR3_14.rd).mono ?_
        rintro e E15 ⟨rfl, hb⟩
        have hz15 : E14.heap.size ≤ E15.heap.size := hb.size
        have hB15 := hB14.trans (hb.mono hB14.size)
        have ba0_15 := ba0_14.below hb
        have ba1_15 := ba1_14.below hb
        have bx3_15 := bx3_14.below hb
        have bx5_15 := bx5_14.below hb
        have bx7_15 := bx7_14.below hb
        have bx9_15 := bx9_14.below hb
        have oR3_15 := oR3_14.below hb
        have o4_15 := o4_14.below hb
        have o6_15 := om14.below hb
        have o8_0_15 := o8_0_14.below hb
        clear hb hB14 ba0_14 ba1_14 bx3_14 bx5_14 bx7_14 bx9_14 oR3_14 o4_14 om14 o8_0_14
        have z_bx9_0 := bx9_15.cell 0 rfl
        have z_bx9_1 := bx9_15.cell 1 rfl
        have z_bx9_2 := bx9_15.cell 2 rfl
        have z_bx9_3 := bx9_15.cell 3 rfl
        go_wp2_with fail
        clear z_bx9_0 z_bx9_1 z_bx9_2 z_bx9_3
        have hc_o8_0 := chRes_small x0 x1
        refine (markPatch_v _ _ o8_0_15 D8 (by omega) (by omega)).mono ?_
        rintro e E16 ⟨rfl, om16, hf⟩
        have hz16 : E15.heap.size ≤ E16.heap.size := hf.size
        have hB16 := hB15.trans (hf.below (fun b hbk => by have h1 := (HR_o8_0.out b hbk).1; have h2 := HBW_o8_0.out; omega) hB15.size)
        have ba0_16 := ba0_15.offBlk (by decide) o8_0_15.ints hf
        have ba1_16 := ba1_15.offBlk (by decide) o8_0_15.ints hf
        have bx3_16 := bx3_15.offBlk (by decide) o8_0_15.ints hf
        have bx5_16 := bx5_15.offBlk (by decide) o8_0_15.ints hf
        have bx7_16 := bx7_15.offBlk (by decide) o8_0_15.ints hf
        have bx9_16 := bx9_15.offBlk (by decide) o8_0_15.ints hf
        have oR3_16 := oR3_15.offBlk o8_0_15.ints (apart (fun x h => (HR_oR3.out x h).2) (fun x h => (HR_o8_0.out x h).1) (by omega)) hf
        have o4_16 := o4_15.offBlk o8_0_15.ints (apart (fun x h => (HR_o4.out x h).2) (fun x h => (HR_o8_0.out x h).1) (by omega)) hf
        have o6_16 := o6_15.offBlk o8_0_15.ints (apart (fun x h => (HR_o6.out x h).2) (fun x h => (HR_o8_0.out x h).1) (by omega)) hf
        clear hf hB15 ba0_15 ba1_15 bx3_15 bx5_15 bx7_15 bx9_15 oR3_15 o4_15 o6_15 o8_0_15
        have z_bx9_0 := bx9_16.cell 0 rfl
        have z_bx9_1 := bx9_16.cell 1 rfl
        have z_bx9_2 := bx9_16.cell 2 rfl
        have z_bx9_3 := bx9_16.cell 3 rfl
        go_wp2_with fail
        clear z_bx9_0 z_bx9_1 z_bx9_2 z_bx9_3
        refine (heldPatch_v (x := (chRes x0 x1)) _ _ om16.rd (by omega) (by omega)).mono ?_
        rintro e E17 ⟨rfl, hb⟩
        have hz17 : E16.heap.size ≤ E17.heap.size := hb.size
        have hB17 := hB16.trans (hb.mono hB16.size)
        have ba0_17 := ba0_16.below hb
        have ba1_17 := ba1_16.below hb
        have bx3_17 := bx3_16.below hb
        have bx5_17 := bx5_16.below hb
        have bx7_17 := bx7_16.below hb
        have bx9_17 := bx9_16.below hb
        have oR3_17 := oR3_16.below hb
        have o4_17 := o4_16.below hb
        have o6_17 := o6_16.below hb
        have o8_0_17 := om16.below hb
        clear hb hB16 ba0_16 ba1_16 bx3_16 bx5_16 bx7_16 bx9_16 oR3_16 o4_16 o6_16 om16
        go_upto_region 31 with fail
        have z_ba0_0 := ba0_17.cell 0 rfl
        have z_ba0_1 := ba0_17.cell 1 rfl
        have z_ba0_2 := ba0_17.cell 2 rfl
        have z_ba0_3 := ba0_17.cell 3 rfl
        have z_ba1_0 := ba1_17.cell 0 rfl
        have z_ba1_1 := ba1_17.cell 1 rfl
        have z_ba1_2 := ba1_17.cell 2 rfl
        have z_ba1_3 := ba1_17.cell 3 rfl
        have lt_ba0 := ba0_17.lt
        have lt_ba1 := ba1_17.lt
        have CK : Hid (∀ W, Below E17.heap.size E17 W → W.cell? ⟨w.heap.size, 0, none⟩ = some (.int .i64 x0.inputs) ∧ W.cell? ⟨w.heap.size, 1, none⟩ = some (.slice a0p1 x0.tables.length a0c1) ∧ W.cell? ⟨w.heap.size, 2, none⟩ = some (.slice a0p2 x0.nodes.length a0c2) ∧ W.cell? ⟨w.heap.size, 3, none⟩ = some (.slice a0p3 x0.outputs.length a0c3) ∧ W.cell? ⟨w.heap.size + 1, 0, none⟩ = some (.int .i64 x1.inputs) ∧ W.cell? ⟨w.heap.size + 1, 1, none⟩ = some (.slice a1p1 x1.tables.length a1c1) ∧ W.cell? ⟨w.heap.size + 1, 2, none⟩ = some (.slice a1p2 x1.nodes.length a1c2) ∧ W.cell? ⟨w.heap.size + 1, 3, none⟩ = some (.slice a1p3 x1.outputs.length a1c3)) := fun W hW => ⟨(hW.cell (p := ⟨w.heap.size, 0, none⟩) lt_ba0).trans z_ba0_0, (hW.cell (p := ⟨w.heap.size, 1, none⟩) lt_ba0).trans z_ba0_1, (hW.cell (p := ⟨w.heap.size, 2, none⟩) lt_ba0).trans z_ba0_2, (hW.cell (p := ⟨w.heap.size, 3, none⟩) lt_ba0).trans z_ba0_3, (hW.cell (p := ⟨w.heap.size + 1, 0, none⟩) lt_ba1).trans z_ba1_0, (hW.cell (p := ⟨w.heap.size + 1, 1, none⟩) lt_ba1).trans z_ba1_1, (hW.cell (p := ⟨w.heap.size + 1, 2, none⟩) lt_ba1).trans z_ba1_2, (hW.cell (p := ⟨w.heap.size + 1, 3, none⟩) lt_ba1).trans z_ba1_3⟩
        have hcur := belowDrew0 E17
        go_cut [15, 16] (fun s6 s7 wr => ∃ (s : Nat) (bp1 : Option Addr) (bc1 : Nat) (bp2 : Option Addr) (bc2 : Nat) (bp3 : Option Addr) (bc3 : Nat) (L : List Value), s6 = .pointer (some ⟨s, 0, none⟩) ∧ s7 = .int .i64 (chCode x0 x1) ∧ HeldP E17 wr s (chRes x0 x1) (.slice bp1 (chRes x0 x1).tables.length bc1) (.slice bp2 (chRes x0 x1).nodes.length bc2) (.slice bp3 (chRes x0 x1).outputs.length bc3) L)
        case first =>
          go_region_held3 (fun W => W.cell? ⟨w.heap.size, 0, none⟩ = some (.int .i64 x0.inputs) ∧ W.cell? ⟨w.heap.size, 1, none⟩ = some (.slice a0p1 x0.tables.length a0c1) ∧ W.cell? ⟨w.heap.size, 2, none⟩ = some (.slice a0p2 x0.nodes.length a0c2) ∧ W.cell? ⟨w.heap.size, 3, none⟩ = some (.slice a0p3 x0.outputs.length a0c3) ∧ W.cell? ⟨w.heap.size + 1, 0, none⟩ = some (.int .i64 x1.inputs) ∧ W.cell? ⟨w.heap.size + 1, 1, none⟩ = some (.slice a1p1 x1.tables.length a1c1) ∧ W.cell? ⟨w.heap.size + 1, 2, none⟩ = some (.slice a1p2 x1.nodes.length a1c2) ∧ W.cell? ⟨w.heap.size + 1, 3, none⟩ = some (.slice a1p3 x1.outputs.length a1c3)) (first | go_keep | exact CK.out _ (by (repeat (first | exact Below.refl _ _ | assumption | refine Below.setCell ?_ (by first | exact Nat.le_refl _ | omega | (simp; done) | (simp; omega)) _ | refine Below.alloc ?_ (by first | exact Nat.le_refl _ | omega | (simp; done) | (simp; omega)) _ | refine below_drewN ?_ _)))) (first | (go_at_call_of 13 (Value.agg #[.int .i64 x0.inputs, .slice a0p1 x0.tables.length a0c1, .slice a0p2 x0.nodes.length a0c2, .slice a0p3 x0.outputs.length a0c3]); refine (toPatch_v _ (h0.below (hB17.trans (Below.mono (by first | exact hcur | exact hcur.alloc hcur.size _) hB17.size))) hn0).mono ?_; rintro e G31_1 ⟨u1, M1, rfl, o1, DD, hb⟩; clear DD; (first | (have hs2 := bq.lt; have bq := bq.below hb) | (have bq : Box G31_1 E17.heap.size zPatch 34 := Box.below (w := E17.drew.alloc _) (Box.newAt E17.drew zPatch _ rfl) hb; have hsb : E17.heap.size ≤ E17.heap.size := Nat.le_refl _; have hs2 : E17.heap.size < (E17.drew.alloc (.cells zPatch.toArray 34)).heap.size := by simp) | skip); have hcur : Below E17.heap.size E17 G31_1 := Below.via (by first | exact hcur | exact hcur.alloc hcur.size _) hb; have hcs1 := hcur.size; clear hb) | (go_at_call_of 13 (Value.agg #[.int .i64 x1.inputs, .slice a1p1 x1.tables.length a1c1, .slice a1p2 x1.nodes.length a1c2, .slice a1p3 x1.outputs.length a1c3]); refine (toPatch_v _ (h1.below (hB17.trans (Below.mono (by first | exact hcur | exact hcur.alloc hcur.size _) hB17.size))) hn1).mono ?_; rintro e G31_2 ⟨u2, M2, rfl, o2, DD, hb⟩; clear DD; have o1 := o1.below (by first | exact hb | exact Below.via ((Below.refl _ _).alloc (Nat.le_refl _) _) hb); (first | (have hs2 := bq.lt; have bq := bq.below hb) | (have bq : Box G31_2 G31_1.heap.size zPatch 34 := Box.below (w := G31_1.alloc _) (Box.newAt G31_1 zPatch _ rfl) hb; have hsb : E17.heap.size ≤ G31_1.heap.size := hcur.size; have hs2 : G31_1.heap.size < (G31_1.alloc (.cells zPatch.toArray 34)).heap.size := by simp) | skip); have hcur : Below E17.heap.size E17 G31_2 := Below.via (by first | exact hcur | exact hcur.alloc hcur.size _) hb; have hcs2 := hcur.size; clear hb) | (go_at_call 33; refine (implChainPatches_v _ (by first | exact o1.rd | exact (o1.below ((Below.refl _ _).alloc (Nat.le_refl _) _)).rd) (by first | exact o2.rd | exact (o2.below ((Below.refl _ _).alloc (Nat.le_refl _) _)).rd)).mono ?_; rintro e G31_3 ⟨u3, M3, rfl, oR, DR, hb⟩; (first | (have hs2 := bq.lt; have bq := bq.below hb) | (have bq : Box G31_3 G31_2.heap.size zPatch 34 := Box.below (w := G31_2.alloc _) (Box.newAt G31_2 zPatch _ rfl) hb; have hsb : E17.heap.size ≤ G31_2.heap.size := hcur.size; have hs2 : G31_2.heap.size < (G31_2.alloc (.cells zPatch.toArray 34)).heap.size := by simp) | skip); have hc0 := hcur; have hcur : Below E17.heap.size E17 G31_3 := Below.via (by first | exact hcur | exact hcur.alloc hcur.size _) hb; have hcs3 := hcur.size; clear hb; obtain ⟨bp1, bc1, bp2, bc2, bp3, bc3, rfl, -, -, -⟩ := oR.rd; (try (have tq0 := bq.cell 0 rfl; have fq0 := bq.frozen 0; have tq1 := bq.cell 1 rfl; have fq1 := bq.frozen 1; have tq2 := bq.cell 2 rfl; have fq2 := bq.frozen 2; have tq3 := bq.cell 3 rfl; have fq3 := bq.frozen 3))))
          all_goals (go_wp2_with fail; go_meet; first | exact ⟨_, _, _, _, _, _, _, _, rfl, rfl, HeldP.box oR DR hcur bq hsb (by first | exact hs2 | simpa using hs2)⟩ | exact ⟨_, _, _, _, _, _, _, _, rfl, rfl, HeldP.new oR DR hcur (by first | exact hc0.size | exact (hc0.alloc hc0.size _).size)⟩)
        case rest =>
          obtain ⟨s18, b18p1, b18c1, b18p2, b18c2, b18p3, b18c3, L18, rfl, rfl, bx18, oR18, D18, hb⟩ := hcut
          obtain ⟨E18, rfl⟩ : ∃ E, E = wc := ⟨_, rfl⟩
          clear CK hcur z_ba0_0 z_ba0_1 z_ba0_2 z_ba0_3 z_ba1_0 z_ba1_1 z_ba1_2 z_ba1_3 lt_ba0 lt_ba1
          have HBW_oR18 : Hid (w.heap.size ≤ E17.heap.size) := hB17.size
          have HR_oR18 : Hid (∀ b, Blk L18 b → E17.heap.size ≤ b ∧ b < E18.heap.size) := fun b hbk => oR18.blk hbk
          have hz18 : E17.heap.size ≤ E18.heap.size := hb.size
          have hB18 := hB17.trans (hb.mono hB17.size)
          have ba0_18 := ba0_17.below hb
          have ba1_18 := ba1_17.below hb
          have bx3_18 := bx3_17.below hb
          have bx5_18 := bx5_17.below hb
          have bx7_18 := bx7_17.below hb
          have bx9_18 := bx9_17.below hb
          have oR3_18 := oR3_17.below hb
          have o4_18 := o4_17.below hb
          have o6_18 := o6_17.below hb
          have o8_0_18 := o8_0_17.below hb
          clear hb hB17 ba0_17 ba1_17 bx3_17 bx5_17 bx7_17 bx9_17 oR3_17 o4_17 o6_17 o8_0_17
          have z_bx18_0 := bx18.cell 0 rfl
          have z_bx18_1 := bx18.cell 1 rfl
          have z_bx18_2 := bx18.cell 2 rfl
          have z_bx18_3 := bx18.cell 3 rfl
          have z_bx3_0 := bx3_18.cell 0 rfl
          have z_bx3_1 := bx3_18.cell 1 rfl
          have z_bx3_2 := bx3_18.cell 2 rfl
          have z_bx3_3 := bx3_18.cell 3 rfl
          go_wp2_with fail
          clear z_bx18_0 z_bx18_1 z_bx18_2 z_bx18_3 z_bx3_0 z_bx3_1 z_bx3_2 z_bx3_3
          refine (eqPatch_v _ oR18.rd oR3_18.rd).mono ?_
          rintro e E19 ⟨rfl, hb⟩
          have hz19 : E18.heap.size ≤ E19.heap.size := hb.size
          have hB19 := hB18.trans (hb.mono hB18.size)
          have ba0_19 := ba0_18.below hb
          have ba1_19 := ba1_18.below hb
          have bx3_19 := bx3_18.below hb
          have bx5_19 := bx5_18.below hb
          have bx7_19 := bx7_18.below hb
          have bx9_19 := bx9_18.below hb
          have bx18_19 := bx18.below hb
          have oR3_19 := oR3_18.below hb
          have o4_19 := o4_18.below hb
          have o6_19 := o6_18.below hb
          have o8_0_19 := o8_0_18.below hb
          have oR18_19 := oR18.below hb
          clear hb hB18 ba0_18 ba1_18 bx3_18 bx5_18 bx7_18 bx9_18 bx18 oR3_18 o4_18 o6_18 o8_0_18 oR18
          have z_bx9_0 := bx9_19.cell 0 rfl
          have z_bx9_1 := bx9_19.cell 1 rfl
          have z_bx9_2 := bx9_19.cell 2 rfl
          have z_bx9_3 := bx9_19.cell 3 rfl
          go_wp2_with fail
          clear z_bx9_0 z_bx9_1 z_bx9_2 z_bx9_3
          refine (heldPatch_v (x := (chRes x0 x1)) _ _ o8_0_19.rd (by omega) (by omega)).mono ?_
          rintro e E20 ⟨rfl, hb⟩
          have hz20 : E19.heap.size ≤ E20.heap.size := hb.size
          have hB20 := hB19.trans (hb.mono hB19.size)
          have ba0_20 := ba0_19.below hb
          have ba1_20 := ba1_19.below hb
          have bx3_20 := bx3_19.below hb
          have bx5_20 := bx5_19.below hb
          have bx7_20 := bx7_19.below hb
          have bx9_20 := bx9_19.below hb
          have bx18_20 := bx18_19.below hb
          have oR3_20 := oR3_19.below hb
          have o4_20 := o4_19.below hb
          have o6_20 := o6_19.below hb
          have o8_0_20 := o8_0_19.below hb
          have oR18_20 := oR18_19.below hb
          clear hb hB19 ba0_19 ba1_19 bx3_19 bx5_19 bx7_19 bx9_19 bx18_19 oR3_19 o4_19 o6_19 o8_0_19 oR18_19
          go_wp2_with fail
          go_ret
          exact ⟨rfl, hB20⟩

end Go.Proofs.Ytalomhakmfknjaa
