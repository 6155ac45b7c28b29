/-
  The walks of exact laws on patches.
-/
import Derived.Test.YtonkdndpfnapjaaGreatApZ
namespace Go.Proofs.YtonkdndpfnapjaaGreat
open Go.ChangeShapes Go.WideShapes Go.ChangeAt Go.RowKit
set_option linter.unusedVariables false

set_option maxHeartbeats 8000000 in
set_option maxRecDepth 100000 in
theorem fnExactApplyRewrite_walk (w : World) {v0 : Value} {x0 : PatchD} (h0 : VPatch w v0 x0) {v1 : Value} {x1 : RewriteD} (h1 : VRewrite w v1 x1) :
    Calls Tryz.prog 4 #[v0, v1] w fun e w' => e = .returned (.bool true) ∧ Below w.heap.size w w' := by
  have hv0 := h0
  obtain ⟨a0p1, a0c1, a0p2, a0c2, a0p3, a0c3, rfl, -, -, -⟩ := hv0
  have hv1 := h1
  unfold VRewrite at hv1
  subst hv1
  obtain ⟨E0, hE0⟩ : ∃ E, E = ((w.alloc (.cells #[.int .i64 x0.inputs, .slice a0p1 x0.tables.length a0c1, .slice a0p2 x0.nodes.length a0c2, .slice a0p3 x0.outputs.length a0c3] 26)).alloc (.cells #[.int .i64 x1.rule, .int .i64 x1.node] 37)) := ⟨_, rfl⟩
  have HB0 : Below w.heap.size w E0 := by rw [hE0]; exact (((Below.refl _ _).alloc (Nat.le_refl _) _).alloc (by simp) _)
  have ba0 : Box E0 (w.heap.size) [.int .i64 x0.inputs, .slice a0p1 x0.tables.length a0c1, .slice a0p2 x0.nodes.length a0c2, .slice a0p3 x0.outputs.length a0c3] 26 := by rw [hE0]; exact (Box.newAt _ [.int .i64 x0.inputs, .slice a0p1 x0.tables.length a0c1, .slice a0p2 x0.nodes.length a0c2, .slice a0p3 x0.outputs.length a0c3] _ (by simp)).alloc _
  have lq_ba0 := ba0.lt
  have ba1 : Box E0 (w.heap.size + 1) [.int .i64 x1.rule, .int .i64 x1.node] 37 := by rw [hE0]; exact Box.newAt _ [.int .i64 x1.rule, .int .i64 x1.node] _ (by simp)
  have lq_ba1 := ba1.lt
  have HE0 := Lib.hid hE0
  clear hE0
  go_enter Tryz.func4, Tryz.ntmps4
  go_wp2_with fail
  rw [← HE0.out]
  refine (szPatch_v _ _ (h0.below HB0) (by omega) (by omega)).mono ?_
  rintro e E1 ⟨rfl, hb⟩
  have hz1 : E0.heap.size ≤ E1.heap.size := hb.size
  have hB1 := HB0.trans (hb.mono HB0.size)
  have ba0_1 := ba0.below hb
  have ba1_1 := ba1.below hb
  clear hb ba0 ba1
  by_cases k1 : szF 1048576 (wtPatch x0) < 0
  case pos =>
    go_wp2_with fail
    go_ret
    exact ⟨rfl, hB1⟩
  have hn0 : wtPatch x0 ≤ 1048576 := by have := (szF_pos k1).2; omega
  have s1 := (szF_pos k1).1
  have l1 : 0 ≤ szF 1048576 (wtPatch x0) := by omega
  have g1 : szF 1048576 (wtPatch x0) ≤ 1048576 := by omega
  clear s1
  go_upto_region 5 with fail
  have z_ba0_0 := ba0_1.cell 0 rfl
  have z_ba0_1 := ba0_1.cell 1 rfl
  have z_ba0_2 := ba0_1.cell 2 rfl
  have z_ba0_3 := ba0_1.cell 3 rfl
  have z_ba1_0 := ba1_1.cell 0 rfl
  have z_ba1_1 := ba1_1.cell 1 rfl
  have lt_ba0 := ba0_1.lt
  have lt_ba1 := ba1_1.lt
  have CK : Hid (∀ W, Below E1.heap.size E1 W → W.cell? ⟨w.heap.size, 0, none⟩ = some (.int .i64 x0.inputs) ∧ W.cell? ⟨w.heap.size, 1, none⟩ = some (.slice a0p1 x0.tables.length a0c1) ∧ W.cell? ⟨w.heap.size, 2, none⟩ = some (.slice a0p2 x0.nodes.length a0c2) ∧ W.cell? ⟨w.heap.size, 3, none⟩ = some (.slice a0p3 x0.outputs.length a0c3) ∧ W.cell? ⟨w.heap.size + 1, 0, none⟩ = some (.int .i64 x1.rule) ∧ W.cell? ⟨w.heap.size + 1, 1, none⟩ = some (.int .i64 x1.node)) := fun W hW => ⟨(hW.cell (p := ⟨w.heap.size, 0, none⟩) lt_ba0).trans z_ba0_0, (hW.cell (p := ⟨w.heap.size, 1, none⟩) lt_ba0).trans z_ba0_1, (hW.cell (p := ⟨w.heap.size, 2, none⟩) lt_ba0).trans z_ba0_2, (hW.cell (p := ⟨w.heap.size, 3, none⟩) lt_ba0).trans z_ba0_3, (hW.cell (p := ⟨w.heap.size + 1, 0, none⟩) lt_ba1).trans z_ba1_0, (hW.cell (p := ⟨w.heap.size + 1, 1, none⟩) lt_ba1).trans z_ba1_1⟩
  have hcur := belowDrew0 E1
  go_cut [6, 7] (fun s6 s7 wr => ∃ (s : Nat) (bp1 : Option Addr) (bc1 : Nat) (bp2 : Option Addr) (bc2 : Nat) (bp3 : Option Addr) (bc3 : Nat) (L : List Value), s6 = .pointer (some ⟨s, 0, none⟩) ∧ s7 = .int .i64 (apCode x0 x1.rule x1.node) ∧ HeldP E1 wr s (apRes x0 x1.rule x1.node) (.slice bp1 (apRes x0 x1.rule x1.node).tables.length bc1) (.slice bp2 (apRes x0 x1.rule x1.node).nodes.length bc2) (.slice bp3 (apRes x0 x1.rule x1.node).outputs.length bc3) L)
  case first =>
    go_region_held3 (fun W => W.cell? ⟨w.heap.size, 0, none⟩ = some (.int .i64 x0.inputs) ∧ W.cell? ⟨w.heap.size, 1, none⟩ = some (.slice a0p1 x0.tables.length a0c1) ∧ W.cell? ⟨w.heap.size, 2, none⟩ = some (.slice a0p2 x0.nodes.length a0c2) ∧ W.cell? ⟨w.heap.size, 3, none⟩ = some (.slice a0p3 x0.outputs.length a0c3) ∧ W.cell? ⟨w.heap.size + 1, 0, none⟩ = some (.int .i64 x1.rule) ∧ W.cell? ⟨w.heap.size + 1, 1, none⟩ = some (.int .i64 x1.node)) (first | go_keep | exact CK.out _ (by (repeat (first | exact Below.refl _ _ | assumption | refine Below.setCell ?_ (by first | exact Nat.le_refl _ | omega | (simp; done) | (simp; omega)) _ | refine Below.alloc ?_ (by first | exact Nat.le_refl _ | omega | (simp; done) | (simp; omega)) _ | refine below_drewN ?_ _)))) (first | (go_at_call_of 9 (Value.agg #[.int .i64 x0.inputs, .slice a0p1 x0.tables.length a0c1, .slice a0p2 x0.nodes.length a0c2, .slice a0p3 x0.outputs.length a0c3]); refine (toPatch_v _ (h0.below (hB1.trans (Below.mono (by first | exact hcur | exact hcur.alloc hcur.size _) hB1.size))) hn0).mono ?_; rintro e G5_1 ⟨u1, M1, rfl, o1, DD, hb⟩; clear DD; (first | (have hs2 := bq.lt; have bq := bq.below hb) | (have bq : Box G5_1 E1.heap.size zPatch 32 := Box.below (w := E1.drew.alloc _) (Box.newAt E1.drew zPatch _ rfl) hb; have hsb : E1.heap.size ≤ E1.heap.size := Nat.le_refl _; have hs2 : E1.heap.size < (E1.drew.alloc (.cells zPatch.toArray 32)).heap.size := by simp) | skip); have hcur : Below E1.heap.size E1 G5_1 := Below.via (by first | exact hcur | exact hcur.alloc hcur.size _) hb; have hcs1 := hcur.size; clear hb) | (go_at_call 13; refine (toRewrite_v (x := x1) _ rfl).mono ?_; rintro e G5_2 ⟨rfl, hb⟩; have o1 := o1.below (by first | exact hb | exact Below.via ((Below.refl _ _).alloc (Nat.le_refl _) _) hb); (first | (have hs2 := bq.lt; have bq := bq.below hb) | (have bq : Box G5_2 G5_1.heap.size zPatch 32 := Box.below (w := G5_1.alloc _) (Box.newAt G5_1 zPatch _ rfl) hb; have hsb : E1.heap.size ≤ G5_1.heap.size := hcur.size; have hs2 : G5_1.heap.size < (G5_1.alloc (.cells zPatch.toArray 32)).heap.size := by simp) | skip); have hcur : Below E1.heap.size E1 G5_2 := Below.via (by first | exact hcur | exact hcur.alloc hcur.size _) hb; have hcs2 := hcur.size; clear hb) | (go_at_call 12; refine (specApplyRewrite_v _ (by first | exact o1.rd | exact (o1.below ((Below.refl _ _).alloc (Nat.le_refl _) _)).rd)).mono ?_; rintro e G5_3 ⟨u3, M3, rfl, oR, DR, hb⟩; (first | (have hs2 := bq.lt; have bq := bq.below hb) | (have bq : Box G5_3 G5_2.heap.size zPatch 32 := Box.below (w := G5_2.alloc _) (Box.newAt G5_2 zPatch _ rfl) hb; have hsb : E1.heap.size ≤ G5_2.heap.size := hcur.size; have hs2 : G5_2.heap.size < (G5_2.alloc (.cells zPatch.toArray 32)).heap.size := by simp) | skip); have hc0 := hcur; have hcur : Below E1.heap.size E1 G5_3 := Below.via (by first | exact hcur | exact hcur.alloc hcur.size _) hb; have hcs3 := hcur.size; clear hb; obtain ⟨bp1, bc1, bp2, bc2, bp3, bc3, rfl, -, -, -⟩ := oR.rd; (try (have tq0 := bq.cell 0 rfl; have fq0 := bq.frozen 0; have tq1 := bq.cell 1 rfl; have fq1 := bq.frozen 1; have tq2 := bq.cell 2 rfl; have fq2 := bq.frozen 2; have tq3 := bq.cell 3 rfl; have fq3 := bq.frozen 3))))
    all_goals (go_wp2_with fail; go_meet; first | exact ⟨_, _, _, _, _, _, _, _, rfl, rfl, HeldP.box oR DR hcur bq hsb (by first | exact hs2 | simpa using hs2)⟩ | exact ⟨_, _, _, _, _, _, _, _, rfl, rfl, HeldP.new oR DR hcur (by first | exact hc0.size | exact (hc0.alloc hc0.size _).size)⟩)
  case rest =>
    obtain ⟨s2, b2p1, b2c1, b2p2, b2c2, b2p3, b2c3, L2, rfl, rfl, bx2, oR2, D2, hb⟩ := hcut
    obtain ⟨E2, rfl⟩ : ∃ E, E = wc := ⟨_, rfl⟩
    clear CK hcur z_ba0_0 z_ba0_1 z_ba0_2 z_ba0_3 z_ba1_0 z_ba1_1 lt_ba0 lt_ba1
    have HBW_oR2 : Hid (w.heap.size ≤ E1.heap.size) := hB1.size
    have HR_oR2 : Hid (∀ b, Blk L2 b → E1.heap.size ≤ b ∧ b < E2.heap.size) := fun b hbk => oR2.blk hbk
    have hz2 : E1.heap.size ≤ E2.heap.size := hb.size
    have hB2 := hB1.trans (hb.mono hB1.size)
    have ba0_2 := ba0_1.below hb
    have ba1_2 := ba1_1.below hb
    clear hb hB1 ba0_1 ba1_1
    have z_ba0_0 := ba0_2.cell 0 rfl
    have z_ba0_1 := ba0_2.cell 1 rfl
    have z_ba0_2 := ba0_2.cell 2 rfl
    have z_ba0_3 := ba0_2.cell 3 rfl
    go_wp2_with fail
    clear z_ba0_0 z_ba0_1 z_ba0_2 z_ba0_3
    refine (toPatch_v _ (h0.below hB2) hn0).mono ?_
    rintro e E3 ⟨u3, L3, rfl, o3, D3, hb⟩
    have HBW_o3 : Hid (w.heap.size ≤ E2.heap.size) := hB2.size
    have HR_o3 : Hid (∀ b, Blk L3 b → E2.heap.size ≤ b ∧ b < E3.heap.size) := fun b hbk => o3.blk hbk
    have hz3 : E2.heap.size ≤ E3.heap.size := hb.size
    have hB3 := hB2.trans (hb.mono hB2.size)
    have ba0_3 := ba0_2.below hb
    have ba1_3 := ba1_2.below hb
    have bx2_3 := bx2.below hb
    have oR2_3 := oR2.below hb
    clear hb hB2 ba0_2 ba1_2 bx2 oR2
    have hv := o3.rd
    obtain ⟨b3p1, b3c1, b3p2, b3c2, b3p3, b3c3, rfl, -, -, -⟩ := hv
    go_upto_region 7 with fail
    obtain ⟨E4, hE⟩ : ∃ E, E = E3.alloc (.cells #[.int .i64 x0.inputs, .slice b3p1 x0.tables.length b3c1, .slice b3p2 x0.nodes.length b3c2, .slice b3p3 x0.outputs.length b3c3] 32) := ⟨_, rfl⟩
    have hb : Below E3.heap.size E3 E4 := by rw [hE]; exact (Below.refl _ _).alloc (Nat.le_refl _) _
    have bx4 : Box E4 E3.heap.size [.int .i64 x0.inputs, .slice b3p1 x0.tables.length b3c1, .slice b3p2 x0.nodes.length b3c2, .slice b3p3 x0.outputs.length b3c3] 32 := by rw [hE]; exact Box.newAt _ [.int .i64 x0.inputs, .slice b3p1 x0.tables.length b3c1, .slice b3p2 x0.nodes.length b3c2, .slice b3p3 x0.outputs.length b3c3] _ rfl
    rw [← hE]
    clear hE
    have lq_bx4 := bx4.lt
    have hz4 : E3.heap.size ≤ E4.heap.size := hb.size
    have hB4 := hB3.trans (hb.mono hB3.size)
    have ba0_4 := ba0_3.below hb
    have ba1_4 := ba1_3.below hb
    have bx2_4 := bx2_3.below hb
    have oR2_4 := oR2_3.below hb
    have o3_4 := o3.below hb
    clear hb hB3 ba0_3 ba1_3 bx2_3 oR2_3 o3
    have z_bx4_0 := bx4.cell 0 rfl
    have z_bx4_1 := bx4.cell 1 rfl
    have z_bx4_2 := bx4.cell 2 rfl
    have z_bx4_3 := bx4.cell 3 rfl
    have z_ba1_0 := ba1_4.cell 0 rfl
    have z_ba1_1 := ba1_4.cell 1 rfl
    have lt_bx4 := bx4.lt
    have lt_ba1 := ba1_4.lt
    have CK : Hid (∀ W, Below E4.heap.size E4 W → W.cell? ⟨E3.heap.size, 0, none⟩ = some (.int .i64 x0.inputs) ∧ W.cell? ⟨E3.heap.size, 1, none⟩ = some (.slice b3p1 x0.tables.length b3c1) ∧ W.cell? ⟨E3.heap.size, 2, none⟩ = some (.slice b3p2 x0.nodes.length b3c2) ∧ W.cell? ⟨E3.heap.size, 3, none⟩ = some (.slice b3p3 x0.outputs.length b3c3) ∧ W.cell? ⟨w.heap.size + 1, 0, none⟩ = some (.int .i64 x1.rule) ∧ W.cell? ⟨w.heap.size + 1, 1, none⟩ = some (.int .i64 x1.node)) := fun W hW => ⟨(hW.cell (p := ⟨E3.heap.size, 0, none⟩) lt_bx4).trans z_bx4_0, (hW.cell (p := ⟨E3.heap.size, 1, none⟩) lt_bx4).trans z_bx4_1, (hW.cell (p := ⟨E3.heap.size, 2, none⟩) lt_bx4).trans z_bx4_2, (hW.cell (p := ⟨E3.heap.size, 3, none⟩) lt_bx4).trans z_bx4_3, (hW.cell (p := ⟨w.heap.size + 1, 0, none⟩) lt_ba1).trans z_ba1_0, (hW.cell (p := ⟨w.heap.size + 1, 1, none⟩) lt_ba1).trans z_ba1_1⟩
    have hcur := belowDrew0 E4
    go_cut [9, 10] (fun s6 s7 wr => ∃ (s : Nat) (bp1 : Option Addr) (bc1 : Nat) (bp2 : Option Addr) (bc2 : Nat) (bp3 : Option Addr) (bc3 : Nat) (L : List Value), s6 = .pointer (some ⟨s, 0, none⟩) ∧ s7 = .int .i64 (apCode x0 x1.rule x1.node) ∧ HeldP E4 wr s (apRes x0 x1.rule x1.node) (.slice bp1 (apRes x0 x1.rule x1.node).tables.length bc1) (.slice bp2 (apRes x0 x1.rule x1.node).nodes.length bc2) (.slice bp3 (apRes x0 x1.rule x1.node).outputs.length bc3) L)
    case first =>
      go_region_held3 (fun W => W.cell? ⟨E3.heap.size, 0, none⟩ = some (.int .i64 x0.inputs) ∧ W.cell? ⟨E3.heap.size, 1, none⟩ = some (.slice b3p1 x0.tables.length b3c1) ∧ W.cell? ⟨E3.heap.size, 2, none⟩ = some (.slice b3p2 x0.nodes.length b3c2) ∧ W.cell? ⟨E3.heap.size, 3, none⟩ = some (.slice b3p3 x0.outputs.length b3c3) ∧ W.cell? ⟨w.heap.size + 1, 0, none⟩ = some (.int .i64 x1.rule) ∧ W.cell? ⟨w.heap.size + 1, 1, none⟩ = some (.int .i64 x1.node)) (first | go_keep | exact CK.out _ (by (repeat (first | exact Below.refl _ _ | assumption | refine Below.setCell ?_ (by first | exact Nat.le_refl _ | omega | (simp; done) | (simp; omega)) _ | refine Below.alloc ?_ (by first | exact Nat.le_refl _ | omega | (simp; done) | (simp; omega)) _ | refine below_drewN ?_ _)))) (first | (go_at_call 13; refine (toRewrite_v (x := x1) _ rfl).mono ?_; rintro e G7_1 ⟨rfl, hb⟩; (first | (have hs2 := bq.lt; have bq := bq.below hb) | (have bq : Box G7_1 E4.heap.size zPatch 32 := Box.below (w := E4.drew.alloc _) (Box.newAt E4.drew zPatch _ rfl) hb; have hsb : E4.heap.size ≤ E4.heap.size := Nat.le_refl _; have hs2 : E4.heap.size < (E4.drew.alloc (.cells zPatch.toArray 32)).heap.size := by simp) | skip); have hcur : Below E4.heap.size E4 G7_1 := Below.via (by first | exact hcur | exact hcur.alloc hcur.size _) hb; have hcs1 := hcur.size; clear hb) | (go_at_call 14; refine (implApplyRewrite_v _ (by exact (o3_4.below (by first | exact hcur | exact hcur.alloc hcur.size _)).rd)).mono ?_; rintro e G7_2 ⟨u2, M2, rfl, oR, DR, hb⟩; (first | (have hs2 := bq.lt; have bq := bq.below hb) | (have bq : Box G7_2 G7_1.heap.size zPatch 32 := Box.below (w := G7_1.alloc _) (Box.newAt G7_1 zPatch _ rfl) hb; have hsb : E4.heap.size ≤ G7_1.heap.size := hcur.size; have hs2 : G7_1.heap.size < (G7_1.alloc (.cells zPatch.toArray 32)).heap.size := by simp) | skip); have hc0 := hcur; have hcur : Below E4.heap.size E4 G7_2 := Below.via (by first | exact hcur | exact hcur.alloc hcur.size _) hb; have hcs2 := hcur.size; clear hb; obtain ⟨bp1, bc1, bp2, bc2, bp3, bc3, rfl, -, -, -⟩ := oR.rd; (try (have tq0 := bq.cell 0 rfl; have fq0 := bq.frozen 0; have tq1 := bq.cell 1 rfl; have fq1 := bq.frozen 1; have tq2 := bq.cell 2 rfl; have fq2 := bq.frozen 2; have tq3 := bq.cell 3 rfl; have fq3 := bq.frozen 3))))
      all_goals (go_wp2_with fail; go_meet; first | exact ⟨_, _, _, _, _, _, _, _, rfl, rfl, HeldP.box oR DR hcur bq hsb (by first | exact hs2 | simpa using hs2)⟩ | exact ⟨_, _, _, _, _, _, _, _, rfl, rfl, HeldP.new oR DR hcur (by first | exact hc0.size | exact (hc0.alloc hc0.size _).size)⟩)
    case rest =>
      obtain ⟨s5, b5p1, b5c1, b5p2, b5c2, b5p3, b5c3, L5, rfl, rfl, bx5, oR5, D5, hb⟩ := hcut
      obtain ⟨E5, rfl⟩ : ∃ E, E = wc := ⟨_, rfl⟩
      clear CK hcur z_bx4_0 z_bx4_1 z_bx4_2 z_bx4_3 z_ba1_0 z_ba1_1 lt_bx4 lt_ba1
      have HBW_oR5 : Hid (w.heap.size ≤ E4.heap.size) := hB4.size
      have HR_oR5 : Hid (∀ b, Blk L5 b → E4.heap.size ≤ b ∧ b < E5.heap.size) := fun b hbk => oR5.blk hbk
      have hz5 : E4.heap.size ≤ E5.heap.size := hb.size
      have hB5 := hB4.trans (hb.mono hB4.size)
      have ba0_5 := ba0_4.below hb
      have ba1_5 := ba1_4.below hb
      have bx2_5 := bx2_4.below hb
      have bx4_5 := bx4.below hb
      have oR2_5 := oR2_4.below hb
      have o3_5 := o3_4.below hb
      clear hb hB4 ba0_4 ba1_4 bx2_4 bx4 oR2_4 o3_4
      have z_bx5_0 := bx5.cell 0 rfl
      have z_bx5_1 := bx5.cell 1 rfl
      have z_bx5_2 := bx5.cell 2 rfl
      have z_bx5_3 := bx5.cell 3 rfl
      have z_bx2_0 := bx2_5.cell 0 rfl
      have z_bx2_1 := bx2_5.cell 1 rfl
      have z_bx2_2 := bx2_5.cell 2 rfl
      have z_bx2_3 := bx2_5.cell 3 rfl
      go_wp2_with fail
      clear z_bx5_0 z_bx5_1 z_bx5_2 z_bx5_3 z_bx2_0 z_bx2_1 z_bx2_2 z_bx2_3
      refine (eqPatch_v _ oR5.rd oR2_5.rd).mono ?_
      rintro e E6 ⟨rfl, hb⟩
      have hz6 : E5.heap.size ≤ E6.heap.size := hb.size
      have hB6 := hB5.trans (hb.mono hB5.size)
      have ba0_6 := ba0_5.below hb
      have ba1_6 := ba1_5.below hb
      have bx2_6 := bx2_5.below hb
      have bx4_6 := bx4_5.below hb
      have bx5_6 := bx5.below hb
      have oR2_6 := oR2_5.below hb
      have o3_6 := o3_5.below hb
      have oR5_6 := oR5.below hb
      clear hb hB5 ba0_5 ba1_5 bx2_5 bx4_5 bx5 oR2_5 o3_5 oR5
      go_upto_region 10 with fail
      go_cut [51] (fun s51 wr => s51 = .bool false ∧ Below E6.heap.size E6 wr)
      case first =>
        have z_bx4_0 := bx4_6.cell 0 rfl
        have z_bx4_1 := bx4_6.cell 1 rfl
        have z_bx4_2 := bx4_6.cell 2 rfl
        have z_bx4_3 := bx4_6.cell 3 rfl
        have z_ba0_0 := ba0_6.cell 0 rfl
        have z_ba0_1 := ba0_6.cell 1 rfl
        have z_ba0_2 := ba0_6.cell 2 rfl
        have z_ba0_3 := ba0_6.cell 3 rfl
        go_region_with (first | (go_at_call_of 9 (Value.agg #[.int .i64 x0.inputs, .slice a0p1 x0.tables.length a0c1, .slice a0p2 x0.nodes.length a0c2, .slice a0p3 x0.outputs.length a0c3]); refine (toPatch_v _ ((h0.below hB6).below (below_drew' (Below.refl _ _))) hn0).mono ?_; rintro e G10_1 ⟨u, L, rfl, o10_1, DD, hb⟩; clear DD; have hbb : Below E6.heap.size E6 G10_1 := below_drew' hb; have hBG10_1 := hB6.trans (hbb.mono hB6.size); have hRG10_1 := hbb; have oR2G10_1 := oR2_6.below hbb; have o3G10_1 := o3_6.below hbb; have oR5G10_1 := oR5_6.below hbb; have bx4G10_1 := bx4_6.below hbb; have y_bx4_0 := bx4G10_1.cell 0 rfl; have y_bx4_1 := bx4G10_1.cell 1 rfl; have y_bx4_2 := bx4G10_1.cell 2 rfl; have y_bx4_3 := bx4G10_1.cell 3 rfl; have ba0G10_1 := ba0_6.below hbb; have y_ba0_0 := ba0G10_1.cell 0 rfl; have y_ba0_1 := ba0G10_1.cell 1 rfl; have y_ba0_2 := ba0G10_1.cell 2 rfl; have y_ba0_3 := ba0G10_1.cell 3 rfl; clear hb hbb) | (go_at_call 11; refine (eqPatch_v _ o3G10_1.rd o10_1.rd).mono ?_; rintro e G10_2 ⟨rfl, hb⟩; have hbb : Below G10_1.heap.size G10_1 G10_2 := hb; have hBG10_2 := hBG10_1.trans (hbb.mono hBG10_1.size); have hRG10_2 := hRG10_1.trans (hbb.mono hRG10_1.size); have oR2G10_2 := oR2G10_1.below hbb; have o3G10_2 := o3G10_1.below hbb; have oR5G10_2 := oR5G10_1.below hbb; have o10_1G10_2 := o10_1.below hbb; have bx4G10_2 := bx4G10_1.below hbb; have ba0G10_2 := ba0G10_1.below hbb; clear hb hbb))
        all_goals (go_wp2_with fail; go_meet; exact ⟨rfl, hRG10_2⟩)
      case rest =>
        obtain ⟨rfl, hb⟩ := hcut
        obtain ⟨E7, rfl⟩ : ∃ E, E = wc := ⟨_, rfl⟩
        have hz7 : E6.heap.size ≤ E7.heap.size := hb.size
        have hB7 := hB6.trans (hb.mono hB6.size)
        have ba0_7 := ba0_6.below hb
        have ba1_7 := ba1_6.below hb
        have bx2_7 := bx2_6.below hb
        have bx4_7 := bx4_6.below hb
        have bx5_7 := bx5_6.below hb
        have oR2_7 := oR2_6.below hb
        have o3_7 := o3_6.below hb
        have oR5_7 := oR5_6.below hb
        clear hb hB6 ba0_6 ba1_6 bx2_6 bx4_6 bx5_6 oR2_6 o3_6 oR5_6
        have z_bx4_0 := bx4_7.cell 0 rfl
        have z_bx4_1 := bx4_7.cell 1 rfl
        have z_bx4_2 := bx4_7.cell 2 rfl
        have z_bx4_3 := bx4_7.cell 3 rfl
        go_wp2_with fail
        clear z_bx4_0 z_bx4_1 z_bx4_2 z_bx4_3
        have hc_o3 := (show cntPatch x0 ≤ 6291456 by have h1 := cntPatch_le x0; have h2 := hn0; omega)
        refine (markPatch_v _ _ o3_7 D3 (by omega) (by omega)).mono ?_
        rintro e E8 ⟨rfl, om8, hf⟩
        have hz8 : E7.heap.size ≤ E8.heap.size := hf.size
        have hB8 := hB7.trans (hf.below (fun b hbk => by have h1 := (HR_o3.out b hbk).1; have h2 := HBW_o3.out; omega) hB7.size)
        (first | (have ba0_8 := ba0_7.offBlk (by decide) o3_7.ints hf) | (have ba0_8 := ba0_7.off hf (fun hbk => by have h1 := HR_o3.out _ hbk; omega)))
        (first | (have ba1_8 := ba1_7.offBlk (by decide) o3_7.ints hf) | (have ba1_8 := ba1_7.off hf (fun hbk => by have h1 := HR_o3.out _ hbk; omega)))
        (first | (have bx2_8 := bx2_7.offBlk (by decide) o3_7.ints hf) | (have bx2_8 := bx2_7.off hf (fun hbk => by have h1 := HR_o3.out _ hbk; omega)))
        (first | (have bx4_8 := bx4_7.offBlk (by decide) o3_7.ints hf) | (have bx4_8 := bx4_7.off hf (fun hbk => by have h1 := HR_o3.out _ hbk; omega)))
        (first | (have bx5_8 := bx5_7.offBlk (by decide) o3_7.ints hf) | (have bx5_8 := bx5_7.off hf (fun hbk => by have h1 := HR_o3.out _ hbk; omega)))
        have oR2_8 := oR2_7.offBlk o3_7.ints (apart (fun x h => (HR_oR2.out x h).2) (fun x h => (HR_o3.out x h).1) (by omega)) hf
        have oR5_8 := oR5_7.offBlk o3_7.ints (apart' (fun x h => (HR_o3.out x h).2) (fun x h => (HR_oR5.out x h).1) (by omega)) hf
        clear hf hB7 ba0_7 ba1_7 bx2_7 bx4_7 bx5_7 oR2_7 oR5_7 o3_7
        have z_bx5_0 := bx5_8.cell 0 rfl
        have z_bx5_1 := bx5_8.cell 1 rfl
        have z_bx5_2 := bx5_8.cell 2 rfl
        have z_bx5_3 := bx5_8.cell 3 rfl
        have z_bx2_0 := bx2_8.cell 0 rfl
        have z_bx2_1 := bx2_8.cell 1 rfl
        have z_bx2_2 := bx2_8.cell 2 rfl
        have z_bx2_3 := bx2_8.cell 3 rfl
        go_wp2_with fail
        clear z_bx5_0 z_bx5_1 z_bx5_2 z_bx5_3 z_bx2_0 z_bx2_1 z_bx2_2 z_bx2_3
        refine (eqPatch_v _ oR5_8.rd oR2_8.rd).mono ?_
        rintro e E9 ⟨rfl, hb⟩
        have hz9 : E8.heap.size ≤ E9.heap.size := hb.size
        have hB9 := hB8.trans (hb.mono hB8.size)
        have ba0_9 := ba0_8.below hb
        have ba1_9 := ba1_8.below hb
        have bx2_9 := bx2_8.below hb
        have bx4_9 := bx4_8.below hb
        have bx5_9 := bx5_8.below hb
        have oR2_9 := oR2_8.below hb
        have o3_9 := om8.below hb
        have oR5_9 := oR5_8.below hb
        clear hb hB8 ba0_8 ba1_8 bx2_8 bx4_8 bx5_8 oR2_8 om8 oR5_8
        have z_bx5_0 := bx5_9.cell 0 rfl
        have z_bx5_1 := bx5_9.cell 1 rfl
        have z_bx5_2 := bx5_9.cell 2 rfl
        have z_bx5_3 := bx5_9.cell 3 rfl
        go_wp2_with fail
        clear z_bx5_0 z_bx5_1 z_bx5_2 z_bx5_3
        have hc_oR5 := apRes_small x0 x1.rule x1.node
        refine (markPatch_v _ _ oR5_9 D5 (by omega) (by omega)).mono ?_
        rintro e E10 ⟨rfl, om10, hf⟩
        have hz10 : E9.heap.size ≤ E10.heap.size := hf.size
        have hB10 := hB9.trans (hf.below (fun b hbk => by have h1 := (HR_oR5.out b hbk).1; have h2 := HBW_oR5.out; omega) hB9.size)
        (first | (have ba0_10 := ba0_9.offBlk (by decide) oR5_9.ints hf) | (have ba0_10 := ba0_9.off hf (fun hbk => by have h1 := HR_oR5.out _ hbk; omega)))
        (first | (have ba1_10 := ba1_9.offBlk (by decide) oR5_9.ints hf) | (have ba1_10 := ba1_9.off hf (fun hbk => by have h1 := HR_oR5.out _ hbk; omega)))
        (first | (have bx2_10 := bx2_9.offBlk (by decide) oR5_9.ints hf) | (have bx2_10 := bx2_9.off hf (fun hbk => by have h1 := HR_oR5.out _ hbk; omega)))
        (first | (have bx4_10 := bx4_9.offBlk (by decide) oR5_9.ints hf) | (have bx4_10 := bx4_9.off hf (fun hbk => by have h1 := HR_oR5.out _ hbk; omega)))
        (first | (have bx5_10 := bx5_9.offBlk (by decide) oR5_9.ints hf) | (have bx5_10 := bx5_9.off hf (fun hbk => by have h1 := HR_oR5.out _ hbk; omega)))
        have oR2_10 := oR2_9.offBlk oR5_9.ints (apart (fun x h => (HR_oR2.out x h).2) (fun x h => (HR_oR5.out x h).1) (by omega)) hf
        have o3_10 := o3_9.offBlk oR5_9.ints (apart (fun x h => (HR_o3.out x h).2) (fun x h => (HR_oR5.out x h).1) (by omega)) hf
        clear hf hB9 ba0_9 ba1_9 bx2_9 bx4_9 bx5_9 oR2_9 o3_9 oR5_9
        have z_bx5_0 := bx5_10.cell 0 rfl
        have z_bx5_1 := bx5_10.cell 1 rfl
        have z_bx5_2 := bx5_10.cell 2 rfl
        have z_bx5_3 := bx5_10.cell 3 rfl
        go_wp2_with fail
        clear z_bx5_0 z_bx5_1 z_bx5_2 z_bx5_3
        refine (heldPatch_v (x := (apRes x0 x1.rule x1.node)) _ _ om10.rd (by omega) (by omega)).mono ?_
        rintro e E11 ⟨rfl, hb⟩
        have hz11 : E10.heap.size ≤ E11.heap.size := hb.size
        have hB11 := hB10.trans (hb.mono hB10.size)
        have ba0_11 := ba0_10.below hb
        have ba1_11 := ba1_10.below hb
        have bx2_11 := bx2_10.below hb
        have bx4_11 := bx4_10.below hb
        have bx5_11 := bx5_10.below hb
        have oR2_11 := oR2_10.below hb
        have o3_11 := o3_10.below hb
        have oR5_11 := om10.below hb
        clear hb hB10 ba0_10 ba1_10 bx2_10 bx4_10 bx5_10 oR2_10 o3_10 om10
        go_upto_region 24 with fail
        have z_ba0_0 := ba0_11.cell 0 rfl
        have z_ba0_1 := ba0_11.cell 1 rfl
        have z_ba0_2 := ba0_11.cell 2 rfl
        have z_ba0_3 := ba0_11.cell 3 rfl
        have z_ba1_0 := ba1_11.cell 0 rfl
        have z_ba1_1 := ba1_11.cell 1 rfl
        have lt_ba0 := ba0_11.lt
        have lt_ba1 := ba1_11.lt
        have CK : Hid (∀ W, Below E11.heap.size E11 W → W.cell? ⟨w.heap.size, 0, none⟩ = some (.int .i64 x0.inputs) ∧ W.cell? ⟨w.heap.size, 1, none⟩ = some (.slice a0p1 x0.tables.length a0c1) ∧ W.cell? ⟨w.heap.size, 2, none⟩ = some (.slice a0p2 x0.nodes.length a0c2) ∧ W.cell? ⟨w.heap.size, 3, none⟩ = some (.slice a0p3 x0.outputs.length a0c3) ∧ W.cell? ⟨w.heap.size + 1, 0, none⟩ = some (.int .i64 x1.rule) ∧ W.cell? ⟨w.heap.size + 1, 1, none⟩ = some (.int .i64 x1.node)) := fun W hW => ⟨(hW.cell (p := ⟨w.heap.size, 0, none⟩) lt_ba0).trans z_ba0_0, (hW.cell (p := ⟨w.heap.size, 1, none⟩) lt_ba0).trans z_ba0_1, (hW.cell (p := ⟨w.heap.size, 2, none⟩) lt_ba0).trans z_ba0_2, (hW.cell (p := ⟨w.heap.size, 3, none⟩) lt_ba0).trans z_ba0_3, (hW.cell (p := ⟨w.heap.size + 1, 0, none⟩) lt_ba1).trans z_ba1_0, (hW.cell (p := ⟨w.heap.size + 1, 1, none⟩) lt_ba1).trans z_ba1_1⟩
        have hcur := belowDrew0 E11
        go_cut [14, 15] (fun s6 s7 wr => ∃ (s : Nat) (bp1 : Option Addr) (bc1 : Nat) (bp2 : Option Addr) (bc2 : Nat) (bp3 : Option Addr) (bc3 : Nat) (L : List Value), s6 = .pointer (some ⟨s, 0, none⟩) ∧ s7 = .int .i64 (apCode x0 x1.rule x1.node) ∧ HeldP E11 wr s (apRes x0 x1.rule x1.node) (.slice bp1 (apRes x0 x1.rule x1.node).tables.length bc1) (.slice bp2 (apRes x0 x1.rule x1.node).nodes.length bc2) (.slice bp3 (apRes x0 x1.rule x1.node).outputs.length bc3) L)
        case first =>
          go_region_held3 (fun W => W.cell? ⟨w.heap.size, 0, none⟩ = some (.int .i64 x0.inputs) ∧ W.cell? ⟨w.heap.size, 1, none⟩ = some (.slice a0p1 x0.tables.length a0c1) ∧ W.cell? ⟨w.heap.size, 2, none⟩ = some (.slice a0p2 x0.nodes.length a0c2) ∧ W.cell? ⟨w.heap.size, 3, none⟩ = some (.slice a0p3 x0.outputs.length a0c3) ∧ W.cell? ⟨w.heap.size + 1, 0, none⟩ = some (.int .i64 x1.rule) ∧ W.cell? ⟨w.heap.size + 1, 1, none⟩ = some (.int .i64 x1.node)) (first | go_keep | exact CK.out _ (by (repeat (first | exact Below.refl _ _ | assumption | refine Below.setCell ?_ (by first | exact Nat.le_refl _ | omega | (simp; done) | (simp; omega)) _ | refine Below.alloc ?_ (by first | exact Nat.le_refl _ | omega | (simp; done) | (simp; omega)) _ | refine below_drewN ?_ _)))) (first | (go_at_call_of 9 (Value.agg #[.int .i64 x0.inputs, .slice a0p1 x0.tables.length a0c1, .slice a0p2 x0.nodes.length a0c2, .slice a0p3 x0.outputs.length a0c3]); refine (toPatch_v _ (h0.below (hB11.trans (Below.mono (by first | exact hcur | exact hcur.alloc hcur.size _) hB11.size))) hn0).mono ?_; rintro e G24_1 ⟨u1, M1, rfl, o1, DD, hb⟩; clear DD; (first | (have hs2 := bq.lt; have bq := bq.below hb) | (have bq : Box G24_1 E11.heap.size zPatch 32 := Box.below (w := E11.drew.alloc _) (Box.newAt E11.drew zPatch _ rfl) hb; have hsb : E11.heap.size ≤ E11.heap.size := Nat.le_refl _; have hs2 : E11.heap.size < (E11.drew.alloc (.cells zPatch.toArray 32)).heap.size := by simp) | skip); have hcur : Below E11.heap.size E11 G24_1 := Below.via (by first | exact hcur | exact hcur.alloc hcur.size _) hb; have hcs1 := hcur.size; clear hb) | (go_at_call 13; refine (toRewrite_v (x := x1) _ rfl).mono ?_; rintro e G24_2 ⟨rfl, hb⟩; have o1 := o1.below (by first | exact hb | exact Below.via ((Below.refl _ _).alloc (Nat.le_refl _) _) hb); (first | (have hs2 := bq.lt; have bq := bq.below hb) | (have bq : Box G24_2 G24_1.heap.size zPatch 32 := Box.below (w := G24_1.alloc _) (Box.newAt G24_1 zPatch _ rfl) hb; have hsb : E11.heap.size ≤ G24_1.heap.size := hcur.size; have hs2 : G24_1.heap.size < (G24_1.alloc (.cells zPatch.toArray 32)).heap.size := by simp) | skip); have hcur : Below E11.heap.size E11 G24_2 := Below.via (by first | exact hcur | exact hcur.alloc hcur.size _) hb; have hcs2 := hcur.size; clear hb) | (go_at_call 14; refine (implApplyRewrite_v _ (by first | exact o1.rd | exact (o1.below ((Below.refl _ _).alloc (Nat.le_refl _) _)).rd)).mono ?_; rintro e G24_3 ⟨u3, M3, rfl, oR, DR, hb⟩; (first | (have hs2 := bq.lt; have bq := bq.below hb) | (have bq : Box G24_3 G24_2.heap.size zPatch 32 := Box.below (w := G24_2.alloc _) (Box.newAt G24_2 zPatch _ rfl) hb; have hsb : E11.heap.size ≤ G24_2.heap.size := hcur.size; have hs2 : G24_2.heap.size < (G24_2.alloc (.cells zPatch.toArray 32)).heap.size := by simp) | skip); have hc0 := hcur; have hcur : Below E11.heap.size E11 G24_3 := Below.via (by first | exact hcur | exact hcur.alloc hcur.size _) hb; have hcs3 := hcur.size; clear hb; obtain ⟨bp1, bc1, bp2, bc2, bp3, bc3, rfl, -, -, -⟩ := oR.rd; (try (have tq0 := bq.cell 0 rfl; have fq0 := bq.frozen 0; have tq1 := bq.cell 1 rfl; have fq1 := bq.frozen 1; have tq2 := bq.cell 2 rfl; have fq2 := bq.frozen 2; have tq3 := bq.cell 3 rfl; have fq3 := bq.frozen 3))))
          all_goals (go_wp2_with fail; go_meet; first | exact ⟨_, _, _, _, _, _, _, _, rfl, rfl, HeldP.box oR DR hcur bq hsb (by first | exact hs2 | simpa using hs2)⟩ | exact ⟨_, _, _, _, _, _, _, _, rfl, rfl, HeldP.new oR DR hcur (by first | exact hc0.size | exact (hc0.alloc hc0.size _).size)⟩)
        case rest =>
          obtain ⟨s12, b12p1, b12c1, b12p2, b12c2, b12p3, b12c3, L12, rfl, rfl, bx12, oR12, D12, hb⟩ := hcut
          obtain ⟨E12, rfl⟩ : ∃ E, E = wc := ⟨_, rfl⟩
          clear CK hcur z_ba0_0 z_ba0_1 z_ba0_2 z_ba0_3 z_ba1_0 z_ba1_1 lt_ba0 lt_ba1
          have HBW_oR12 : Hid (w.heap.size ≤ E11.heap.size) := hB11.size
          have HR_oR12 : Hid (∀ b, Blk L12 b → E11.heap.size ≤ b ∧ b < E12.heap.size) := fun b hbk => oR12.blk hbk
          have hz12 : E11.heap.size ≤ E12.heap.size := hb.size
          have hB12 := hB11.trans (hb.mono hB11.size)
          have ba0_12 := ba0_11.below hb
          have ba1_12 := ba1_11.below hb
          have bx2_12 := bx2_11.below hb
          have bx4_12 := bx4_11.below hb
          have bx5_12 := bx5_11.below hb
          have oR2_12 := oR2_11.below hb
          have o3_12 := o3_11.below hb
          have oR5_12 := oR5_11.below hb
          clear hb hB11 ba0_11 ba1_11 bx2_11 bx4_11 bx5_11 oR2_11 o3_11 oR5_11
          have z_bx12_0 := bx12.cell 0 rfl
          have z_bx12_1 := bx12.cell 1 rfl
          have z_bx12_2 := bx12.cell 2 rfl
          have z_bx12_3 := bx12.cell 3 rfl
          have z_bx2_0 := bx2_12.cell 0 rfl
          have z_bx2_1 := bx2_12.cell 1 rfl
          have z_bx2_2 := bx2_12.cell 2 rfl
          have z_bx2_3 := bx2_12.cell 3 rfl
          go_wp2_with fail
          clear z_bx12_0 z_bx12_1 z_bx12_2 z_bx12_3 z_bx2_0 z_bx2_1 z_bx2_2 z_bx2_3
          refine (eqPatch_v _ oR12.rd oR2_12.rd).mono ?_
          rintro e E13 ⟨rfl, hb⟩
          have hz13 : E12.heap.size ≤ E13.heap.size := hb.size
          have hB13 := hB12.trans (hb.mono hB12.size)
          have ba0_13 := ba0_12.below hb
          have ba1_13 := ba1_12.below hb
          have bx2_13 := bx2_12.below hb
          have bx4_13 := bx4_12.below hb
          have bx5_13 := bx5_12.below hb
          have bx12_13 := bx12.below hb
          have oR2_13 := oR2_12.below hb
          have o3_13 := o3_12.below hb
          have oR5_13 := oR5_12.below hb
          have oR12_13 := oR12.below hb
          clear hb hB12 ba0_12 ba1_12 bx2_12 bx4_12 bx5_12 bx12 oR2_12 o3_12 oR5_12 oR12
          have z_bx5_0 := bx5_13.cell 0 rfl
          have z_bx5_1 := bx5_13.cell 1 rfl
          have z_bx5_2 := bx5_13.cell 2 rfl
          have z_bx5_3 := bx5_13.cell 3 rfl
          go_wp2_with fail
          clear z_bx5_0 z_bx5_1 z_bx5_2 z_bx5_3
          refine (heldPatch_v (x := (apRes x0 x1.rule x1.node)) _ _ oR5_13.rd (by omega) (by omega)).mono ?_
          rintro e E14 ⟨rfl, hb⟩
          have hz14 : E13.heap.size ≤ E14.heap.size := hb.size
          have hB14 := hB13.trans (hb.mono hB13.size)
          have ba0_14 := ba0_13.below hb
          have ba1_14 := ba1_13.below hb
          have bx2_14 := bx2_13.below hb
          have bx4_14 := bx4_13.below hb
          have bx5_14 := bx5_13.below hb
          have bx12_14 := bx12_13.below hb
          have oR2_14 := oR2_13.below hb
          have o3_14 := o3_13.below hb
          have oR5_14 := oR5_13.below hb
          have oR12_14 := oR12_13.below hb
          clear hb hB13 ba0_13 ba1_13 bx2_13 bx4_13 bx5_13 bx12_13 oR2_13 o3_13 oR5_13 oR12_13
          go_wp2_with fail
          go_ret
          exact ⟨rfl, hB14⟩

end Go.Proofs.YtonkdndpfnapjaaGreat
