/-
  Several texts in one: ChainJ, HeldRes, ChainK.
-/
import Derived.Test.YtdjoaaccnadccaaPk10
import Derived.StillTailTactics
import Derived.Test.YtdjoaaccnadccaaPk9
namespace Go.Proofs.Ytdjoaaccnadccaa
open Go.ChangeShapes Go.WideShapes Go.ChangeAt Go.RowKit
set_option linter.unusedVariables false

set_option maxHeartbeats 12800000 in
set_option maxRecDepth 100000 in
theorem implChain_ok {v v' : Value} {p q : PatchD} (w : World) (h : VPatch w v p) (h' : VPatch w v' q) (hP : okB p = true) (hQ : okB q = true) (hio : (p.outputs.length : Int) = q.inputs) :
    Calls Try.prog 6 #[v, v'] w (RetPC w (chRes p q) (chCode p q)) := by
  obtain ⟨p1, c1, p2, c2, p3, c3, rfl, rp1, rp2, rp3⟩ := h
  obtain ⟨q1, d1, q2, d2, q3, d3, rfl, rq1, rq2, rq3⟩ := h'
  obtain ⟨g, hg⟩ : ∃ g, g = w.heap.size := ⟨_, rfl⟩
  obtain ⟨E0, hE⟩ : ∃ E, E = ((w.alloc (.cells #[.int .i64 p.inputs, .slice p1 p.tables.length c1, .slice p2 p.nodes.length c2, .slice p3 p.outputs.length c3] 28)).alloc (.cells #[.int .i64 q.inputs, .slice q1 q.tables.length d1, .slice q2 q.nodes.length d2, .slice q3 q.outputs.length d3] 28)).alloc (.cells #[.int .i64 0, .slice none 0 0, .slice none 0 0, .slice none 0 0] 28) := ⟨_, rfl⟩
  have hB0 : Below w.heap.size w E0 := by rw [hE]; exact (((Below.refl _ _).alloc (Nat.le_refl _) _).alloc (by simp) _).alloc (by simp; omega) _
  have bp : Box E0 g [.int .i64 p.inputs, .slice p1 p.tables.length c1, .slice p2 p.nodes.length c2, .slice p3 p.outputs.length c3] 28 := by rw [hE, hg]; exact ((Box.newAt w _ _ rfl).alloc _).alloc _
  have bq : Box E0 (g + 1) [.int .i64 q.inputs, .slice q1 q.tables.length d1, .slice q2 q.nodes.length d2, .slice q3 q.outputs.length d3] 28 := by rw [hE, hg]; exact (Box.newAt (w.alloc _) [.int .i64 q.inputs, .slice q1 q.tables.length d1, .slice q2 q.nodes.length d2, .slice q3 q.outputs.length d3] _ (by simp)).alloc _
  have br : Box E0 (g + 1 + 1) zPatch 28 := by rw [hE, hg]; exact Box.newAt ((w.alloc _).alloc _) zPatch _ (by simp)
  have hv1 : VPatch E0 (.agg #[.int .i64 p.inputs, .slice p1 p.tables.length c1, .slice p2 p.nodes.length c2, .slice p3 p.outputs.length c3]) p := ⟨p1, c1, p2, c2, p3, c3, rfl, rp1.below hB0, rp2.below hB0, rp3.below hB0⟩
  have hv2 : VPatch E0 (.agg #[.int .i64 q.inputs, .slice q1 q.tables.length d1, .slice q2 q.nodes.length d2, .slice q3 q.outputs.length d3]) q := ⟨q1, d1, q2, d2, q3, d3, rfl, rq1.below hB0, rq2.below hB0, rq3.below hB0⟩
  have pp : PPatch E0 g p := ⟨p1, c1, p2, c2, p3, c3, bp, rp1.below hB0, rp2.below hB0, rp3.below hB0⟩
  have pq : PPatch E0 (g + 1) q := ⟨q1, d1, q2, d2, q3, d3, bq, rq1.below hB0, rq2.below hB0, rq3.below hB0⟩
  have HE := Lib.hid hE
  have HG := Lib.hid hg
  have i0 : w.heap.size ≤ g + 1 + 1 := by omega
  clear hE hg
  have fin : ∀ (W : World) (v1 v2 v3 : Value) (y : PatchD) (L1 L : List Value) (B : Nat) (code : Int), w.heap.size ≤ B → Below E0.heap.size E0 W → OwnP B W v1 v2 v3 y.tables y.nodes y.outputs L1 L →
      (Box ((((W.setCell ⟨g + 1 + 1, 0, none⟩ (.int .i64 y.inputs)).setCell ⟨g + 1 + 1, 1, none⟩ v1).setCell ⟨g + 1 + 1, 2, none⟩ v2).setCell ⟨g + 1 + 1, 3, none⟩ v3) (g + 1 + 1) [.int .i64 y.inputs, v1, v2, v3] 28) ∧
      RetPC w y code (.returned (.tuple #[.agg #[.int .i64 y.inputs, v1, v2, v3], .int .i64 code])) ((((W.setCell ⟨g + 1 + 1, 0, none⟩ (.int .i64 y.inputs)).setCell ⟨g + 1 + 1, 1, none⟩ v1).setCell ⟨g + 1 + 1, 2, none⟩ v2).setCell ⟨g + 1 + 1, 3, none⟩ v3) := fun W v1 v2 v3 y L1 L B code hB hW hop => by
    have hd := OwnP.done (w := w) (inp := y.inputs) hop (br.below hW) (hB0.trans (hW.mono hB0.size)) i0 hB
    exact ⟨hd.1, RetPC.mk rfl hd.2.1 (Nat.le_refl _) hd.2.2⟩
  have FIN := Lib.hid fin
  clear fin
  have OKP := Lib.hid (isPatch_v _ hv1)
  have OKQ := Lib.hid (fun W hW => isPatch_v W (hv2.below hW))
  rw [hP] at OKP
  rw [hQ] at OKQ
  have z0 := bp.cell 0 rfl
  have z1 := bp.cell 1 rfl
  have z2 := bp.cell 2 rfl
  have z3 := bp.cell 3 rfl
  have np := okB_n24 hP
  have hnq := okB_n24 hQ
  have fp := (okB_len hP).1
  have fq := (okB_len hQ).1
  have po4 := (formed_iff.1 fp).2.2.2.1
  have SP := Lib.hid (formed_small fp)
  have SQ := Lib.hid (formed_small fq)
  have OKQS := Lib.hid (formed_src fq)
  have OUQ := Lib.hid (formed_outs fq)
  have hpt := (formed_small fp).tables
  have hqt := (formed_small fq).tables
  have HIN : Hid (∀ k (h : k < q.nodes.length), q.nodes[k].kind = 1 → 0 ≤ q.nodes[k].a ∧ q.nodes[k].a < (p.outputs.length : Int)) := fun k h hk => by
    have h1 := inA ((formed_iff.1 fq).2.2.2.2.1 _ (List.getElem_mem h)) hk
    exact ⟨h1.1, by rw [hio]; exact h1.2⟩
  have HTA : Hid (∀ k (h : k < q.nodes.length), q.nodes[k].kind = 13 → 0 ≤ q.nodes[k].a ∧ q.nodes[k].a ≤ 3) := fun k h hk => by
    have h1 := (formed_iff.1 fq).2.2.2.2.1 _ (List.getElem_mem h)
    unfold ndB nodeB at h1
    simp only [Bool.and_eq_true] at h1
    have h2 := h1.1.1.1.1.1.2
    rw [hk] at h2
    unfold abB at h2
    simp [kLo, kHi, inB] at h2
    omega
  have HBY : Hid (chBy p.outputs p.nodes.length q.nodes = chainBy p q) := rfl
  have HBL : Hid ((chainBy p q).length = q.nodes.length) := chBy_length _ _ _
  have HCP : Hid (chainP p q = ⟨p.inputs, p.tables ++ q.tables, p.nodes ++ chNs p.tables.length (chainBy p q) q.nodes, mapL (chainBy p q) q.outputs⟩) := rfl
  have HFU := Lib.hid (fun h => ch_full hP hQ hio h)
  have HGO := Lib.hid (fun h => ch_good hP hQ hio h)
  have HCF : Hid (chFull p q = (decide (24 < chCnt p.nodes.length q.nodes) || decide (4 < p.tables.length + q.tables.length))) := rfl
  generalize chRes p q = RES at HFU HGO ⊢
  generalize chCode p q = COD at HFU HGO ⊢
  generalize chFull p q = FULL at HFU HGO HCF
  generalize chainP p q = CP at HCP HGO
  generalize chainBy p q = BY at HBY HBL HCP
  obtain ⟨CNT, hCNT⟩ : ∃ c, c = chCnt p.nodes.length q.nodes := ⟨_, rfl⟩
  rw [← hCNT] at HCF
  have HCNT := Lib.hid hCNT
  clear hCNT
  have SZ : Hid (∀ W, Calls Try.prog 16 #[.slice p3 p.outputs.length c3] W fun e w' => e = .returned (.int .i64 (p.outputs.length : Int)) ∧ w' = W) := fun W => callsTurn (sizeI_any p3 p.outputs.length c3 W rp3.len)
  have KS : Hid (∀ W, Calls Try.prog 19 #[.slice q2 q.nodes.length d2] W fun e w' => e = .returned (.int .i64 (q.nodes.length : Int)) ∧ W = w') := fun W => sizeN_any q2 q.nodes.length d2 W rq2.len
  have KSP : Hid (∀ W, Calls Try.prog 19 #[.slice p2 p.nodes.length c2] W fun e w' => e = .returned (.int .i64 (p.nodes.length : Int)) ∧ W = w') := fun W => sizeN_any p2 p.nodes.length c2 W rp2.len
  have KST : Hid (∀ W, Calls Try.prog 20 #[.slice p1 p.tables.length c1] W fun e w' => e = .returned (.int .i64 (p.tables.length : Int)) ∧ w' = W) := fun W => callsTurn (sizeII_any p1 p.tables.length c1 W rp1.len)
  have KZ : Hid (∀ W, Calls Try.prog 18 #[.int .i64 (q.nodes.length : Int)] W fun e w' => ∃ D, e = .returned (.slice (some ⟨D, 0, none⟩) q.nodes.length q.nodes.length) ∧ OwnI W.heap.size w' (.slice (some ⟨D, 0, none⟩) q.nodes.length q.nodes.length) (List.replicate q.nodes.length 0) ∧ Below W.heap.size W w') := fun W => zeros_at q.nodes.length W (by omega)
  clear hP hQ fp fq
  go_enter Try.func6, Try.ntmps6
  go_upto_region 1 with fail
  rw [← HE.out, ← HG.out]
  go_upto_region 2 with fail
  refine OKP.out.mono ?_
  rintro e W1 ⟨rfl, hb1⟩
  have bq1 := bq.below hb1
  have y0 := bq1.cell 0 rfl
  have y1 := bq1.cell 1 rfl
  have y2 := bq1.cell 2 rfl
  have y3 := bq1.cell 3 rfl
  go_wp2_with fail
  refine (OKQ.out W1 hb1).mono ?_
  rintro e W2 ⟨rfl, hb2⟩
  have hb12 := Below.via hb1 hb2
  clear z0 z1 z2 z3 y0 y1 y2 y3 OKP OKQ
  have z3 := (bp.below hb12).cell 3 rfl
  have z0 := (bq.below hb12).cell 0 rfl
  go_wp2_with fail
  go_quiet ((go_at_call 16; exact Calls.quiet_of_same (SZ.out _)))
  have hbE1 := below_drewN hb12 nq
  clear z3 z0 hb12 hb1 hb2 bq1 hio
  generalize W2.drewN nq = E1 at hbE1 ⊢
  have hE1w := hB0.trans (hbE1.mono hB0.size)
  have bp1 := bp.below hbE1
  have bq1 := bq.below hbE1
  have z0 := bp1.cell 0 rfl
  have z1 := bp1.cell 1 rfl
  have z2 := bp1.cell 2 rfl
  have z3 := bp1.cell 3 rfl
  have z4 := bq1.cell 2 rfl
  have hgp := bp1.lt
  have hgq := bq1.lt
  have hcur := belowDrew0 E1
  have CK : Hid (∀ W, Below E1.heap.size E1 W → W.cell? ⟨g, 0, none⟩ = some (.int .i64 p.inputs) ∧ W.cell? ⟨g, 1, none⟩ = some (.slice p1 p.tables.length c1) ∧ W.cell? ⟨g, 2, none⟩ = some (.slice p2 p.nodes.length c2) ∧ W.cell? ⟨g, 3, none⟩ = some (.slice p3 p.outputs.length c3) ∧ W.cell? ⟨g + 1, 2, none⟩ = some (.slice q2 q.nodes.length d2)) := fun W hW => ⟨(hW.cell (p := ⟨g, 0, none⟩) hgp).trans z0, (hW.cell (p := ⟨g, 1, none⟩) hgp).trans z1, (hW.cell (p := ⟨g, 2, none⟩) hgp).trans z2, (hW.cell (p := ⟨g, 3, none⟩) hgp).trans z3, (hW.cell (p := ⟨g + 1, 2, none⟩) hgq).trans z4⟩
  have KCP : Hid (∀ W, Below E1.heap.size E1 W → Calls Try.prog 17 #[.agg #[.int .i64 p.inputs, .slice p1 p.tables.length c1, .slice p2 p.nodes.length c2, .slice p3 p.outputs.length c3]] W (RetP0 W p)) := fun W hW => copyPatch_v W (hv1.below (hbE1.trans (hW.mono hbE1.size))) SP.out
  go_wp2_with fail
  go_cut [6, 7] (fun s6 s7 wr => ∃ s0 v1 v2 v3 L1 L D, s6 = .pointer (some ⟨s0, 0, none⟩) ∧ s7 = .slice (some ⟨D, 0, none⟩) q.nodes.length q.nodes.length ∧ PB E1.heap.size E1 wr s0 p.inputs v1 v2 v3 p.tables p.nodes p.outputs L1 L ∧ OwnI E1.heap.size wr (.slice (some ⟨D, 0, none⟩) q.nodes.length q.nodes.length) (List.replicate q.nodes.length 0) ∧ Hid (¬ Blk (L1 ++ (L ++ [v3])) D))
  case first =>
    go_region_held3 (fun W => W.cell? ⟨g, 0, none⟩ = some (.int .i64 p.inputs) ∧ W.cell? ⟨g, 1, none⟩ = some (.slice p1 p.tables.length c1) ∧ W.cell? ⟨g, 2, none⟩ = some (.slice p2 p.nodes.length c2) ∧ W.cell? ⟨g, 3, none⟩ = some (.slice p3 p.outputs.length c3) ∧ W.cell? ⟨g + 1, 2, none⟩ = some (.slice q2 q.nodes.length d2)) (first | go_keep | exact CK.out _ (by (repeat (first | exact Below.refl _ _ | assumption | refine Below.setCell ?_ (by first | exact Nat.le_refl _ | omega | (simp; done) | (simp; omega)) _ | refine Below.alloc ?_ (by first | exact Nat.le_refl _ | omega | (simp; done) | (simp; omega)) _ | refine below_drewN ?_ _)))) (first | (go_at_call 17; refine (KCP.out _ (by first | exact hcur | exact hcur.alloc hcur.size _)).mono ?_; rintro e F1 ⟨v1, v2, v3, L1, L, rfl, hop, hba⟩; obtain ⟨a1, x1, rfl⟩ := hop.o1.sl'; obtain ⟨a2, x2, rfl⟩ := hop.o2.sl; obtain ⟨a3, x3, rfl, -⟩ := hop.o3.rd; (first | (have bqq : Box F1 E1.heap.size zPatch 28 := Box.below (w := E1.drew.alloc _) (Box.newAt E1.drew zPatch _ rfl) hba) | (have bqq : Box F1 F4.heap.size zPatch 28 := Box.below (w := F4.alloc _) (Box.newAt F4 zPatch _ rfl) hba) | (have bqq := bqq.below hba) | skip); (try (have SEP : ¬ Blk (L1 ++ (L ++ [Value.slice a3 p.outputs.length x3])) D := fun hbk => (by have h1 := (hop.blk hbk).1; have h2 := (hmD.lt (k := D) rfl).2; first | omega | (simp at h1; omega)))); (try (have hmD := hmD.below (by first | exact hba | exact ((Below.refl _ _).alloc (Nat.le_refl _) _).trans (hba.mono (by simp))))); have HP := hop.mono (by first | exact hcur.size | exact (hcur.alloc hcur.size _).size); have hcur : Below E1.heap.size E1 F1 := Below.via (by first | exact hcur | exact hcur.alloc hcur.size _) hba; have hcsa := hcur.size; (try (have tq0 := bqq.cell 0 rfl; have tq1 := bqq.cell 1 rfl; have tq2 := bqq.cell 2 rfl; have tq3 := bqq.cell 3 rfl; have fq0 := bqq.frozen 0; have fq1 := bqq.frozen 1; have fq2 := bqq.frozen 2; have fq3 := bqq.frozen 3))) | (go_at_call 18; refine (KZ.out _).mono ?_; rintro e F4 ⟨D, rfl, h4, hbz⟩; (first | (have bqq : Box F4 E1.heap.size zPatch 28 := Box.below (w := E1.drew.alloc _) (Box.newAt E1.drew zPatch _ rfl) hbz) | (have bqq : Box F4 F1.heap.size zPatch 28 := Box.below (w := F1.alloc _) (Box.newAt F1 zPatch _ rfl) hbz) | (have bqq := bqq.below hbz) | skip); (try (have SEP : ¬ Blk (L1 ++ (L ++ [Value.slice a3 p.outputs.length x3])) D := fun hbk => (by have h1 := (HP.blk hbk).2; have h2 := (h4.lt (k := D) rfl).1; first | omega | (simp at h2; omega)))); (try (have HP := HP.below (by first | exact hbz | exact ((Below.refl _ _).alloc (Nat.le_refl _) _).trans (hbz.mono (by simp))))); have hmD := h4.mono (by first | exact hcur.size | exact (hcur.alloc hcur.size _).size); have hcur : Below E1.heap.size E1 F4 := Below.via (by first | exact hcur | exact hcur.alloc hcur.size _) hbz; have hcsz := hcur.size; (try (have tq0 := bqq.cell 0 rfl; have tq1 := bqq.cell 1 rfl; have tq2 := bqq.cell 2 rfl; have tq3 := bqq.cell 3 rfl; have fq0 := bqq.frozen 0; have fq1 := bqq.frozen 1; have fq2 := bqq.frozen 2; have fq3 := bqq.frozen 3))) | (go_at_call 19; refine (KS.out _).mono ?_; rintro e w' ⟨rfl, rfl⟩))
    all_goals (go_wp2_with fail; go_meet; first | exact ⟨_, _, _, _, _, _, _, rfl, rfl, PB.new HP hcur, hmD.below ((Below.refl _ _).alloc (Nat.le_refl _) _), SEP⟩ | exact ⟨_, _, _, _, _, _, _, rfl, rfl, PB.newB HP hcur bqq (by first | exact Nat.le_refl _ | assumption), hmD.past4 bqq, SEP⟩)
  case rest =>
    obtain ⟨s0, v1, v2, v3, L1, L, D, rfl, rfl, hpb, hto, HSEP⟩ := hcut
    obtain ⟨wa, rfl⟩ : ∃ wa : World, wa = wc := ⟨_, rfl⟩
    clear z0 z1 z2 z3 z4 hcur CK KCP KZ KS
    obtain ⟨a1, x1, e1⟩ := hpb.own.o1.sl'
    obtain ⟨a3, x3, e3, -⟩ := hpb.own.o3.rd
    subst e1 e3
    have hDlo := (hto.lt (k := D) rfl).1
    have zp := (bp1.below hpb.bel).cell 2 rfl
    have zq := (bq1.below hpb.bel).cell 2 rfl
    go_wp2_with (first | (go_at_call 19; refine (KSP.out _).mono ?_; rintro e w' ⟨rfl, rfl⟩) | fail)
    clear zp zq
    obtain ⟨a2, x2, e2⟩ := hpb.own.o2.sl
    subst e2
    go_loopw [8, 9, 41] (fun av _ iv wr => ∃ (k a : Nat) (b : List Int), k ≤ q.nodes.length ∧ iv = .int .i64 k ∧ av = .int .i64 a ∧ a ≤ p.nodes.length + k ∧ Hid (b.length = q.nodes.length) ∧ Hid (b.take k ++ chBy p.outputs a (q.nodes.drop k) = BY) ∧ Hid (chCnt a (q.nodes.drop k) = CNT) ∧
        PB E1.heap.size E1 wr s0 p.inputs (.slice a1 L1.length x1) (.slice a2 p.nodes.length x2) (.slice a3 p.outputs.length x3) p.tables p.nodes p.outputs L1 L ∧ OwnI E1.heap.size wr (.slice (some ⟨D, 0, none⟩) q.nodes.length q.nodes.length) b) (fun _ _ iv _ => q.nodes.length - (intOf iv).toNat)
    case atStart => exact ⟨0, p.nodes.length, _, Nat.zero_le _, rfl, rfl, by omega, by unfold Hid; simp, by unfold Hid; simpa using HBY.out, HCNT.out.symm, hpb, hto⟩
    case round =>
      clear hpb hto HBY
      obtain ⟨k, a, b, hk, rfl, rfl, ha, HBN, HB, HC, hpb, hto⟩ := hrel
      obtain ⟨wj, rfl⟩ : ∃ wj : World, wj = wr := ⟨_, rfl⟩
      have hbwj := hE1w.trans (hpb.bel.mono hE1w.size)
      by_cases hlt : k < q.nodes.length
      · obtain ⟨nb, no, rfl, hnb, hnc⟩ := (rq2.below hbwj).pos hlt
        obtain ⟨y0, y1, y2, nsl, ndc, y3, -⟩ := hnc k hlt
        have HIN2 := Lib.hid (HIN.out k hlt)
        have HB1 : Hid (q.nodes[k].kind = 1 → chBy p.outputs a (q.nodes.drop k) = p.outputs.getD q.nodes[k].a.toNat 0 :: chBy p.outputs a (q.nodes.drop (k + 1))) := fun h => chBy_in hlt h
        have HB2 : Hid (q.nodes[k].kind ≠ 1 → chBy p.outputs a (q.nodes.drop k) = (a : Int) :: chBy p.outputs (a + 1) (q.nodes.drop (k + 1))) := fun h => chBy_out hlt h
        have HC1 : Hid (q.nodes[k].kind = 1 → chCnt a (q.nodes.drop k) = chCnt a (q.nodes.drop (k + 1))) := fun h => chCnt_in hlt h
        have HC2 : Hid (q.nodes[k].kind ≠ 1 → chCnt a (q.nodes.drop k) = chCnt (a + 1) (q.nodes.drop (k + 1))) := fun h => chCnt_out hlt h
        generalize q.nodes[k] = nd at y0 y1 y2 y3 HIN2 HB1 HB2 HC1 HC2
        obtain ⟨n0, hn0⟩ : ∃ n, n = wj.heap.size := ⟨_, rfl⟩
        obtain ⟨F, hF⟩ : ∃ F, F = wj.alloc (.cells #[.int .i64 nd.kind, .int .i64 nd.a, .int .i64 nd.b, .slice nsl nd.src.length ndc] 50) := ⟨_, rfl⟩
        have hbF : Below wj.heap.size wj F := by rw [hF]; exact (Below.refl _ _).alloc (Nat.le_refl _) _
        have bn : Box F n0 [.int .i64 nd.kind, .int .i64 nd.a, .int .i64 nd.b, .slice nsl nd.src.length ndc] 50 := by rw [hF]; exact Box.newAt _ _ _ hn0
        have HF := Lib.hid hF
        have HN0 := Lib.hid hn0
        have hpbF := hpb.below hbF
        have htoF := hto.below hbF
        have hkb : k < b.length := by rw [HBN.out]; exact hlt
        obtain ⟨-, -, hDl, hzm, hfz, hset⟩ := htoF.storing (k := k) hkb
        have HST := Lib.hid hset
        have HPI := Lib.hid (fun (u : Value) => hpbF.pastInt (u := u) htoF HSEP.out hDlo k)
        have HTK := Lib.hid (fun (y : Int) => take_set_snoc hkb y)
        have HBN2 : Hid (∀ y : Int, (b.set k y).length = q.nodes.length) := fun y => by rw [List.length_set]; exact HBN.out
        clear hF hn0 hnc hset
        go_upto_region 10 with fail
        rw [← HF.out, ← HN0.out]
        clear y0 y1 y2 y3
        have t0 := bn.cell 0 rfl
        by_cases hkd : nd.kind = 1
        · obtain ⟨hA0, hA1⟩ := HIN2.out hkd
          obtain ⟨m, hm⟩ : ∃ m : Nat, nd.a = m := ⟨nd.a.toNat, by omega⟩
          have hmo : m < p.outputs.length := by omega
          have hbwF := hbwj.trans (hbF.mono hbwj.size)
          obtain ⟨ob, oo, rfl, hob, hoc⟩ := (rp3.below hbwF).pos hmo
          have hom := hoc m hmo
          have HS2 : Hid (chBy p.outputs a (q.nodes.drop k) = p.outputs[m] :: chBy p.outputs a (q.nodes.drop (k + 1))) := by
            unfold Hid; rw [HB1.out hkd, hm, Int.toNat_natCast, List.getD_eq_getElem?_getD, List.getElem?_eq_getElem hmo]; rfl
          have HC3 := Lib.hid (HC1.out hkd)
          generalize p.outputs[m] = y at hom HS2
          have zp := ((bp1.below hpb.bel).below hbF).cell 3 rfl
          have t1 := bn.cell 1 rfl
          rw [hkd] at t0
          rw [hm] at t1
          clear hoc hkd hm hA0 hA1
          go_wp2_with fail
          go_roundw
          case rel => exact ⟨k + 1, a, b.set k y, by omega, by go_num, rfl, by omega, HBN2.out y, by unfold Hid; rw [HTK.out y, ← HB.out, HS2.out, List.append_assoc]; rfl, by unfold Hid; rw [← HC3.out]; exact HC.out, HPI.out _, HST.out y⟩
          case measure => simp [intOf] <;> omega
        · have HS2 := Lib.hid (HB2.out hkd)
          have HC3 := Lib.hid (HC2.out hkd)
          clear HB1 HB2 HC1 HC2
          go_wp2_with fail
          go_roundw
          case rel => exact ⟨k + 1, a + 1, b.set k (a : Int), by omega, by go_num, by go_num, by omega, HBN2.out _, by unfold Hid; rw [HTK.out _, ← HB.out, HS2.out, List.append_assoc]; rfl, by unfold Hid; rw [← HC3.out]; exact HC.out, HPI.out _, HST.out _⟩
          case measure => simp [intOf] <;> omega
      · obtain rfl : k = q.nodes.length := by omega
        have HBE : Hid (b = BY) := by have h1 := HB.out; rw [List.drop_length, List.take_of_length_le (by rw [HBN.out]; exact Nat.le_refl _)] at h1; unfold Hid; simpa [chBy] using h1
        have HCE : Hid (a = CNT) := by have h1 := HC.out; rw [List.drop_length] at h1; unfold Hid; simpa [chCnt] using h1
        obtain rfl := HBE.out
        obtain rfl := HCE.out
        have hbl := HBN.out
        clear HB HC HBE HCE HBN
        have zp := (bp1.below hpb.bel).cell 1 rfl
        have zq := (bq1.below hpb.bel).cell 1 rfl
        have zqn := (bq1.below hpb.bel).cell 2 rfl
        have hbEj := Below.via hbE1 hpb.bel
        cases hF : FULL
        case true =>
          obtain ⟨hr, hc⟩ := HFU.out hF
          have hcf : (decide (24 < a) || decide (4 < p.tables.length + q.tables.length)) = true := by rw [← HCF.out]; exact hF
          have HRR := Lib.hid hr
          have HCC := Lib.hid hc
          clear hr hc hF hpb hto
          by_cases h24 : 24 < a
          · clear hcf
            have bri := br.below hbEj
            obtain ⟨bW, hret⟩ := FIN.out wj _ _ _ noPatch [] [] w.heap.size 5 (Nat.le_refl _) hbEj (OwnP.none0 _ _)
            simp only [noPatch] at bW
            have k0 := bri.cell 0 rfl
            have k1 := bri.cell 1 rfl
            have k2 := bri.cell 2 rfl
            have k3 := bri.cell 3 rfl
            have j0 := bri.frozen 0
            have j1 := bri.frozen 1
            have j2 := bri.frozen 2
            have j3 := bri.frozen 3
            have m0 := bW.cell 0 rfl
            have m1 := bW.cell 1 rfl
            have m2 := bW.cell 2 rfl
            have m3 := bW.cell 3 rfl
            have HRET := Lib.hid hret
            clear hret bW bri
            go_wp2_with fail
            refine bodyPost_ret (v := .tuple #[.agg #[.int .i64 0, .slice none 0 0, .slice none 0 0, .slice none 0 0], .int .i64 5]) (by simp [results, Try.results6, go_sem, *]) rfl ?_
            rw [HRR.out, HCC.out]
            exact HRET.out
          · have h4 : 4 < p.tables.length + q.tables.length := by
              rw [Bool.or_eq_true, decide_eq_true_eq, decide_eq_true_eq] at hcf
              omega
            clear hcf
            have bri := br.below hbEj
            obtain ⟨bW, hret⟩ := FIN.out wj _ _ _ noPatch [] [] w.heap.size 5 (Nat.le_refl _) hbEj (OwnP.none0 _ _)
            simp only [noPatch] at bW
            have k0 := bri.cell 0 rfl
            have k1 := bri.cell 1 rfl
            have k2 := bri.cell 2 rfl
            have k3 := bri.cell 3 rfl
            have j0 := bri.frozen 0
            have j1 := bri.frozen 1
            have j2 := bri.frozen 2
            have j3 := bri.frozen 3
            have m0 := bW.cell 0 rfl
            have m1 := bW.cell 1 rfl
            have m2 := bW.cell 2 rfl
            have m3 := bW.cell 3 rfl
            have HRET := Lib.hid hret
            clear hret bW bri
            go_wp2_with fail
            refine bodyPost_ret (v := .tuple #[.agg #[.int .i64 0, .slice none 0 0, .slice none 0 0, .slice none 0 0], .int .i64 5]) (by simp [results, Try.results6, go_sem, *]) rfl ?_
            rw [HRR.out, HCC.out]
            exact HRET.out
        obtain ⟨hr, hc⟩ := HGO.out hF
        have hcf : (decide (24 < a) || decide (4 < p.tables.length + q.tables.length)) = false := by rw [← HCF.out]; exact hF
        rw [Bool.or_eq_false_iff, decide_eq_false_iff_not, decide_eq_false_iff_not] at hcf
        obtain ⟨h24, h4⟩ := hcf
        have HRR := Lib.hid hr
        have HCC := Lib.hid hc
        clear hr hc hF
        obtain ⟨BY, hBY⟩ : ∃ B, B = b := ⟨_, rfl⟩
        rw [← hBY] at hto hbl
        have HBYE := Lib.hid hBY
        clear hBY
        go_wp2_with fail
        clear zp zq zqn hbEj
        go_loopw [81] (fun iv wr => ∃ (k : Nat) (v2 : Value) (L' : List Value) (ns : List NodeD), k ≤ q.nodes.length ∧ iv = .int .i64 k ∧ PB E1.heap.size E1 wr s0 p.inputs (.slice a1 L1.length x1) v2 (.slice a3 p.outputs.length x3) p.tables ns p.outputs L1 L' ∧ OwnI E1.heap.size wr (.slice (some ⟨D, 0, none⟩) q.nodes.length q.nodes.length) BY ∧
          Hid (ns ++ chNs p.tables.length BY (q.nodes.drop k) = p.nodes ++ chNs p.tables.length BY q.nodes) ∧ Hid (ns.length ≤ p.nodes.length + k)) (fun iv _ => q.nodes.length - (intOf iv).toNat)
        case atStart => exact ⟨0, _, L, p.nodes, Nat.zero_le _, rfl, hpb, hto, rfl, Nat.le_refl _⟩
        case round =>
          clear hpb hto hbwj
          obtain ⟨k, v2, L', ns, hk, rfl, hpb, hby, HNS, HNL⟩ := hrel
          obtain ⟨wj, rfl⟩ : ∃ wj : World, wj = wr := ⟨_, rfl⟩
          have hbwj := hE1w.trans (hpb.bel.mono hE1w.size)
          by_cases hlt : k < q.nodes.length
          · obtain ⟨nb, no, rfl, hnb, hnc⟩ := (rq2.below hbwj).pos hlt
            obtain ⟨y0, y1, y2, nsl, ndc, y3, hrn⟩ := hnc k hlt
            have hlk := SQ.out.srcs _ (List.getElem_mem hlt)
            have hsr := OKQS.out.rng _ (List.getElem_mem hlt)
            have HIN2 : Hid (q.nodes[k].kind = 1 → chNs p.tables.length BY (q.nodes.drop k) = chNs p.tables.length BY (q.nodes.drop (k + 1))) := fun h => chNs_in hlt h
            have HOUT2 : Hid (q.nodes[k].kind ≠ 1 → chNs p.tables.length BY (q.nodes.drop k) = chN p.tables.length BY q.nodes[k] :: chNs p.tables.length BY (q.nodes.drop (k + 1))) := fun h => chNs_out hlt h
            have HTB := Lib.hid (HTA.out k hlt)
            generalize q.nodes[k] = nd at y0 y1 y2 y3 hrn hlk hsr HIN2 HOUT2 HTB
            obtain ⟨a2', x2', e2⟩ := hpb.own.o2.sl
            subst e2
            obtain ⟨n0, hn0⟩ : ∃ n, n = wj.heap.size := ⟨_, rfl⟩
            obtain ⟨F, hF⟩ : ∃ F, F = wj.alloc (.cells #[.int .i64 nd.kind, .int .i64 nd.a, .int .i64 nd.b, .slice nsl nd.src.length ndc] 50) := ⟨_, rfl⟩
            have hbF : Below wj.heap.size wj F := by rw [hF]; exact (Below.refl _ _).alloc (Nat.le_refl _) _
            have bn : Box F n0 [.int .i64 nd.kind, .int .i64 nd.a, .int .i64 nd.b, .slice nsl nd.src.length ndc] 50 := by rw [hF]; exact Box.newAt _ _ _ hn0
            have HF := Lib.hid hF
            have HN0 := Lib.hid hn0
            have hn0' : wj.heap.size ≤ n0 := by omega
            clear hF hn0 hnc
            go_upto_region 20 with fail
            rw [← HF.out, ← HN0.out]
            clear y0 y1 y2 y3
            have t0 := bn.cell 0 rfl
            by_cases hkd : nd.kind = 1
            · have HS := Lib.hid (HIN2.out hkd)
              have hpbF := hpb.below hbF
              have hbyF := hby.below hbF
              rw [hkd] at t0
              clear hkd hrn HIN2 HOUT2
              go_wp2_with fail
              go_roundw
              case rel => exact ⟨k + 1, _, _, ns, by omega, by go_num, hpbF, hbyF, by unfold Hid; rw [← HNS.out, HS.out], by unfold Hid; have := HNL.out; omega⟩
              case measure => simp [intOf] <;> omega
            · have HS := Lib.hid (HOUT2.out hkd)
              have hlL : ns.length < 1099511627776 := by have := HNL.out; omega
              clear HIN2 HOUT2
              by_cases hk13 : nd.kind = 13
              · have HY : Hid (chN p.tables.length BY nd = ⟨nd.kind, nd.a + (p.tables.length : Int), nd.b, mapL BY nd.src⟩) := by unfold Hid chN; rw [if_pos hk13]
                obtain ⟨hta0, hta1⟩ := HTB.out hk13
                rw [hk13] at t0
                have zt := ((bp1.below hpb.bel).below hbF).cell 1 rfl
                have t1 := bn.cell 1 rfl
                have k1 := bn.frozen 1
                clear hkd
                go_upto_region 22 with fail
                refine wp_region_still_tail 7 (by kernel_rfl) (by kernel_rfl) ?_
                simp only [List.take_succ_cons, List.take_zero, List.drop_succ_cons, List.drop_zero]
                change wpStill _ _ (World.drew _) _ _ _
                repeat (first | still_step | (refine wpStill_step (fun K hK => ?_); go_simp; refine ⟨_, (by go_at_call 20; exact KST.out _), hK _ ?_⟩; clear hK K))
                refine wpStill_nil ?_
                change wpList _ _ _ _ _ (World.drew _)
                obtain ⟨X, hX⟩ : ∃ W, W = (F.setCell ⟨n0, 1, none⟩ (.int .i64 (nd.a + (p.tables.length : Int)))).drew := ⟨_, rfl⟩
                have hbX : Below wj.heap.size wj X := by
                  rw [hX]
                  have hh := hbF.setCell (p := ⟨n0, 1, none⟩) hn0' (.int .i64 (nd.a + (p.tables.length : Int)))
                  exact ⟨hh.os, hh.tape, hh.output, hh.size, hh.block⟩
                have bX : Box X n0 [.int .i64 nd.kind, .int .i64 (nd.a + (p.tables.length : Int)), .int .i64 nd.b, .slice nsl nd.src.length ndc] 50 := by
                  rw [hX]
                  have hh : Box (F.setCell ⟨n0, 1, none⟩ (.int .i64 (nd.a + (p.tables.length : Int)))) n0 [.int .i64 nd.kind, .int .i64 (nd.a + (p.tables.length : Int)), .int .i64 nd.b, .slice nsl nd.src.length ndc] 50 := by simpa using bn.set 1 (.int .i64 (nd.a + (p.tables.length : Int)))
                  exact hh
                have HX := Lib.hid hX
                clear hX hk13
                go_upto_region 23 with fail
                rw [← HX.out]
                clear t0 t1 zt k1
                have MP : Hid (Calls Try.prog 21 #[.slice nsl nd.src.length ndc, .slice (some ⟨D, 0, none⟩) q.nodes.length q.nodes.length] X fun e w' => ∃ v, e = .returned v ∧ OwnI X.heap.size w' v (mapL BY nd.src) ∧ Below X.heap.size X w') := by
                  have := mapped_any (c := ndc) (d := q.nodes.length) X (hrn.below hbX) (rdI_of (hby.below hbX)).2 (by omega) (fun s hs => by rw [hbl]; exact hsr s hs)
                  rw [hbl] at this
                  exact this
                have t3 := bX.cell 3 rfl
                go_wp2_with fail
                refine MP.out.mono ?_
                rintro e W1 ⟨u, rfl, hu, hb1⟩
                have hb1' : Below wj.heap.size wj W1 := hbX.trans (hb1.mono hbX.size)
                have bn1 := bX.below hb1
                have hnew := hpb.fresh hu hbX.size
                have hsj := hpb.bel.size
                obtain ⟨uq, uc, rfl, -⟩ := hu.rd
                clear t3
                have t3 := bn1.cell 3 rfl
                have f3 := bn1.frozen 3
                have bn2 := bn1.set 3 (.slice uq (mapL BY nd.src).length uc)
                have hun : ∀ j, (Value.slice uq (mapL BY nd.src).length uc).ownBlock = some j → j ≠ n0 := fun j hj => by have h1 := (hu.lt hj).1; have h2 := bX.lt; omega
                have hu2 := (hu.mono (B' := E1.heap.size) (by have := hbX.size; omega)).keep (w' := W1.setCell ⟨n0, 3, none⟩ (.slice uq (mapL BY nd.src).length uc)) fun j hj => Below.heap_setCell _ _ _ _ (hun j hj)
                have hb2' := hb1'.setCell (p := ⟨n0, 3, none⟩) hn0' (.slice uq (mapL BY nd.src).length uc)
                generalize (mapL BY nd.src).length = ul at hu hun hu2 hb2' bn2 hnew ⊢
                obtain ⟨WW, hWW⟩ : ∃ W, W = W1.setCell ⟨n0, 3, none⟩ (.slice uq ul uc) := ⟨_, rfl⟩
                have hbW : Below wj.heap.size wj WW := by rw [hWW]; exact hb2'
                have huW : OwnI E1.heap.size WW (.slice uq ul uc) (mapL BY nd.src) := by rw [hWW]; exact hu2
                have bnW : Box WW n0 [.int .i64 nd.kind, .int .i64 (nd.a + (p.tables.length : Int)), .int .i64 nd.b, .slice uq ul uc] 50 := by rw [hWW]; simpa using bn2
                have HWW := Lib.hid hWW
                clear hWW hu hun hu2 hb2' bn2
                have hpb2 := hpb.below hbW
                have hbyW := hby.below hbW
                have y0 := bnW.cell 0 rfl
                have y1 := bnW.cell 1 rfl
                have y2 := bnW.cell 2 rfl
                have y3 := bnW.cell 3 rfl
                have s2 := hpb2.out.cell 2 rfl
                have hBs : E1.heap.size ≤ WW.heap.size := hpb2.bel.size
                have hown := hpb2.own.o2
                go_upto_region 24 with fail
                rw [← HWW.out]
                clear t3 f3
                go_wp2_with (first | (at_builtin; (refine wpList_append_node rfl _ _ rfl ⟨nd.kind, nd.a + (p.tables.length : Int), nd.b, mapL BY nd.src⟩ rfl rfl rfl rfl hown rfl rfl hlL hBs ?_; intro v' W4 hv hg hk3; obtain ⟨wp, wc, rfl⟩ := hv.slS; have PN := hpb2.node huW hnew hv hg; have c3 := PN.1.1; have f3 := PN.1.2)) | fail)
                have PN2 := Lib.hid PN.2
                have BY2 := Lib.hid (hbyW.pastNode (i := 2) (u := .slice wp (ns.length + 1) wc) hown hpb2.out hg)
                clear PN c3 f3
                go_roundw
                case rel => exact ⟨k + 1, _, _, _, by omega, by go_num, PN2.out, BY2.out, by unfold Hid; rw [← HNS.out, HS.out, HY.out, List.append_assoc]; rfl, by unfold Hid; have := HNL.out; rw [List.length_append, List.length_singleton]; omega⟩
                case measure => simp [intOf] <;> omega
              · have HY : Hid (chN p.tables.length BY nd = ⟨nd.kind, nd.a, nd.b, mapL BY nd.src⟩) := by unfold Hid chN; rw [if_neg hk13]
                obtain ⟨X, hX⟩ : ∃ W, W = F := ⟨_, rfl⟩
                have hbX : Below wj.heap.size wj X := by rw [hX]; exact hbF
                have bX : Box X n0 [.int .i64 nd.kind, .int .i64 nd.a, .int .i64 nd.b, .slice nsl nd.src.length ndc] 50 := by rw [hX]; exact bn
                have HX := Lib.hid hX
                clear hX
                go_upto_region 23 with fail
                rw [← HX.out]
                clear t0
                have MP : Hid (Calls Try.prog 21 #[.slice nsl nd.src.length ndc, .slice (some ⟨D, 0, none⟩) q.nodes.length q.nodes.length] X fun e w' => ∃ v, e = .returned v ∧ OwnI X.heap.size w' v (mapL BY nd.src) ∧ Below X.heap.size X w') := by
                  have := mapped_any (c := ndc) (d := q.nodes.length) X (hrn.below hbX) (rdI_of (hby.below hbX)).2 (by omega) (fun s hs => by rw [hbl]; exact hsr s hs)
                  rw [hbl] at this
                  exact this
                have t3 := bX.cell 3 rfl
                go_wp2_with fail
                refine MP.out.mono ?_
                rintro e W1 ⟨u, rfl, hu, hb1⟩
                have hb1' : Below wj.heap.size wj W1 := hbX.trans (hb1.mono hbX.size)
                have bn1 := bX.below hb1
                have hnew := hpb.fresh hu hbX.size
                have hsj := hpb.bel.size
                obtain ⟨uq, uc, rfl, -⟩ := hu.rd
                clear t3
                have t3 := bn1.cell 3 rfl
                have f3 := bn1.frozen 3
                have bn2 := bn1.set 3 (.slice uq (mapL BY nd.src).length uc)
                have hun : ∀ j, (Value.slice uq (mapL BY nd.src).length uc).ownBlock = some j → j ≠ n0 := fun j hj => by have h1 := (hu.lt hj).1; have h2 := bX.lt; omega
                have hu2 := (hu.mono (B' := E1.heap.size) (by have := hbX.size; omega)).keep (w' := W1.setCell ⟨n0, 3, none⟩ (.slice uq (mapL BY nd.src).length uc)) fun j hj => Below.heap_setCell _ _ _ _ (hun j hj)
                have hb2' := hb1'.setCell (p := ⟨n0, 3, none⟩) hn0' (.slice uq (mapL BY nd.src).length uc)
                generalize (mapL BY nd.src).length = ul at hu hun hu2 hb2' bn2 hnew ⊢
                obtain ⟨WW, hWW⟩ : ∃ W, W = W1.setCell ⟨n0, 3, none⟩ (.slice uq ul uc) := ⟨_, rfl⟩
                have hbW : Below wj.heap.size wj WW := by rw [hWW]; exact hb2'
                have huW : OwnI E1.heap.size WW (.slice uq ul uc) (mapL BY nd.src) := by rw [hWW]; exact hu2
                have bnW : Box WW n0 [.int .i64 nd.kind, .int .i64 (nd.a), .int .i64 nd.b, .slice uq ul uc] 50 := by rw [hWW]; simpa using bn2
                have HWW := Lib.hid hWW
                clear hWW hu hun hu2 hb2' bn2
                have hpb2 := hpb.below hbW
                have hbyW := hby.below hbW
                have y0 := bnW.cell 0 rfl
                have y1 := bnW.cell 1 rfl
                have y2 := bnW.cell 2 rfl
                have y3 := bnW.cell 3 rfl
                have s2 := hpb2.out.cell 2 rfl
                have hBs : E1.heap.size ≤ WW.heap.size := hpb2.bel.size
                have hown := hpb2.own.o2
                go_upto_region 24 with fail
                rw [← HWW.out]
                clear t3 f3
                go_wp2_with (first | (at_builtin; (refine wpList_append_node rfl _ _ rfl ⟨nd.kind, nd.a, nd.b, mapL BY nd.src⟩ rfl rfl rfl rfl hown rfl rfl hlL hBs ?_; intro v' W4 hv hg hk3; obtain ⟨wp, wc, rfl⟩ := hv.slS; have PN := hpb2.node huW hnew hv hg; have c3 := PN.1.1; have f3 := PN.1.2)) | fail)
                have PN2 := Lib.hid PN.2
                have BY2 := Lib.hid (hbyW.pastNode (i := 2) (u := .slice wp (ns.length + 1) wc) hown hpb2.out hg)
                clear PN c3 f3
                go_roundw
                case rel => exact ⟨k + 1, _, _, _, by omega, by go_num, PN2.out, BY2.out, by unfold Hid; rw [← HNS.out, HS.out, HY.out, List.append_assoc]; rfl, by unfold Hid; have := HNL.out; rw [List.length_append, List.length_singleton]; omega⟩
                case measure => simp [intOf] <;> omega
          · obtain rfl : k = q.nodes.length := by omega
            have HNE : Hid (ns = p.nodes ++ chNs p.tables.length BY q.nodes) := by
              have h1 := HNS.out
              rw [List.drop_length] at h1
              unfold Hid
              rw [← h1]
              exact (List.append_nil ns).symm
            obtain ⟨a2', x2', e2⟩ := hpb.own.o2.sl
            subst e2
            have KC2 : Hid (∀ W, Below wj.heap.size wj W → Calls Try.prog 22 #[.slice q1 q.tables.length d1] W fun e w' => ∃ v L, e = .returned v ∧ OwnII W.heap.size w' v q.tables L ∧ Below W.heap.size W w') := fun W hW => clones_any W (rq1.below (hbwj.trans (hW.mono hbwj.size))) (by omega) (fun t ht => by have := SQ.out.rows t ht; omega)
            have MP : Hid (∀ W, Below E1.heap.size E1 W → OwnI E1.heap.size W (.slice (some ⟨D, 0, none⟩) q.nodes.length q.nodes.length) BY → Calls Try.prog 21 #[.slice q3 q.outputs.length d3, .slice (some ⟨D, 0, none⟩) q.nodes.length q.nodes.length] W fun e w' => ∃ v, e = .returned v ∧ OwnI W.heap.size w' v (mapL BY q.outputs) ∧ Below W.heap.size W w') := fun W hW ho => by
              have h1 := mapped_any (c := d3) (d := q.nodes.length) W (rq3.below (hE1w.trans (hW.mono hE1w.size))) (rdI_of ho).2 (by have := SQ.out.outs; omega) (fun s hs => by rw [hbl]; exact OUQ.out s hs)
              rw [hbl] at h1
              exact h1
            have HL1 := Lib.hid hpb.own.s1.1
            have z1 := (bq1.below hpb.bel).cell 1 rfl
            have s1 := hpb.out.cell 1 rfl
            have hsj := hpb.bel.size
            have lt1 := hpb.out.lt
            have hcur := belowDrew0 wj
            clear HNS HNL HTA OUQ SP KSP KST SZ
            go_upto_region 26 with fail
            go_region_law (first | (go_simp; go_at_call 22; refine (KC2.out _ hcur).mono ?_; rintro e W2 ⟨vq, M, rfl, hu, hb2⟩; obtain ⟨sp, sc, rfl⟩ := hu.1.sl'; have HSP : Hid (∀ b, Blk M b → ¬ Blk (L1 ++ (L' ++ [Value.slice a3 p.outputs.length x3])) b) := fun b hb hb' => (by have h1 := (hu.2.1.blk hb).1; have h2 := (hpb.own.blk hb').2; have h3 := hcur.size; omega); have hu2 := hu.mono (Nat.le_trans hsj hcur.size); have HML := Lib.hid hu.2.1.1; have hcur := hcur.trans (hb2.mono hcur.size); have hpb2 := hpb.below hcur; have hby2 := hby.below hcur; have s1 := hpb2.out.cell 1 rfl; have lt1 := hpb2.out.lt; have hBs : E1.heap.size ≤ W2.heap.size := Nat.le_trans hsj hcur.size) | (refine step_append_vals rfl _ _ rfl 24 (.slice none 0 0) Try.underlying24 infoII rfl (by omega) rfl rfl hpb2.own.o1 hu2.1 hu2.2.1.oneCell (by have := HL1.out; have := HML.out; omega) hBs ?_; intro v' W3 hv hg; have PN := hpb2.tables hu2.2.1 hu2.2.2 HSP.out hv hg; have PY := hby2.pastTab (i := 1) (u := v') hpb2.own.o1 hpb2.out hg; generalize L1 ++ M = LM at hv PN; obtain ⟨vp, vc, rfl⟩ := hv.sl'; have c3 := PN.1.1; have f3 := PN.1.2) | fail)
            all_goals
              have PN2 := Lib.hid PN.2
              have BY2 := Lib.hid PY
              clear PN PY c3 f3 s1 z1 lt1
              obtain ⟨Y, hY⟩ : ∃ Y, Y = W3.setCell ⟨s0, 1, none⟩ (.slice vp LM.length vc) := ⟨_, rfl⟩
              have hpb3 := PN2.out
              have hby3 := BY2.out
              rw [← hY] at hpb3 hby3
              have HYY := Lib.hid hY
              clear hY PN2 BY2
              have zq3 := (bq1.below hpb3.bel).cell 3 rfl
              have hEY := hpb3.bel.size
              go_upto_region 27 with fail
              rw [← HYY.out]
              go_wp2_with fail
              refine (MP.out Y hpb3.bel hby3).mono ?_
              rintro e Z ⟨u, rfl, hu, hbZ⟩
              have hnew := hpb3.fresh hu (Nat.le_refl _)
              have hpb4 := hpb3.below hbZ
              have hu2 := hu.mono hEY
              obtain ⟨uq, uc, rfl, -⟩ := hu.rd
              generalize (mapL BY q.outputs).length = ul at hu hu2 hnew ⊢
              have PO := hpb4.outs hu2 hnew
              have s3 := hpb4.out.cell 3 rfl
              have f3 := hpb4.out.frozen 3
              clear zq3 hu hu2 hnew
              obtain ⟨V, hV⟩ : ∃ V, V = Z.setCell ⟨s0, 3, none⟩ (.slice uq ul uc) := ⟨_, rfl⟩
              rw [← hV] at PO
              have HVV := Lib.hid hV
              clear hV
              go_upto_region 28 with fail
              rw [← HVV.out]
              have hbV := Below.via hbE1 PO.bel
              have bri := br.below hbV
              obtain ⟨bW, hret⟩ := FIN.out V _ _ _ ⟨p.inputs, p.tables ++ q.tables, ns, mapL BY q.outputs⟩ LM L' E1.heap.size 0 hE1w.size hbV PO.own
              simp only at bW
              clear s3 f3
              have a0 := PO.out.cell 0 rfl
              have a1 := PO.out.cell 1 rfl
              have a2 := PO.out.cell 2 rfl
              have a3 := PO.out.cell 3 rfl
              have k0 := bri.cell 0 rfl
              have k1 := bri.cell 1 rfl
              have k2 := bri.cell 2 rfl
              have k3 := bri.cell 3 rfl
              have j0 := bri.frozen 0
              have j1 := bri.frozen 1
              have j2 := bri.frozen 2
              have j3 := bri.frozen 3
              have m0 := bW.cell 0 rfl
              have m1 := bW.cell 1 rfl
              have m2 := bW.cell 2 rfl
              have m3 := bW.cell 3 rfl
              have HRET := Lib.hid hret
              clear hret bW bri
              go_wp2_with fail
              refine bodyPost_ret (v := .tuple #[.agg #[.int .i64 p.inputs, .slice vp LM.length vc, .slice a2' ns.length x2', .slice uq ul uc], .int .i64 0]) (by simp [results, Try.results6, go_sem, *]) rfl ?_
              rw [HRR.out, HCC.out, HCP.out, ← HBYE.out, ← HNE.out]
              exact HRET.out
end Go.Proofs.Ytdjoaaccnadccaa

namespace Go.Proofs.Ytdjoaaccnadccaa
open Go.ChangeShapes Go.WideShapes Go.ChangeAt Go.RowKit
set_option linter.unusedVariables false

/-- a patch x, owned, that stands in box s; nothing older is touched -/
def HeldP (E w : World) (s : Nat) (x : PatchD) (v1 v2 v3 : Value) (L : List Value) : Prop :=
  Box w s [.int .i64 x.inputs, v1, v2, v3] 28 ∧ OwnPatch E.heap.size w (.agg #[.int .i64 x.inputs, v1, v2, v3]) x L ∧ Dis L ∧ Below E.heap.size E w
theorem HeldP.new {E F : World} {x : PatchD} {v1 v2 v3 : Value} {L : List Value} {B : Nat} (h : OwnPatch B F (.agg #[.int .i64 x.inputs, v1, v2, v3]) x L) (hd : Dis L) (hc : Below E.heap.size E F) (hB : E.heap.size ≤ B) :
    HeldP E (F.alloc (.cells #[.int .i64 x.inputs, v1, v2, v3] 28)) F.heap.size x v1 v2 v3 L :=
  ⟨Box.newAt _ [.int .i64 x.inputs, v1, v2, v3] _ rfl, (h.mono hB).below ((Below.refl _ _).alloc (Nat.le_refl _) _), hd, hc.alloc hc.size _⟩
theorem HeldP.box {E F : World} {x : PatchD} {v1 v2 v3 : Value} {L : List Value} {B s : Nat} (h : OwnPatch B F (.agg #[.int .i64 x.inputs, v1, v2, v3]) x L) (hd : Dis L) (hc : Below E.heap.size E F) (bq : Box F s zPatch 28) (hs : E.heap.size ≤ s) (hs2 : s < B) :
    HeldP E ((((F.setCell ⟨s, 0, none⟩ (.int .i64 x.inputs)).setCell ⟨s, 1, none⟩ v1).setCell ⟨s, 2, none⟩ v2).setCell ⟨s, 3, none⟩ v3) s x v1 v2 v3 L := by
  have b0 := bq.set 0 (.int .i64 x.inputs)
  have b1 := b0.set 1 v1
  have b2 := b1.set 2 v2
  have b3 := b2.set 3 v3
  refine ⟨by simpa [zPatch] using b3, OwnPatch.mono ?_ (Nat.le_trans hs (Nat.le_of_lt hs2)), hd, (((hc.setCell hs _).setCell hs _).setCell hs _).setCell hs _⟩
  have hne : ∀ k, B ≤ k → k ≠ s := fun k hk e => by omega
  exact (((h.keeps (w' := F.setCell ⟨s, 0, none⟩ (.int .i64 x.inputs)) fun k hk _ => Below.heap_setCell _ _ _ _ (hne k hk)).keeps (w' := (F.setCell ⟨s, 0, none⟩ (.int .i64 x.inputs)).setCell ⟨s, 1, none⟩ v1) fun k hk _ => Below.heap_setCell _ _ _ _ (hne k hk)).keeps (w' := ((F.setCell ⟨s, 0, none⟩ (.int .i64 x.inputs)).setCell ⟨s, 1, none⟩ v1).setCell ⟨s, 2, none⟩ v2) fun k hk _ => Below.heap_setCell _ _ _ _ (hne k hk)).keeps fun k hk _ => Below.heap_setCell _ _ _ _ (hne k hk)
end Go.Proofs.Ytdjoaaccnadccaa

namespace Go.Proofs.Ytdjoaaccnadccaa
open Go.ChangeShapes Go.WideShapes Go.ChangeAt Go.RowKit
set_option linter.unusedVariables false

theorem implChainPatches_v {v v' : Value} {p q : PatchD} (w : World) (h : VPatch w v p) (h' : VPatch w v' q) :
    Calls Try.prog 6 #[v, v'] w (RetPC w (chRes p q) (chCode p q)) := by
  cases e : okB p && okB q && decide ((p.outputs.length : Int) = q.inputs)
  · exact implChain_bad w h h' e
  · rw [Bool.and_eq_true, Bool.and_eq_true, decide_eq_true_eq] at e
    exact implChain_ok w h h' e.1.1 e.1.2 e.2
end Go.Proofs.Ytdjoaaccnadccaa
