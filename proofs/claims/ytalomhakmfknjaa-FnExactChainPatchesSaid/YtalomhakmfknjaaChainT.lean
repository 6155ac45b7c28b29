/-
  ChainPatches: the reference's function; codes and results.
-/
import Derived.Test.YtalomhakmfknjaaChainS
import Derived.Test.YtalomhakmfknjaaTrim2
namespace Go.Proofs.Ytalomhakmfknjaa
open Go.ChangeShapes Go.WideShapes Go.ChangeAt Go.RowKit
set_option linter.unusedVariables false

def chFull (p q : PatchD) : Bool := decide (24 < chCnt p.nodes.length q.nodes) || decide (4 < p.tables.length + q.tables.length)
def chCode (p q : PatchD) : Int := if okB p && okB q then (if (p.outputs.length : Int) = q.inputs then (if chFull p q then 5 else 0) else 6) else 1
def chRes (p q : PatchD) : PatchD := if okB p && okB q && decide ((p.outputs.length : Int) = q.inputs) && !chFull p q then chainP p q else noPatch
theorem chNs_src {t : Int} {by_ : List Int} {ns : List NodeD} (h : ∀ n ∈ ns, n.src.length ≤ 1000) : ∀ n ∈ chNs t by_ ns, n.src.length ≤ 1000 := by
  induction ns with
  | nil => intro n hn; simp [chNs] at hn
  | cons m ms ih =>
    intro n hn
    have ih' := ih fun a ha => h a (List.mem_cons_of_mem _ ha)
    unfold chNs at hn
    split at hn
    · exact ih' n hn
    · rcases List.mem_cons.1 hn with rfl | hn
      · show (mapL _ _).length ≤ 1000
        rw [mapL_length]; exact h m (List.mem_cons_self ..)
      · exact ih' n hn
theorem chainP_small {p q : PatchD} (hp : okB p = true) (hq : okB q = true) : Small (chainP p q) := by
  have sp := formed_small (okB_len hp).1
  have sq := formed_small (okB_len hq).1
  have np := okB_n24 hp
  have nq := okB_n24 hq
  have tp := (formed_iff.1 (okB_len hp).1).2.1
  have tq := (formed_iff.1 (okB_len hq).1).2.1
  unfold tablesB at tp tq
  simp only [Bool.and_eq_true, decide_eq_true_eq] at tp tq
  have hc := chNs_length (p.tables.length : Int) (chainBy p q) 0 q.nodes
  have hc2 := chCnt_le 0 q.nodes
  refine ⟨?_, fun t ht => ?_, ?_, fun n hn => ?_, ?_⟩
  · show (p.tables ++ q.tables).length ≤ 1000
    rw [List.length_append]; omega
  · rcases List.mem_append.1 ht with ht | ht
    · exact sp.rows t ht
    · exact sq.rows t ht
  · show (p.nodes ++ chNs _ _ _).length ≤ 1000
    rw [List.length_append]; omega
  · rcases List.mem_append.1 hn with hn | hn
    · exact sp.srcs n hn
    · exact chNs_src sq.srcs n hn
  · show (mapL _ _).length ≤ 1000
    rw [mapL_length]; exact sq.outs
theorem chRes_small (p q : PatchD) : cntPatch (chRes p q) ≤ 6291456 := by
  unfold chRes
  split
  · rename_i h
    simp only [Bool.and_eq_true] at h
    exact cntPatch_small (chainP_small h.1.1.1 h.1.1.2)
  · exact cntPatch_small ⟨by simp [noPatch], by simp [noPatch], by simp [noPatch], by simp [noPatch], by simp [noPatch]⟩
theorem ch_bad {p q : PatchD} (h : (okB p && okB q) = false) : chRes p q = noPatch ∧ chCode p q = 1 := by
  unfold chRes chCode; rw [h]; exact ⟨rfl, rfl⟩
theorem ch_io {p q : PatchD} (h1 : okB p = true) (h2 : okB q = true) (h : (p.outputs.length : Int) ≠ q.inputs) : chRes p q = noPatch ∧ chCode p q = 6 := by
  unfold chRes chCode; rw [h1, h2, decide_eq_false h, if_neg h]; exact ⟨rfl, rfl⟩
theorem ch_full {p q : PatchD} (h1 : okB p = true) (h2 : okB q = true) (h : (p.outputs.length : Int) = q.inputs) (hf : chFull p q = true) : chRes p q = noPatch ∧ chCode p q = 5 := by
  unfold chRes chCode; rw [h1, h2, decide_eq_true h, if_pos h, hf]; exact ⟨rfl, rfl⟩
theorem ch_good {p q : PatchD} (h1 : okB p = true) (h2 : okB q = true) (h : (p.outputs.length : Int) = q.inputs) (hf : chFull p q = false) : chRes p q = chainP p q ∧ chCode p q = 0 := by
  unfold chRes chCode; rw [h1, h2, decide_eq_true h, if_pos h, hf]; exact ⟨rfl, rfl⟩
set_option maxHeartbeats 3200000 in
set_option maxRecDepth 100000 in
theorem specChainPatches_v {v v' : Value} {p q : PatchD} (w : World) (h : VPatch w v p) (h' : VPatch w v' q) :
    Calls Try.prog 32 #[v, v'] w (RetPC w (chRes p q) (chCode p q)) := by
  obtain ⟨p1, c1, p2, c2, p3, c3, rfl, rp1, rp2, rp3⟩ := h
  obtain ⟨q1, d1, q2, d2, q3, d3, rfl, rq1, rq2, rq3⟩ := h'
  obtain ⟨g, hg⟩ : ∃ g, g = w.heap.size := ⟨_, rfl⟩
  obtain ⟨E0, hE⟩ : ∃ E, E = ((w.alloc (.cells #[.int .i64 p.inputs, .slice p1 p.tables.length c1, .slice p2 p.nodes.length c2, .slice p3 p.outputs.length c3] 34)).alloc (.cells #[.int .i64 q.inputs, .slice q1 q.tables.length d1, .slice q2 q.nodes.length d2, .slice q3 q.outputs.length d3] 34)).alloc (.cells #[.int .i64 0, .slice none 0 0, .slice none 0 0, .slice none 0 0] 34) := ⟨_, rfl⟩
  have hB0 : Below w.heap.size w E0 := by rw [hE]; exact (((Below.refl _ _).alloc (Nat.le_refl _) _).alloc (by simp) _).alloc (by simp; omega) _
  have bp : Box E0 g [.int .i64 p.inputs, .slice p1 p.tables.length c1, .slice p2 p.nodes.length c2, .slice p3 p.outputs.length c3] 34 := by rw [hE, hg]; exact ((Box.newAt w _ _ rfl).alloc _).alloc _
  have bq : Box E0 (g + 1) [.int .i64 q.inputs, .slice q1 q.tables.length d1, .slice q2 q.nodes.length d2, .slice q3 q.outputs.length d3] 34 := by rw [hE, hg]; exact (Box.newAt (w.alloc _) [.int .i64 q.inputs, .slice q1 q.tables.length d1, .slice q2 q.nodes.length d2, .slice q3 q.outputs.length d3] _ (by simp)).alloc _
  have br : Box E0 (g + 1 + 1) zPatch 34 := by rw [hE, hg]; exact Box.newAt ((w.alloc _).alloc _) zPatch _ (by simp)
  have pp : PPatch E0 g p := ⟨p1, c1, p2, c2, p3, c3, bp, rp1.below hB0, rp2.below hB0, rp3.below hB0⟩
  have pq : PPatch E0 (g + 1) q := ⟨q1, d1, q2, d2, q3, d3, bq, rq1.below hB0, rq2.below hB0, rq3.below hB0⟩
  have HE := Lib.hid hE
  have HG := Lib.hid hg
  have i0 : w.heap.size ≤ g + 1 + 1 := by omega
  clear hE hg
  have fin : ∀ (W : World) (v1 v2 v3 : Value) (y : PatchD) (L1 L : List Value) (B : Nat) (code : Int), w.heap.size ≤ B → Below E0.heap.size E0 W → OwnP B W v1 v2 v3 y.tables y.nodes y.outputs L1 L →
      (Box ((((W.setCell ⟨g + 1 + 1, 0, none⟩ (.int .i64 y.inputs)).setCell ⟨g + 1 + 1, 1, none⟩ v1).setCell ⟨g + 1 + 1, 2, none⟩ v2).setCell ⟨g + 1 + 1, 3, none⟩ v3) (g + 1 + 1) [.int .i64 y.inputs, v1, v2, v3] 34) ∧
      RetPC w y code (.returned (.tuple #[.agg #[.int .i64 y.inputs, v1, v2, v3], .int .i64 code])) ((((W.setCell ⟨g + 1 + 1, 0, none⟩ (.int .i64 y.inputs)).setCell ⟨g + 1 + 1, 1, none⟩ v1).setCell ⟨g + 1 + 1, 2, none⟩ v2).setCell ⟨g + 1 + 1, 3, none⟩ v3) := fun W v1 v2 v3 y L1 L B code hB hW hop => by
    have hd := OwnP.done (w := w) (inp := y.inputs) hop (br.below hW) (hB0.trans (hW.mono hB0.size)) i0 hB
    exact ⟨hd.1, RetPC.mk rfl hd.2.1 (Nat.le_refl _) hd.2.2⟩
  have FIN := Lib.hid fin
  clear fin
  have OKP := Lib.hid (l07Ok_any _ pp)
  have OKQ := Lib.hid (fun W hW => l07Ok_any W (pq.below hW))
  cases hP : okB p
  case false =>
    obtain ⟨hr, hc⟩ := ch_bad (p := p) (q := q) (by rw [hP]; rfl)
    rw [hr, hc]
    rw [hP] at OKP
    clear hr hc
    go_enter Try.func32, Try.ntmps32
    go_upto_region 1 with fail
    rw [← HE.out, ← HG.out]
    go_wp2_with fail
    refine OKP.out.mono ?_
    rintro e W1 ⟨rfl, hb1⟩
    have bri := br.below hb1
    obtain ⟨bW, hret⟩ := FIN.out W1 _ _ _ noPatch [] [] w.heap.size 1 (Nat.le_refl _) hb1 (OwnP.none0 _ _)
    simp only [noPatch] at bW
    have k0 := bri.cell 0 rfl
    have k1 := bri.cell 1 rfl
    have k2 := bri.cell 2 rfl
    have k3 := bri.cell 3 rfl
    have j0 := bri.frozen 0
    have j1 := bri.frozen 1
    have j2 := bri.frozen 2
    have j3 := bri.frozen 3
    have m0 := bW.cell 0 rfl
    have m1 := bW.cell 1 rfl
    have m2 := bW.cell 2 rfl
    have m3 := bW.cell 3 rfl
    have HRET := Lib.hid hret
    clear hret bW bri
    go_wp2_with fail
    refine bodyPost_ret (v := .tuple #[.agg #[.int .i64 0, .slice none 0 0, .slice none 0 0, .slice none 0 0], .int .i64 1]) (by simp [results, Try.results32, go_sem, *]) rfl ?_
    exact HRET.out
  rw [hP] at OKP
  cases hQ : okB q
  case false =>
    obtain ⟨hr, hc⟩ := ch_bad (p := p) (q := q) (by rw [hP, hQ]; rfl)
    rw [hr, hc]
    rw [hQ] at OKQ
    clear hr hc
    go_enter Try.func32, Try.ntmps32
    go_upto_region 1 with fail
    rw [← HE.out, ← HG.out]
    go_wp2_with fail
    refine OKP.out.mono ?_
    rintro e W1 ⟨rfl, hb1⟩
    go_wp2_with fail
    refine (OKQ.out W1 hb1).mono ?_
    rintro e W2 ⟨rfl, hb2⟩
    have hb12 := Below.via hb1 hb2
    have bri := br.below hb12
    obtain ⟨bW, hret⟩ := FIN.out W2 _ _ _ noPatch [] [] w.heap.size 1 (Nat.le_refl _) hb12 (OwnP.none0 _ _)
    simp only [noPatch] at bW
    have k0 := bri.cell 0 rfl
    have k1 := bri.cell 1 rfl
    have k2 := bri.cell 2 rfl
    have k3 := bri.cell 3 rfl
    have j0 := bri.frozen 0
    have j1 := bri.frozen 1
    have j2 := bri.frozen 2
    have j3 := bri.frozen 3
    have m0 := bW.cell 0 rfl
    have m1 := bW.cell 1 rfl
    have m2 := bW.cell 2 rfl
    have m3 := bW.cell 3 rfl
    have HRET := Lib.hid hret
    clear hret bW bri
    go_wp2_with fail
    refine bodyPost_ret (v := .tuple #[.agg #[.int .i64 0, .slice none 0 0, .slice none 0 0, .slice none 0 0], .int .i64 1]) (by simp [results, Try.results32, go_sem, *]) rfl ?_
    exact HRET.out
  rw [hQ] at OKQ
  have np := okB_n24 hP
  have nq := okB_n24 hQ
  have po4 := (formed_iff.1 (okB_len hP).1).2.2.2.1
  by_cases hio : (p.outputs.length : Int) = q.inputs
  case neg =>
    obtain ⟨hr, hc⟩ := ch_io hP hQ hio
    rw [hr, hc]
    clear hr hc
    go_enter Try.func32, Try.ntmps32
    go_upto_region 1 with fail
    rw [← HE.out, ← HG.out]
    go_wp2_with fail
    refine OKP.out.mono ?_
    rintro e W1 ⟨rfl, hb1⟩
    go_wp2_with fail
    refine (OKQ.out W1 hb1).mono ?_
    rintro e W2 ⟨rfl, hb2⟩
    have hb12 := Below.via hb1 hb2
    have z3 := (bp.below hb12).cell 3 rfl
    have z0 := (bq.below hb12).cell 0 rfl
    have bri := br.below hb12
    obtain ⟨bW, hret⟩ := FIN.out W2 _ _ _ noPatch [] [] w.heap.size 6 (Nat.le_refl _) hb12 (OwnP.none0 _ _)
    simp only [noPatch] at bW
    have k0 := bri.cell 0 rfl
    have k1 := bri.cell 1 rfl
    have k2 := bri.cell 2 rfl
    have k3 := bri.cell 3 rfl
    have j0 := bri.frozen 0
    have j1 := bri.frozen 1
    have j2 := bri.frozen 2
    have j3 := bri.frozen 3
    have m0 := bW.cell 0 rfl
    have m1 := bW.cell 1 rfl
    have m2 := bW.cell 2 rfl
    have m3 := bW.cell 3 rfl
    have HRET := Lib.hid hret
    clear hret bW bri
    go_wp2_with fail
    refine bodyPost_ret (v := .tuple #[.agg #[.int .i64 0, .slice none 0 0, .slice none 0 0, .slice none 0 0], .int .i64 6]) (by simp [results, Try.results32, go_sem, *]) rfl ?_
    exact HRET.out
  have CH := Lib.hid (fun W hW => l07Chain_any W (pp.below hW) (pq.below hW) (okB_len hP).1 (okB_len hQ).1 hio)
  have hlen : Hid ((chainP p q).nodes.length = chCnt p.nodes.length q.nodes) := by
    unfold Hid
    show (p.nodes ++ chNs _ _ _).length = _
    rw [List.length_append]; exact chNs_length _ _ _ _
  have htab : Hid ((chainP p q).tables.length = p.tables.length + q.tables.length) := by
    unfold Hid
    show (p.tables ++ q.tables).length = _
    rw [List.length_append]
  have HCF : Hid (∀ b, chFull p q = b → (decide (24 < (chainP p q).nodes.length) || decide (4 < (chainP p q).tables.length)) = b) := fun b hb => by rw [hlen.out, htab.out]; exact hb
  have hcl := (chainP_small hP hQ).nodes
  have hct := (chainP_small hP hQ).tables
  cases hF : chFull p q
  case true =>
    obtain ⟨hr, hc⟩ := ch_full hP hQ hio hF
    rw [hr, hc]
    have hcf := HCF.out _ hF
    clear hr hc hlen htab HCF hF
    generalize chainP p q = C at CH hcf hcl hct
    have HOI := Lib.hid hio
    go_enter Try.func32, Try.ntmps32
    go_upto_region 1 with fail
    rw [← HE.out, ← HG.out]
    go_wp2_with fail
    refine OKP.out.mono ?_
    rintro e W1 ⟨rfl, hb1⟩
    go_wp2_with fail
    refine (OKQ.out W1 hb1).mono ?_
    rintro e W2 ⟨rfl, hb2⟩
    have hb12 := Below.via hb1 hb2
    have z3 := (bp.below hb12).cell 3 rfl
    have z0 := (bq.below hb12).cell 0 rfl
    go_wp2_with fail
    refine (CH.out W2 hb12).mono ?_
    rintro e W3 ⟨v1, v2, v3, L1, L, rfl, hop, hb3⟩
    have hb13 := Below.via hb12 hb3
    obtain ⟨a1, x1, e1⟩ := hop.o1.sl'
    obtain ⟨a2, x2, e2⟩ := hop.o2.sl
    obtain ⟨a3, x3, e3, -⟩ := hop.o3.rd
    have hL1 : L1.length = C.tables.length := hop.s1.1
    rw [hL1] at e1
    subst e1 e2 e3
    clear z0 z3 hL1
    obtain ⟨E4, hE4⟩ : ∃ E, E = W3.alloc (.cells #[.int .i64 C.inputs, .slice a1 C.tables.length x1, .slice a2 C.nodes.length x2, .slice a3 C.outputs.length x3] 34) := ⟨_, rfl⟩
    obtain ⟨s0, hs0⟩ : ∃ s, s = W3.heap.size := ⟨_, rfl⟩
    have hbal : Below W3.heap.size W3 E4 := by rw [hE4]; exact (Below.refl _ _).alloc (Nat.le_refl _) _
    have hb14 := Below.via hb13 hbal
    have bc : Box E4 s0 [.int .i64 C.inputs, .slice a1 C.tables.length x1, .slice a2 C.nodes.length x2, .slice a3 C.outputs.length x3] 34 := by rw [hE4]; exact Box.newAt _ _ _ hs0
    have HE4 := Lib.hid hE4
    have HS0 := Lib.hid hs0
    clear hE4 hs0 hop hbal
    go_upto_region 6 with fail
    rw [← HE4.out, ← HS0.out]
    have t1 := bc.cell 1 rfl
    have t2 := bc.cell 2 rfl
    by_cases h24 : 24 < C.nodes.length
    · clear hcf
      have bri := br.below hb14
      obtain ⟨bW, hret⟩ := FIN.out E4 _ _ _ noPatch [] [] w.heap.size 5 (Nat.le_refl _) hb14 (OwnP.none0 _ _)
      simp only [noPatch] at bW
      have k0 := bri.cell 0 rfl
      have k1 := bri.cell 1 rfl
      have k2 := bri.cell 2 rfl
      have k3 := bri.cell 3 rfl
      have j0 := bri.frozen 0
      have j1 := bri.frozen 1
      have j2 := bri.frozen 2
      have j3 := bri.frozen 3
      have m0 := bW.cell 0 rfl
      have m1 := bW.cell 1 rfl
      have m2 := bW.cell 2 rfl
      have m3 := bW.cell 3 rfl
      have HRET := Lib.hid hret
      clear hret bW bri
      go_wp2_with fail
      refine bodyPost_ret (v := .tuple #[.agg #[.int .i64 0, .slice none 0 0, .slice none 0 0, .slice none 0 0], .int .i64 5]) (by simp [results, Try.results32, go_sem, *]) rfl ?_
      exact HRET.out
    · have h4 : 4 < C.tables.length := by
        rw [Bool.or_eq_true, decide_eq_true_eq, decide_eq_true_eq] at hcf
        omega
      clear hcf
      have bri := br.below hb14
      obtain ⟨bW, hret⟩ := FIN.out E4 _ _ _ noPatch [] [] w.heap.size 5 (Nat.le_refl _) hb14 (OwnP.none0 _ _)
      simp only [noPatch] at bW
      have k0 := bri.cell 0 rfl
      have k1 := bri.cell 1 rfl
      have k2 := bri.cell 2 rfl
      have k3 := bri.cell 3 rfl
      have j0 := bri.frozen 0
      have j1 := bri.frozen 1
      have j2 := bri.frozen 2
      have j3 := bri.frozen 3
      have m0 := bW.cell 0 rfl
      have m1 := bW.cell 1 rfl
      have m2 := bW.cell 2 rfl
      have m3 := bW.cell 3 rfl
      have HRET := Lib.hid hret
      clear hret bW bri
      go_wp2_with fail
      refine bodyPost_ret (v := .tuple #[.agg #[.int .i64 0, .slice none 0 0, .slice none 0 0, .slice none 0 0], .int .i64 5]) (by simp [results, Try.results32, go_sem, *]) rfl ?_
      exact HRET.out
  obtain ⟨hr, hc⟩ := ch_good hP hQ hio hF
  rw [hr, hc]
  have hcf := HCF.out _ hF
  rw [Bool.or_eq_false_iff, decide_eq_false_iff_not, decide_eq_false_iff_not] at hcf
  obtain ⟨h24, h4⟩ := hcf
  clear hr hc hlen htab HCF hF
  generalize chainP p q = C at CH h24 h4 hcl hct ⊢
  go_enter Try.func32, Try.ntmps32
  go_upto_region 1 with fail
  rw [← HE.out, ← HG.out]
  go_wp2_with fail
  refine OKP.out.mono ?_
  rintro e W1 ⟨rfl, hb1⟩
  go_wp2_with fail
  refine (OKQ.out W1 hb1).mono ?_
  rintro e W2 ⟨rfl, hb2⟩
  have hb12 := Below.via hb1 hb2
  have z3 := (bp.below hb12).cell 3 rfl
  have z0 := (bq.below hb12).cell 0 rfl
  go_wp2_with fail
  refine (CH.out W2 hb12).mono ?_
  rintro e W3 ⟨v1, v2, v3, L1, L, rfl, hop, hb3⟩
  have hb13 := Below.via hb12 hb3
  obtain ⟨a1, x1, e1⟩ := hop.o1.sl'
  obtain ⟨a2, x2, e2⟩ := hop.o2.sl
  obtain ⟨a3, x3, e3, -⟩ := hop.o3.rd
  have hL1 : L1.length = C.tables.length := hop.s1.1
  rw [hL1] at e1
  subst e1 e2 e3
  clear z0 z3 hL1
  obtain ⟨E4, hE4⟩ : ∃ E, E = W3.alloc (.cells #[.int .i64 C.inputs, .slice a1 C.tables.length x1, .slice a2 C.nodes.length x2, .slice a3 C.outputs.length x3] 34) := ⟨_, rfl⟩
  obtain ⟨s0, hs0⟩ : ∃ s, s = W3.heap.size := ⟨_, rfl⟩
  have hbal : Below W3.heap.size W3 E4 := by rw [hE4]; exact (Below.refl _ _).alloc (Nat.le_refl _) _
  have hb14 := Below.via hb13 hbal
  have bc : Box E4 s0 [.int .i64 C.inputs, .slice a1 C.tables.length x1, .slice a2 C.nodes.length x2, .slice a3 C.outputs.length x3] 34 := by rw [hE4]; exact Box.newAt _ _ _ hs0
  have hop4 := hop.below hbal
  have HE4 := Lib.hid hE4
  have HS0 := Lib.hid hs0
  have hW2 := hb12.size
  clear hE4 hs0 hop hbal
  go_upto_region 6 with fail
  rw [← HE4.out, ← HS0.out]
  have t0 := bc.cell 0 rfl
  have t1 := bc.cell 1 rfl
  have t2 := bc.cell 2 rfl
  have t3 := bc.cell 3 rfl
  have bri := br.below hb14
  obtain ⟨bW, hret⟩ := FIN.out E4 _ _ _ C L1 L W2.heap.size 0 (Nat.le_trans hB0.size hW2) hb14 hop4
  have k0 := bri.cell 0 rfl
  have k1 := bri.cell 1 rfl
  have k2 := bri.cell 2 rfl
  have k3 := bri.cell 3 rfl
  have j0 := bri.frozen 0
  have j1 := bri.frozen 1
  have j2 := bri.frozen 2
  have j3 := bri.frozen 3
  have m0 := bW.cell 0 rfl
  have m1 := bW.cell 1 rfl
  have m2 := bW.cell 2 rfl
  have m3 := bW.cell 3 rfl
  have HRET := Lib.hid hret
  clear hret bW bri hop4
  go_wp2_with fail
  refine bodyPost_ret (v := .tuple #[.agg #[.int .i64 C.inputs, .slice a1 C.tables.length x1, .slice a2 C.nodes.length x2, .slice a3 C.outputs.length x3], .int .i64 0]) (by simp [results, Try.results32, go_sem, *]) rfl ?_
  exact HRET.out
end Go.Proofs.Ytalomhakmfknjaa
