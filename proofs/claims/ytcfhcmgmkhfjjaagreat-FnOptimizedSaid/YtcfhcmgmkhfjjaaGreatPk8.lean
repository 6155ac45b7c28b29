/-
  Several texts in one: CopyI.
-/
import Derived.Test.YtcfhcmgmkhfjjaaGreatPk6
namespace Go.Proofs.YtcfhcmgmkhfjjaaGreat
open Go.ChangeShapes Go.WideShapes Go.ChangeAt Go.RowKit
set_option linter.unusedVariables false

/-- append of one node, as one step of a region that draws its order -/
theorem step_append_node {ops : Array Oper} {o : Oper} {a : Act} {K : Act → World → Prop} {Q : Exit → Act → World → Prop} {X : Prop} {w : World} {u : Value} (hgd : o.guard = none) (s x : Operand)
    (ho : o.op = .call { callee := .builtin .append, args := #[s, x], argTypes := #[25, 25] })
    {B : Nat} {v : Value} {xs : List NodeD} {L : List Value} (y : NodeD) {y0 y1 y2 : Int} (e0 : y0 = y.kind) (e1 : y1 = y.a) (e2 : y2 = y.b) (hs : a.eval s = v) (hown : OwnN B w v xs L) (hx : a.eval x = .slice (some ⟨w.heap.size, 0, none⟩) 1 1) (h1 : u.oneCell' = true) (hlen : xs.length < 1099511627776) (hB : B ≤ w.heap.size)
    (h : ∀ v' w', OwnN B w' v' (xs ++ [y]) (L ++ [u]) → w.grownBy w' v.ownBlock → K (a.put o.dst v') w') :
    if Region.wanted o (yielded ops a.tmps) = true then Oper.wp Tryz.prog o a (w.alloc (.cells #[.int .i64 y0, .int .i64 y1, .int .i64 y2, u] 55)) K Q else X := by
  subst e0 e1 e2
  have hw : Region.wanted o (yielded ops a.tmps) = true := by simp [Region.wanted, hgd]
  rw [if_pos hw]
  obtain ⟨v', w', e1, e2, e3⟩ := run_append_node w o.type y hown h1 hlen hB
  unfold Oper.wp execOp
  simp only [ho, resolve, invoke, builtin, Sem.run_bind, Sem.run_pure, Result.andThen_ok, List.map_toArray, List.map_cons, List.map_nil, hs, hx, e1]
  have hk : ∀ k, k < w.heap.size → v.ownBlock ≠ some k → w'.heap[k]? = w.heap[k]? := fun k hk hne => (e3.block k (by simp; omega) (fun e => hne e.symm)).trans (Below.heap_alloc _ _ _ hk)
  exact h v' w' e2 ⟨e3.os, e3.tape, e3.output, by have := e3.size; simp at this; omega, fun k h1 h2 => hk k h1 (fun e => h2 e.symm)⟩
set_option maxHeartbeats 6400000 in
set_option maxRecDepth 100000 in
theorem copyPatch_v {v : Value} {x : PatchD} (w : World) (h : VPatch w v x) (sm : Small x) :
    Calls Tryz.prog 93 #[v] w (RetP0 w x) := by
  obtain ⟨p1, c1, p2, c2, p3, c3, rfl, r1, r2, r3⟩ := h
  obtain ⟨g, hg⟩ : ∃ g, g = w.heap.size := ⟨_, rfl⟩
  obtain ⟨E0, hE⟩ : ∃ E, E = (w.alloc (.cells #[.int .i64 x.inputs, .slice p1 x.tables.length c1, .slice p2 x.nodes.length c2, .slice p3 x.outputs.length c3] 28)).alloc (.cells #[.int .i64 0, .slice none 0 0, .slice none 0 0, .slice none 0 0] 28) := ⟨_, rfl⟩
  have hB0 : Below w.heap.size w E0 := by rw [hE]; exact ((Below.refl _ _).alloc (Nat.le_refl _) _).alloc (by simp) _
  have bx : Box E0 g [.int .i64 x.inputs, .slice p1 x.tables.length c1, .slice p2 x.nodes.length c2, .slice p3 x.outputs.length c3] 28 := by rw [hE, hg]; exact (Box.newAt w _ _ rfl).alloc _
  have br : Box E0 (g + 1) zPatch 28 := by rw [hE, hg]; exact Box.newAt (w.alloc _) zPatch _ (by simp)
  have HE := Lib.hid hE
  have HG := Lib.hid hg
  have i0 : w.heap.size ≤ g + 1 := by omega
  clear hE hg
  have KC : Hid (∀ W, Below E0.heap.size E0 W → Calls Tryz.prog 71 #[.slice p1 x.tables.length c1] W fun e w' => ∃ v L, e = .returned v ∧ OwnII W.heap.size w' v x.tables L ∧ Below W.heap.size W w') := fun W hW => clones_any W (r1.below (hB0.trans (hW.mono hB0.size))) (by have := sm.tables; omega) (fun t ht => by have := sm.rows t ht; omega)
  have KM : Hid (∀ W, Below E0.heap.size E0 W → Calls Tryz.prog 78 #[.slice p3 x.outputs.length c3] W fun e w' => ∃ v, e = .returned v ∧ OwnI W.heap.size w' v x.outputs ∧ Below W.heap.size W w') := fun W hW => clone_any W (r3.below (hB0.trans (hW.mono hB0.size))) (by have := sm.outs; omega)
  have SM := Lib.hid sm
  have z0 := bx.cell 0 rfl
  have z1 := bx.cell 1 rfl
  have z3 := bx.cell 3 rfl
  have hgl := bx.lt
  have hcur := belowDrew0 E0
  have CK : Hid (∀ W, Below E0.heap.size E0 W → W.cell? ⟨g, 0, none⟩ = some (.int .i64 x.inputs) ∧ W.cell? ⟨g, 1, none⟩ = some (.slice p1 x.tables.length c1) ∧ W.cell? ⟨g, 3, none⟩ = some (.slice p3 x.outputs.length c3)) := fun W hW => ⟨(hW.cell (p := ⟨g, 0, none⟩) hgl).trans z0, (hW.cell (p := ⟨g, 1, none⟩) hgl).trans z1, (hW.cell (p := ⟨g, 3, none⟩) hgl).trans z3⟩
  clear sm
  go_enter Tryz.func93, Tryz.ntmps93
  go_upto_region 1 with fail
  rw [← HE.out, ← HG.out]
  go_cut [3] (fun s3 wr => ∃ s0 v1 v3 L1, s3 = .pointer (some ⟨s0, 0, none⟩) ∧ PB E0.heap.size E0 wr s0 x.inputs v1 (.slice none 0 0) v3 x.tables [] x.outputs L1 [])
  case first =>
    go_region_held3 (fun W => W.cell? ⟨g, 0, none⟩ = some (.int .i64 x.inputs) ∧ W.cell? ⟨g, 1, none⟩ = some (.slice p1 x.tables.length c1) ∧ W.cell? ⟨g, 3, none⟩ = some (.slice p3 x.outputs.length c3)) (first | go_keep | exact CK.out _ (by (repeat (first | exact Below.refl _ _ | assumption | refine Below.setCell ?_ (by first | exact Nat.le_refl _ | omega | (simp; done) | (simp; omega)) _ | refine Below.alloc ?_ (by first | exact Nat.le_refl _ | omega | (simp; done) | (simp; omega)) _ | refine below_drewN ?_ _)))) (first | (go_at_call 71; refine (KC.out _ (by first | exact hcur | exact hcur.alloc hcur.size _)).mono ?_; rintro e F1 ⟨v1, L1, rfl, ho1, hb1'⟩; obtain ⟨q1, d1, rfl⟩ := ho1.1.sl'; (first | (have bq : Box F1 E0.heap.size zPatch 28 := Box.below (w := E0.drew.alloc _) (Box.newAt E0.drew zPatch _ rfl) hb1') | (have bq : Box F1 F3.heap.size zPatch 28 := Box.below (w := F3.alloc _) (Box.newAt F3 zPatch _ rfl) hb1') | (have bq := bq.below hb1') | skip); (try (have HP := OwnP.two31 (by first | exact hm3 | exact hm3.below ((Below.refl _ _).alloc (Nat.le_refl _) _)) ho1 hb1' (by first | exact hcur.size | exact (hcur.alloc hcur.size _).size))); have hm1 := ho1.mono (by first | exact hcur.size | exact (hcur.alloc hcur.size _).size); have hcur : Below E0.heap.size E0 F1 := Below.via (by first | exact hcur | exact hcur.alloc hcur.size _) hb1'; have hcsF1 := hcur.size; (try (have tq0 := bq.cell 0 rfl; have tq1 := bq.cell 1 rfl; have tq2 := bq.cell 2 rfl; have tq3 := bq.cell 3 rfl; have fq0 := bq.frozen 0; have fq1 := bq.frozen 1; have fq2 := bq.frozen 2; have fq3 := bq.frozen 3))) | (go_at_call 78; refine (KM.out _ (by first | exact hcur | exact hcur.alloc hcur.size _)).mono ?_; rintro e F3 ⟨v3, rfl, ho3, hb3'⟩; obtain ⟨q3, d3, rfl, -⟩ := ho3.rd; (first | (have bq : Box F3 E0.heap.size zPatch 28 := Box.below (w := E0.drew.alloc _) (Box.newAt E0.drew zPatch _ rfl) hb3') | (have bq : Box F3 F1.heap.size zPatch 28 := Box.below (w := F1.alloc _) (Box.newAt F1 zPatch _ rfl) hb3') | (have bq := bq.below hb3') | skip); (try (have HP := OwnP.two13 (by first | exact hm1 | exact hm1.below ((Below.refl _ _).alloc (Nat.le_refl _) _)) ho3 hb3' (by first | exact hcur.size | exact (hcur.alloc hcur.size _).size))); have hm3 := ho3.mono (by first | exact hcur.size | exact (hcur.alloc hcur.size _).size); have hcur : Below E0.heap.size E0 F3 := Below.via (by first | exact hcur | exact hcur.alloc hcur.size _) hb3'; have hcsF3 := hcur.size; (try (have tq0 := bq.cell 0 rfl; have tq1 := bq.cell 1 rfl; have tq2 := bq.cell 2 rfl; have tq3 := bq.cell 3 rfl; have fq0 := bq.frozen 0; have fq1 := bq.frozen 1; have fq2 := bq.frozen 2; have fq3 := bq.frozen 3))))
    all_goals (go_wp2_with fail; go_meet; first | exact ⟨_, _, _, _, rfl, PB.new HP hcur⟩ | exact ⟨_, _, _, _, rfl, PB.newB HP hcur bq (by first | exact Nat.le_refl _ | assumption)⟩)
  case rest =>
    obtain ⟨s0, v1, v3, L1, rfl, hpb⟩ := hcut
    obtain ⟨wa, rfl⟩ : ∃ wa : World, wa = wc := ⟨_, rfl⟩
    clear z0 z1 z3 hcur CK KC KM
    obtain ⟨q1, d1, e1⟩ := hpb.own.o1.sl'
    obtain ⟨q3, d3, e3, -⟩ := hpb.own.o3.rd
    subst e1 e3
    have bxa := bx.below hpb.bel
    have z2 := bxa.cell 2 rfl
    go_wp2_with fail
    clear z2
    go_loopw [18] (fun i wr => ∃ (k : Nat) (v2 : Value) (L : List Value), k ≤ x.nodes.length ∧ i = .int .i64 k ∧ PB E0.heap.size E0 wr s0 x.inputs (.slice q1 L1.length d1) v2 (.slice q3 x.outputs.length d3) x.tables (x.nodes.take k) x.outputs L1 L) (fun i _ => x.nodes.length - (intOf i).toNat)
    case atStart => exact ⟨0, _, _, Nat.zero_le _, rfl, by simpa using hpb⟩
    case round =>
      clear hpb bxa
      obtain ⟨k, v2, L, hk, rfl, hpb⟩ := hrel
      obtain ⟨wj, rfl⟩ : ∃ wj : World, wj = wr := ⟨_, rfl⟩
      have hbel := hB0.trans (hpb.bel.mono hB0.size)
      have hNL := SM.out.nodes
      by_cases hlt : k < x.nodes.length
      · obtain ⟨b, o, rfl, hb, hc⟩ := (r2.below hbel).pos hlt
        have hnd := hc k hlt
        have hlk := SM.out.srcs _ (List.getElem_mem hlt)
        have HS : Hid (x.nodes.take (k + 1) = x.nodes.take k ++ [x.nodes[k]]) := List.take_succ_eq_append_getElem hlt
        have hlL : (x.nodes.take k).length < 1099511627776 := by rw [List.length_take]; omega
        generalize x.nodes[k] = nd at hnd hlk HS
        generalize x.nodes.take k = ns at hpb hlL HS
        obtain ⟨q2, d2, e2⟩ := hpb.own.o2.sl
        subst e2
        clear hc
        obtain ⟨y0, y1, y2, q, d, y3, hrn⟩ := hnd
        obtain ⟨n0, hn0⟩ : ∃ n, n = wj.heap.size := ⟨_, rfl⟩
        obtain ⟨F, hF⟩ : ∃ F, F = wj.alloc (.cells #[.int .i64 nd.kind, .int .i64 nd.a, .int .i64 nd.b, .slice q nd.src.length d] 55) := ⟨_, rfl⟩
        have hbF : Below wj.heap.size wj F := by rw [hF]; exact (Below.refl _ _).alloc (Nat.le_refl _) _
        have bn : Box F n0 [.int .i64 nd.kind, .int .i64 nd.a, .int .i64 nd.b, .slice q nd.src.length d] 55 := by rw [hF]; exact Box.newAt _ _ _ hn0
        have hrnF := hrn.below hbF
        have K0 : Hid (∀ W, Below F.heap.size F W → Calls Tryz.prog 116 #[.agg #[.int .i64 nd.kind, .int .i64 nd.a, .int .i64 nd.b, .slice q nd.src.length d]] W fun e w' => ∃ u, e = .returned (.agg #[.int .i64 nd.kind, .int .i64 nd.a, .int .i64 nd.b, u]) ∧ OwnI W.heap.size w' u nd.src ∧ Below W.heap.size W w') := fun W hW => copyNode_v (x := nd) W ⟨q, d, rfl, hrnF.below hW⟩ (by omega)
        have HF := Lib.hid hF
        have HN0 := Lib.hid hn0
        have hpbF := hpb.below hbF
        clear hF hn0 hrn hrnF hpb
        have t0 := bn.cell 0 rfl
        have t1 := bn.cell 1 rfl
        have t2 := bn.cell 2 rfl
        have t3 := bn.cell 3 rfl
        have s2 := hpbF.out.cell 2 rfl
        have lt1 := hpbF.out.lt
        have hsF := hpbF.bel.size
        have hcur := belowDrew0 F
        go_upto_region 5 with fail
        rw [← HF.out, ← HN0.out]
        go_region_law (first | (go_simp; go_at_call 116; refine (K0.out _ hcur).mono ?_; rintro e W2 ⟨u, rfl, hu, hb2⟩; obtain ⟨sp, sc, rfl, -⟩ := hu.rd; have hnew := hpbF.fresh hu hcur.size; have hu2 := hu.mono (Nat.le_trans hsF hcur.size); have hcur := hcur.trans (hb2.mono hcur.size); have hpb2 := hpbF.below hcur; have s2 := hpb2.out.cell 2 rfl; have lt1 := hpb2.out.lt; have hBs : E0.heap.size ≤ W2.heap.size := Nat.le_trans hsF hcur.size) | (refine step_append_node rfl _ _ rfl nd rfl rfl rfl rfl hpb2.own.o2 rfl rfl hlL hBs ?_; intro v' W3 hv hg; obtain ⟨vp, vc, rfl⟩ := hv.slS; have PN := hpb2.node hu2 hnew hv hg; have c3 := PN.1.1; have f3 := PN.1.2) | fail)
        all_goals
          have PN2 := Lib.hid PN.2
          clear PN c3 f3 s2 t0 t1 t2 t3
          go_wp2_with fail
          go_roundw
          case rel => exact ⟨k + 1, _, _, by omega, by go_num, by rw [HS.out]; exact PN2.out⟩
          case measure => simp [intOf] <;> omega
      · obtain rfl : k = x.nodes.length := by omega
        rw [List.take_length] at hpb
        obtain ⟨q2, d2, e2⟩ := hpb.own.o2.sl
        subst e2
        have bri := br.below hpb.bel
        obtain ⟨W', hW', bW, hret⟩ := hpb.done bri hbel i0 hB0.size
        subst hW'
        have a0 := hpb.out.cell 0 rfl
        have a1 := hpb.out.cell 1 rfl
        have a2 := hpb.out.cell 2 rfl
        have a3 := hpb.out.cell 3 rfl
        have k0 := bri.cell 0 rfl
        have k1 := bri.cell 1 rfl
        have k2 := bri.cell 2 rfl
        have k3 := bri.cell 3 rfl
        have g0 := bri.frozen 0
        have g1 := bri.frozen 1
        have g2 := bri.frozen 2
        have g3 := bri.frozen 3
        have m0 := bW.cell 0 rfl
        have m1 := bW.cell 1 rfl
        have m2 := bW.cell 2 rfl
        have m3 := bW.cell 3 rfl
        have HRET := Lib.hid hret
        clear hret bW bri hpb
        go_wp2_with fail
        refine bodyPost_ret (v := .agg #[.int .i64 x.inputs, .slice q1 L1.length d1, .slice q2 x.nodes.length d2, .slice q3 x.outputs.length d3]) (by simp [results, Tryz.results93, go_sem, *]) rfl ?_
        exact HRET.out
end Go.Proofs.YtcfhcmgmkhfjjaaGreat
