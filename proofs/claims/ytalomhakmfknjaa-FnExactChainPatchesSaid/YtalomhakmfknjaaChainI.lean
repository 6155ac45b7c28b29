/-
  ChainPatches: the program's function.
-/
import Derived.Test.YtalomhakmfknjaaChainT
import Derived.Test.YtalomhakmfknjaaCopyI
namespace Go.Proofs.Ytalomhakmfknjaa
open Go.ChangeShapes Go.WideShapes Go.ChangeAt Go.RowKit
set_option linter.unusedVariables false

theorem callsTurn {P : Program} {f : FuncId} {args : Array Value} {w : World} {v : Value} (h : Calls P f args w fun e w' => e = .returned v ∧ w = w') : Calls P f args w fun e w' => e = .returned v ∧ w' = w :=
  h.mono fun _ _ ⟨a, b⟩ => ⟨a, b.symm⟩
/-- a list of the call's own, past the filling of a box -/
theorem OwnI.past4 {B : Nat} {w : World} {v a b c d : Value} {xs : List Int} {s : Nat} (h : OwnI B w v xs) (bq : Box w s zPatch 34) : OwnI B ((((w.setCell ⟨s, 0, none⟩ a).setCell ⟨s, 1, none⟩ b).setCell ⟨s, 2, none⟩ c).setCell ⟨s, 3, none⟩ d) v xs := by
  have hne : ∀ k, v.ownBlock = some k → k ≠ s := fun k hk e => (Typed.of h).neBox bq (by decide) (by rw [hk]; exact congrArg some e)
  exact (((h.keep (w' := w.setCell ⟨s, 0, none⟩ a) fun k hk => Below.heap_setCell _ _ _ _ (hne k hk)).keep (w' := (w.setCell ⟨s, 0, none⟩ a).setCell ⟨s, 1, none⟩ b) fun k hk => Below.heap_setCell _ _ _ _ (hne k hk)).keep (w' := ((w.setCell ⟨s, 0, none⟩ a).setCell ⟨s, 1, none⟩ b).setCell ⟨s, 2, none⟩ c) fun k hk => Below.heap_setCell _ _ _ _ (hne k hk)).keep fun k hk => Below.heap_setCell _ _ _ _ (hne k hk)
/-- a patch under construction, past a store into a list of integers that is none of its own -/
theorem PB.pastInt {B B' : Nat} {w0 w : World} {s : Nat} {inp : Int} {v1 v2 v3 u : Value} {ts : List (List Int)} {ns : List NodeD} {os xs : List Int} {L1 L : List Value} {D n c : Nat} (h : PB B w0 w s inp v1 v2 v3 ts ns os L1 L) (ho : OwnI B' w (.slice (some ⟨D, 0, none⟩) n c) xs) (hD : ¬ Blk (L1 ++ (L ++ [v3])) D) (hw : w0.heap.size ≤ D) (i : Nat) :
    PB B w0 (w.setCell ⟨D, i, none⟩ u) s inp v1 v2 v3 ts ns os L1 L := by
  have t := Typed.of ho
  refine ⟨h.own.keep fun k _ _ hk => Below.heap_setCell _ _ _ _ ?_, h.out.other ?_ _, h.bel.setCell hw _, h.hB, h.hs⟩
  · rintro rfl
    rcases hk with hk | hk | hk
    · exact t.ne (Typed.of h.own.o1) (by decide) rfl hk
    · exact t.ne (Typed.of h.own.o2.2) (by decide) rfl hk
    · exact hD hk
  · rintro rfl
    exact t.neBox h.out (by decide) rfl
theorem OwnI.pastTab {B B' : Nat} {w w' : World} {v v1 u : Value} {xs : List Int} {s i : Nat} {L cs : List Value} (h : OwnI B w v xs) (h2 : OwnV B' w 24 v1 L) (hb : Box w s cs 34) (hg : w.grownBy w' v1.ownBlock) : OwnI B (w'.setCell ⟨s, i, none⟩ u) v xs := by
  refine (h.pastRow (by decide) (Typed.of h2) hg).keep fun k hk => Below.heap_setCell _ _ _ _ fun e => ?_
  exact (Typed.of h).neBox hb (by decide) (by rw [hk]; exact congrArg some e)
set_option maxHeartbeats 12800000 in
set_option maxRecDepth 100000 in
theorem implChain_bad {v v' : Value} {p q : PatchD} (w : World) (h : VPatch w v p) (h' : VPatch w v' q) (hbad : (okB p && okB q && decide ((p.outputs.length : Int) = q.inputs)) = false) :
    Calls Try.prog 33 #[v, v'] w (RetPC w (chRes p q) (chCode p q)) := by
  obtain ⟨p1, c1, p2, c2, p3, c3, rfl, rp1, rp2, rp3⟩ := h
  obtain ⟨q1, d1, q2, d2, q3, d3, rfl, rq1, rq2, rq3⟩ := h'
  obtain ⟨g, hg⟩ : ∃ g, g = w.heap.size := ⟨_, rfl⟩
  obtain ⟨E0, hE⟩ : ∃ E, E = ((w.alloc (.cells #[.int .i64 p.inputs, .slice p1 p.tables.length c1, .slice p2 p.nodes.length c2, .slice p3 p.outputs.length c3] 34)).alloc (.cells #[.int .i64 q.inputs, .slice q1 q.tables.length d1, .slice q2 q.nodes.length d2, .slice q3 q.outputs.length d3] 34)).alloc (.cells #[.int .i64 0, .slice none 0 0, .slice none 0 0, .slice none 0 0] 34) := ⟨_, rfl⟩
  have hB0 : Below w.heap.size w E0 := by rw [hE]; exact (((Below.refl _ _).alloc (Nat.le_refl _) _).alloc (by simp) _).alloc (by simp; omega) _
  have bp : Box E0 g [.int .i64 p.inputs, .slice p1 p.tables.length c1, .slice p2 p.nodes.length c2, .slice p3 p.outputs.length c3] 34 := by rw [hE, hg]; exact ((Box.newAt w _ _ rfl).alloc _).alloc _
  have bq : Box E0 (g + 1) [.int .i64 q.inputs, .slice q1 q.tables.length d1, .slice q2 q.nodes.length d2, .slice q3 q.outputs.length d3] 34 := by rw [hE, hg]; exact (Box.newAt (w.alloc _) [.int .i64 q.inputs, .slice q1 q.tables.length d1, .slice q2 q.nodes.length d2, .slice q3 q.outputs.length d3] _ (by simp)).alloc _
  have br : Box E0 (g + 1 + 1) zPatch 34 := by rw [hE, hg]; exact Box.newAt ((w.alloc _).alloc _) zPatch _ (by simp)
  have hv1 : VPatch E0 (.agg #[.int .i64 p.inputs, .slice p1 p.tables.length c1, .slice p2 p.nodes.length c2, .slice p3 p.outputs.length c3]) p := ⟨p1, c1, p2, c2, p3, c3, rfl, rp1.below hB0, rp2.below hB0, rp3.below hB0⟩
  have hv2 : VPatch E0 (.agg #[.int .i64 q.inputs, .slice q1 q.tables.length d1, .slice q2 q.nodes.length d2, .slice q3 q.outputs.length d3]) q := ⟨q1, d1, q2, d2, q3, d3, rfl, rq1.below hB0, rq2.below hB0, rq3.below hB0⟩
  have pp : PPatch E0 g p := ⟨p1, c1, p2, c2, p3, c3, bp, rp1.below hB0, rp2.below hB0, rp3.below hB0⟩
  have pq : PPatch E0 (g + 1) q := ⟨q1, d1, q2, d2, q3, d3, bq, rq1.below hB0, rq2.below hB0, rq3.below hB0⟩
  have HE := Lib.hid hE
  have HG := Lib.hid hg
  have i0 : w.heap.size ≤ g + 1 + 1 := by omega
  clear hE hg
  have fin : ∀ (W : World) (v1 v2 v3 : Value) (y : PatchD) (L1 L : List Value) (B : Nat) (code : Int), w.heap.size ≤ B → Below E0.heap.size E0 W → OwnP B W v1 v2 v3 y.tables y.nodes y.outputs L1 L →
      (Box ((((W.setCell ⟨g + 1 + 1, 0, none⟩ (.int .i64 y.inputs)).setCell ⟨g + 1 + 1, 1, none⟩ v1).setCell ⟨g + 1 + 1, 2, none⟩ v2).setCell ⟨g + 1 + 1, 3, none⟩ v3) (g + 1 + 1) [.int .i64 y.inputs, v1, v2, v3] 34) ∧
      RetPC w y code (.returned (.tuple #[.agg #[.int .i64 y.inputs, v1, v2, v3], .int .i64 code])) ((((W.setCell ⟨g + 1 + 1, 0, none⟩ (.int .i64 y.inputs)).setCell ⟨g + 1 + 1, 1, none⟩ v1).setCell ⟨g + 1 + 1, 2, none⟩ v2).setCell ⟨g + 1 + 1, 3, none⟩ v3) := fun W v1 v2 v3 y L1 L B code hB hW hop => by
    have hd := OwnP.done (w := w) (inp := y.inputs) hop (br.below hW) (hB0.trans (hW.mono hB0.size)) i0 hB
    exact ⟨hd.1, RetPC.mk rfl hd.2.1 (Nat.le_refl _) hd.2.2⟩
  have FIN := Lib.hid fin
  clear fin
  have OKP := Lib.hid (isPatch_v _ hv1)
  have OKQ := Lib.hid (fun W hW => isPatch_v W (hv2.below hW))
  have z0 := bp.cell 0 rfl
  have z1 := bp.cell 1 rfl
  have z2 := bp.cell 2 rfl
  have z3 := bp.cell 3 rfl
  cases hP : okB p
  case false =>
    obtain ⟨hr, hc⟩ := ch_bad (p := p) (q := q) (by rw [hP]; rfl)
    rw [hr, hc]
    rw [hP] at OKP
    clear hr hc
    go_enter Try.func33, Try.ntmps33
    go_upto_region 1 with fail
    rw [← HE.out, ← HG.out]
    go_wp2_with fail
    refine OKP.out.mono ?_
    rintro e W1 ⟨rfl, hb1⟩
    clear z0 z1 z2 z3
    have bri := br.below hb1
    obtain ⟨bW, hret⟩ := FIN.out W1 _ _ _ noPatch [] [] w.heap.size 1 (Nat.le_refl _) hb1 (OwnP.none0 _ _)
    simp only [noPatch] at bW
    have k0 := bri.cell 0 rfl
    have k1 := bri.cell 1 rfl
    have k2 := bri.cell 2 rfl
    have k3 := bri.cell 3 rfl
    have j0 := bri.frozen 0
    have j1 := bri.frozen 1
    have j2 := bri.frozen 2
    have j3 := bri.frozen 3
    have m0 := bW.cell 0 rfl
    have m1 := bW.cell 1 rfl
    have m2 := bW.cell 2 rfl
    have m3 := bW.cell 3 rfl
    have HRET := Lib.hid hret
    clear hret bW bri
    go_wp2_with fail
    refine bodyPost_ret (v := .tuple #[.agg #[.int .i64 0, .slice none 0 0, .slice none 0 0, .slice none 0 0], .int .i64 1]) (by simp [results, Try.results33, go_sem, *]) rfl ?_
    exact HRET.out
  rw [hP] at OKP
  cases hQ : okB q
  case false =>
    obtain ⟨hr, hc⟩ := ch_bad (p := p) (q := q) (by rw [hP, hQ]; rfl)
    rw [hr, hc]
    rw [hQ] at OKQ
    clear hr hc
    go_enter Try.func33, Try.ntmps33
    go_upto_region 1 with fail
    rw [← HE.out, ← HG.out]
    go_upto_region 2 with fail
    refine OKP.out.mono ?_
    rintro e W1 ⟨rfl, hb1⟩
    have bq1 := bq.below hb1
    have y0 := bq1.cell 0 rfl
    have y1 := bq1.cell 1 rfl
    have y2 := bq1.cell 2 rfl
    have y3 := bq1.cell 3 rfl
    go_wp2_with fail
    refine (OKQ.out W1 hb1).mono ?_
    rintro e W2 ⟨rfl, hb2⟩
    have hb12 := Below.via hb1 hb2
    clear z0 z1 z2 z3 y0 y1 y2 y3
    have bri := br.below hb12
    obtain ⟨bW, hret⟩ := FIN.out W2 _ _ _ noPatch [] [] w.heap.size 1 (Nat.le_refl _) hb12 (OwnP.none0 _ _)
    simp only [noPatch] at bW
    have k0 := bri.cell 0 rfl
    have k1 := bri.cell 1 rfl
    have k2 := bri.cell 2 rfl
    have k3 := bri.cell 3 rfl
    have j0 := bri.frozen 0
    have j1 := bri.frozen 1
    have j2 := bri.frozen 2
    have j3 := bri.frozen 3
    have m0 := bW.cell 0 rfl
    have m1 := bW.cell 1 rfl
    have m2 := bW.cell 2 rfl
    have m3 := bW.cell 3 rfl
    have HRET := Lib.hid hret
    clear hret bW bri
    go_wp2_with fail
    refine bodyPost_ret (v := .tuple #[.agg #[.int .i64 0, .slice none 0 0, .slice none 0 0, .slice none 0 0], .int .i64 1]) (by simp [results, Try.results33, go_sem, *]) rfl ?_
    exact HRET.out
  rw [hQ] at OKQ
  have np := okB_n24 hP
  have hnq := okB_n24 hQ
  have po4 := (formed_iff.1 (okB_len hP).1).2.2.2.1
  have SZ : Hid (∀ W, Calls Try.prog 70 #[.slice p3 p.outputs.length c3] W fun e w' => e = .returned (.int .i64 (p.outputs.length : Int)) ∧ w' = W) := fun W => callsTurn (sizeI_any p3 p.outputs.length c3 W rp3.len)
  by_cases hio : (p.outputs.length : Int) = q.inputs
  case neg =>
    obtain ⟨hr, hc⟩ := ch_io hP hQ hio
    rw [hr, hc]
    clear hr hc
    go_enter Try.func33, Try.ntmps33
    go_upto_region 1 with fail
    rw [← HE.out, ← HG.out]
    go_wp2_with fail
    refine OKP.out.mono ?_
    rintro e W1 ⟨rfl, hb1⟩
    have bq1 := bq.below hb1
    have y0 := bq1.cell 0 rfl
    have y1 := bq1.cell 1 rfl
    have y2 := bq1.cell 2 rfl
    have y3 := bq1.cell 3 rfl
    go_wp2_with fail
    refine (OKQ.out W1 hb1).mono ?_
    rintro e W2 ⟨rfl, hb2⟩
    have hb12 := Below.via hb1 hb2
    clear z0 z1 z2 z3 y0 y1 y2 y3
    have z3 := (bp.below hb12).cell 3 rfl
    have z0 := (bq.below hb12).cell 0 rfl
    go_wp2_with fail
    go_quiet ((go_at_call 70; exact Calls.quiet_of_same (SZ.out _)))
    have hbq := below_drewN hb12 nq
    clear z3 z0
    generalize W2.drewN nq = W3 at hbq ⊢
    have bri := br.below hbq
    obtain ⟨bW, hret⟩ := FIN.out W3 _ _ _ noPatch [] [] w.heap.size 6 (Nat.le_refl _) hbq (OwnP.none0 _ _)
    simp only [noPatch] at bW
    have k0 := bri.cell 0 rfl
    have k1 := bri.cell 1 rfl
    have k2 := bri.cell 2 rfl
    have k3 := bri.cell 3 rfl
    have j0 := bri.frozen 0
    have j1 := bri.frozen 1
    have j2 := bri.frozen 2
    have j3 := bri.frozen 3
    have m0 := bW.cell 0 rfl
    have m1 := bW.cell 1 rfl
    have m2 := bW.cell 2 rfl
    have m3 := bW.cell 3 rfl
    have HRET := Lib.hid hret
    clear hret bW bri
    go_wp2_with fail
    refine bodyPost_ret (v := .tuple #[.agg #[.int .i64 0, .slice none 0 0, .slice none 0 0, .slice none 0 0], .int .i64 6]) (by simp [results, Try.results33, go_sem, *]) rfl ?_
    exact HRET.out
  rw [hP, hQ, decide_eq_true hio] at hbad
  cases hbad
end Go.Proofs.Ytalomhakmfknjaa
