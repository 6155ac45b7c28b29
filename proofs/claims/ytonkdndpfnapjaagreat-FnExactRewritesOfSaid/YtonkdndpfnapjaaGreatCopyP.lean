/-
  Copies of patches: the reference's side.
-/
import Derived.Test.YtonkdndpfnapjaaGreatPB
import Derived.Test.YtonkdndpfnapjaaGreatPatF
import Derived.Test.YtonkdndpfnapjaaGreatStepA
import Derived.Deep.RegionHeld3
import Derived.Deep.RegionLaw
namespace Go.Proofs.YtonkdndpfnapjaaGreat
open Go.ChangeShapes Go.WideShapes Go.ChangeAt Go.RowKit
set_option linter.unusedVariables false

set_option maxHeartbeats 6400000 in
set_option maxRecDepth 100000 in
theorem l07Own_any {g : Nat} {x : PatchD} (w : World) (h : PPatch w g x) (sm : Small x) :
    Calls Tryz.prog 70 #[.pointer (some ⟨g, 0, none⟩)] w (RetP0 w x) := by
  obtain ⟨p1, c1, p2, c2, p3, c3, bx, r1, r2, r3⟩ := h
  obtain ⟨r, hr⟩ : ∃ r, r = w.heap.size := ⟨_, rfl⟩
  obtain ⟨E0, hE⟩ : ∃ E, E = w.alloc (.cells #[.int .i64 0, .slice none 0 0, .slice none 0 0, .slice none 0 0] 32) := ⟨_, rfl⟩
  have hB0 : Below w.heap.size w E0 := by rw [hE]; exact (Below.refl _ _).alloc (Nat.le_refl _) _
  have br : Box E0 r zPatch 32 := by rw [hE, hr]; exact Box.newAt w _ _ rfl
  have bx0 := bx.below hB0
  have HE := Lib.hid hE
  have HR := Lib.hid hr
  have i0 : w.heap.size ≤ r := by omega
  clear hE hr
  have K3 : Hid (∀ W, Below E0.heap.size E0 W → Calls Tryz.prog 69 #[.slice p3 x.outputs.length c3] W fun e w' => ∃ v, e = .returned v ∧ OwnI W.heap.size w' v x.outputs ∧ Below W.heap.size W w') := fun W hW => l00Own_any W (r3.below (hB0.trans (hW.mono hB0.size))) (by have := sm.outs; omega)
  have z0 := bx0.cell 0 rfl
  have z3 := bx0.cell 3 rfl
  have hgl := bx0.lt
  have hcur := belowDrew0 E0
  have SM := Lib.hid sm
  clear sm
  go_enter Tryz.func70, Tryz.ntmps70
  go_upto_region 1 with fail
  rw [← HE.out, ← HR.out]
  go_cut [3] (fun s3 wr => ∃ s0 v3, s3 = .pointer (some ⟨s0, 0, none⟩) ∧ PB E0.heap.size E0 wr s0 x.inputs (.slice none 0 0) (.slice none 0 0) v3 [] [] x.outputs [] [])
  case first =>
    have CK : Hid (∀ W, Below E0.heap.size E0 W → W.cell? ⟨g, 0, none⟩ = some (.int .i64 x.inputs) ∧ W.cell? ⟨g, 3, none⟩ = some (.slice p3 x.outputs.length c3)) := fun W hW => ⟨(hW.cell (p := ⟨g, 0, none⟩) hgl).trans z0, (hW.cell (p := ⟨g, 3, none⟩) hgl).trans z3⟩
    go_region_held3 (fun W => W.cell? ⟨g, 0, none⟩ = some (.int .i64 x.inputs) ∧ W.cell? ⟨g, 3, none⟩ = some (.slice p3 x.outputs.length c3)) (first | go_keep | exact CK.out _ (by (repeat (first | exact Below.refl _ _ | assumption | refine Below.setCell ?_ (by first | exact Nat.le_refl _ | omega | (simp; done) | (simp; omega)) _ | refine Below.alloc ?_ (by first | exact Nat.le_refl _ | omega | (simp; done) | (simp; omega)) _ | refine below_drewN ?_ _)))) ((go_at_call 69; refine (K3.out _ (by (repeat (first | exact Below.refl _ _ | assumption | refine Below.setCell ?_ (by first | exact Nat.le_refl _ | omega | (simp; done) | (simp; omega)) _ | refine Below.alloc ?_ (by first | exact Nat.le_refl _ | omega | (simp; done) | (simp; omega)) _ | refine below_drewN ?_ _)))).mono ?_; rintro e F3 ⟨v3, rfl, ho3, hb3⟩; obtain ⟨q3, d3, rfl, -⟩ := ho3.rd; have hcur : Below E0.heap.size E0 F3 := Below.via (by (repeat (first | exact Below.refl _ _ | assumption | refine Below.setCell ?_ (by first | exact Nat.le_refl _ | omega | (simp; done) | (simp; omega)) _ | refine Below.alloc ?_ (by first | exact Nat.le_refl _ | omega | (simp; done) | (simp; omega)) _ | refine below_drewN ?_ _))) hb3; have hcs := hcur.size; have hu3 : OwnI E0.heap.size F3 _ x.outputs := ho3.mono (by simp); (try (have bq : Box F3 E0.heap.size zPatch 32 := Box.below (w := E0.drew.alloc _) (Box.newAt E0.drew zPatch _ rfl) hb3; have tq0 := bq.cell 0 rfl; have tq1 := bq.cell 1 rfl; have tq2 := bq.cell 2 rfl; have tq3 := bq.cell 3 rfl; have fq0 := bq.frozen 0; have fq1 := bq.frozen 1; have fq2 := bq.frozen 2; have fq3 := bq.frozen 3))))
    all_goals (go_wp2_with fail; go_meet; first | exact ⟨_, _, rfl, PB.new (OwnP.nil _ hu3) hcur⟩ | exact ⟨_, _, rfl, PB.newB (OwnP.nil _ hu3) hcur bq (Nat.le_refl _)⟩)
  case rest =>
    obtain ⟨s0, v3, rfl, hpb⟩ := hcut
    clear z0 z3 hcur
    obtain ⟨wa, rfl⟩ : ∃ wa : World, wa = wc := ⟨_, rfl⟩
    go_wp2_with fail
    go_loopw [4] (fun i wr => ∃ (k : Nat) (v1 : Value) (L1 : List Value), k ≤ x.tables.length ∧ i = .int .i64 k ∧ PB E0.heap.size E0 wr s0 x.inputs v1 (.slice none 0 0) v3 (x.tables.take k) [] x.outputs L1 []) (fun i _ => x.tables.length - (intOf i).toNat)
    case atStart => exact ⟨0, _, _, Nat.zero_le _, rfl, hpb⟩
    case round =>
      clear hpb
      obtain ⟨k, v1, L1, hk, rfl, hpb⟩ := hrel
      obtain ⟨wi, rfl⟩ : ∃ wi : World, wi = wr := ⟨_, rfl⟩
      have hbel := hB0.trans (hpb.bel.mono hB0.size)
      have bxi := bx.below hbel
      have z1 := bxi.cell 1 rfl
      have hgi := bxi.lt
      obtain ⟨q1, d1, e1⟩ := hpb.own.o1.sl'
      subst e1
      by_cases hlt : k < x.tables.length
      · obtain ⟨b, o, rfl, hb, hc⟩ := (r1.below hbel).pos hlt
        obtain ⟨q, d, hck, hrk⟩ := hc k hlt
        have hlk := SM.out.rows _ (List.getElem_mem hlt)
        have HS : Hid (x.tables.take (k + 1) = x.tables.take k ++ [x.tables[k]]) := List.take_succ_eq_append_getElem hlt
        have hlL : L1.length < 1099511627776 := by have h1 := hpb.own.s1.1; rw [List.length_take] at h1; have h2 := SM.out.tables; omega
        have hbi := World.block_lt_of_cell? wi _ hck
        generalize x.tables[k] = row at hck hrk hlk HS
        clear hc
        have hcur := belowDrew0 wi
        have hTL := SM.out.tables
        have t1 := hpb.out.cell 1 rfl
        have lt1 := hpb.out.lt
        have hsi := hpb.bel.size
        have K0 : Hid (∀ W, Below wi.heap.size wi W → Calls Tryz.prog 69 #[.slice q row.length d] W fun e w' => ∃ v, e = .returned v ∧ OwnI W.heap.size w' v row ∧ Below W.heap.size W w') := fun W hW => l00Own_any W (hrk.below hW) (by omega)
        go_wp2_with fail
        go_region_law (first | (go_simp; go_at_call 69; refine (K0.out _ hcur).mono ?_; rintro e W2 ⟨uu, rfl, hu, hb2⟩; obtain ⟨sp, sc, rfl, -⟩ := hu.rd; have hnew := hpb.fresh hu hcur.size; have hu2 := hu.mono (Nat.le_trans hsi hcur.size); have hcur := hcur.trans (hb2.mono hcur.size); have hpb2 := hpb.below hcur; have t1 := hpb2.out.cell 1 rfl; have lt1 := hpb2.out.lt; have hBs : E0.heap.size ≤ W2.heap.size := Nat.le_trans hsi hcur.size) | (refine step_append_val rfl _ _ rfl 24 (.slice none 0 0) Tryz.underlying22 infoII rfl (by omega) rfl hpb2.own.o1 rfl rfl hlL hBs ?_; intro v' W3 ho3 o1 o2 o3 hs3 hk3; obtain ⟨vp, vc, rfl⟩ := ho3.slS; have PT := hpb2.table hu2 hnew ho3 ⟨o1.symm, o2.symm, o3.symm, hs3, fun k hk hne => hk3 k hk (fun e => hne e.symm)⟩; have c3 := PT.1.1; have f3 := PT.1.2) | fail)
        all_goals
          have PT2 := Lib.hid PT.2
          clear PT c3 f3 t1
          go_wp2_with fail
          go_roundw
          case rel => exact ⟨k + 1, _, _, by omega, by go_num, by rw [HS.out]; exact PT2.out⟩
          case measure => simp [intOf] <;> omega
      · obtain rfl : k = x.tables.length := by omega
        rw [List.take_length] at hpb
        go_wp2_with fail
        clear z1
        go_loopw [5] (fun i wr' => ∃ (k : Nat) (v2 : Value) (L : List Value), k ≤ x.nodes.length ∧ i = .int .i64 k ∧ PB E0.heap.size E0 wr' s0 x.inputs (.slice q1 L1.length d1) v2 v3 x.tables (x.nodes.take k) x.outputs L1 L) (fun i _ => x.nodes.length - (intOf i).toNat)
        case atStart => exact ⟨0, _, _, Nat.zero_le _, rfl, hpb⟩
        case round =>
          clear hpb hbel bxi hgi
          obtain ⟨k, v2, L, hk, rfl, hpb⟩ := hrel
          obtain ⟨wj, rfl⟩ : ∃ wj : World, wj = wr := ⟨_, rfl⟩
          have hbel := hB0.trans (hpb.bel.mono hB0.size)
          have bxi := bx.below hbel
          have z2 := bxi.cell 2 rfl
          by_cases hlt : k < x.nodes.length
          · obtain ⟨b, o, rfl, hb, hc⟩ := (r2.below hbel).pos hlt
            have hnd := hc k hlt
            have hlk := SM.out.srcs _ (List.getElem_mem hlt)
            have hNL := SM.out.nodes
            have HS : Hid (x.nodes.take (k + 1) = x.nodes.take k ++ [x.nodes[k]]) := List.take_succ_eq_append_getElem hlt
            have hlL : (x.nodes.take k).length < 1099511627776 := by rw [List.length_take]; have := SM.out.nodes; omega
            generalize x.nodes[k] = nd at hnd hlk HS
            generalize x.nodes.take k = ns at hpb hlL HS
            obtain ⟨q2, d2, e2⟩ := hpb.own.o2.sl
            subst e2
            clear hc
            obtain ⟨y0, y1, y2, q, d, y3, hrn⟩ := hnd
            obtain ⟨n0, hn0⟩ : ∃ n, n = wj.heap.size := ⟨_, rfl⟩
            obtain ⟨F, hF⟩ : ∃ F, F = wj.alloc (.cells #[.int .i64 nd.kind, .int .i64 nd.a, .int .i64 nd.b, .slice q nd.src.length d] 64) := ⟨_, rfl⟩
            have hbF : Below wj.heap.size wj F := by rw [hF]; exact (Below.refl _ _).alloc (Nat.le_refl _) _
            have bn : Box F n0 [.int .i64 nd.kind, .int .i64 nd.a, .int .i64 nd.b, .slice q nd.src.length d] 64 := by rw [hF]; exact Box.newAt _ _ _ hn0
            have OWN := Lib.hid (l00Own_any (c := d) F (hrn.below hbF) (by omega))
            have HF := Lib.hid hF
            have HN0 := Lib.hid hn0
            have hn0' : wj.heap.size ≤ n0 := by omega
            clear hF hn0 hrn
            have t3 := bn.cell 3 rfl
            go_upto_region 10 with fail
            rw [← HF.out, ← HN0.out]
            clear z2 y0 y1 y2 y3
            go_wp2_with fail
            refine OWN.out.mono ?_
            rintro e W1 ⟨u, rfl, hu, hb1⟩
            have hb1' : Below wj.heap.size wj W1 := hbF.trans (hb1.mono hbF.size)
            have bn1 := bn.below hb1
            have hnew := hpb.fresh hu hbF.size
            have hsj := hpb.bel.size
            obtain ⟨uq, uc, rfl, -⟩ := hu.rd
            clear t3
            have t3 := bn1.cell 3 rfl
            have f3 := bn1.frozen 3
            have bn2 := bn1.set 3 (.slice uq nd.src.length uc)
            have hun : ∀ j, (Value.slice uq nd.src.length uc).ownBlock = some j → j ≠ n0 := fun j hj => by have h1 := (hu.lt hj).1; have h2 := bn.lt; omega
            have hu2 := (hu.mono (B' := E0.heap.size) (by have := hbF.size; omega)).keep (w' := W1.setCell ⟨n0, 3, none⟩ (.slice uq nd.src.length uc)) fun j hj => Below.heap_setCell _ _ _ _ (hun j hj)
            have hb2' := hb1'.setCell (p := ⟨n0, 3, none⟩) hn0' (.slice uq nd.src.length uc)
            obtain ⟨W2, hW2⟩ : ∃ W, W = W1.setCell ⟨n0, 3, none⟩ (.slice uq nd.src.length uc) := ⟨_, rfl⟩
            rw [← hW2] at bn2 hu2 hb2'
            have HW2 := Lib.hid hW2
            clear hW2
            have hpb2 := hpb.below hb2'
            have y0 := bn2.cell 0 rfl
            have y1 := bn2.cell 1 rfl
            have y2 := bn2.cell 2 rfl
            have y3 := bn2.cell 3 rfl
            have s2 := hpb2.out.cell 2 rfl
            have hBs : E0.heap.size ≤ W2.heap.size := hpb2.bel.size
            have hown := hpb2.own.o2
            go_upto_region 11 with fail
            rw [← HW2.out]
            clear t3 f3
            go_wp2_with (first | (at_builtin; refine wpList_append_node rfl _ _ rfl nd rfl rfl rfl rfl hown rfl rfl hlL hBs ?_; intro v' W3 hv hg hk3; obtain ⟨vp, vc, rfl⟩ := hv.slS; have PN := hpb2.node hu2 hnew hv hg; have c3 := PN.1.1; have f3 := PN.1.2) | fail)
            have PN2 := Lib.hid PN.2
            clear PN c3 f3
            go_roundw
            case rel => exact ⟨k + 1, _, _, by omega, by go_num, by rw [HS.out]; exact PN2.out⟩
            case measure => simp [intOf] <;> omega
          · obtain rfl : k = x.nodes.length := by omega
            rw [List.take_length] at hpb
            obtain ⟨q2, d2, e2⟩ := hpb.own.o2.sl
            subst e2
            obtain ⟨q3, d3, e3, -⟩ := hpb.own.o3.rd
            subst e3
            have bri := br.below hpb.bel
            obtain ⟨W', hW', bW, hret⟩ := hpb.done bri hbel i0 hB0.size
            subst hW'
            have a0 := hpb.out.cell 0 rfl
            have a1 := hpb.out.cell 1 rfl
            have a2 := hpb.out.cell 2 rfl
            have a3 := hpb.out.cell 3 rfl
            have k0 := bri.cell 0 rfl
            have k1 := bri.cell 1 rfl
            have k2 := bri.cell 2 rfl
            have k3 := bri.cell 3 rfl
            have f0 := bri.frozen 0
            have f1 := bri.frozen 1
            have f2 := bri.frozen 2
            have f3 := bri.frozen 3
            have m0 := bW.cell 0 rfl
            have m1 := bW.cell 1 rfl
            have m2 := bW.cell 2 rfl
            have m3 := bW.cell 3 rfl
            have HRET := Lib.hid hret
            clear hret bW bri hpb
            go_wp2_with fail
            refine bodyPost_ret (v := .agg #[.int .i64 x.inputs, .slice q1 L1.length d1, .slice q2 x.nodes.length d2, .slice q3 x.outputs.length d3]) (by simp [results, Tryz.results70, go_sem, *]) rfl ?_
            simpa using HRET.out
end Go.Proofs.YtonkdndpfnapjaaGreat
