/-
  Two patches one after the other: the reference's side.
-/
import Derived.Test.YtalomhakmfknjaaChainM
import Derived.Test.YtalomhakmfknjaaKeep
import Derived.StillTailTactics
namespace Go.Proofs.Ytalomhakmfknjaa
open Go.ChangeShapes Go.WideShapes Go.ChangeAt Go.RowKit
set_option linter.unusedVariables false

/-- a list of the call's own lies in no block that a patch under construction writes -/
theorem OwnI.pastRow {B : Nat} {w w' : World} {v u : Value} {xs : List Int} {E : TypeId} (h : OwnI B w v xs) (hE : E ≠ 2) (ht : Typed w E u) (hg : w.grownBy w' u.ownBlock) : OwnI B w' v xs :=
  h.keep fun k hk => hg.block k (h.lt hk).2 fun e => ht.ne (Typed.of h) hE e.symm hk
theorem OwnI.pastBox {B : Nat} {w : World} {v u : Value} {xs cs : List Int} {s i : Nat} {L : List Value} {T : TypeId} (h : OwnI B w v xs) (hb : Box w s L T) (hT : (2 : TypeId) ≠ T) : OwnI B (w.setCell ⟨s, i, none⟩ u) v xs :=
  h.keep fun k hk => Below.heap_setCell _ _ _ _ fun e => (Typed.of h).neBox hb hT (by rw [hk]; exact congrArg some e)
theorem inA {m t n : Int} {x : NodeD} (h : ndB m t n x = true) (hk : x.kind = 1) : 0 ≤ x.a ∧ x.a < m := by
  unfold ndB nodeB at h
  simp only [Bool.and_eq_true] at h
  have h2 := h.1.2
  rw [hk] at h2
  simp only [beq_self_eq_true, Bool.true_and, Bool.not_eq_true', decide_eq_false_iff_not] at h2
  have h1 := h.1.1.1.1.1.2
  rw [hk] at h1
  have : 0 ≤ x.a := by
    unfold abB at h1
    simp [kLo, kHi, inB] at h1
    omega
  exact ⟨this, by omega⟩
theorem rdI_of {B : Nat} {w : World} {p : Option Addr} {n c : Nat} {xs : List Int} (h : OwnI B w (.slice p n c) xs) : n = xs.length ∧ RdI w p xs := by
  obtain ⟨q, d, e, hr⟩ := h.rd
  simp only [Value.slice.injEq] at e
  obtain ⟨rfl, rfl, rfl⟩ := e
  exact ⟨rfl, hr⟩
theorem OwnI.pastNode {B B' : Nat} {w w' : World} {v v2 u : Value} {xs : List Int} {ns : List NodeD} {s i : Nat} {L cs : List Value} (h : OwnI B w v xs) (h2 : OwnN B' w v2 ns L) (hb : Box w s cs 34) (hg : w.grownBy w' v2.ownBlock) : OwnI B (w'.setCell ⟨s, i, none⟩ u) v xs := by
  refine (h.pastRow (by decide) (Typed.of h2.2) hg).keep fun k hk => Below.heap_setCell _ _ _ _ fun e => ?_
  exact (Typed.of h).neBox hb (by decide) (by rw [hk]; exact congrArg some e)
set_option maxHeartbeats 12800000 in
set_option maxRecDepth 100000 in
theorem l07Chain_any {g1 g2 : Nat} {p q : PatchD} (w : World) (hp : PPatch w g1 p) (hq : PPatch w g2 q) (fp : formedB p = true) (fq : formedB q = true) (hio : (p.outputs.length : Int) = q.inputs) :
    Calls Try.prog 69 #[.pointer (some ⟨g1, 0, none⟩), .pointer (some ⟨g2, 0, none⟩)] w (RetP0 w (chainP p q)) := by
  have hpp := hp
  have hqq := hq
  have hnp := (formed_iff.1 fp).2.2.1
  have hnq := (formed_iff.1 fq).2.2.1
  have smp_ := formed_small fp
  have smq := formed_small fq
  obtain ⟨p1, c1, p2, c2, p3, c3, bp, -, -, rp3⟩ := hp
  obtain ⟨q1, d1, q2, d2, q3, d3, bq, -, rq2, rq3⟩ := hq
  obtain ⟨r, hr⟩ : ∃ r, r = w.heap.size := ⟨_, rfl⟩
  obtain ⟨E0, hE⟩ : ∃ E, E = w.alloc (.cells #[.int .i64 0, .slice none 0 0, .slice none 0 0, .slice none 0 0] 34) := ⟨_, rfl⟩
  have hB0 : Below w.heap.size w E0 := by rw [hE]; exact (Below.refl _ _).alloc (Nat.le_refl _) _
  have br : Box E0 r zPatch 34 := by rw [hE, hr]; exact Box.newAt w _ _ rfl
  have i0 : w.heap.size ≤ r := by omega
  have KP := Lib.hid (l07Own_any E0 (hpp.below hB0) smp_)
  have KQ := Lib.hid (fun W hW => l07Own_any W ((hqq.below hB0).below hW) smq)
  have HE := Lib.hid hE
  have HR := Lib.hid hr
  have SQ := Lib.hid smq
  have SP := Lib.hid smp_
  have OKQ := Lib.hid (formed_src fq)
  have OUQ := Lib.hid (formed_outs fq)
  have HIN : Hid (∀ k (h : k < q.nodes.length), q.nodes[k].kind = 1 → 0 ≤ q.nodes[k].a ∧ q.nodes[k].a < (p.outputs.length : Int)) := fun k h hk => by
    have h1 := inA ((formed_iff.1 fq).2.2.2.2.1 _ (List.getElem_mem h)) hk
    exact ⟨h1.1, by rw [hio]; exact h1.2⟩
  have HTA : Hid (∀ k (h : k < q.nodes.length), q.nodes[k].kind = 13 → 0 ≤ q.nodes[k].a ∧ q.nodes[k].a ≤ 3) := fun k h hk => by
    have h1 := (formed_iff.1 fq).2.2.2.2.1 _ (List.getElem_mem h)
    unfold ndB nodeB at h1
    simp only [Bool.and_eq_true] at h1
    have h2 := h1.1.1.1.1.1.2
    rw [hk] at h2
    unfold abB at h2
    simp [kLo, kHi, inB] at h2
    omega
  have HBY : Hid (chBy p.outputs p.nodes.length q.nodes = chainBy p q) := rfl
  have HBL : Hid ((chainBy p q).length = q.nodes.length) := chBy_length _ _ _
  have HCP : Hid (chainP p q = ⟨p.inputs, p.tables ++ q.tables, p.nodes ++ chNs p.tables.length (chainBy p q) q.nodes, mapL (chainBy p q) q.outputs⟩) := rfl
  generalize chainP p q = CP at HCP ⊢
  generalize chainBy p q = BY at HBY HBL HCP
  clear hE hr hio fp fq hpp hqq smp_ smq
  go_enter Try.func69, Try.ntmps69
  go_upto_region 1 with fail
  rw [← HE.out, ← HR.out]
  go_wp2_with fail
  refine KP.out.mono ?_
  rintro e W1 ⟨v1, v2, v3, L1, L, rfl, hop, hb1⟩
  obtain ⟨a1, x1, e1⟩ := hop.o1.sl'
  obtain ⟨a2, x2, e2⟩ := hop.o2.sl
  obtain ⟨a3, x3, e3, -⟩ := hop.o3.rd
  subst e1 e2 e3
  obtain ⟨s0, hs0⟩ : ∃ s, s = W1.heap.size := ⟨_, rfl⟩
  obtain ⟨E1, hE1⟩ : ∃ E, E = W1.alloc (.cells #[.int .i64 p.inputs, .slice a1 L1.length x1, .slice a2 p.nodes.length x2, .slice a3 p.outputs.length x3] 34) := ⟨_, rfl⟩
  have hpb : PB E0.heap.size E0 E1 s0 p.inputs (.slice a1 L1.length x1) (.slice a2 p.nodes.length x2) (.slice a3 p.outputs.length x3) p.tables p.nodes p.outputs L1 L := by
    rw [hE1, hs0]; exact PB.new hop hb1
  have HE1 := Lib.hid hE1
  have HS0 := Lib.hid hs0
  clear hE1 hs0 hop hb1 KP
  go_upto_region 2 with fail
  rw [← HE1.out, ← HS0.out]
  go_wp2_with fail
  refine (KQ.out E1 hpb.bel).mono ?_
  rintro e W2 ⟨u1, u2, u3, M1, M, rfl, hoq, hb2⟩
  obtain ⟨b1, y1, e1⟩ := hoq.o1.sl'
  obtain ⟨b2, y2, e2⟩ := hoq.o2.sl
  obtain ⟨b3, y3, e3, -⟩ := hoq.o3.rd
  subst e1 e2 e3
  obtain ⟨m0, hm0⟩ : ∃ m, m = W2.heap.size := ⟨_, rfl⟩
  obtain ⟨E2, hE2⟩ : ∃ E, E = W2.alloc (.cells #[.int .i64 q.inputs, .slice b1 M1.length y1, .slice b2 q.nodes.length y2, .slice b3 q.outputs.length y3] 34) := ⟨_, rfl⟩
  have hb3 : Below W2.heap.size W2 E2 := by rw [hE2]; exact (Below.refl _ _).alloc (Nat.le_refl _) _
  have bm : Box E2 m0 [.int .i64 q.inputs, .slice b1 M1.length y1, .slice b2 q.nodes.length y2, .slice b3 q.outputs.length y3] 34 := by rw [hE2]; exact Box.newAt _ _ _ hm0
  have hoq2 := (hoq.below hb3).mono hpb.bel.size
  have hpb2 := hpb.below (hb2.trans (hb3.mono hb2.size))
  have hsepT : ∀ b, Blk M1 b → ¬ Blk (L1 ++ (L ++ [Value.slice a3 p.outputs.length x3])) b := fun b hb hb' => by
    have h1 := (hoq.s1.blk hb).1
    have h2 := (hpb.own.blk hb').2
    omega
  have HE2 := Lib.hid hE2
  have HM0 := Lib.hid hm0
  clear hE2 hm0 hb3 hpb hoq KQ
  go_upto_region 3 with fail
  rw [← HE2.out, ← HM0.out]
  have z1 := hpb2.out.cell 1 rfl
  have z2 := bm.cell 1 rfl
  have hBs : E0.heap.size ≤ E2.heap.size := hpb2.bel.size
  have hML : L1.length + M1.length < 1099511627776 := by
    have h1 := hpb2.own.s1.1
    have h2 := hoq2.s1.1
    have h3 := SP.out.tables
    have h4 := SQ.out.tables
    omega
  go_upto_region 4 with (first | (at_builtin; refine wpList_append_vals rfl _ _ rfl 24 (.slice none 0 0) Try.underlying22 infoII rfl (by omega) rfl rfl hpb2.own.o1 hoq2.o1 hoq2.s1.oneCell hML hBs ?_; intro v' W3 hv hg; obtain ⟨vp, vc, rfl⟩ := hv.sl'; have PT := hpb2.tables hoq2.s1 hoq2.dis.left hsepT hv hg; have c3 := PT.1.1; have f3 := PT.1.2) | fail)
  have hpb3 := PT.2
  rw [List.length_append] at hpb3
  obtain ⟨E3, hE3⟩ : ∃ E, E = W3.setCell ⟨s0, 1, none⟩ (.slice vp (L1.length + M1.length) vc) := ⟨_, rfl⟩
  rw [← hE3] at hpb3
  have HE3 := Lib.hid hE3
  clear hE3 PT c3 f3 z1 z2 hpb2 hoq2 bm hsepT hv hg
  rw [← HE3.out]
  generalize hTL : L1.length + M1.length = tl at hpb3
  have HTL := Lib.hid hTL
  clear hTL
  have hbw3 : Below w.heap.size w E3 := hB0.trans (hpb3.bel.mono hB0.size)
  have bp3 := bp.below hbw3
  have zp := bp3.cell 2 rfl
  have ltp := bp3.lt
  have h0 := OwnI.lit (B := E3.heap.size) E3 [] (Nat.le_refl _) (by simp [maxLen])
  have hb0 := (Below.refl E3.heap.size E3).alloc (Nat.le_refl _) (.cells #[] 2)
  go_wp2_with fail
  clear zp
  go_loopw [7, 8, 9] (fun bv av iv wr => ∃ (k a : Nat) (cur : List Int), k ≤ q.nodes.length ∧ iv = .int .i64 k ∧ av = .int .i64 a ∧ a ≤ p.nodes.length + k ∧ cur.length ≤ k ∧ Hid (cur ++ chBy p.outputs a (q.nodes.drop k) = BY) ∧ OwnI E3.heap.size wr bv cur ∧ Below E3.heap.size E3 wr) (fun _ _ iv _ => q.nodes.length - (intOf iv).toNat)
  case atStart => exact ⟨0, p.nodes.length, [], Nat.zero_le _, rfl, rfl, by omega, by simp, HBY, h0, hb0⟩
  case round =>
    clear h0 hb0 HBY
    obtain ⟨k, a, cur, hk, rfl, rfl, ha, hcl, HB, hown, hbel⟩ := hrel
    obtain ⟨wi, rfl⟩ : ∃ wi : World, wi = wr := ⟨_, rfl⟩
    have hbwi := hbw3.trans (hbel.mono hbw3.size)
    have bqi := bq.below hbwi
    have zq := bqi.cell 2 rfl
    have hsz := hbel.size
    have hlen : cur.length < 17592186044415 := by omega
    by_cases hlt : k < q.nodes.length
    · obtain ⟨nb, no, rfl, hnb, hnc⟩ := (rq2.below hbwi).pos hlt
      have hnd := hnc k hlt
      have y0 := hnd.c0
      have y1 := hnd.c1
      by_cases hkd : q.nodes[k].kind = 1
      · obtain ⟨hA0, hA1⟩ := HIN.out k hlt hkd
        have HS := Lib.hid (chBy_in (outs := p.outputs) (a := a) hlt hkd)
        obtain ⟨m, hm⟩ : ∃ m : Nat, q.nodes[k].a = m := ⟨q.nodes[k].a.toNat, by omega⟩
        rw [hm] at y1 hA1 HS
        rw [hkd] at y0
        have hmo : m < p.outputs.length := by omega
        obtain ⟨ob, oo, rfl, hob, hoc⟩ := (rp3.below hbwi).pos hmo
        have hom := hoc m hmo
        have HS2 : Hid (chBy p.outputs a (q.nodes.drop k) = p.outputs[m] :: chBy p.outputs a (q.nodes.drop (k + 1))) := by
          unfold Hid; rw [HS.out, Int.toNat_natCast, List.getD_eq_getElem?_getD, List.getElem?_eq_getElem hmo]; rfl
        generalize p.outputs[m] = y at hom HS2
        have bpi := bp.below hbwi
        have zp := bpi.cell 3 rfl
        clear hnc hnd hkd hm HS hA0 hA1 hoc
        go_wp2_with fail
        go_region_law (first | (refine step_append_drew rfl _ _ rfl rfl hown rfl hlen hsz ?_; intro q2 k2 w2 ho2 o1 o2 o3 hs2 hk2) | fail)
        all_goals
          have hb2 : Below E3.heap.size E3 w2 := hbel.trans ⟨o1.symm, o2.symm, o3.symm, hs2, fun b hb => hk2 b (Nat.lt_of_lt_of_le hb hsz) fun e => by have := (hown.lt e).1; omega⟩
          go_wp2_with fail
          go_roundw
          case rel => exact ⟨k + 1, a, cur ++ [y], by omega, by go_num, rfl, by omega, by rw [List.length_append, List.length_singleton]; omega, by unfold Hid; rw [← HB.out, HS2.out, List.append_assoc]; rfl, by simpa using ho2, hb2⟩
          case measure => simp [intOf] <;> omega
      · have HS := Lib.hid (chBy_out (outs := p.outputs) (a := a) hlt hkd)
        generalize q.nodes[k].kind = kd at y0 hkd
        have hkn : ¬ (kd : Int) = 1 := hkd
        clear hnc hnd y1
        go_wp2_with (first | (at_builtin; refine wpList_append_one rfl _ _ rfl rfl hown rfl hbel hlen hsz (Nat.le_refl _) ?_; intro v' w4 hown4 hb4 hz4 hk4) | fail)
        go_roundw
        case rel => exact ⟨k + 1, a + 1, cur ++ [(a : Int)], by omega, by go_num, by go_num, by omega, by rw [List.length_append, List.length_singleton]; omega, by unfold Hid; rw [← HB.out, HS.out, List.append_assoc]; rfl, hown4, hb4⟩
        case measure => simp [intOf] <;> omega
    · obtain rfl : k = q.nodes.length := by omega
      have HBE : Hid (cur = BY) := by have := HB.out; rw [List.drop_length] at this; unfold Hid; simpa [chBy] using this
      obtain rfl := HBE.out
      clear HB HBE
      obtain ⟨E5, rfl⟩ : ∃ E : World, E = wi := ⟨_, rfl⟩
      have hh := hown
      obtain ⟨yp, yc, rfl, -⟩ := hh.rd
      have hpb5 := hpb3.below hbel
      have hby5 := hown.mono hpb3.bel.size
      have hbl : cur.length = q.nodes.length := HBL.out
      rw [hbl] at hby5 ⊢
      clear hown hh hpb3 hbel hbw3
      go_wp2_with fail
      clear zq bqi hbwi
      go_loopw [10] (fun iv wr => ∃ (k : Nat) (v2 : Value) (L' : List Value) (ns : List NodeD), k ≤ q.nodes.length ∧ iv = .int .i64 k ∧ PB E0.heap.size E0 wr s0 p.inputs (.slice vp tl vc) v2 (.slice a3 p.outputs.length x3) (p.tables ++ q.tables) ns p.outputs (L1 ++ M1) L' ∧ OwnI E0.heap.size wr (.slice yp q.nodes.length yc) cur ∧
          Hid (ns ++ chNs p.tables.length cur (q.nodes.drop k) = p.nodes ++ chNs p.tables.length cur q.nodes) ∧ Hid (ns.length ≤ p.nodes.length + k)) (fun iv _ => q.nodes.length - (intOf iv).toNat)
      case atStart => exact ⟨0, _, L, p.nodes, Nat.zero_le _, rfl, hpb5, hby5, rfl, Nat.le_refl _⟩
      case round =>
        clear hpb5 hby5
        obtain ⟨k, v2, L', ns, hk, rfl, hpb, hby, HNS, HNL⟩ := hrel
        obtain ⟨wj, rfl⟩ : ∃ wj : World, wj = wr := ⟨_, rfl⟩
        have hbwj := hB0.trans (hpb.bel.mono hB0.size)
        have bqj := bq.below hbwj
        have zq := bqj.cell 2 rfl
        by_cases hlt : k < q.nodes.length
        · obtain ⟨nb, no, rfl, hnb, hnc⟩ := (rq2.below hbwj).pos hlt
          have hnd := hnc k hlt
          have hlk := SQ.out.srcs _ (List.getElem_mem hlt)
          have hsr := OKQ.out.rng _ (List.getElem_mem hlt)
          have HIN2 : Hid (q.nodes[k].kind = 1 → chNs p.tables.length cur (q.nodes.drop k) = chNs p.tables.length cur (q.nodes.drop (k + 1))) := fun h => chNs_in hlt h
          have HOUT2 : Hid (q.nodes[k].kind ≠ 1 → chNs p.tables.length cur (q.nodes.drop k) = chN p.tables.length cur q.nodes[k] :: chNs p.tables.length cur (q.nodes.drop (k + 1))) := fun h => chNs_out hlt h
          have HTB := Lib.hid (HTA.out k hlt)
          generalize q.nodes[k] = nd at hnd hlk hsr HIN2 HOUT2 HTB
          obtain ⟨q2', d2', e2⟩ := hpb.own.o2.sl
          subst e2
          obtain ⟨y0, y1, y2, nq, ndc, y3, hrn⟩ := hnd
          obtain ⟨n0, hn0⟩ : ∃ n, n = wj.heap.size := ⟨_, rfl⟩
          obtain ⟨F, hF⟩ : ∃ F, F = wj.alloc (.cells #[.int .i64 nd.kind, .int .i64 nd.a, .int .i64 nd.b, .slice nq nd.src.length ndc] 58) := ⟨_, rfl⟩
          have hbF : Below wj.heap.size wj F := by rw [hF]; exact (Below.refl _ _).alloc (Nat.le_refl _) _
          have bn : Box F n0 [.int .i64 nd.kind, .int .i64 nd.a, .int .i64 nd.b, .slice nq nd.src.length ndc] 58 := by rw [hF]; exact Box.newAt _ _ _ hn0
          have HF := Lib.hid hF
          have HN0 := Lib.hid hn0
          have hn0' : wj.heap.size ≤ n0 := by omega
          clear hF hn0 hnc
          go_upto_region 17 with fail
          rw [← HF.out, ← HN0.out]
          clear y0 y1 y2 y3
          have t0 := bn.cell 0 rfl
          by_cases hkd : nd.kind = 1
          · have HS := Lib.hid (HIN2.out hkd)
            have hpbF := hpb.below hbF
            have hbyF := hby.below hbF
            rw [hkd] at t0
            clear hkd hrn HIN2 HOUT2
            go_wp2_with fail
            go_roundw
            case rel => exact ⟨k + 1, _, _, ns, by omega, by go_num, hpbF, hbyF, by unfold Hid; rw [← HNS.out, HS.out], by unfold Hid; have := HNL.out; omega⟩
            case measure => simp [intOf] <;> omega
          · have HS := Lib.hid (HOUT2.out hkd)
            have hrby := (rdI_of (hby.below hbF)).2
            have MP : Hid (Calls Try.prog 105 #[.slice nq nd.src.length ndc, .slice yp q.nodes.length yc] F fun e w' => ∃ v, e = .returned v ∧ OwnI F.heap.size w' v (mapL cur nd.src) ∧ Below F.heap.size F w') := by
              have := l07Map_any (c := ndc) (d := yc) F (hrn.below hbF) hrby (by omega) (fun s hs => by rw [hbl]; exact hsr s hs)
              rw [hbl] at this
              exact this
            have hlL : ns.length < 1099511627776 := by have := HNL.out; omega
            have t3 := bn.cell 3 rfl
            clear hrn HIN2 HOUT2 hrby hsr
            go_upto_region 18 with fail
            clear t0
            go_upto_region 19 with fail
            refine MP.out.mono ?_
            rintro e W1 ⟨u, rfl, hu, hb1⟩
            have hb1' : Below wj.heap.size wj W1 := hbF.trans (hb1.mono hbF.size)
            have bn1 := bn.below hb1
            have hnew := hpb.fresh hu hbF.size
            have hsj := hpb.bel.size
            have HML : Hid ((mapL cur nd.src).length = (mapL cur nd.src).length) := rfl
            obtain ⟨uq, uc, rfl, -⟩ := hu.rd
            clear t3
            have t3 := bn1.cell 3 rfl
            have f3 := bn1.frozen 3
            have bn2 := bn1.set 3 (.slice uq (mapL cur nd.src).length uc)
            have hun : ∀ j, (Value.slice uq (mapL cur nd.src).length uc).ownBlock = some j → j ≠ n0 := fun j hj => by have h1 := (hu.lt hj).1; have h2 := bn.lt; omega
            have hu2 := (hu.mono (B' := E0.heap.size) (by have := hbF.size; omega)).keep (w' := W1.setCell ⟨n0, 3, none⟩ (.slice uq (mapL cur nd.src).length uc)) fun j hj => Below.heap_setCell _ _ _ _ (hun j hj)
            have hb2' := hb1'.setCell (p := ⟨n0, 3, none⟩) hn0' (.slice uq (mapL cur nd.src).length uc)
            generalize (mapL cur nd.src).length = ul at hu hun hu2 hb2' bn2 hnew ⊢
            obtain ⟨W2, hW2⟩ : ∃ W, W = W1.setCell ⟨n0, 3, none⟩ (.slice uq ul uc) := ⟨_, rfl⟩
            rw [← hW2] at bn2 hu2 hb2'
            have HW2 := Lib.hid hW2
            have HHU := Lib.hid hun
            clear hW2 hu hun HML
            go_upto_region 19 with fail
            rw [← HW2.out]
            clear t3 f3
            have t0 := bn2.cell 0 rfl
            by_cases hk13 : nd.kind = 13
            · have HY : Hid (chN p.tables.length cur nd = ⟨nd.kind, nd.a + (p.tables.length : Int), nd.b, mapL cur nd.src⟩) := by unfold Hid chN; rw [if_pos hk13]
              obtain ⟨hta0, hta1⟩ := HTB.out hk13
              rw [hk13] at t0
              have hbW2 := hbwj.trans (hb2'.mono hbwj.size)
              have bp2 := bp.below hbW2
              have zt := bp2.cell 1 rfl
              have t1 := bn2.cell 1 rfl
              have k1 := bn2.frozen 1
              have hpt := SP.out.tables
              have hkk : ¬ nd.kind = 1 := hkd
              clear hk13 hkd
              go_wp2_with fail
              refine wp_region_still_tail 9 (by kernel_rfl) (by kernel_rfl) ?_
              simp only [List.take_succ_cons, List.take_zero, List.drop_succ_cons, List.drop_zero]
              change wpStill _ _ (World.drew _) _ _ _
              repeat (first | still_step | (refine wpStill_step (fun K hK => ?_); go_simp; refine ⟨_, (by fail), hK _ ?_⟩; clear hK K))
              refine wpStill_nil ?_
              change wpList _ _ _ _ _ (World.drew _)
              obtain ⟨WW, hWW⟩ : ∃ W, W = (W2.setCell ⟨n0, 1, none⟩ (.int .i64 (nd.a + (p.tables.length : Int)))).drew := ⟨_, rfl⟩
              have hbW : Below wj.heap.size wj WW := by
                rw [hWW]
                have hh := hb2'.setCell (p := ⟨n0, 1, none⟩) hn0' (.int .i64 (nd.a + (p.tables.length : Int)))
                exact ⟨hh.os, hh.tape, hh.output, hh.size, hh.block⟩
              have huW : OwnI E0.heap.size WW (.slice uq ul uc) (mapL cur nd.src) := by rw [hWW]; exact hu2.keep (w' := (W2.setCell ⟨n0, 1, none⟩ (.int .i64 (nd.a + (p.tables.length : Int)))).drew) fun j hj => Below.heap_setCell _ _ _ _ (HHU.out j hj)
              have bnW : Box WW n0 [.int .i64 nd.kind, .int .i64 (nd.a + (p.tables.length : Int)), .int .i64 nd.b, .slice uq ul uc] 58 := by
                rw [hWW]
                have hh : Box (W2.setCell ⟨n0, 1, none⟩ (.int .i64 (nd.a + (p.tables.length : Int)))) n0 [.int .i64 nd.kind, .int .i64 (nd.a + (p.tables.length : Int)), .int .i64 nd.b, .slice uq ul uc] 58 := by simpa using bn2.set 1 (.int .i64 (nd.a + (p.tables.length : Int)))
                exact hh
              have HWW := Lib.hid hWW
              clear hWW
              have hpb2 := hpb.below hbW
              have hbyW := hby.below hbW
              have y0 := bnW.cell 0 rfl
              have y1 := bnW.cell 1 rfl
              have y2 := bnW.cell 2 rfl
              have y3 := bnW.cell 3 rfl
              have s2 := hpb2.out.cell 2 rfl
              have hBs : E0.heap.size ≤ WW.heap.size := hpb2.bel.size
              have hown := hpb2.own.o2
              go_upto_region 21 with fail
              rw [← HWW.out]
              clear t1 zt t0 k1
              go_wp2_with (first | (at_builtin; (refine wpList_append_node rfl _ _ rfl ⟨nd.kind, nd.a + (p.tables.length : Int), nd.b, mapL cur nd.src⟩ rfl rfl rfl rfl hown rfl rfl hlL hBs ?_; intro v' W4 hv hg hk3; obtain ⟨wp, wc, rfl⟩ := hv.slS; have PN := hpb2.node huW hnew hv hg; have c3 := PN.1.1; have f3 := PN.1.2)) | fail)
              have PN2 := Lib.hid PN.2
              have BY2 := Lib.hid (hbyW.pastNode (i := 2) (u := .slice wp (ns.length + 1) wc) hown hpb2.out hg)
              clear PN c3 f3
              go_roundw
              case rel => exact ⟨k + 1, _, _, _, by omega, by go_num, PN2.out, BY2.out, by unfold Hid; rw [← HNS.out, HS.out, HY.out, List.append_assoc]; rfl, by unfold Hid; have := HNL.out; rw [List.length_append, List.length_singleton]; omega⟩
              case measure => simp [intOf] <;> omega
            · have HY : Hid (chN p.tables.length cur nd = ⟨nd.kind, nd.a, nd.b, mapL cur nd.src⟩) := by unfold Hid chN; rw [if_neg hk13]
              obtain ⟨WW, hWW⟩ : ∃ W, W = W2 := ⟨_, rfl⟩
              have hbW : Below wj.heap.size wj WW := by rw [hWW]; exact hb2'
              have huW : OwnI E0.heap.size WW (.slice uq ul uc) (mapL cur nd.src) := by rw [hWW]; exact hu2
              have bnW : Box WW n0 [.int .i64 nd.kind, .int .i64 nd.a, .int .i64 nd.b, .slice uq ul uc] 58 := by rw [hWW]; simpa using bn2
              have HWW := Lib.hid hWW
              clear hWW
              have hpb2 := hpb.below hbW
              have hbyW := hby.below hbW
              have y0 := bnW.cell 0 rfl
              have y1 := bnW.cell 1 rfl
              have y2 := bnW.cell 2 rfl
              have y3 := bnW.cell 3 rfl
              have s2 := hpb2.out.cell 2 rfl
              have hBs : E0.heap.size ≤ WW.heap.size := hpb2.bel.size
              have hown := hpb2.own.o2
              go_upto_region 21 with fail
              rw [← HWW.out]
              clear t0
              go_wp2_with (first | (at_builtin; (refine wpList_append_node rfl _ _ rfl ⟨nd.kind, nd.a, nd.b, mapL cur nd.src⟩ rfl rfl rfl rfl hown rfl rfl hlL hBs ?_; intro v' W4 hv hg hk3; obtain ⟨wp, wc, rfl⟩ := hv.slS; have PN := hpb2.node huW hnew hv hg; have c3 := PN.1.1; have f3 := PN.1.2)) | fail)
              have PN2 := Lib.hid PN.2
              have BY2 := Lib.hid (hbyW.pastNode (i := 2) (u := .slice wp (ns.length + 1) wc) hown hpb2.out hg)
              clear PN c3 f3
              go_roundw
              case rel => exact ⟨k + 1, _, _, _, by omega, by go_num, PN2.out, BY2.out, by unfold Hid; rw [← HNS.out, HS.out, HY.out, List.append_assoc]; rfl, by unfold Hid; have := HNL.out; rw [List.length_append, List.length_singleton]; omega⟩
              case measure => simp [intOf] <;> omega
        · obtain rfl : k = q.nodes.length := by omega
          have HNE : Hid (ns = p.nodes ++ chNs p.tables.length cur q.nodes) := by have := HNS.out; rw [List.drop_length] at this; unfold Hid; simpa [chNs] using this
          have hrby := (rdI_of hby).2
          obtain ⟨z2, w2, e2⟩ := hpb.own.o2.sl
          subst e2
          have MP : Hid (Calls Try.prog 105 #[.slice q3 q.outputs.length d3, .slice yp q.nodes.length yc] wj fun e w' => ∃ v, e = .returned v ∧ OwnI wj.heap.size w' v (mapL cur q.outputs) ∧ Below wj.heap.size wj w') := by
            have := l07Map_any (c := d3) (d := yc) wj (rq3.below hbwj) hrby (by have := SQ.out.outs; omega) (fun s hs => by rw [hbl]; exact OUQ.out s hs)
            rw [hbl] at this
            exact this
          generalize mapL cur q.outputs = ML at MP HCP
          have bqj3 := bqj.cell 3 rfl
          go_wp2_with fail
          refine MP.out.mono ?_
          rintro e W1 ⟨u, rfl, hu, hb1⟩
          have hpb1 := hpb.below hb1
          have hnew := hpb.fresh hu (Nat.le_refl _)
          have hu2 := hu.mono hpb.bel.size
          obtain ⟨uq, uc, rfl, -⟩ := hu.rd
          have hpb2 := hpb1.outs hu2 hnew
          have t3 := hpb1.out.cell 3 rfl
          have f3 := hpb1.out.frozen 3
          obtain ⟨W2, hW2⟩ : ∃ W, W = W1.setCell ⟨s0, 3, none⟩ (.slice uq ML.length uc) := ⟨_, rfl⟩
          rw [← hW2] at hpb2
          have HW2 := Lib.hid hW2
          clear hW2 zq bqj3
          have bri := br.below hpb2.bel
          obtain ⟨W', hW', bW, hret⟩ := hpb2.done bri (hB0.trans (hpb2.bel.mono hB0.size)) i0 hB0.size
          subst hW'
          have g0 := hpb2.out.cell 0 rfl
          have g1' := hpb2.out.cell 1 rfl
          have g2' := hpb2.out.cell 2 rfl
          have g3 := hpb2.out.cell 3 rfl
          have k0 := bri.cell 0 rfl
          have k1 := bri.cell 1 rfl
          have k2 := bri.cell 2 rfl
          have k3 := bri.cell 3 rfl
          have j0 := bri.frozen 0
          have j1 := bri.frozen 1
          have j2 := bri.frozen 2
          have j3 := bri.frozen 3
          have m0' := bW.cell 0 rfl
          have m1 := bW.cell 1 rfl
          have m2 := bW.cell 2 rfl
          have m3 := bW.cell 3 rfl
          have HRET := Lib.hid hret
          clear hret bW bri hpb hpb1 hpb2
          go_upto_region 23 with fail
          rw [← HW2.out]
          clear t3 f3
          go_wp2_with fail
          refine bodyPost_ret (v := .agg #[.int .i64 p.inputs, .slice vp tl vc, .slice z2 ns.length w2, .slice uq ML.length uc]) (by simp [results, Try.results69, go_sem, *]) rfl ?_
          rw [HCP.out, ← HNE.out]
          exact HRET.out
end Go.Proofs.Ytalomhakmfknjaa
