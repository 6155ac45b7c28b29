/-
  Patches with some nodes only: the reference's side.
-/
import Derived.Test.YtonkdndpfnapjaaGreatCopyP
import Derived.Test.YtonkdndpfnapjaaGreatKeepM
import Derived.Test.YtonkdndpfnapjaaGreatNeed2
namespace Go.Proofs.YtonkdndpfnapjaaGreat
open Go.ChangeShapes Go.WideShapes Go.ChangeAt Go.RowKit
set_option linter.unusedVariables false

theorem formed_small {x : PatchD} (h : formedB x = true) : Small x := by
  have hf := formed_iff.1 h
  have ok := formed_src h
  have ht := hf.2.1
  unfold tablesB at ht
  simp only [Bool.and_eq_true, List.all_eq_true, decide_eq_true_eq] at ht
  refine ⟨by omega, fun t ht' => ?_, by omega, fun n hn => by have := ok.len n hn; omega, by omega⟩
  have := ht.1 t ht'
  unfold tblB at this
  simp only [Bool.and_eq_true, Bool.or_eq_true, decide_eq_true_eq] at this
  omega
theorem OwnN.empty {B : Nat} (w : World) (hB : B ≤ w.heap.size) : OwnN B (w.alloc (.cells #[] 64)) (.slice (some ⟨w.heap.size, 0, none⟩) 0 0) [] [] := by
  have h := World.ownsRow_lit (base := B) (e := 64) (size := 4) w #[] 0 hB (by simp [maxLen]) (by simp)
  exact ⟨rfl, by simpa [nodeCells] using h⟩
theorem nodeAt_eq {nodes : List NodeD} {m : Nat} (h : m < nodes.length) : nodeAt nodes (m : Int) = nodes[m] := by
  unfold nodeAt; rw [Int.toNat_natCast, List.getD_eq_getElem?_getD, List.getElem?_eq_getElem h]; rfl
set_option maxHeartbeats 6400000 in
set_option maxRecDepth 100000 in
theorem l07Keep_any {g : Nat} {x : PatchD} {p : Option Addr} {c : Nat} {keep : List Int} (w : World) (h : PPatch w g x) (hkp : RdI w p keep) (hkl : keep.length ≤ 1000) (hkr : ∀ i ∈ keep, 0 ≤ i ∧ i < (x.nodes.length : Int)) (sm : Small x) (ok : SrcOk x.nodes) (ho : ∀ i ∈ x.outputs, 0 ≤ i ∧ i < (x.nodes.length : Int)) :
    Calls Tryz.prog 55 #[.pointer (some ⟨g, 0, none⟩), .slice p keep.length c] w (RetP0 w (keepP x keep)) := by
  have hpp := h
  have hn1 := sm.nodes
  obtain ⟨p1, c1, p2, c2, p3, c3, bx, r1, r2, r3⟩ := h
  clear r1
  obtain ⟨r, hr⟩ : ∃ r, r = w.heap.size := ⟨_, rfl⟩
  obtain ⟨E0, hE⟩ : ∃ E, E = w.alloc (.cells #[.int .i64 0, .slice none 0 0, .slice none 0 0, .slice none 0 0] 32) := ⟨_, rfl⟩
  have hB0 : Below w.heap.size w E0 := by rw [hE]; exact (Below.refl _ _).alloc (Nat.le_refl _) _
  have br : Box E0 r zPatch 32 := by rw [hE, hr]; exact Box.newAt w _ _ rfl
  have hsz0 : E0.heap.size = r + 1 := by rw [hE, hr]; simp
  have bx0 := bx.below hB0
  have hmk := fun W => run_make_row' (P := Tryz.prog) 24 2 (.int .i64 0) 8 Tryz.underlying24 infoI rfl .i64 .i64 x.nodes.length (by omega) (by omega) W
  have hb0 := OwnI.made (B := E0.heap.size) E0 x.nodes.length (Nat.le_refl _) (by unfold maxLen; omega)
  have hBb := (Below.refl E0.heap.size E0).alloc (Nat.le_refl _) (.cells (madeCells #[.int .i64 0] x.nodes.length) 2)
  rw [hsz0] at hb0 hBb
  have HE := Lib.hid hE
  have HR := Lib.hid hr
  have HSZ := Lib.hid hsz0
  have i0 : w.heap.size ≤ r := by omega
  clear hE hr
  have HBY : Hid (putBy (List.replicate x.nodes.length 0) 0 keep = byL x.nodes.length keep) := rfl
  have HBL : Hid ((byL x.nodes.length keep).length = x.nodes.length) := byL_length _ _
  have HKP : Hid (keepP x keep = ⟨x.inputs, x.tables, keep.map (keepN x.nodes (byL x.nodes.length keep)), mapL (byL x.nodes.length keep) x.outputs⟩) := rfl
  generalize keepP x keep = KP at HKP ⊢
  generalize byL x.nodes.length keep = BY at HBY HBL HKP
  have SM := Lib.hid sm
  have OK := Lib.hid ok
  have HO := Lib.hid ho
  have HKR := Lib.hid hkr
  clear sm ok ho hkr
  have z2 := bx0.cell 2 rfl
  go_enter Tryz.func55, Tryz.ntmps55
  go_upto_region 1 with fail
  rw [← HE.out, ← HR.out]
  go_wp2_with fail
  clear z2 hmk
  go_loopw [6] (fun i wr => ∃ (k : Nat) (b : List Int), k ≤ keep.length ∧ i = .int .i64 k ∧ Hid (b.length = x.nodes.length) ∧ Hid (putBy b k (keep.drop k) = BY) ∧ OwnI (r + 1) wr (.slice (some ⟨r + 1, 0, none⟩) x.nodes.length x.nodes.length) b ∧ Below (r + 1) E0 wr) (fun i _ => keep.length - (intOf i).toNat)
  case atStart => exact ⟨0, _, Nat.zero_le _, rfl, List.length_replicate, HBY, hb0, hBb⟩
  case round =>
    clear hb0 hBb HBY
    obtain ⟨k, b, hk, rfl, HBN, HB, hown, hbel⟩ := hrel
    obtain ⟨wi, rfl⟩ : ∃ wi : World, wi = wr := ⟨_, rfl⟩
    have hbel' : Below E0.heap.size E0 wi := by rw [HSZ.out]; exact hbel
    have hbw := hB0.trans (hbel'.mono hB0.size)
    by_cases hlt : k < keep.length
    · obtain ⟨kb, ko, rfl, hkb, hkc⟩ := (hkp.below hbw).pos hlt
      have hck := hkc k hlt
      have hrk := HKR.out _ (List.getElem_mem hlt)
      obtain ⟨m, hm⟩ : ∃ m : Nat, keep[k] = m := ⟨keep[k].toNat, by omega⟩
      have HBS := Lib.hid (putBy_drop (b := b) hlt hm)
      rw [hm] at hck hrk
      have hmn : m < x.nodes.length := by omega
      have hmb : m < b.length := by rw [HBN.out]; exact hmn
      obtain ⟨-, -, hDl, hzm, hfz, hset⟩ := hown.storing (k := m) hmb
      have HST := Lib.hid (hset (k : Int))
      have HBN2 : Hid ((b.set m (k : Int)).length = x.nodes.length) := by unfold Hid; rw [List.length_set]; exact HBN.out
      clear hkc hm hrk hset
      go_wp2_with fail
      go_roundw
      case rel => exact ⟨k + 1, b.set m (k : Int), by omega, by go_num, HBN2, by unfold Hid; rw [← HBS.out]; exact HB.out, HST.out, hbel.setCell (by simp) _⟩
      case measure => simp [intOf] <;> omega
    · obtain rfl : k = keep.length := by omega
      have HBE : Hid (b = BY) := by have := HB.out; rw [List.drop_length] at this; exact this
      obtain rfl := HBE.out
      clear HB HBE HBN
      obtain ⟨E2, rfl⟩ : ∃ E : World, E = wi := ⟨_, rfl⟩
      have hryb : RdI E2 (some ⟨r + 1, 0, none⟩) b := by
        obtain ⟨yp, yc, ye, hr⟩ := hown.rd
        simp only [Value.slice.injEq] at ye
        rw [ye.1]; exact hr
      have hy : r + 1 < E2.heap.size := (hown.lt (k := r + 1) rfl).2
      have brE := br.below hbel'
      have hB2 : w.heap.size ≤ E2.heap.size := hbw.size
      have KO := Lib.hid (l07Own_any E2 (hpp.below hbw) SM.out)
      clear hown hbel
      go_upto_region 6 with fail
      go_wp2_with fail
      refine KO.out.mono ?_
      rintro e W1 ⟨v1, v2, v3, L1, L, rfl, hop, hb1⟩
      obtain ⟨q1, d1, e1⟩ := hop.o1.sl'
      obtain ⟨q2, d2, e2⟩ := hop.o2.sl
      obtain ⟨q3, d3, e3, -⟩ := hop.o3.rd
      subst e1 e2 e3
      obtain ⟨s0, hs0⟩ : ∃ s, s = W1.heap.size := ⟨_, rfl⟩
      obtain ⟨E3, hE3⟩ : ∃ E, E = W1.alloc (.cells #[.int .i64 x.inputs, .slice q1 L1.length d1, .slice q2 x.nodes.length d2, .slice q3 x.outputs.length d3] 32) := ⟨_, rfl⟩
      have hb3 : Below W1.heap.size W1 E3 := by rw [hE3]; exact (Below.refl _ _).alloc (Nat.le_refl _) _
      have hpb : PB E2.heap.size E2 E3 s0 x.inputs (.slice q1 L1.length d1) (.slice q2 x.nodes.length d2) (.slice q3 x.outputs.length d3) x.tables x.nodes x.outputs L1 L :=
        ⟨hop.below hb3, by rw [hE3]; exact Box.newAt _ _ _ hs0, hb1.trans (hb3.mono hb1.size), Nat.le_refl _, by rw [hs0]; exact hb1.size⟩
      have hpb4 := (hpb.below ((Below.refl _ _).alloc (Nat.le_refl _) _)).bare (OwnN.empty E3 hpb.bel.size)
      rw [World.setCell_alloc_past _ _ _ _ hpb.out.lt] at hpb4
      have a2 := hpb.out.cell 2 rfl
      have f2 := hpb.out.frozen 2
      have lt2 := hpb.out.lt
      have HS0 := Lib.hid hs0
      have HE3 := Lib.hid hE3
      clear hs0 hE3 hop hb1 hb3 hpb KO
      go_upto_region 7 with fail
      rw [← HE3.out, ← HS0.out]
      obtain ⟨E4, hE4⟩ : ∃ E, E = (E3.setCell ⟨s0, 2, none⟩ (.slice (some ⟨E3.heap.size, 0, none⟩) 0 0)).alloc (.cells #[] 64) := ⟨_, rfl⟩
      have hpb5 := hpb4
      rw [← hE4] at hpb5
      have HE4 := Lib.hid hE4
      clear hE4 hpb4
      go_upto_region 8 with fail
      rw [← HE4.out]
      clear a2 f2 lt2
      go_wp2_with fail
      go_loopw [8] (fun i wr => ∃ (k : Nat) (v2 : Value) (L : List Value), k ≤ keep.length ∧ i = .int .i64 k ∧ PB E2.heap.size E2 wr s0 x.inputs (.slice q1 L1.length d1) v2 (.slice q3 x.outputs.length d3) x.tables ((keep.take k).map (keepN x.nodes b)) x.outputs L1 L) (fun i _ => keep.length - (intOf i).toNat)
      case atStart => exact ⟨0, _, _, Nat.zero_le _, rfl, hpb5⟩
      case round =>
        clear hpb5
        obtain ⟨k, v2, L, hk, rfl, hpb⟩ := hrel
        obtain ⟨wj, rfl⟩ : ∃ wj : World, wj = wr := ⟨_, rfl⟩
        have hbel := hbw.trans (hpb.bel.mono hbw.size)
        have bxi := bx.below hbel
        have z2 := bxi.cell 2 rfl
        have hgi := bxi.lt
        by_cases hlt : k < keep.length
        · obtain ⟨kb, ko, rfl, hkb, hkc⟩ := (hkp.below hbel).pos hlt
          have hck := hkc k hlt
          have hrk := HKR.out _ (List.getElem_mem hlt)
          obtain ⟨m, hm⟩ : ∃ m : Nat, keep[k] = m := ⟨keep[k].toNat, by omega⟩
          have HS : Hid ((keep.take (k + 1)).map (keepN x.nodes b) = (keep.take k).map (keepN x.nodes b) ++ [keepN x.nodes b (m : Int)]) := by unfold Hid; rw [keepN_succ hlt, hm]
          rw [hm] at hck hrk
          have hmn : m < x.nodes.length := by omega
          have hlL : ((keep.take k).map (keepN x.nodes b)).length < 1099511627776 := by rw [List.length_map, List.length_take]; omega
          have hyk : keepN x.nodes b (m : Int) = { x.nodes[m] with src := mapL b x.nodes[m].src } := by unfold keepN; rw [nodeAt_eq hmn]
          generalize keepN x.nodes b (m : Int) = y at HS hyk
          generalize (keep.take k).map (keepN x.nodes b) = ns at hpb hlL HS
          obtain ⟨q2, d2, e2⟩ := hpb.own.o2.sl
          subst e2
          obtain ⟨nb, no, rfl, hnb, hnc⟩ := (r2.below hbel).pos hmn
          have hnd := hnc m hmn
          have hlk := SM.out.srcs _ (List.getElem_mem hmn)
          have hsr := OK.out.rng _ (List.getElem_mem hmn)
          generalize x.nodes[m] = nd at hnd hlk hsr hyk
          obtain ⟨yk, ya, yb, ysrc⟩ := y
          simp only [NodeD.mk.injEq] at hyk
          obtain ⟨rfl, rfl, rfl, rfl⟩ := hyk
          clear hkc hm hrk hnc
          obtain ⟨y0, y1, y2, q, d, y3, hrn⟩ := hnd
          obtain ⟨n0, hn0⟩ : ∃ n, n = wj.heap.size := ⟨_, rfl⟩
          obtain ⟨F, hF⟩ : ∃ F, F = (wj.alloc (.cells #[.int .i64 nd.kind, .int .i64 nd.a, .int .i64 nd.b, .slice q nd.src.length d] 64)).drew := ⟨_, rfl⟩
          have hbF : Below wj.heap.size wj F := by rw [hF]; have hh := (Below.refl wj.heap.size wj).alloc (Nat.le_refl _) (.cells #[.int .i64 nd.kind, .int .i64 nd.a, .int .i64 nd.b, .slice q nd.src.length d] 64); exact ⟨hh.os, hh.tape, hh.output, hh.size, hh.block⟩
          have bn : Box F n0 [.int .i64 nd.kind, .int .i64 nd.a, .int .i64 nd.b, .slice q nd.src.length d] 64 := by rw [hF]; exact Box.newAt wj [.int .i64 nd.kind, .int .i64 nd.a, .int .i64 nd.b, .slice q nd.src.length d] 64 hn0
          have hrby : RdI F (some ⟨r + 1, 0, none⟩) b := (hryb.below hpb.bel).below hbF
          have MP : Hid (Calls Tryz.prog 89 #[.slice q nd.src.length d, .slice (some ⟨r + 1, 0, none⟩) x.nodes.length x.nodes.length] F fun e w' => ∃ v, e = .returned v ∧ OwnI F.heap.size w' v (mapL b nd.src) ∧ Below F.heap.size F w') := by
            have := l07Map_any (c := d) (d := x.nodes.length) F (hrn.below hbF) hrby (by omega) (fun s hs => by rw [HBL.out]; exact hsr s hs)
            rw [HBL.out] at this
            exact this
          have CK : Hid (∀ W, Below wj.heap.size wj W → W.cell? ⟨g, 2, none⟩ = some (.slice (some ⟨nb, no, none⟩) x.nodes.length c2) ∧ W.cell? ⟨kb, ko + k, none⟩ = some (.int .i64 (m : Int)) ∧ W.cell? ⟨nb, no + m * 4, none⟩ = some (.int .i64 nd.kind) ∧ W.cell? ⟨nb, no + m * 4 + 1, none⟩ = some (.int .i64 nd.a) ∧ W.cell? ⟨nb, no + m * 4 + 2, none⟩ = some (.int .i64 nd.b) ∧ W.cell? ⟨nb, no + m * 4 + 3, none⟩ = some (.slice q nd.src.length d)) := fun W hW =>
            ⟨(hW.cell (p := ⟨g, 2, none⟩) hgi).trans z2, (hW.cell (p := ⟨kb, ko + k, none⟩) hkb).trans hck, (hW.cell (p := ⟨nb, no + m * 4, none⟩) hnb).trans y0, (hW.cell (p := ⟨nb, no + m * 4 + 1, none⟩) hnb).trans y1, (hW.cell (p := ⟨nb, no + m * 4 + 2, none⟩) hnb).trans y2, (hW.cell (p := ⟨nb, no + m * 4 + 3, none⟩) hnb).trans y3⟩
          have HF := Lib.hid hF
          have HN0 := Lib.hid hn0
          have hn0' : wj.heap.size ≤ n0 := by omega
          have hcur := belowDrew0 wj
          clear hF hn0 hrn hsr hrby
          have t3 := bn.cell 3 rfl
          go_wp2_with fail
          go_region_held3 (fun W => W.cell? ⟨g, 2, none⟩ = some (.slice (some ⟨nb, no, none⟩) x.nodes.length c2) ∧ W.cell? ⟨kb, ko + k, none⟩ = some (.int .i64 (m : Int)) ∧ W.cell? ⟨nb, no + m * 4, none⟩ = some (.int .i64 nd.kind) ∧ W.cell? ⟨nb, no + m * 4 + 1, none⟩ = some (.int .i64 nd.a) ∧ W.cell? ⟨nb, no + m * 4 + 2, none⟩ = some (.int .i64 nd.b) ∧ W.cell? ⟨nb, no + m * 4 + 3, none⟩ = some (.slice q nd.src.length d)) (first | go_keep | exact CK.out _ (by (repeat (first | exact Below.refl _ _ | assumption | refine Below.setCell ?_ (by first | exact Nat.le_refl _ | omega | (simp; done) | (simp; omega)) _ | refine Below.alloc ?_ (by first | exact Nat.le_refl _ | omega | (simp; done) | (simp; omega)) _ | refine below_drewN ?_ _)))) (fail)
          go_upto_region 12 with fail
          rw [← HF.out, ← HN0.out]
          clear z2 y0 y1 y2 y3 hck CK
          go_wp2_with fail
          refine MP.out.mono ?_
          rintro e W1 ⟨u, rfl, hu, hb1⟩
          have hb1' : Below wj.heap.size wj W1 := hbF.trans (hb1.mono hbF.size)
          have bn1 := bn.below hb1
          have hnew := hpb.fresh hu hbF.size
          have hsj := hpb.bel.size
          obtain ⟨uq, uc, rfl, -⟩ := hu.rd
          clear t3
          have t3 := bn1.cell 3 rfl
          have f3 := bn1.frozen 3
          have bn2 := bn1.set 3 (.slice uq (mapL b nd.src).length uc)
          have hun : ∀ j, (Value.slice uq (mapL b nd.src).length uc).ownBlock = some j → j ≠ n0 := fun j hj => by have h1 := (hu.lt hj).1; have h2 := bn.lt; omega
          have hu2 := (hu.mono (B' := E2.heap.size) (by have := hbF.size; omega)).keep (w' := W1.setCell ⟨n0, 3, none⟩ (.slice uq (mapL b nd.src).length uc)) fun j hj => Below.heap_setCell _ _ _ _ (hun j hj)
          have hb2' := hb1'.setCell (p := ⟨n0, 3, none⟩) hn0' (.slice uq (mapL b nd.src).length uc)
          generalize (mapL b nd.src).length = ul at hu hun hu2 hb2' bn2 hnew ⊢
          obtain ⟨W2, hW2⟩ : ∃ W, W = W1.setCell ⟨n0, 3, none⟩ (.slice uq ul uc) := ⟨_, rfl⟩
          rw [← hW2] at bn2 hu2 hb2'
          have HW2 := Lib.hid hW2
          clear hW2
          have hpb2 := hpb.below hb2'
          have y0 := bn2.cell 0 rfl
          have y1 := bn2.cell 1 rfl
          have y2 := bn2.cell 2 rfl
          have y3 := bn2.cell 3 rfl
          have s2 := hpb2.out.cell 2 rfl
          have hBs : E2.heap.size ≤ W2.heap.size := hpb2.bel.size
          have hown := hpb2.own.o2
          go_upto_region 13 with fail
          rw [← HW2.out]
          clear t3 f3
          go_wp2_with (first | (at_builtin; (refine wpList_append_node rfl _ _ rfl ⟨nd.kind, nd.a, nd.b, mapL b nd.src⟩ rfl rfl rfl rfl hown rfl rfl hlL hBs ?_; intro v' W3 hv hg hk3; obtain ⟨vp, vc, rfl⟩ := hv.slS; have PN := hpb2.node hu2 hnew hv hg; have c3 := PN.1.1; have f3 := PN.1.2)) | fail)
          have PN2 := Lib.hid PN.2
          clear PN c3 f3
          go_roundw
          case rel => exact ⟨k + 1, _, _, by omega, by go_num, by rw [HS.out]; exact PN2.out⟩
          case measure => simp [intOf] <;> omega
        · obtain rfl : k = keep.length := by omega
          rw [List.take_length] at hpb
          obtain ⟨q2, d2, e2⟩ := hpb.own.o2.sl
          subst e2
          have hrby : RdI wj (some ⟨r + 1, 0, none⟩) b := hryb.below hpb.bel
          have MP : Hid (Calls Tryz.prog 89 #[.slice p3 x.outputs.length c3, .slice (some ⟨r + 1, 0, none⟩) x.nodes.length x.nodes.length] wj fun e w' => ∃ v, e = .returned v ∧ OwnI wj.heap.size w' v (mapL b x.outputs) ∧ Below wj.heap.size wj w') := by
            have := l07Map_any (c := c3) (d := x.nodes.length) wj (r3.below hbel) hrby (by have := SM.out.outs; omega) (fun s hs => by rw [HBL.out]; exact HO.out s hs)
            rw [HBL.out] at this
            exact this
          clear z2
          generalize mapL b x.outputs = ML at MP HKP
          have z3 := bxi.cell 3 rfl
          go_wp2_with fail
          refine MP.out.mono ?_
          rintro e W1 ⟨u, rfl, hu, hb1⟩
          have hpb1 := hpb.below hb1
          have hnew := hpb.fresh hu (Nat.le_refl _)
          have hu2 := hu.mono hpb.bel.size
          obtain ⟨uq, uc, rfl, -⟩ := hu.rd
          have hpb2 := hpb1.outs hu2 hnew
          have t3 := hpb1.out.cell 3 rfl
          have f3 := hpb1.out.frozen 3
          obtain ⟨W2, hW2⟩ : ∃ W, W = W1.setCell ⟨s0, 3, none⟩ (.slice uq ML.length uc) := ⟨_, rfl⟩
          rw [← hW2] at hpb2
          have HW2 := Lib.hid hW2
          clear hW2 z3
          have bri := brE.below hpb2.bel
          obtain ⟨W', hW', bW, hret⟩ := hpb2.done bri (hbw.trans (hpb2.bel.mono hbw.size)) i0 hB2
          subst hW'
          have a0 := hpb2.out.cell 0 rfl
          have a1 := hpb2.out.cell 1 rfl
          have a2 := hpb2.out.cell 2 rfl
          have a3 := hpb2.out.cell 3 rfl
          have k0 := bri.cell 0 rfl
          have k1 := bri.cell 1 rfl
          have k2 := bri.cell 2 rfl
          have k3 := bri.cell 3 rfl
          have g0 := bri.frozen 0
          have g1 := bri.frozen 1
          have g2 := bri.frozen 2
          have g3 := bri.frozen 3
          have m0 := bW.cell 0 rfl
          have m1 := bW.cell 1 rfl
          have m2 := bW.cell 2 rfl
          have m3 := bW.cell 3 rfl
          have HRET := Lib.hid hret
          clear hret bW bri hpb hpb1 hpb2
          generalize keep.map (keepN x.nodes b) = ns at *
          go_upto_region 15 with fail
          rw [← HW2.out]
          clear t3 f3
          go_wp2_with fail
          refine bodyPost_ret (v := .agg #[.int .i64 x.inputs, .slice q1 L1.length d1, .slice q2 ns.length d2, .slice uq ML.length uc]) (by simp [results, Tryz.results55, go_sem, *]) rfl ?_
          rw [HKP.out]
          exact HRET.out
end Go.Proofs.YtonkdndpfnapjaaGreat
