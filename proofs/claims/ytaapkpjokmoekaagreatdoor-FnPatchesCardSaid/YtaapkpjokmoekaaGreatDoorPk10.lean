/-
  Several texts in one: Trim, LinP, Count, Trim2.
-/
import Derived.Test.YtaapkpjokmoekaaGreatDoorPk9
namespace Go.Proofs.YtaapkpjokmoekaaGreatDoor
open Go.ChangeShapes Go.WideShapes Go.ChangeAt Go.RowKit
set_option linter.unusedVariables false

theorem sepB {B : Nat} {W F : World} {v v' : Value} {xs ys : List Int} (h : OwnI B W v xs) (h' : OwnI W.heap.size F v' ys) : ∀ k, v.ownBlock = some k → v'.ownBlock ≠ some k := fun k hk hk' => by
  have h1 := (h.lt hk).2
  have h2 := (h'.lt hk').1
  omega
theorem sepB' {B : Nat} {W F : World} {v v' : Value} {xs ys : List Int} (h : OwnI B W v' ys) (h' : OwnI W.heap.size F v xs) : ∀ k, v.ownBlock = some k → v'.ownBlock ≠ some k := fun k hk hk' => by
  have h1 := (h.lt hk').2
  have h2 := (h'.lt hk).1
  omega
theorem OwnP.done {B : Nat} {w W2 : World} {r : Nat} {inp : Int} {v1 v2 v3 : Value} {ts : List (List Int)} {ns : List NodeD} {os : List Int} {L1 L : List Value} (hop : OwnP B W2 v1 v2 v3 ts ns os L1 L) (bri : Box W2 r zPatch 28) (hb : Below w.heap.size w W2) (hr : w.heap.size ≤ r) (hB : w.heap.size ≤ B) :
    Box ((((W2.setCell ⟨r, 0, none⟩ (.int .i64 inp)).setCell ⟨r, 1, none⟩ v1).setCell ⟨r, 2, none⟩ v2).setCell ⟨r, 3, none⟩ v3) r [.int .i64 inp, v1, v2, v3] 28 ∧
    OwnP w.heap.size ((((W2.setCell ⟨r, 0, none⟩ (.int .i64 inp)).setCell ⟨r, 1, none⟩ v1).setCell ⟨r, 2, none⟩ v2).setCell ⟨r, 3, none⟩ v3) v1 v2 v3 ts ns os L1 L ∧
    Below w.heap.size w ((((W2.setCell ⟨r, 0, none⟩ (.int .i64 inp)).setCell ⟨r, 1, none⟩ v1).setCell ⟨r, 2, none⟩ v2).setCell ⟨r, 3, none⟩ v3) := by
  have b0 := bri.set 0 (.int .i64 inp)
  have b1 := b0.set 1 v1
  have b2 := b1.set 2 v2
  have b3 := b2.set 3 v3
  exact ⟨by simpa [zPatch] using b3, (((((hop.setBox bri patchT 0 _).setBox b0 patchT 1 _).setBox b1 patchT 2 _).setBox b2 patchT 3 _)).mono hB,
    (((hb.setCell (p := ⟨r, 0, none⟩) hr _).setCell (p := ⟨r, 1, none⟩) hr _).setCell (p := ⟨r, 2, none⟩) hr _).setCell (p := ⟨r, 3, none⟩) hr _⟩
theorem zeros_at (n : Nat) (w : World) (hn : n ≤ 1048576) :
    Calls Tryz.prog 61 #[.int .i64 n] w fun e w' => ∃ D, e = .returned (.slice (some ⟨D, 0, none⟩) n n) ∧ OwnI w.heap.size w' (.slice (some ⟨D, 0, none⟩) n n) (List.replicate n 0) ∧ Below w.heap.size w w' := by
  have hmk := fun w => run_make_row' (P := Tryz.prog) 26 2 (.int .i64 0) 8 Tryz.underlying26 infoI rfl .i64 .i64 n (by omega) (by omega) w
  have h0 := OwnI.made (B := w.heap.size) w n (Nat.le_refl _) (by unfold maxLen; omega)
  go_enter Tryz.func61, Tryz.ntmps61
  go_wp2_with fail
  go_ret
  exact ⟨_, rfl, h0, (Below.refl _ _).alloc (Nat.le_refl _) _⟩
set_option maxHeartbeats 6400000 in
set_option maxRecDepth 100000 in
theorem trimmed_v {v : Value} {x : PatchD} (w : World) (h : VPatch w v x) (hf : formedB x = true) :
    Calls Tryz.prog 26 #[v] w (RetP0 w (trimP x)) := by
  have hv := h
  have hn24 := (formed_iff.1 hf).2.2.1
  have sm := formed_small hf
  obtain ⟨p1, c1, p2, c2, p3, c3, rfl, r1, r2, r3⟩ := h
  have hm2 := r2.len
  obtain ⟨g, hg⟩ : ∃ g, g = w.heap.size := ⟨_, rfl⟩
  obtain ⟨E0, hE⟩ : ∃ E, E = (w.alloc (.cells #[.int .i64 x.inputs, .slice p1 x.tables.length c1, .slice p2 x.nodes.length c2, .slice p3 x.outputs.length c3] 28)).alloc (.cells #[.int .i64 0, .slice none 0 0, .slice none 0 0, .slice none 0 0] 28) := ⟨_, rfl⟩
  have hB0 : Below w.heap.size w E0 := by rw [hE]; exact ((Below.refl _ _).alloc (Nat.le_refl _) _).alloc (by simp) _
  have bx : Box E0 g [.int .i64 x.inputs, .slice p1 x.tables.length c1, .slice p2 x.nodes.length c2, .slice p3 x.outputs.length c3] 28 := by rw [hE, hg]; exact (Box.newAt w _ _ rfl).alloc _
  have br : Box E0 (g + 1) zPatch 28 := by rw [hE, hg]; exact Box.newAt (w.alloc _) zPatch _ (by simp)
  have HE := Lib.hid hE
  have HG := Lib.hid hg
  have i0 : w.heap.size ≤ g + 1 := by omega
  clear hE hg
  have K1 : Hid (∀ W, Below E0.heap.size E0 W → Calls Tryz.prog 27 #[.agg #[.int .i64 x.inputs, .slice p1 x.tables.length c1, .slice p2 x.nodes.length c2, .slice p3 x.outputs.length c3]] W fun e w' => ∃ u, e = .returned u ∧ OwnI W.heap.size w' u (need x) ∧ Below W.heap.size W w') := fun W hW => needed_v W (hv.below (hB0.trans (hW.mono hB0.size))) hf
  have K2 : Hid (∀ W, Calls Tryz.prog 42 #[.slice p2 x.nodes.length c2] W fun e w' => e = .returned (.int .i64 (x.nodes.length : Int)) ∧ W = w') := fun W => sizeN_any p2 x.nodes.length c2 W hm2
  have K3 : Hid (∀ W, Calls Tryz.prog 61 #[.int .i64 (x.nodes.length : Int)] W fun e w' => ∃ D, e = .returned (.slice (some ⟨D, 0, none⟩) x.nodes.length x.nodes.length) ∧ OwnI W.heap.size w' (.slice (some ⟨D, 0, none⟩) x.nodes.length x.nodes.length) (List.replicate x.nodes.length 0) ∧ Below W.heap.size W w') := fun W => zeros_at x.nodes.length W (by omega)
  have hkl := need_length x
  have HKR : Hid (∀ i ∈ need x, 0 ≤ i ∧ i < (x.nodes.length : Int)) := need_rng
  have HBY : Hid (putBy (List.replicate x.nodes.length 0) 0 (need x) = byL x.nodes.length (need x)) := rfl
  have HBL : Hid ((byL x.nodes.length (need x)).length = x.nodes.length) := byL_length _ _
  have HKP : Hid (trimP x = ⟨x.inputs, x.tables, (need x).map (keepN x.nodes (byL x.nodes.length (need x))), mapL (byL x.nodes.length (need x)) x.outputs⟩) := rfl
  have SM := Lib.hid sm
  have OKS := Lib.hid (formed_src hf)
  have HO := Lib.hid (formed_outs hf)
  generalize trimP x = KP at HKP ⊢
  generalize byL x.nodes.length (need x) = BY at HBY HBL HKP
  generalize need x = keep at K1 hkl HKR HBY HKP
  have z0 := bx.cell 0 rfl
  have z1 := bx.cell 1 rfl
  have z2 := bx.cell 2 rfl
  have z3 := bx.cell 3 rfl
  have hgl := bx.lt
  have hcur := belowDrew0 E0
  have CK : Hid (∀ W, Below E0.heap.size E0 W → W.cell? ⟨g, 0, none⟩ = some (.int .i64 x.inputs) ∧ W.cell? ⟨g, 1, none⟩ = some (.slice p1 x.tables.length c1) ∧ W.cell? ⟨g, 2, none⟩ = some (.slice p2 x.nodes.length c2) ∧ W.cell? ⟨g, 3, none⟩ = some (.slice p3 x.outputs.length c3)) := fun W hW => ⟨(hW.cell (p := ⟨g, 0, none⟩) hgl).trans z0, (hW.cell (p := ⟨g, 1, none⟩) hgl).trans z1, (hW.cell (p := ⟨g, 2, none⟩) hgl).trans z2, (hW.cell (p := ⟨g, 3, none⟩) hgl).trans z3⟩
  clear hv hf sm hm2
  go_enter Tryz.func26, Tryz.ntmps26
  go_upto_region 1 with fail
  rw [← HE.out, ← HG.out]
  go_cut [3, 4] (fun s3 s4 wr => ∃ v3 D, s3 = v3 ∧ s4 = .slice (some ⟨D, 0, none⟩) x.nodes.length x.nodes.length ∧ OwnI E0.heap.size wr v3 keep ∧ OwnI E0.heap.size wr (.slice (some ⟨D, 0, none⟩) x.nodes.length x.nodes.length) (List.replicate x.nodes.length 0) ∧ Hid (∀ k, v3.ownBlock = some k → k ≠ D) ∧ Below E0.heap.size E0 wr)
  case first =>
    go_region_held3 (fun W => W.cell? ⟨g, 0, none⟩ = some (.int .i64 x.inputs) ∧ W.cell? ⟨g, 1, none⟩ = some (.slice p1 x.tables.length c1) ∧ W.cell? ⟨g, 2, none⟩ = some (.slice p2 x.nodes.length c2) ∧ W.cell? ⟨g, 3, none⟩ = some (.slice p3 x.outputs.length c3)) (first | go_keep | exact CK.out _ hcur) (first | (go_at_call 27; refine (K1.out _ hcur).mono ?_; rintro e F1 ⟨v1, rfl, h1, hb1⟩; obtain ⟨q1, d1, rfl, -⟩ := h1.rd; (try (have SEP := sepB' hm4 h1)); (try (have hm4 := hm4.below hb1)); have hm1 := h1.mono hcur.size; have hcur := Below.via hcur hb1) | (go_at_call 42; refine (K2.out _).mono ?_; rintro e w' ⟨rfl, rfl⟩) | (go_at_call 61; refine (K3.out _).mono ?_; rintro e F4 ⟨D, rfl, h4, hb4⟩; (try (have SEP := sepB hm1 h4)); (try (have hm1 := hm1.below hb4)); have hm4 := h4.mono hcur.size; have hcur := Below.via hcur hb4))
    all_goals (go_wp2_with fail; go_meet; exact ⟨_, D, rfl, rfl, hm1, hm4, fun k hk e => SEP k hk (by rw [e]; rfl), hcur⟩)
  case rest =>
    obtain ⟨v3, D, rfl, rfl, hlist, hto, HSEP, hb1⟩ := hcut
    obtain ⟨W1, rfl⟩ : ∃ W1 : World, W1 = wc := ⟨_, rfl⟩
    clear z0 z1 z2 z3 hcur CK K1 K2 K3
    have hlist' := hlist
    obtain ⟨lq, lc, rfl, hlr⟩ := hlist'.rd
    have hDlt := hto.lt (k := D) rfl
    go_wp2_with fail
    go_loopw [5, 6, 19] (fun _ _ i wr => ∃ (k : Nat) (b : List Int), k ≤ keep.length ∧ i = .int .i64 k ∧ Hid (b.length = x.nodes.length) ∧ Hid (putBy b k (keep.drop k) = BY) ∧ OwnI E0.heap.size wr (.slice (some ⟨D, 0, none⟩) x.nodes.length x.nodes.length) b ∧ Off (· = D) W1 wr) (fun _ _ i _ => keep.length - (intOf i).toNat)
    case atStart => exact ⟨0, _, Nat.zero_le _, rfl, List.length_replicate, HBY, hto, Off.refl _ _⟩
    case round =>
      clear hto HBY
      obtain ⟨k, b, hk, rfl, HBN, HB, hown, hoff⟩ := hrel
      obtain ⟨wi, rfl⟩ : ∃ wi : World, wi = wr := ⟨_, rfl⟩
      by_cases hlt : k < keep.length
      · obtain ⟨kb, ko, rfl, hkb, hkc⟩ := hlr.pos hlt
        have hkD : kb ≠ D := HSEP.out kb rfl
        have hck : wi.cell? ⟨kb, ko + k, none⟩ = some (.int .i64 keep[k]) := (World.cell?_of_block (w := W1) (a := ⟨kb, ko + k, none⟩) (hoff.block kb hkb hkD)).trans (hkc k hlt)
        have hrk := HKR.out _ (List.getElem_mem hlt)
        obtain ⟨m, hm⟩ : ∃ m : Nat, keep[k] = m := ⟨keep[k].toNat, by omega⟩
        have HBS := Lib.hid (putBy_drop (b := b) hlt hm)
        rw [hm] at hck hrk
        have hmn : m < x.nodes.length := by omega
        have hmb : m < b.length := by rw [HBN.out]; exact hmn
        obtain ⟨-, -, hDl, hzm, hfz, hset⟩ := hown.storing (k := m) hmb
        have HST := Lib.hid (hset (k : Int))
        have HBN2 : Hid ((b.set m (k : Int)).length = x.nodes.length) := by unfold Hid; rw [List.length_set]; exact HBN.out
        clear hkc hm hrk hset
        go_wp2_with fail
        go_roundw
        case rel => exact ⟨k + 1, b.set m (k : Int), by omega, by go_num, HBN2, by unfold Hid; rw [← HBS.out]; exact HB.out, HST.out, hoff.trans ⟨rfl, rfl, rfl, by simp [World.setCell], fun j hj hs => Below.heap_setCell _ _ _ _ hs⟩⟩
        case measure => simp [intOf] <;> omega
      · obtain rfl : k = keep.length := by omega
        have HBE : Hid (b = BY) := by have := HB.out; rw [List.drop_length] at this; exact this
        obtain rfl := HBE.out
        clear HB HBE HBN
        obtain ⟨E2, rfl⟩ : ∃ E : World, E = wi := ⟨_, rfl⟩
        have hryb : RdI E2 (some ⟨D, 0, none⟩) b := by
          obtain ⟨yp, yc, ye, hr⟩ := hown.rd
          simp only [Value.slice.injEq] at ye
          rw [ye.1]; exact hr
        have hE2 : Below E0.heap.size E0 E2 := hb1.trans (hoff.below (fun j hj => by have : j = D := hj; omega) hb1.size)
        have hbw := hB0.trans (hE2.mono hB0.size)
        have hlr2 : RdI E2 lq keep := by
          obtain ⟨yp, yc, ye, hr⟩ := (hlist.keep (w' := E2) fun j hj => hoff.block j (hlist.lt hj).2 (HSEP.out j hj)).rd
          simp only [Value.slice.injEq] at ye
          rw [ye.1]; exact hr
        have brE := br.below hE2
        have bxE := bx.below hE2
        have hB2 : w.heap.size ≤ E2.heap.size := hbw.size
        clear hown hoff hlist hlr
        have KC : Hid (∀ W, Below E2.heap.size E2 W → Calls Tryz.prog 62 #[.slice p1 x.tables.length c1] W fun e w' => ∃ v L, e = .returned v ∧ OwnII W.heap.size w' v x.tables L ∧ Below W.heap.size W w') := fun W hW => clones_any W (r1.below (hbw.trans (hW.mono hbw.size))) (by have := SM.out.tables; omega) (fun t ht => by have := SM.out.rows t ht; omega)
        have KM : Hid (∀ W, Below E2.heap.size E2 W → Calls Tryz.prog 63 #[.slice p3 x.outputs.length c3, .slice (some ⟨D, 0, none⟩) x.nodes.length x.nodes.length] W fun e w' => ∃ v, e = .returned v ∧ OwnI W.heap.size w' v (mapL b x.outputs) ∧ Below W.heap.size W w') := fun W hW => by
          have := mapped_any (c := c3) (d := x.nodes.length) W (r3.below (hbw.trans (hW.mono hbw.size))) (hryb.below hW) (by have := SM.out.outs; omega) (fun s hs => by rw [HBL.out]; exact HO.out s hs)
          rw [HBL.out] at this
          exact this
        generalize mapL b x.outputs = ML at KM HKP
        have z0 := bxE.cell 0 rfl
        have z1 := bxE.cell 1 rfl
        have z3 := bxE.cell 3 rfl
        have hgE := bxE.lt
        have hcur := belowDrew0 E2
        have CK : Hid (∀ W, Below E2.heap.size E2 W → W.cell? ⟨g, 0, none⟩ = some (.int .i64 x.inputs) ∧ W.cell? ⟨g, 1, none⟩ = some (.slice p1 x.tables.length c1) ∧ W.cell? ⟨g, 3, none⟩ = some (.slice p3 x.outputs.length c3)) := fun W hW => ⟨(hW.cell (p := ⟨g, 0, none⟩) hgE).trans z0, (hW.cell (p := ⟨g, 1, none⟩) hgE).trans z1, (hW.cell (p := ⟨g, 3, none⟩) hgE).trans z3⟩
        go_upto_region 7 with fail
        go_cut [7] (fun s7 wr => ∃ s0 v1 v3 L1, s7 = .pointer (some ⟨s0, 0, none⟩) ∧ PB E2.heap.size E2 wr s0 x.inputs v1 (.slice none 0 0) v3 x.tables [] ML L1 [])
        case first =>
          go_region_held3 (fun W => W.cell? ⟨g, 0, none⟩ = some (.int .i64 x.inputs) ∧ W.cell? ⟨g, 1, none⟩ = some (.slice p1 x.tables.length c1) ∧ W.cell? ⟨g, 3, none⟩ = some (.slice p3 x.outputs.length c3)) (first | go_keep | exact CK.out _ (by (repeat (first | exact Below.refl _ _ | assumption | refine Below.setCell ?_ (by first | exact Nat.le_refl _ | omega | (simp; done) | (simp; omega)) _ | refine Below.alloc ?_ (by first | exact Nat.le_refl _ | omega | (simp; done) | (simp; omega)) _ | refine below_drewN ?_ _)))) (first | (go_at_call 62; refine (KC.out _ (by first | exact hcur | exact hcur.alloc hcur.size _)).mono ?_; rintro e F1 ⟨v1, L1, rfl, ho1, hb1'⟩; obtain ⟨q1, d1, rfl⟩ := ho1.1.sl'; (first | (have bq : Box F1 E2.heap.size zPatch 28 := Box.below (w := E2.drew.alloc _) (Box.newAt E2.drew zPatch _ rfl) hb1') | (have bq : Box F1 F3.heap.size zPatch 28 := Box.below (w := F3.alloc _) (Box.newAt F3 zPatch _ rfl) hb1') | (have bq := bq.below hb1') | skip); (try (have HP := OwnP.two31 (by first | exact hm3 | exact hm3.below ((Below.refl _ _).alloc (Nat.le_refl _) _)) ho1 hb1' (by first | exact hcur.size | exact (hcur.alloc hcur.size _).size))); have hm1 := ho1.mono (by first | exact hcur.size | exact (hcur.alloc hcur.size _).size); have hcur : Below E2.heap.size E2 F1 := Below.via (by first | exact hcur | exact hcur.alloc hcur.size _) hb1'; have hcsF1 := hcur.size; (try (have tq0 := bq.cell 0 rfl; have tq1 := bq.cell 1 rfl; have tq2 := bq.cell 2 rfl; have tq3 := bq.cell 3 rfl; have fq0 := bq.frozen 0; have fq1 := bq.frozen 1; have fq2 := bq.frozen 2; have fq3 := bq.frozen 3))) | (go_at_call 63; refine (KM.out _ (by first | exact hcur | exact hcur.alloc hcur.size _)).mono ?_; rintro e F3 ⟨v3, rfl, ho3, hb3'⟩; obtain ⟨q3, d3, rfl, -⟩ := ho3.rd; (first | (have bq : Box F3 E2.heap.size zPatch 28 := Box.below (w := E2.drew.alloc _) (Box.newAt E2.drew zPatch _ rfl) hb3') | (have bq : Box F3 F1.heap.size zPatch 28 := Box.below (w := F1.alloc _) (Box.newAt F1 zPatch _ rfl) hb3') | (have bq := bq.below hb3') | skip); (try (have HP := OwnP.two13 (by first | exact hm1 | exact hm1.below ((Below.refl _ _).alloc (Nat.le_refl _) _)) ho3 hb3' (by first | exact hcur.size | exact (hcur.alloc hcur.size _).size))); have hm3 := ho3.mono (by first | exact hcur.size | exact (hcur.alloc hcur.size _).size); have hcur : Below E2.heap.size E2 F3 := Below.via (by first | exact hcur | exact hcur.alloc hcur.size _) hb3'; have hcsF3 := hcur.size; (try (have tq0 := bq.cell 0 rfl; have tq1 := bq.cell 1 rfl; have tq2 := bq.cell 2 rfl; have tq3 := bq.cell 3 rfl; have fq0 := bq.frozen 0; have fq1 := bq.frozen 1; have fq2 := bq.frozen 2; have fq3 := bq.frozen 3))))
          all_goals (go_wp2_with fail; go_meet; first | exact ⟨_, _, _, _, rfl, PB.new HP hcur⟩ | exact ⟨_, _, _, _, rfl, PB.newB HP hcur bq (by first | exact Nat.le_refl _ | assumption)⟩)
        case rest =>
          obtain ⟨s0, v1, v3, L1, rfl, hpb⟩ := hcut
          obtain ⟨wa, rfl⟩ : ∃ wa : World, wa = wc := ⟨_, rfl⟩
          clear z0 z1 z3 hcur CK KC KM
          obtain ⟨q1, d1, e1⟩ := hpb.own.o1.sl'
          obtain ⟨q3, d3, e3, -⟩ := hpb.own.o3.rd
          subst e1 e3
          go_wp2_with fail
          go_loopw [9, 41] (fun _ i wr => ∃ (k : Nat) (v2 : Value) (L : List Value), k ≤ keep.length ∧ i = .int .i64 k ∧ PB E2.heap.size E2 wr s0 x.inputs (.slice q1 L1.length d1) v2 (.slice q3 ML.length d3) x.tables ((keep.take k).map (keepN x.nodes b)) ML L1 L) (fun _ i _ => keep.length - (intOf i).toNat)
          case atStart => exact ⟨0, _, _, Nat.zero_le _, rfl, by simpa using hpb⟩
          case round =>
            clear hpb
            obtain ⟨k, v2, L, hk, rfl, hpb⟩ := hrel
            obtain ⟨wj, rfl⟩ : ∃ wj : World, wj = wr := ⟨_, rfl⟩
            have hbel := hbw.trans (hpb.bel.mono hbw.size)
            have bxi := bxE.below hpb.bel
            have z2 := bxi.cell 2 rfl
            by_cases hlt : k < keep.length
            · obtain ⟨kb, ko, rfl, hkb, hkc⟩ := (hlr2.below hpb.bel).pos hlt
              have hck := hkc k hlt
              have hrk := HKR.out _ (List.getElem_mem hlt)
              obtain ⟨m, hm⟩ : ∃ m : Nat, keep[k] = m := ⟨keep[k].toNat, by omega⟩
              have HS : Hid ((keep.take (k + 1)).map (keepN x.nodes b) = (keep.take k).map (keepN x.nodes b) ++ [keepN x.nodes b (m : Int)]) := by unfold Hid; rw [keepN_succ hlt, hm]
              rw [hm] at hck hrk
              have hmn : m < x.nodes.length := by omega
              have hlL : ((keep.take k).map (keepN x.nodes b)).length < 1099511627776 := by rw [List.length_map, List.length_take]; omega
              have hyk : keepN x.nodes b (m : Int) = { x.nodes[m] with src := mapL b x.nodes[m].src } := by unfold keepN; rw [nodeAt_eq hmn]
              generalize keepN x.nodes b (m : Int) = y at HS hyk
              generalize (keep.take k).map (keepN x.nodes b) = ns at hpb hlL HS
              obtain ⟨q2, d2, e2⟩ := hpb.own.o2.sl
              subst e2
              obtain ⟨nb, no, rfl, hnb, hnc⟩ := (r2.below hbel).pos hmn
              have hnd := hnc m hmn
              have hlk := SM.out.srcs _ (List.getElem_mem hmn)
              have hsr := OKS.out.rng _ (List.getElem_mem hmn)
              generalize x.nodes[m] = nd at hnd hlk hsr hyk
              obtain ⟨yk, ya, yb, ysrc⟩ := y
              simp only [NodeD.mk.injEq] at hyk
              obtain ⟨rfl, rfl, rfl, rfl⟩ := hyk
              clear hkc hm hrk hnc
              obtain ⟨y0, y1, y2, q, d, y3, hrn⟩ := hnd
              obtain ⟨n0, hn0⟩ : ∃ n, n = wj.heap.size := ⟨_, rfl⟩
              obtain ⟨F, hF⟩ : ∃ F, F = wj.alloc (.cells #[.int .i64 nd.kind, .int .i64 nd.a, .int .i64 nd.b, .slice q nd.src.length d] 35) := ⟨_, rfl⟩
              have hbF : Below wj.heap.size wj F := by rw [hF]; exact (Below.refl _ _).alloc (Nat.le_refl _) _
              have bn : Box F n0 [.int .i64 nd.kind, .int .i64 nd.a, .int .i64 nd.b, .slice q nd.src.length d] 35 := by rw [hF]; exact Box.newAt _ _ _ hn0
              have hrby : RdI F (some ⟨D, 0, none⟩) b := (hryb.below hpb.bel).below hbF
              have MP : Hid (Calls Tryz.prog 63 #[.slice q nd.src.length d, .slice (some ⟨D, 0, none⟩) x.nodes.length x.nodes.length] F fun e w' => ∃ v, e = .returned v ∧ OwnI F.heap.size w' v (mapL b nd.src) ∧ Below F.heap.size F w') := by
                have := mapped_any (c := d) (d := x.nodes.length) F (hrn.below hbF) hrby (by omega) (fun s hs => by rw [HBL.out]; exact hsr s hs)
                rw [HBL.out] at this
                exact this
              have HF := Lib.hid hF
              have HN0 := Lib.hid hn0
              have hn0' : wj.heap.size ≤ n0 := by omega
              clear hF hn0 hrn hsr hrby
              have t3 := bn.cell 3 rfl
              go_upto_region 12 with fail
              rw [← HF.out, ← HN0.out]
              clear z2 y0 y1 y2 y3 hck
              go_wp2_with fail
              refine MP.out.mono ?_
              rintro e W2 ⟨u, rfl, hu, hb1'⟩
              have hb1x : Below wj.heap.size wj W2 := hbF.trans (hb1'.mono hbF.size)
              have bn1 := bn.below hb1'
              have hnew := hpb.fresh hu hbF.size
              have hsj := hpb.bel.size
              obtain ⟨uq, uc, rfl, -⟩ := hu.rd
              clear t3
              have t3 := bn1.cell 3 rfl
              have f3 := bn1.frozen 3
              have bn2 := bn1.set 3 (.slice uq (mapL b nd.src).length uc)
              have hun : ∀ j, (Value.slice uq (mapL b nd.src).length uc).ownBlock = some j → j ≠ n0 := fun j hj => by have h1 := (hu.lt hj).1; have h2 := bn.lt; omega
              have hu2 := (hu.mono (B' := E2.heap.size) (by have := hbF.size; omega)).keep (w' := W2.setCell ⟨n0, 3, none⟩ (.slice uq (mapL b nd.src).length uc)) fun j hj => Below.heap_setCell _ _ _ _ (hun j hj)
              have hb2' := hb1x.setCell (p := ⟨n0, 3, none⟩) hn0' (.slice uq (mapL b nd.src).length uc)
              generalize (mapL b nd.src).length = ul at hu hun hu2 hb2' bn2 hnew ⊢
              obtain ⟨W3, hW3⟩ : ∃ W, W = W2.setCell ⟨n0, 3, none⟩ (.slice uq ul uc) := ⟨_, rfl⟩
              rw [← hW3] at bn2 hu2 hb2'
              have HW3 := Lib.hid hW3
              clear hW3
              have hpb2 := hpb.below hb2'
              have y0 := bn2.cell 0 rfl
              have y1 := bn2.cell 1 rfl
              have y2 := bn2.cell 2 rfl
              have y3 := bn2.cell 3 rfl
              have s2 := hpb2.out.cell 2 rfl
              have hBs : E2.heap.size ≤ W3.heap.size := hpb2.bel.size
              have hown := hpb2.own.o2
              go_upto_region 13 with fail
              rw [← HW3.out]
              clear t3 f3
              go_wp2_with (first | (at_builtin; (refine wpList_append_node rfl _ _ rfl ⟨nd.kind, nd.a, nd.b, mapL b nd.src⟩ rfl rfl rfl rfl hown rfl rfl hlL hBs ?_; intro v' W4 hv hg hk3; obtain ⟨vp, vc, rfl⟩ := hv.slS; have PN := hpb2.node hu2 hnew hv hg; have c3 := PN.1.1; have f3 := PN.1.2)) | fail)
              have PN2 := Lib.hid PN.2
              clear PN c3 f3
              go_roundw
              case rel => exact ⟨k + 1, _, _, by omega, by go_num, by rw [HS.out]; exact PN2.out⟩
              case measure => simp [intOf] <;> omega
            · obtain rfl : k = keep.length := by omega
              rw [List.take_length] at hpb
              obtain ⟨q2, d2, e2⟩ := hpb.own.o2.sl
              subst e2
              have bri := brE.below hpb.bel
              obtain ⟨W', hW', bW, hret⟩ := hpb.done bri hbel i0 hB2
              subst hW'
              have a0 := hpb.out.cell 0 rfl
              have a1 := hpb.out.cell 1 rfl
              have a2 := hpb.out.cell 2 rfl
              have a3 := hpb.out.cell 3 rfl
              have k0 := bri.cell 0 rfl
              have k1 := bri.cell 1 rfl
              have k2 := bri.cell 2 rfl
              have k3 := bri.cell 3 rfl
              have g0 := bri.frozen 0
              have g1 := bri.frozen 1
              have g2 := bri.frozen 2
              have g3 := bri.frozen 3
              have m0 := bW.cell 0 rfl
              have m1 := bW.cell 1 rfl
              have m2 := bW.cell 2 rfl
              have m3 := bW.cell 3 rfl
              have HRET := Lib.hid hret
              clear hret bW bri hpb z2
              generalize keep.map (keepN x.nodes b) = ns at *
              go_wp2_with fail
              refine bodyPost_ret (v := .agg #[.int .i64 x.inputs, .slice q1 L1.length d1, .slice q2 ns.length d2, .slice q3 ML.length d3]) (by simp [results, Tryz.results26, go_sem, *]) rfl ?_
              rw [HKP.out]
              exact HRET.out
end Go.Proofs.YtaapkpjokmoekaaGreatDoor

namespace Go.Proofs.YtaapkpjokmoekaaGreatDoor
open Go.ChangeShapes Go.WideShapes Go.ChangeAt Go.RowKit
set_option linter.unusedVariables false

def linK (n : NodeD) : Bool := kindLinear n.kind
def linP (x : PatchD) : Bool := okB x && (need x).all fun i => linK (nodeAt x.nodes i)
theorem trimP_lin (x : PatchD) : (trimP x).nodes.all linK = (need x).all fun i => linK (nodeAt x.nodes i) := by
  show ((need x).map (keepN x.nodes _)).all linK = _
  rw [List.all_map]
  rfl
end Go.Proofs.YtaapkpjokmoekaaGreatDoor

namespace Go.Proofs.YtaapkpjokmoekaaGreatDoor
open Go.ChangeShapes Go.WideShapes Go.ChangeAt Go.RowKit
set_option linter.unusedVariables false

def cntS (x : PatchD) : Int := if okB x then (lens ((need x).map fun i => startL (nodeAt x.nodes i)) : Int) else 0
theorem trimP_count (x : PatchD) : lens ((trimP x).nodes.map startL) = lens ((need x).map fun i => startL (nodeAt x.nodes i)) := by
  show lens (((need x).map (keepN x.nodes _)).map startL) = _
  rw [List.map_map]
  rfl
theorem keepN_ok {x : PatchD} (h : formedB x = true) {keep : List Int} (hk : keep.length ≤ 24) {i : Int} (h0 : 0 ≤ i) (h1 : i < (x.nodes.length : Int)) : nodeB (keepN x.nodes (byL x.nodes.length keep) i) 4 = true := by
  have hf := formed_iff.1 h
  obtain ⟨m, rfl⟩ : ∃ m : Nat, i = m := ⟨i.toNat, by omega⟩
  have hm : m < x.nodes.length := by omega
  have hn := hf.2.2.2.2.1 _ (List.getElem_mem hm)
  have ht := hf.2.1
  unfold tablesB at ht
  unfold ndB nodeB at hn
  simp only [Bool.and_eq_true, decide_eq_true_eq, Bool.or_eq_true] at hn ht
  unfold keepN nodeB
  rw [nodeAt_eq hm]
  simp only [Bool.and_eq_true, decide_eq_true_eq, Bool.or_eq_true, List.all_eq_true, inB_iff, mapL_length]
  refine ⟨⟨⟨⟨inB_iff.1 hn.1.1.1.1.1.1, hn.1.1.1.1.1.2⟩, fun s hs => ?_⟩, hn.1.1.1.2⟩, ?_⟩
  · have := mapL_rng (byL_rng (n := x.nodes.length) hk (by omega)) (by omega) s hs
    omega
  · rcases hn.1.1.2 with h | h
    · exact .inl h
    · exact .inr (by omega)
theorem trimP_ok {x : PatchD} (h : okB x = true) : (∀ n ∈ (trimP x).nodes, nodeB n 4 = true) ∧ (trimP x).nodes.length ≤ 24 := by
  have h24 := okB_n24 h
  have hl := need_length x
  constructor
  · intro n hn
    obtain ⟨i, hi, rfl⟩ := List.mem_map.1 hn
    exact keepN_ok (okB_len h).1 (by omega) (need_rng i hi).1 (need_rng i hi).2
  · show ((need x).map _).length ≤ 24
    rw [List.length_map]; omega
theorem lens16 : ∀ (ns : List NodeD), (∀ n ∈ ns, nodeB n 4 = true) → lens (ns.map startL) ≤ 16 * ns.length
  | [], _ => by simp [lens]
  | n :: ns, h => by
    have h1 := startL_length (startOk_of (h n (List.mem_cons_self ..)))
    have h2 := lens16 ns fun m hm => h m (List.mem_cons_of_mem _ hm)
    rw [List.map_cons, lens_cons, List.length_cons]
    omega
theorem lens_map_succ {α : Type} {f : α → List Int} {xs : List α} {k : Nat} (h : k < xs.length) : lens ((xs.take (k + 1)).map f) = lens ((xs.take k).map f) + (f xs[k]).length := by
  rw [List.take_succ_eq_append_getElem h, List.map_append, lens_append]
  congr 1
end Go.Proofs.YtaapkpjokmoekaaGreatDoor

namespace Go.Proofs.YtaapkpjokmoekaaGreatDoor
open Go.ChangeShapes Go.WideShapes Go.ChangeAt Go.RowKit
set_option linter.unusedVariables false

/-- a patch and a code, as results -/
def RetPC (w : World) (x : PatchD) (code : Int) (e : Ending) (w' : World) : Prop := ∃ u L, e = .returned (.tuple #[u, .int .i64 code]) ∧ OwnPatch w.heap.size w' u x L ∧ Dis L ∧ Below w.heap.size w w'
theorem RetPC.mk {w w' : World} {x : PatchD} {code : Int} {v1 v2 v3 : Value} {L1 L : List Value} {B : Nat} {inp : Int} (hi : inp = x.inputs) (h : OwnP B w' v1 v2 v3 x.tables x.nodes x.outputs L1 L) (hB : w.heap.size ≤ B) (hb : Below w.heap.size w w') :
    RetPC w x code (.returned (.tuple #[.agg #[.int .i64 inp, v1, v2, v3], .int .i64 code])) w' := by
  subst hi
  have hp := (h.mono hB).patch x.inputs
  exact ⟨_, _, rfl, hp.1, hp.2, hb⟩
def noPatch : PatchD := ⟨0, [], [], []⟩
theorem OwnP.none0 (B : Nat) (w : World) : OwnP B w (.slice none 0 0) (.slice none 0 0) (.slice none 0 0) [] [] [] [] [] := OwnP.nil w (OwnI.nil B w)
def trimRes (x : PatchD) : PatchD := if okB x then trimP x else noPatch
theorem lens_rows : ∀ (ts : List (List Int)) (m : Nat), (∀ t ∈ ts, t.length ≤ m) → lens ts ≤ m * ts.length
  | [], m, _ => by simp [lens]
  | t :: ts, m, h => by
    have h1 := h t (List.mem_cons_self ..)
    have h2 := lens_rows ts m fun u hu => h u (List.mem_cons_of_mem _ hu)
    rw [lens_cons, List.length_cons, Nat.mul_add]
    omega
theorem cntPatch_small {x : PatchD} (sm : Small x) : cntPatch x ≤ 6291456 := by
  have h1 := lens_rows x.tables 1000 sm.rows
  have h2 := lens_rows (x.nodes.map NodeD.src) 1000 fun t ht => by
    obtain ⟨n, hn, rfl⟩ := List.mem_map.1 ht
    exact sm.srcs n hn
  have h3 := sm.tables
  have h4 := sm.nodes
  have h5 := sm.outs
  rw [List.length_map] at h2
  unfold cntPatch cntII cntNodeS cntI
  omega
theorem trimP_small {x : PatchD} (h : okB x = true) : Small (trimP x) := by
  have sm := formed_small (okB_len h).1
  have hk := trimP_ok h
  refine ⟨sm.tables, sm.rows, by omega, fun n hn => ?_, ?_⟩
  · obtain ⟨i, hi, rfl⟩ := List.mem_map.1 hn
    show (mapL _ _).length ≤ 1000
    rw [mapL_length]
    obtain ⟨m, rfl⟩ : ∃ m : Nat, i = m := ⟨i.toNat, by have := need_rng i hi; omega⟩
    have hm : m < x.nodes.length := by have := need_rng _ hi; omega
    rw [nodeAt_eq hm]
    exact sm.srcs _ (List.getElem_mem hm)
  · show (mapL _ _).length ≤ 1000
    rw [mapL_length]; exact sm.outs
theorem trimRes_small (x : PatchD) : cntPatch (trimRes x) ≤ 6291456 := by
  unfold trimRes
  split
  · rename_i h
    exact cntPatch_small (trimP_small h)
  · exact cntPatch_small ⟨by simp [noPatch], by simp [noPatch], by simp [noPatch], by simp [noPatch], by simp [noPatch]⟩
set_option maxHeartbeats 1600000 in
set_option maxRecDepth 100000 in
theorem implTrimPatch_v {v : Value} {x : PatchD} (w : World) (h : VPatch w v x) :
    Calls Tryz.prog 11 #[v] w (RetPC w (trimRes x) (okCode x)) := by
  have hv := h
  obtain ⟨p1, c1, p2, c2, p3, c3, rfl, r1, r2, r3⟩ := h
  clear r1 r2 r3
  obtain ⟨g, hg⟩ : ∃ g, g = w.heap.size := ⟨_, rfl⟩
  obtain ⟨E0, hE⟩ : ∃ E, E = (w.alloc (.cells #[.int .i64 x.inputs, .slice p1 x.tables.length c1, .slice p2 x.nodes.length c2, .slice p3 x.outputs.length c3] 28)).alloc (.cells #[.int .i64 0, .slice none 0 0, .slice none 0 0, .slice none 0 0] 28) := ⟨_, rfl⟩
  have hB0 : Below w.heap.size w E0 := by rw [hE]; exact ((Below.refl _ _).alloc (Nat.le_refl _) _).alloc (by simp) _
  have bx : Box E0 g [.int .i64 x.inputs, .slice p1 x.tables.length c1, .slice p2 x.nodes.length c2, .slice p3 x.outputs.length c3] 28 := by rw [hE, hg]; exact (Box.newAt w _ _ rfl).alloc _
  have br : Box E0 (g + 1) zPatch 28 := by rw [hE, hg]; exact Box.newAt (w.alloc _) zPatch _ (by simp)
  have HE := Lib.hid hE
  have HG := Lib.hid hg
  have i0 : w.heap.size ≤ g + 1 := by omega
  clear hE hg
  have OK := Lib.hid (isPatch_v _ (hv.below hB0))
  have fin : ∀ (W : World) (v1 v2 v3 : Value) (y : PatchD) (L1 L : List Value) (B : Nat) (code : Int), w.heap.size ≤ B → Below E0.heap.size E0 W → OwnP B W v1 v2 v3 y.tables y.nodes y.outputs L1 L →
      (Box ((((W.setCell ⟨g + 1, 0, none⟩ (.int .i64 y.inputs)).setCell ⟨g + 1, 1, none⟩ v1).setCell ⟨g + 1, 2, none⟩ v2).setCell ⟨g + 1, 3, none⟩ v3) (g + 1) [.int .i64 y.inputs, v1, v2, v3] 28) ∧
      RetPC w y code (.returned (.tuple #[.agg #[.int .i64 y.inputs, v1, v2, v3], .int .i64 code])) ((((W.setCell ⟨g + 1, 0, none⟩ (.int .i64 y.inputs)).setCell ⟨g + 1, 1, none⟩ v1).setCell ⟨g + 1, 2, none⟩ v2).setCell ⟨g + 1, 3, none⟩ v3) := fun W v1 v2 v3 y L1 L B code hB hW hop => by
    have hd := OwnP.done (w := w) (inp := y.inputs) hop (br.below hW) (hB0.trans (hW.mono hB0.size)) i0 hB
    exact ⟨hd.1, RetPC.mk rfl hd.2.1 (Nat.le_refl _) hd.2.2⟩
  have FIN := Lib.hid fin
  clear fin
  have z0 := bx.cell 0 rfl
  have z1 := bx.cell 1 rfl
  have z2 := bx.cell 2 rfl
  have z3 := bx.cell 3 rfl
  cases hF : okB x
  case false =>
    rw [hF] at OK
    rw [show trimRes x = noPatch from by unfold trimRes; rw [hF]; rfl, show okCode x = 1 from by unfold okCode; rw [hF]; rfl]
    go_enter Tryz.func11, Tryz.ntmps11
    go_upto_region 1 with fail
    rw [← HE.out, ← HG.out]
    go_wp2_with fail
    refine OK.out.mono ?_
    rintro e W1 ⟨rfl, hb1⟩
    clear z0 z1 z2 z3
    have bri := br.below hb1
    obtain ⟨bW, hret⟩ := FIN.out W1 _ _ _ noPatch [] [] w.heap.size 1 (Nat.le_refl _) hb1 (OwnP.none0 _ _)
    simp only [noPatch] at bW
    have k0 := bri.cell 0 rfl
    have k1 := bri.cell 1 rfl
    have k2 := bri.cell 2 rfl
    have k3 := bri.cell 3 rfl
    have g0 := bri.frozen 0
    have g1 := bri.frozen 1
    have g2 := bri.frozen 2
    have g3 := bri.frozen 3
    have m0 := bW.cell 0 rfl
    have m1 := bW.cell 1 rfl
    have m2 := bW.cell 2 rfl
    have m3 := bW.cell 3 rfl
    have HRET := Lib.hid hret
    clear hret bW bri
    go_wp2_with fail
    refine bodyPost_ret (v := .tuple #[.agg #[.int .i64 0, .slice none 0 0, .slice none 0 0, .slice none 0 0], .int .i64 1]) (by simp [results, Tryz.results11, go_sem, *]) rfl ?_
    exact HRET.out
  rw [hF] at OK
  rw [show trimRes x = trimP x from by unfold trimRes; rw [hF]; rfl, show okCode x = 0 from by unfold okCode; rw [hF]; rfl]
  have hf := (okB_len hF).1
  have K1 : Hid (∀ W, Below E0.heap.size E0 W → Calls Tryz.prog 26 #[.agg #[.int .i64 x.inputs, .slice p1 x.tables.length c1, .slice p2 x.nodes.length c2, .slice p3 x.outputs.length c3]] W (RetP0 W (trimP x))) := fun W hW => trimmed_v W (hv.below (hB0.trans (hW.mono hB0.size))) hf
  generalize trimP x = KP at K1 ⊢
  clear hf hv
  go_enter Tryz.func11, Tryz.ntmps11
  go_upto_region 1 with fail
  rw [← HE.out, ← HG.out]
  go_wp2_with fail
  refine OK.out.mono ?_
  rintro e W1 ⟨rfl, hb1⟩
  have bx1 := bx.below hb1
  clear z0 z1 z2 z3
  have z0 := bx1.cell 0 rfl
  have z1 := bx1.cell 1 rfl
  have z2 := bx1.cell 2 rfl
  have z3 := bx1.cell 3 rfl
  go_wp2_with fail
  refine (K1.out W1 hb1).mono ?_
  rintro e W3 ⟨v1, v2, v3, L1, L, rfl, hop, hb3⟩
  have hb13 := Below.via hb1 hb3
  obtain ⟨q1, d1, e1⟩ := hop.o1.sl'
  obtain ⟨q2, d2, e2⟩ := hop.o2.sl
  obtain ⟨q3, d3, e3, -⟩ := hop.o3.rd
  subst e1 e2 e3
  have bri := br.below hb13
  obtain ⟨bW, hret⟩ := FIN.out W3 _ _ _ KP L1 L W1.heap.size 0 (Nat.le_trans hB0.size hb1.size) hb13 hop
  clear z0 z1 z2 z3
  have k0 := bri.cell 0 rfl
  have k1 := bri.cell 1 rfl
  have k2 := bri.cell 2 rfl
  have k3 := bri.cell 3 rfl
  have g0 := bri.frozen 0
  have g1 := bri.frozen 1
  have g2 := bri.frozen 2
  have g3 := bri.frozen 3
  have m0 := bW.cell 0 rfl
  have m1 := bW.cell 1 rfl
  have m2 := bW.cell 2 rfl
  have m3 := bW.cell 3 rfl
  have HRET := Lib.hid hret
  clear hret bW bri hop
  go_wp2_with fail
  refine bodyPost_ret (v := .tuple #[.agg #[.int .i64 KP.inputs, .slice q1 L1.length d1, .slice q2 KP.nodes.length d2, .slice q3 KP.outputs.length d3], .int .i64 0]) (by simp [results, Tryz.results11, go_sem, *]) rfl ?_
  exact HRET.out
end Go.Proofs.YtaapkpjokmoekaaGreatDoor
