/-
  The state of a patch at the beginning: the reference's side.
-/
import Derived.Test.YtalomhakmfknjaaPatT
namespace Go.Proofs.Ytalomhakmfknjaa
open Go.ChangeShapes Go.WideShapes Go.ChangeAt Go.RowKit Go.Sort
set_option linter.unusedVariables false

theorem OwnV.neBox {B : Nat} {w : World} {E T : TypeId} {v : Value} {L cs : List Value} {s : Nat} (h : OwnV B w E v L) (hb : Box w s cs T) (hT : E ≠ T) : v.ownBlock ≠ some s := by
  intro e
  rcases h.cases with ⟨rfl, -⟩ | ⟨g, cap, rfl, -, -, ⟨cur, hg⟩, -⟩
  · simp [Value.ownBlock] at e
  · simp only [Value.ownBlock, Option.some.injEq] at e
    subst e
    unfold Box at hb
    rw [hg] at hb
    simp only [Option.some.injEq, Obj.cells.injEq] at hb
    exact hT hb.2.1
theorem OwnII.blkNeBox {B : Nat} {w : World} {v : Value} {xss : List (List Int)} {L cs : List Value} {s : Nat} {T : TypeId} (h : OwnII B w v xss L) (hb : Box w s cs T) (hT2 : ¬ mkT T) {k : Nat} (hk : Blk L k) : k ≠ s := by
  rintro rfl
  obtain ⟨cur, T', hg, hm⟩ := h.ints k hk
  rw [Box, hg] at hb
  simp only [Option.some.injEq, Obj.cells.injEq] at hb
  rw [hb.2.1] at hm
  exact hT2 hm
theorem OwnII.setBox {B : Nat} {w : World} {v : Value} {xss : List (List Int)} {L cs : List Value} {s : Nat} {T : TypeId} (h : OwnII B w v xss L) (hb : Box w s cs T) (hT : (24 : TypeId) ≠ T) (hT2 : ¬ mkT T) (u : Value) : OwnII B (w.setCell ⟨s, 0, none⟩ u) v xss L :=
  ⟨h.1.keep fun k hk => Below.heap_setCell _ _ _ _ (fun e => h.1.neBox hb hT (by rw [hk]; exact congrArg some e)), h.2.1.keep fun k hk => Below.heap_setCell _ _ _ _ (h.blkNeBox hb hT2 hk), h.2.2⟩
set_option maxHeartbeats 3200000 in
set_option maxRecDepth 100000 in
theorem l08Start_any {g : Nat} {x : PatchD} (w : World) (h : PPatch w g x) (ok : ∀ n ∈ x.nodes, StartOk n) (hn : x.nodes.length ≤ 24) :
    Calls Try.prog 52 #[.pointer (some ⟨g, 0, none⟩)] w fun e w' => RetSt w.heap.size w (x.nodes.map startL) e w' := by
  obtain ⟨p1, c1, p2, c2, p3, c3, bx, r1, r2, r3⟩ := h
  clear r1 r3
  have hgl := bx.lt
  obtain ⟨r0, hr0⟩ : ∃ r, r = w.heap.size := ⟨_, rfl⟩
  obtain ⟨s0, hs0⟩ : ∃ s, s = w.heap.size + 1 + 1 := ⟨_, rfl⟩
  obtain ⟨m0, hm0⟩ : ∃ m, m = w.heap.size + 1 := ⟨_, rfl⟩
  obtain ⟨E0, hE0⟩ : ∃ E, E = ((w.alloc (.cells #[.slice none 0 0] 29)).alloc (.cells #[] 24)).alloc (.cells #[.slice (some ⟨w.heap.size + 1, 0, none⟩) 0 0] 29) := ⟨_, rfl⟩
  have hB0 : Below w.heap.size w E0 := by rw [hE0]; exact (((Below.refl _ _).alloc (Nat.le_refl _) _).alloc (by simp) _).alloc (by simp; omega) _
  have br : Box E0 r0 [.slice none 0 0] 29 := by rw [hE0, hr0]; exact ((Box.newAt w [.slice none 0 0] _ rfl).alloc _).alloc _
  have bs : Box E0 s0 [.slice (some ⟨m0, 0, none⟩) 0 0] 29 := by rw [hE0, hs0, hm0]; exact Box.newAt ((w.alloc _).alloc _) [.slice (some ⟨w.heap.size + 1, 0, none⟩) 0 0] _ (by simp)
  have HE := Lib.hid hE0
  have HR0 := Lib.hid hr0
  have HS0 := Lib.hid hs0
  have i1 : w.heap.size ≤ r0 := by omega
  have i2 : r0 < s0 := by omega
  have HM0 := Lib.hid hm0
  have i3 : m0 = r0 + 1 := by omega
  have I3 := Lib.hid i3
  have h0 : OwnII (r0 + 1) E0 (.slice (some ⟨m0, 0, none⟩) 0 0) [] [] := by
    have h1 := (OwnII.empty (B := w.heap.size + 1) (w.alloc (.cells #[.slice none 0 0] 29)) (by simp)).below ((Below.refl _ _).alloc (Nat.le_refl _) (.cells #[.slice (some ⟨w.heap.size + 1, 0, none⟩) 0 0] 29))
    rw [World.size_alloc] at h1
    rw [hE0, hm0, hr0]; exact h1
  have bx1 := bx.below hB0
  clear hE0 hr0 hs0 hm0 i3
  have z2 := bx.cell 2 rfl
  go_enter Try.func52, Try.ntmps52
  go_wp2_with fail
  rw [← HE.out, ← HS0.out, ← HR0.out]
  clear z2
  have HOK := Lib.hid ok
  clear ok
  go_loopw [4] (fun i wr => ∃ k : Nat, k ≤ x.nodes.length ∧ i = .int .i64 k ∧ ∃ u L, Box wr s0 [u] 29 ∧ Box wr r0 [.slice none 0 0] 29 ∧ OwnII (r0 + 1) wr u ((x.nodes.take k).map startL) L ∧ Below w.heap.size w wr) (fun i _ => x.nodes.length - (intOf i).toNat)
  case atStart => exact ⟨0, Nat.zero_le _, rfl, .slice (some ⟨m0, 0, none⟩) 0 0, [], bs, br, by simpa using h0, hB0⟩
  case round =>
    clear bs br hB0 HE h0 bx1
    obtain ⟨k, hk, rfl, u, L, hbs, hbr, hown, hbel⟩ := hrel
    obtain ⟨wi, rfl⟩ : ∃ wi : World, wi = wr := ⟨_, rfl⟩
    by_cases hlt2 : k < x.nodes.length
    · obtain ⟨b, o, rfl, hb, hc⟩ := (r2.below hbel).pos hlt2
      have hnd := hc k hlt2
      clear hc
      have OKn := Lib.hid (HOK.out _ (List.getElem_mem hlt2))
      have hst : Hid ((x.nodes.take (k + 1)).map startL = (x.nodes.take k).map startL ++ [startL x.nodes[k]]) := by
        unfold Hid; rw [List.take_succ_eq_append_getElem hlt2, List.map_append]; rfl
      have hlL : L.length < 1099511627776 := by have := hown.2.1.1; simp at this; omega
      generalize x.nodes[k] = nd at hnd OKn hst
      obtain ⟨F, hF⟩ : ∃ F, F = wi := ⟨_, rfl⟩
      have hBF : Below wi.heap.size wi F := by rw [hF]; exact Below.refl _ _
      have HF := Lib.hid hF
      have hsF := hBF.size
      clear hF
      have hbsF := hbs.below hBF
      have hbrF := hbr.below hBF
      have hownF := hown.below hBF
      have hndF := hnd.below hBF
      have hbelF := hbel.trans (hBF.mono hbel.size)
      have bxF := (bx.below hbel).below hBF
      have zn := bxF.cell 2 rfl
      have zw := (bx.below hbel).cell 2 rfl
      have ltb := bxF.lt
      have hcur := belowDrew F
      have t0 := hbsF.cell 0 rfl
      have lt0 := hbsF.lt
      have lt1 := hbs.lt
      have K0 : Hid (∀ W, Below F.heap.size F W → Calls Try.prog 80 #[.pointer (some ⟨b, o + k * 4, none⟩)] W fun e w' => ∃ u, e = .returned u ∧ OwnI W.heap.size w' u (startL nd) ∧ Below W.heap.size W w') := fun W hW =>
        l06Start_any (x := nd) W (hndF.below hW) OKn.out
      have HBS := Lib.hid hbsF
      have HBR := Lib.hid hbrF
      have HOW := Lib.hid hown
      have HBE := Lib.hid hbelF
      clear hbs hbr hown hbel hnd hndF hbsF hbrF hbelF bxF
      go_wp2_with fail
      rw [← HF.out]
      clear HF
      go_region_law (first | (refine step_append_val rfl _ _ rfl 24 (.slice none 0 0) Try.underlying22 infoII rfl (by omega) rfl own2.1 rfl rfl hlL hBs ?_; intro v' W3 ho3 o1 o2 o3 hs3 hk3; obtain ⟨vp, vn, vc, rfl⟩ := ho3.sl; have c3 := (World.cell?_of_block (w := W2) (a := ⟨s0, 0, none⟩) (hk3 _ lt2 hne2)).trans t0; have f3 := ((HBS.out.below hcur).keep (hk3 _ lt2 hne2)).frozen 0) | (go_simp; go_at_call 80; refine (K0.out _ hcur).mono ?_; rintro e W2 ⟨uu, rfl, hu, hb2⟩; obtain ⟨sp, sc, rfl, -⟩ := hu.rd; have hz := hcur.size; have hcur := hcur.trans (hb2.mono hcur.size); have t0 := (hcur.cell (p := ⟨s0, 0, none⟩) lt0).trans t0; have own2 := hownF.below hcur; have lt2 := Nat.lt_of_lt_of_le lt0 hcur.size; have zn := (hcur.cell (p := ⟨g, 2, none⟩) ltb).trans zn; have hBs : r0 + 1 ≤ W2.heap.size := Nat.le_trans i2 (Nat.le_of_lt lt2); have hne2 : u.ownBlock ≠ some s0 := own2.1.neBox (HBS.out.below hcur) (by decide)))
      all_goals
        have bs2 := HBS.out.below hcur
        have br2 := HBR.out.below hcur
        have hw2 : Below w.heap.size w W2 := HBE.out.trans (hcur.mono HBE.out.size)
        have hw3 : Below w.heap.size w W3 := hw2.trans ⟨o1.symm, o2.symm, o3.symm, hs3, fun b' hb' => hk3 b' (Nat.lt_of_lt_of_le hb' hw2.size) (fun e => by have := (own2.1.lt e).1; omega)⟩
        have bs3 := bs2.keep (hk3 _ lt2 hne2)
        have br3 := br2.keep (hk3 _ (by omega) (fun e => by have := (own2.1.lt e).1; omega))
        have own3 := own2.snoc (hu.mono (show r0 + 1 ≤ F.drew.heap.size from Nat.le_trans i2 (Nat.le_of_lt lt0))) (fun b' hx hbk => by have h1 := (hu.lt hx).1; have h2 := (HOW.out.2.1.blk hbk).2.1; have h3 : F.heap.size ≤ b' := h1; omega) ho3 hk3
        rw [← hst.out] at own3
        have bs4 := Lib.hid (bs3.set 0 (.slice vp vn vc))
        have br4 := Lib.hid (br3.other (a := ⟨s0, 0, none⟩) (by simp; omega) (.slice vp vn vc))
        have own4 := Lib.hid (own3.setBox bs3 (by decide) (by decide) (.slice vp vn vc))
        have hb4 : Hid (Below w.heap.size w (W3.setCell ⟨s0, 0, none⟩ (.slice vp vn vc))) := hw3.setCell (by simp; omega) _
        clear bs2 br2 hw2 hw3 bs3 br3 own3 own2 hu hk3 hs3 o1 o2 o3 ho3 t0 c3 f3 hne2 hBs
        go_wp2_with fail
        go_roundw
        case rel => exact ⟨k + 1, by omega, by go_num, _, _, bs4.out, br4.out, own4.out, hb4.out⟩
        case measure => simp [intOf] <;> omega
    · obtain rfl : k = x.nodes.length := by omega
      obtain ⟨up, un, uc, rfl⟩ := hown.1.sl
      have zw := (bx.below hbel).cell 2 rfl
      have t0 := hbs.cell 0 rfl
      have tf := hbr.frozen 0
      have tr := hbr.cell 0 rfl
      rw [List.take_length] at hown
      have hfin : RetSt w.heap.size w (x.nodes.map startL) (.returned (.agg #[.slice up un uc])) (wi.setCell ⟨r0, 0, none⟩ (.slice up un uc)) := ⟨_, L, rfl, ⟨_, L, rfl, rfl, (hown.keeps (w' := wi.setCell ⟨r0, 0, none⟩ (.slice up un uc)) fun b hb _ => Below.heap_setCell _ _ _ _ (by simp; omega)).mono (by omega)⟩, hbel.setCell (by simp; omega) _⟩
      have HFIN := Lib.hid hfin
      have hread : (wi.setCell ⟨r0, 0, none⟩ (.slice up un uc)).cell? ⟨r0, 0, none⟩ = some (.slice up un uc) := (hbr.set 0 (.slice up un uc)).cell 0 rfl
      clear hfin
      go_wp2_with fail
      refine bodyPost_ret (v := .agg #[.slice up un uc]) (by simp [results, Try.results52, go_sem, *]) rfl ?_
      exact HFIN.out
end Go.Proofs.Ytalomhakmfknjaa
