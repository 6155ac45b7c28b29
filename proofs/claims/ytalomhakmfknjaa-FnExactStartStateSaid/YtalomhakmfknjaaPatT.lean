/-
  The state of a patch at the beginning: contracts of both sides.
-/
import Derived.Test.YtalomhakmfknjaaPatV
import Derived.Test.YtalomhakmfknjaaPatK
import Derived.Test.YtalomhakmfknjaaTyState
import Derived.Test.YtalomhakmfknjaaStepA
import Derived.Deep.RegionLaw
namespace Go.Proofs.Ytalomhakmfknjaa
open Go.ChangeShapes Go.WideShapes Go.ChangeAt Go.RowKit Go.Sort
set_option linter.unusedVariables false

theorem OwnII.nil0 (B : Nat) (w : World) : OwnII B w (.slice none 0 0) [] [] := ⟨World.ownsRow_nil w B _ 1, OwnIs.nil _ _, List.Pairwise.nil⟩
theorem OwnV.sl {B : Nat} {w : World} {E : TypeId} {v : Value} {L : List Value} (h : OwnV B w E v L) : ∃ q n c, v = .slice q n c := by
  rcases h.cases with ⟨rfl, rfl⟩ | ⟨_, _, rfl, _⟩
  · exact ⟨none, 0, 0, rfl⟩
  · exact ⟨_, _, _, rfl⟩
/-- the state at the beginning, as a result -/
def RetSt (B : Nat) (w : World) (xs : List (List Int)) (e : Ending) (w' : World) : Prop := ∃ u L, e = .returned u ∧ OwnState B w' u ⟨xs⟩ L ∧ Below w.heap.size w w'
set_option maxHeartbeats 3200000 in
set_option maxRecDepth 100000 in
theorem startState_v {v : Value} {x : PatchD} (w : World) (h : VPatch w v x) (ok : ∀ n ∈ x.nodes, StartOk n) (hn : x.nodes.length ≤ 24) :
    Calls Try.prog 55 #[v] w fun e w' => RetSt w.heap.size w (x.nodes.map startL) e w' := by
  obtain ⟨p1, c1, p2, c2, p3, c3, rfl, r1, r2, r3⟩ := h
  clear r1 r3
  obtain ⟨g, hg⟩ : ∃ g, g = w.heap.size := ⟨_, rfl⟩
  obtain ⟨r0, hr0⟩ : ∃ r, r = w.heap.size + 1 := ⟨_, rfl⟩
  obtain ⟨s0, hs0⟩ : ∃ s, s = w.heap.size + 1 + 1 := ⟨_, rfl⟩
  obtain ⟨E0, hE0⟩ : ∃ E, E = ((w.alloc (.cells #[.int .i64 x.inputs, .slice p1 x.tables.length c1, .slice p2 x.nodes.length c2, .slice p3 x.outputs.length c3] 34)).alloc (.cells #[.slice none 0 0] 29)).alloc (.cells #[.slice none 0 0] 29) := ⟨_, rfl⟩
  have hB0 : Below w.heap.size w E0 := by rw [hE0]; exact (((Below.refl _ _).alloc (Nat.le_refl _) _).alloc (by simp) _).alloc (by simp; omega) _
  have bx : Box E0 g [.int .i64 x.inputs, .slice p1 x.tables.length c1, .slice p2 x.nodes.length c2, .slice p3 x.outputs.length c3] 34 := by rw [hE0, hg]; exact ((Box.newAt w _ _ rfl).alloc _).alloc _
  have br : Box E0 r0 [.slice none 0 0] 29 := by rw [hE0, hr0]; exact (Box.newAt (w.alloc _) [.slice none 0 0] _ (by simp)).alloc _
  have bs : Box E0 s0 [.slice none 0 0] 29 := by rw [hE0, hs0]; exact Box.newAt ((w.alloc _).alloc _) [.slice none 0 0] _ (by simp)
  have HE := Lib.hid hE0
  have HG := Lib.hid hg
  have HR0 := Lib.hid hr0
  have HS0 := Lib.hid hs0
  have i1 : w.heap.size ≤ r0 := by omega
  have i2 : r0 < s0 := by omega
  clear hE0 hg hr0 hs0
  have z2 := bx.cell 2 rfl
  go_enter Try.func55, Try.ntmps55
  go_wp2_with fail
  rw [← HE.out, ← HS0.out, ← HR0.out, ← HG.out]
  clear z2 bx
  have HOK := Lib.hid ok
  clear ok
  go_loopw [10] (fun i wr => ∃ k : Nat, k ≤ x.nodes.length ∧ i = .int .i64 k ∧ ∃ u L, Box wr s0 [u] 29 ∧ Box wr r0 [.slice none 0 0] 29 ∧ OwnII (s0 + 1) wr u ((x.nodes.take k).map startL) L ∧ Below w.heap.size w wr) (fun i _ => x.nodes.length - (intOf i).toNat)
  case atStart => exact ⟨0, Nat.zero_le _, rfl, .slice none 0 0, [], bs, br, by simpa using OwnII.nil0 (s0 + 1) E0, hB0⟩
  case round =>
    clear bs br hB0 HE
    obtain ⟨k, hk, rfl, u, L, hbs, hbr, hown, hbel⟩ := hrel
    obtain ⟨wi, rfl⟩ : ∃ wi : World, wi = wr := ⟨_, rfl⟩
    by_cases hlt2 : k < x.nodes.length
    · obtain ⟨b, o, rfl, hb, hc⟩ := (r2.below hbel).pos hlt2
      have hnd := hc k hlt2
      clear hc
      have OKn := Lib.hid (HOK.out _ (List.getElem_mem hlt2))
      have hst : Hid ((x.nodes.take (k + 1)).map startL = (x.nodes.take k).map startL ++ [startL x.nodes[k]]) := by
        unfold Hid; rw [List.take_succ_eq_append_getElem hlt2, List.map_append]; rfl
      have hlL : L.length < 1099511627776 := by have := hown.2.1.1; simp at this; omega
      generalize x.nodes[k] = nd at hnd OKn hst
      obtain ⟨y0, y1, y2, q, d, y3, hr⟩ := hnd
      obtain ⟨F, hF⟩ : ∃ F, F = wi.alloc (.cells #[.int .i64 nd.kind, .int .i64 nd.a, .int .i64 nd.b, .slice q nd.src.length d] 58) := ⟨_, rfl⟩
      obtain ⟨g1, hg1⟩ : ∃ g1, g1 = wi.heap.size := ⟨_, rfl⟩
      have hBF : Below wi.heap.size wi F := by rw [hF]; exact (Below.refl _ _).alloc (Nat.le_refl _) _
      have bn : Box F g1 [.int .i64 nd.kind, .int .i64 nd.a, .int .i64 nd.b, .slice q nd.src.length d] 58 := by rw [hF, hg1]; exact Box.newAt _ _ _ rfl
      have HF := Lib.hid hF
      have HG1 := Lib.hid hg1
      have hsF := hBF.size
      clear hF hg1
      have hbsF := hbs.below hBF
      have hbrF := hbr.below hBF
      have hownF := hown.below hBF
      have hrF := hr.below hBF
      have hbelF := hbel.trans (hBF.mono hbel.size)
      have hcur := belowDrew F
      have t0 := hbsF.cell 0 rfl
      have t2 := bn.cell 0 rfl
      have t3 := bn.cell 1 rfl
      have t4 := bn.cell 2 rfl
      have t5 := bn.cell 3 rfl
      have lt0 := hbsF.lt
      have lt1 := hbs.lt
      have K0 : Hid (∀ W, Below F.heap.size F W → Calls Try.prog 86 #[.agg #[.int .i64 nd.kind, .int .i64 nd.a, .int .i64 nd.b, .slice q nd.src.length d]] W fun e w' => ∃ u, e = .returned u ∧ OwnI W.heap.size w' u (startL nd) ∧ Below W.heap.size W w') := fun W hW =>
        start_v (x := nd) W ⟨q, d, rfl, hrF.below hW⟩ OKn.out
      have HBS := Lib.hid hbsF
      have HBR := Lib.hid hbrF
      have HOW := Lib.hid hown
      have HBE := Lib.hid hbelF
      clear hbs hbr hown hbel hr hrF bn hbsF hbrF hbelF
      go_wp2_with fail
      rw [← HF.out, ← HG1.out]
      clear HF
      go_region_law (first | (refine step_append_val rfl _ _ rfl 24 (.slice none 0 0) Try.underlying22 infoII rfl (by omega) rfl own2.1 rfl rfl hlL hBs ?_; intro v' W3 ho3 o1 o2 o3 hs3 hk3; obtain ⟨vp, vn, vc, rfl⟩ := ho3.sl; have c3 := (World.cell?_of_block (w := W2) (a := ⟨s0, 0, none⟩) (hk3 _ lt2 hne2)).trans t0; have f3 := ((HBS.out.below hcur).keep (hk3 _ lt2 hne2)).frozen 0) | (go_simp; go_at_call 86; refine (K0.out _ hcur).mono ?_; rintro e W2 ⟨uu, rfl, hu, hb2⟩; obtain ⟨sp, sc, rfl, -⟩ := hu.rd; have hz := hcur.size; have hcur := hcur.trans (hb2.mono hcur.size); have t0 := (hcur.cell (p := ⟨s0, 0, none⟩) lt0).trans t0; have own2 := hownF.below hcur; have lt2 := Nat.lt_of_lt_of_le lt0 hcur.size; have hBs : s0 + 1 ≤ W2.heap.size := lt2; have hne2 : u.ownBlock ≠ some s0 := fun e => by (have := (own2.1.lt e).1; omega)))
      all_goals
        have bs2 := HBS.out.below hcur
        have br2 := HBR.out.below hcur
        have hw2 : Below w.heap.size w W2 := HBE.out.trans (hcur.mono HBE.out.size)
        have hw3 : Below w.heap.size w W3 := hw2.trans ⟨o1.symm, o2.symm, o3.symm, hs3, fun b' hb' => hk3 b' (Nat.lt_of_lt_of_le hb' hw2.size) (fun e => by have := (own2.1.lt e).1; omega)⟩
        have bs3 := bs2.keep (hk3 _ lt2 hne2)
        have br3 := br2.keep (hk3 _ (by omega) (fun e => by have := (own2.1.lt e).1; omega))
        have own3 := own2.snoc (hu.mono (show s0 + 1 ≤ F.drew.heap.size from lt0)) (fun b' hx hbk => by have h1 := (hu.lt hx).1; have h2 := (HOW.out.2.1.blk hbk).2.1; have h3 : F.heap.size ≤ b' := h1; omega) ho3 hk3
        rw [← hst.out] at own3
        have bs4 := Lib.hid (bs3.set 0 (.slice vp vn vc))
        have br4 := Lib.hid (br3.other (a := ⟨s0, 0, none⟩) (by simp; omega) (.slice vp vn vc))
        have own4 := Lib.hid (own3.keeps (w' := W3.setCell ⟨s0, 0, none⟩ (.slice vp vn vc)) (fun b' h1 _ => Below.heap_setCell _ _ _ _ (by simp; omega)))
        have hb4 : Hid (Below w.heap.size w (W3.setCell ⟨s0, 0, none⟩ (.slice vp vn vc))) := hw3.setCell (by simp; omega) _
        clear bs2 br2 hw2 hw3 bs3 br3 own3 own2 hu hk3 hs3 o1 o2 o3 ho3 t0 t2 t3 t4 t5 c3 f3 hne2 hBs
        go_wp2_with fail
        go_roundw
        case rel => exact ⟨k + 1, by omega, by go_num, _, _, bs4.out, br4.out, own4.out, hb4.out⟩
        case measure => simp [intOf] <;> omega
    · obtain rfl : k = x.nodes.length := by omega
      obtain ⟨up, un, uc, rfl⟩ := hown.1.sl
      have t0 := hbs.cell 0 rfl
      have tf := hbr.frozen 0
      have tr := hbr.cell 0 rfl
      rw [List.take_length] at hown
      have hfin : RetSt w.heap.size w (x.nodes.map startL) (.returned (.agg #[.slice up un uc])) (wi.setCell ⟨r0, 0, none⟩ (.slice up un uc)) := ⟨_, L, rfl, ⟨_, L, rfl, rfl, (hown.keeps (w' := wi.setCell ⟨r0, 0, none⟩ (.slice up un uc)) fun b hb _ => Below.heap_setCell _ _ _ _ (by simp; omega)).mono (by omega)⟩, hbel.setCell (by simp; omega) _⟩
      have HFIN := Lib.hid hfin
      have hread : (wi.setCell ⟨r0, 0, none⟩ (.slice up un uc)).cell? ⟨r0, 0, none⟩ = some (.slice up un uc) := (hbr.set 0 (.slice up un uc)).cell 0 rfl
      clear hfin
      go_wp2_with fail
      refine bodyPost_ret (v := .agg #[.slice up un uc]) (by simp [results, Try.results55, go_sem, *]) rfl ?_
      exact HFIN.out
end Go.Proofs.Ytalomhakmfknjaa
