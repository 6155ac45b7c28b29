/-
  The state of a patch at the beginning: contracts of both functions.
-/
import Derived.Test.YtalomhakmfknjaaPatT2
import Derived.Test.YtalomhakmfknjaaNeedM
namespace Go.Proofs.Ytalomhakmfknjaa
open Go.ChangeShapes Go.WideShapes Go.ChangeAt Go.RowKit Go.Sort
set_option linter.unusedVariables false

def stRes (x : PatchD) : StateD := ⟨if okB x then x.nodes.map startL else []⟩
theorem stRes_small (x : PatchD) : cntState (stRes x) ≤ 1048576 := by
  unfold cntState cntII stRes
  split
  · rename_i h
    have h1 := lens_map_start x.nodes (okB_start h)
    have h2 := okB_n24 h
    show lens (x.nodes.map startL) ≤ _
    omega
  · show lens [] ≤ _
    simp [lens]
/-- a state and a code, as results -/
def RetSC (w : World) (s : StateD) (code : Int) (e : Ending) (w' : World) : Prop := ∃ u L, e = .returned (.tuple #[u, .int .i64 code]) ∧ OwnState w.heap.size w' u s L ∧ Dis L ∧ Below w.heap.size w w'
theorem RetSt.out {B : Nat} {w w' : World} {xs : List (List Int)} {e : Ending} (h : RetSt B w xs e w') :
    ∃ up un uc L, e = .returned (.agg #[.slice up un uc]) ∧ OwnII B w' (.slice up un uc) xs L ∧ Below w.heap.size w w' := by
  obtain ⟨u, L, rfl, ⟨u0, L0, rfl, rfl, o⟩, hb⟩ := h
  obtain ⟨q, n, c, rfl⟩ := o.1.sl
  exact ⟨q, n, c, L0, rfl, o, hb⟩
theorem RetSC.mk {w w' : World} {xs : List (List Int)} {code : Int} {u : Value} {L : List Value} {B : Nat} (h : OwnII B w' u xs L) (hB : w.heap.size ≤ B) (hb : Below w.heap.size w w') : RetSC w ⟨xs⟩ code (.returned (.tuple #[.agg #[u], .int .i64 code])) w' :=
  ⟨_, L, rfl, ⟨u, L, rfl, rfl, h.mono hB⟩, h.2.2, hb⟩
set_option maxHeartbeats 800000 in
theorem specStartState_v {v : Value} {x : PatchD} (w : World) (h : VPatch w v x) :
    Calls Try.prog 12 #[v] w (RetSC w (stRes x) (okCode x)) := by
  obtain ⟨p1, c1, p2, c2, p3, c3, rfl, hp⟩ := PPatch.of h
  have hB0 : Below w.heap.size w (w.alloc (.cells #[.int .i64 x.inputs, .slice p1 x.tables.length c1, .slice p2 x.nodes.length c2, .slice p3 x.outputs.length c3] 34)) := (Below.refl _ _).alloc (Nat.le_refl _) _
  obtain ⟨E0, hE⟩ : ∃ E, E = (w.alloc (.cells #[.int .i64 x.inputs, .slice p1 x.tables.length c1, .slice p2 x.nodes.length c2, .slice p3 x.outputs.length c3] 34)).alloc (.cells #[.slice none 0 0] 29) := ⟨_, rfl⟩
  have hB1 : Below w.heap.size w E0 := by rw [hE]; exact hB0.alloc (by simp) _
  have br : Box E0 (w.heap.size + 1) [.slice none 0 0] 29 := by rw [hE]; exact Box.newAt (w.alloc _) [.slice none 0 0] _ (by simp)
  have hpE : PPatch E0 w.heap.size x := by rw [hE]; exact hp.below ((Below.refl _ _).alloc (Nat.le_refl _) _)
  obtain ⟨g, hg⟩ : ∃ g, g = w.heap.size := ⟨_, rfl⟩
  rw [← hg] at br hpE
  have HE := Lib.hid hE
  have HG := Lib.hid hg
  clear hE h hp hg
  have OK := Lib.hid (l07Ok_any _ hpE)
  have hlt := br.lt
  cases hF : okB x
  case false =>
    rw [hF] at OK
    rw [show stRes x = ⟨[]⟩ from by unfold stRes; rw [hF]; rfl, show okCode x = 1 from by unfold okCode; rw [hF]; rfl]
    go_enter Try.func12, Try.ntmps12
    go_upto_region 1 with fail
    rw [← HE.out, ← HG.out]
    go_wp2_with fail
    refine OK.out.mono ?_
    rintro e W1 ⟨rfl, hb1⟩
    have b1 := br.below hb1
    have t0 := b1.cell 0 rfl
    have tf := b1.frozen 0
    have hread : (W1.setCell ⟨g + 1, 0, none⟩ (.slice none 0 0)).cell? ⟨g + 1, 0, none⟩ = some (.slice none 0 0) := (b1.set 0 (.slice none 0 0)).cell 0 rfl
    go_wp2_with fail
    refine bodyPost_ret (v := .tuple #[.agg #[.slice none 0 0], .int .i64 1]) (by simp [results, Try.results12, go_sem, *]) rfl ?_
    exact RetSC.mk (OwnII.nil0 w.heap.size _) (Nat.le_refl _) ((hB1.trans (hb1.mono hB1.size)).setCell (show w.heap.size ≤ g + 1 by have := HG.out; omega) _)
  rw [hF] at OK
  rw [show stRes x = ⟨x.nodes.map startL⟩ from by unfold stRes; rw [hF]; rfl, show okCode x = 0 from by unfold okCode; rw [hF]; rfl]
  have ok := okB_start hF
  have hn := okB_n24 hF
  have ST := Lib.hid (fun W hW => l08Start_any W (hpE.below hW) ok hn)
  clear ok
  go_enter Try.func12, Try.ntmps12
  go_upto_region 1 with fail
  rw [← HE.out, ← HG.out]
  go_wp2_with fail
  refine OK.out.mono ?_
  rintro e W1 ⟨rfl, hb1⟩
  go_wp2_with fail
  refine (ST.out W1 hb1).mono ?_
  rintro e W2 hr
  obtain ⟨up, un, uc, L, rfl, ho, hb2⟩ := hr.out
  have b1 := br.below hb1
  have hl1 := b1.lt
  have b2 := b1.below hb2
  have t0 := b2.cell 0 rfl
  have tf := b2.frozen 0
  have hread : (W2.setCell ⟨g + 1, 0, none⟩ (.slice up un uc)).cell? ⟨g + 1, 0, none⟩ = some (.slice up un uc) := (b2.set 0 (.slice up un uc)).cell 0 rfl
  have hw2 := (hB1.trans (hb1.mono hB1.size)).trans (hb2.mono (hB1.trans (hb1.mono hB1.size)).size)
  have hfin : RetSC w ⟨x.nodes.map startL⟩ 0 (.returned (.tuple #[.agg #[.slice up un uc], .int .i64 0])) (W2.setCell ⟨g + 1, 0, none⟩ (.slice up un uc)) :=
    RetSC.mk (ho.keeps (w' := W2.setCell ⟨g + 1, 0, none⟩ (.slice up un uc)) fun b hb _ => Below.heap_setCell _ _ _ _ (by simp; omega)) (hB1.trans (hb1.mono hB1.size)).size (hw2.setCell (show w.heap.size ≤ g + 1 by have := HG.out; omega) _)
  have HFIN := Lib.hid hfin
  clear hfin ho hr
  go_wp2_with fail
  refine bodyPost_ret (v := .tuple #[.agg #[.slice up un uc], .int .i64 0]) (by simp [results, Try.results12, go_sem, *]) rfl ?_
  exact HFIN.out
set_option maxHeartbeats 800000 in
theorem implStartState_v {v : Value} {x : PatchD} (w : World) (h : VPatch w v x) :
    Calls Try.prog 14 #[v] w (RetSC w (stRes x) (okCode x)) := by
  have hv := h
  obtain ⟨p1, c1, p2, c2, p3, c3, rfl, r1, r2, r3⟩ := h
  clear r1 r2 r3
  have hB0 : Below w.heap.size w (w.alloc (.cells #[.int .i64 x.inputs, .slice p1 x.tables.length c1, .slice p2 x.nodes.length c2, .slice p3 x.outputs.length c3] 34)) := (Below.refl _ _).alloc (Nat.le_refl _) _
  obtain ⟨E0, hE⟩ : ∃ E, E = (w.alloc (.cells #[.int .i64 x.inputs, .slice p1 x.tables.length c1, .slice p2 x.nodes.length c2, .slice p3 x.outputs.length c3] 34)).alloc (.cells #[.slice none 0 0] 29) := ⟨_, rfl⟩
  have hB1 : Below w.heap.size w E0 := by rw [hE]; exact hB0.alloc (by simp) _
  have bx : Box E0 w.heap.size [.int .i64 x.inputs, .slice p1 x.tables.length c1, .slice p2 x.nodes.length c2, .slice p3 x.outputs.length c3] 34 := by rw [hE]; exact (Box.newAt w _ _ rfl).alloc _
  have br : Box E0 (w.heap.size + 1) [.slice none 0 0] 29 := by rw [hE]; exact Box.newAt (w.alloc _) [.slice none 0 0] _ (by simp)
  obtain ⟨g, hg⟩ : ∃ g, g = w.heap.size := ⟨_, rfl⟩
  rw [← hg] at br bx
  have HE := Lib.hid hE
  have HG := Lib.hid hg
  clear hE hg
  have OK := Lib.hid (isPatch_v _ (hv.below hB1))
  have hlt := br.lt
  have z0 := bx.cell 0 rfl
  have z1 := bx.cell 1 rfl
  have z2 := bx.cell 2 rfl
  have z3 := bx.cell 3 rfl
  cases hF : okB x
  case false =>
    rw [hF] at OK
    rw [show stRes x = ⟨[]⟩ from by unfold stRes; rw [hF]; rfl, show okCode x = 1 from by unfold okCode; rw [hF]; rfl]
    go_enter Try.func14, Try.ntmps14
    go_upto_region 1 with fail
    rw [← HE.out, ← HG.out]
    go_wp2_with fail
    refine OK.out.mono ?_
    rintro e W1 ⟨rfl, hb1⟩
    have b1 := br.below hb1
    have t0 := b1.cell 0 rfl
    have tf := b1.frozen 0
    have hread : (W1.setCell ⟨g + 1, 0, none⟩ (.slice none 0 0)).cell? ⟨g + 1, 0, none⟩ = some (.slice none 0 0) := (b1.set 0 (.slice none 0 0)).cell 0 rfl
    clear z0 z1 z2 z3
    go_wp2_with fail
    refine bodyPost_ret (v := .tuple #[.agg #[.slice none 0 0], .int .i64 1]) (by simp [results, Try.results14, go_sem, *]) rfl ?_
    exact RetSC.mk (OwnII.nil0 w.heap.size _) (Nat.le_refl _) ((hB1.trans (hb1.mono hB1.size)).setCell (show w.heap.size ≤ g + 1 by have := HG.out; omega) _)
  rw [hF] at OK
  rw [show stRes x = ⟨x.nodes.map startL⟩ from by unfold stRes; rw [hF]; rfl, show okCode x = 0 from by unfold okCode; rw [hF]; rfl]
  have ok := okB_start hF
  have hn := okB_n24 hF
  have ST : Hid (∀ W, Below E0.heap.size E0 W → Calls Try.prog 55 #[.agg #[.int .i64 x.inputs, .slice p1 x.tables.length c1, .slice p2 x.nodes.length c2, .slice p3 x.outputs.length c3]] W fun e w' => RetSt W.heap.size W (x.nodes.map startL) e w') := fun W hW =>
    startState_v W (hv.below (hB1.trans (hW.mono hB1.size))) ok hn
  clear ok hv
  go_enter Try.func14, Try.ntmps14
  go_upto_region 1 with fail
  rw [← HE.out, ← HG.out]
  go_wp2_with fail
  refine OK.out.mono ?_
  rintro e W1 ⟨rfl, hb1⟩
  have bx1 := bx.below hb1
  clear z0 z1 z2 z3
  have z0 := bx1.cell 0 rfl
  have z1 := bx1.cell 1 rfl
  have z2 := bx1.cell 2 rfl
  have z3 := bx1.cell 3 rfl
  go_wp2_with fail
  refine (ST.out W1 hb1).mono ?_
  rintro e W2 hr
  obtain ⟨up, un, uc, L, rfl, ho, hb2⟩ := hr.out
  have b1 := br.below hb1
  have hl1 := b1.lt
  have b2 := b1.below hb2
  have t0 := b2.cell 0 rfl
  have tf := b2.frozen 0
  have hread : (W2.setCell ⟨g + 1, 0, none⟩ (.slice up un uc)).cell? ⟨g + 1, 0, none⟩ = some (.slice up un uc) := (b2.set 0 (.slice up un uc)).cell 0 rfl
  have hw2 := (hB1.trans (hb1.mono hB1.size)).trans (hb2.mono (hB1.trans (hb1.mono hB1.size)).size)
  have hfin : RetSC w ⟨x.nodes.map startL⟩ 0 (.returned (.tuple #[.agg #[.slice up un uc], .int .i64 0])) (W2.setCell ⟨g + 1, 0, none⟩ (.slice up un uc)) :=
    RetSC.mk (ho.keeps (w' := W2.setCell ⟨g + 1, 0, none⟩ (.slice up un uc)) fun b hb _ => Below.heap_setCell _ _ _ _ (by simp; omega)) (hB1.trans (hb1.mono hB1.size)).size (hw2.setCell (show w.heap.size ≤ g + 1 by have := HG.out; omega) _)
  have HFIN := Lib.hid hfin
  clear hfin ho hr z0 z1 z2 z3
  go_wp2_with fail
  refine bodyPost_ret (v := .tuple #[.agg #[.slice up un uc], .int .i64 0]) (by simp [results, Try.results14, go_sem, *]) rfl ?_
  exact HFIN.out
end Go.Proofs.Ytalomhakmfknjaa
