/-
  TrimPatch: both functions.
-/
import Derived.Test.YtalomhakmfknjaaTrim
import Derived.Test.YtalomhakmfknjaaCount
namespace Go.Proofs.Ytalomhakmfknjaa
open Go.ChangeShapes Go.WideShapes Go.ChangeAt Go.RowKit
set_option linter.unusedVariables false

/-- a patch and a code, as results -/
def RetPC (w : World) (x : PatchD) (code : Int) (e : Ending) (w' : World) : Prop := ∃ u L, e = .returned (.tuple #[u, .int .i64 code]) ∧ OwnPatch w.heap.size w' u x L ∧ Dis L ∧ Below w.heap.size w w'
theorem RetPC.mk {w w' : World} {x : PatchD} {code : Int} {v1 v2 v3 : Value} {L1 L : List Value} {B : Nat} {inp : Int} (hi : inp = x.inputs) (h : OwnP B w' v1 v2 v3 x.tables x.nodes x.outputs L1 L) (hB : w.heap.size ≤ B) (hb : Below w.heap.size w w') :
    RetPC w x code (.returned (.tuple #[.agg #[.int .i64 inp, v1, v2, v3], .int .i64 code])) w' := by
  subst hi
  have hp := (h.mono hB).patch x.inputs
  exact ⟨_, _, rfl, hp.1, hp.2, hb⟩
def noPatch : PatchD := ⟨0, [], [], []⟩
theorem OwnP.none0 (B : Nat) (w : World) : OwnP B w (.slice none 0 0) (.slice none 0 0) (.slice none 0 0) [] [] [] [] [] := OwnP.nil w (OwnI.nil B w)
def trimRes (x : PatchD) : PatchD := if okB x then trimP x else noPatch
theorem lens_rows : ∀ (ts : List (List Int)) (m : Nat), (∀ t ∈ ts, t.length ≤ m) → lens ts ≤ m * ts.length
  | [], m, _ => by simp [lens]
  | t :: ts, m, h => by
    have h1 := h t (List.mem_cons_self ..)
    have h2 := lens_rows ts m fun u hu => h u (List.mem_cons_of_mem _ hu)
    rw [lens_cons, List.length_cons, Nat.mul_add]
    omega
theorem cntPatch_small {x : PatchD} (sm : Small x) : cntPatch x ≤ 6291456 := by
  have h1 := lens_rows x.tables 1000 sm.rows
  have h2 := lens_rows (x.nodes.map NodeD.src) 1000 fun t ht => by
    obtain ⟨n, hn, rfl⟩ := List.mem_map.1 ht
    exact sm.srcs n hn
  have h3 := sm.tables
  have h4 := sm.nodes
  have h5 := sm.outs
  rw [List.length_map] at h2
  unfold cntPatch cntII cntNodeS cntI
  omega
theorem trimP_small {x : PatchD} (h : okB x = true) : Small (trimP x) := by
  have sm := formed_small (okB_len h).1
  have hk := trimP_ok h
  refine ⟨sm.tables, sm.rows, by omega, fun n hn => ?_, ?_⟩
  · obtain ⟨i, hi, rfl⟩ := List.mem_map.1 hn
    show (mapL _ _).length ≤ 1000
    rw [mapL_length]
    obtain ⟨m, rfl⟩ : ∃ m : Nat, i = m := ⟨i.toNat, by have := need_rng i hi; omega⟩
    have hm : m < x.nodes.length := by have := need_rng _ hi; omega
    rw [nodeAt_eq hm]
    exact sm.srcs _ (List.getElem_mem hm)
  · show (mapL _ _).length ≤ 1000
    rw [mapL_length]; exact sm.outs
theorem trimRes_small (x : PatchD) : cntPatch (trimRes x) ≤ 6291456 := by
  unfold trimRes
  split
  · rename_i h
    exact cntPatch_small (trimP_small h)
  · exact cntPatch_small ⟨by simp [noPatch], by simp [noPatch], by simp [noPatch], by simp [noPatch], by simp [noPatch]⟩
set_option maxHeartbeats 1600000 in
set_option maxRecDepth 100000 in
theorem specTrimPatch_v {v : Value} {x : PatchD} (w : World) (h : VPatch w v x) :
    Calls Try.prog 29 #[v] w (RetPC w (trimRes x) (okCode x)) := by
  obtain ⟨p1, c1, p2, c2, p3, c3, rfl, hp⟩ := PPatch.of h
  have hBa : Below w.heap.size w (w.alloc (.cells #[.int .i64 x.inputs, .slice p1 x.tables.length c1, .slice p2 x.nodes.length c2, .slice p3 x.outputs.length c3] 34)) := (Below.refl _ _).alloc (Nat.le_refl _) _
  obtain ⟨g, hg⟩ : ∃ g, g = w.heap.size := ⟨_, rfl⟩
  obtain ⟨E0, hE⟩ : ∃ E, E = (w.alloc (.cells #[.int .i64 x.inputs, .slice p1 x.tables.length c1, .slice p2 x.nodes.length c2, .slice p3 x.outputs.length c3] 34)).alloc (.cells #[.int .i64 0, .slice none 0 0, .slice none 0 0, .slice none 0 0] 34) := ⟨_, rfl⟩
  have hB0 : Below w.heap.size w E0 := by rw [hE]; exact hBa.alloc (by simp) _
  have hp0 : PPatch E0 g x := by rw [hE, hg]; exact hp.below ((Below.refl _ _).alloc (Nat.le_refl _) _)
  have br : Box E0 (g + 1) zPatch 34 := by rw [hE, hg]; exact Box.newAt (w.alloc _) zPatch _ (by simp)
  have HE := Lib.hid hE
  have HG := Lib.hid hg
  have i0 : w.heap.size ≤ g + 1 := by omega
  clear hE hg hBa h hp
  have OK := Lib.hid (l07Ok_any _ hp0)
  have fin : ∀ (W : World) (v1 v2 v3 : Value) (y : PatchD) (L1 L : List Value) (B : Nat) (code : Int), w.heap.size ≤ B → Below E0.heap.size E0 W → OwnP B W v1 v2 v3 y.tables y.nodes y.outputs L1 L →
      (Box ((((W.setCell ⟨g + 1, 0, none⟩ (.int .i64 y.inputs)).setCell ⟨g + 1, 1, none⟩ v1).setCell ⟨g + 1, 2, none⟩ v2).setCell ⟨g + 1, 3, none⟩ v3) (g + 1) [.int .i64 y.inputs, v1, v2, v3] 34) ∧
      RetPC w y code (.returned (.tuple #[.agg #[.int .i64 y.inputs, v1, v2, v3], .int .i64 code])) ((((W.setCell ⟨g + 1, 0, none⟩ (.int .i64 y.inputs)).setCell ⟨g + 1, 1, none⟩ v1).setCell ⟨g + 1, 2, none⟩ v2).setCell ⟨g + 1, 3, none⟩ v3) := fun W v1 v2 v3 y L1 L B code hB hW hop => by
    have hd := OwnP.done (w := w) (inp := y.inputs) hop (br.below hW) (hB0.trans (hW.mono hB0.size)) i0 hB
    exact ⟨hd.1, RetPC.mk rfl hd.2.1 (Nat.le_refl _) hd.2.2⟩
  have FIN := Lib.hid fin
  clear fin
  cases hF : okB x
  case false =>
    rw [hF] at OK
    rw [show trimRes x = noPatch from by unfold trimRes; rw [hF]; rfl, show okCode x = 1 from by unfold okCode; rw [hF]; rfl]
    go_enter Try.func29, Try.ntmps29
    go_upto_region 1 with fail
    rw [← HE.out, ← HG.out]
    go_wp2_with fail
    refine OK.out.mono ?_
    rintro e W1 ⟨rfl, hb1⟩
    have bri := br.below hb1
    obtain ⟨bW, hret⟩ := FIN.out W1 _ _ _ noPatch [] [] w.heap.size 1 (Nat.le_refl _) hb1 (OwnP.none0 _ _)
    simp only [noPatch] at bW
    have k0 := bri.cell 0 rfl
    have k1 := bri.cell 1 rfl
    have k2 := bri.cell 2 rfl
    have k3 := bri.cell 3 rfl
    have g0 := bri.frozen 0
    have g1 := bri.frozen 1
    have g2 := bri.frozen 2
    have g3 := bri.frozen 3
    have m0 := bW.cell 0 rfl
    have m1 := bW.cell 1 rfl
    have m2 := bW.cell 2 rfl
    have m3 := bW.cell 3 rfl
    have HRET := Lib.hid hret
    clear hret bW bri
    go_wp2_with fail
    refine bodyPost_ret (v := .tuple #[.agg #[.int .i64 0, .slice none 0 0, .slice none 0 0, .slice none 0 0], .int .i64 1]) (by simp [results, Try.results29, go_sem, *]) rfl ?_
    exact HRET.out
  rw [hF] at OK
  rw [show trimRes x = trimP x from by unfold trimRes; rw [hF]; rfl, show okCode x = 0 from by unfold okCode; rw [hF]; rfl]
  have hf := (okB_len hF).1
  have K1 := Lib.hid (fun W hW => l07Needed_any W (hp0.below hW) hf)
  have K2 : Hid (∀ (W : World) p c, Below E0.heap.size E0 W → RdI W p (need x) → Calls Try.prog 66 #[.pointer (some ⟨g, 0, none⟩), .slice p (need x).length c] W (RetP0 W (trimP x))) := fun W p c hW hr =>
    l07Keep_any W (hp0.below hW) hr (by have := need_length x; have := (formed_iff.1 hf).2.2.1; omega) need_rng (formed_small hf) (formed_src hf) (formed_outs hf)
  generalize trimP x = KP at K2 ⊢
  generalize need x = nd at K1 K2
  clear hf
  go_enter Try.func29, Try.ntmps29
  go_upto_region 1 with fail
  rw [← HE.out, ← HG.out]
  go_wp2_with fail
  refine OK.out.mono ?_
  rintro e W1 ⟨rfl, hb1⟩
  go_wp2_with fail
  refine (K1.out W1 hb1).mono ?_
  rintro e W2 ⟨u, rfl, hu, hb2⟩
  have hb12 := Below.via hb1 hb2
  obtain ⟨uq, uc, rfl, hur⟩ := hu.rd
  have K3 := Lib.hid (K2.out W2 uq uc hb12 hur)
  clear K2 K1
  go_wp2_with fail
  refine K3.out.mono ?_
  rintro e W3 ⟨v1, v2, v3, L1, L, rfl, hop, hb3⟩
  have hb13 := Below.via hb12 hb3
  obtain ⟨q1, d1, e1⟩ := hop.o1.sl'
  obtain ⟨q2, d2, e2⟩ := hop.o2.sl
  obtain ⟨q3, d3, e3, -⟩ := hop.o3.rd
  subst e1 e2 e3
  have bri := br.below hb13
  obtain ⟨bW, hret⟩ := FIN.out W3 _ _ _ KP L1 L W2.heap.size 0 (Nat.le_trans hB0.size hb12.size) hb13 hop
  have k0 := bri.cell 0 rfl
  have k1 := bri.cell 1 rfl
  have k2 := bri.cell 2 rfl
  have k3 := bri.cell 3 rfl
  have g0 := bri.frozen 0
  have g1 := bri.frozen 1
  have g2 := bri.frozen 2
  have g3 := bri.frozen 3
  have m0 := bW.cell 0 rfl
  have m1 := bW.cell 1 rfl
  have m2 := bW.cell 2 rfl
  have m3 := bW.cell 3 rfl
  have HRET := Lib.hid hret
  clear hret bW bri hop
  go_wp2_with fail
  refine bodyPost_ret (v := .tuple #[.agg #[.int .i64 KP.inputs, .slice q1 L1.length d1, .slice q2 KP.nodes.length d2, .slice q3 KP.outputs.length d3], .int .i64 0]) (by simp [results, Try.results29, go_sem, *]) rfl ?_
  exact HRET.out
set_option maxHeartbeats 1600000 in
set_option maxRecDepth 100000 in
theorem implTrimPatch_v {v : Value} {x : PatchD} (w : World) (h : VPatch w v x) :
    Calls Try.prog 30 #[v] w (RetPC w (trimRes x) (okCode x)) := by
  have hv := h
  obtain ⟨p1, c1, p2, c2, p3, c3, rfl, r1, r2, r3⟩ := h
  clear r1 r2 r3
  obtain ⟨g, hg⟩ : ∃ g, g = w.heap.size := ⟨_, rfl⟩
  obtain ⟨E0, hE⟩ : ∃ E, E = (w.alloc (.cells #[.int .i64 x.inputs, .slice p1 x.tables.length c1, .slice p2 x.nodes.length c2, .slice p3 x.outputs.length c3] 34)).alloc (.cells #[.int .i64 0, .slice none 0 0, .slice none 0 0, .slice none 0 0] 34) := ⟨_, rfl⟩
  have hB0 : Below w.heap.size w E0 := by rw [hE]; exact ((Below.refl _ _).alloc (Nat.le_refl _) _).alloc (by simp) _
  have bx : Box E0 g [.int .i64 x.inputs, .slice p1 x.tables.length c1, .slice p2 x.nodes.length c2, .slice p3 x.outputs.length c3] 34 := by rw [hE, hg]; exact (Box.newAt w _ _ rfl).alloc _
  have br : Box E0 (g + 1) zPatch 34 := by rw [hE, hg]; exact Box.newAt (w.alloc _) zPatch _ (by simp)
  have HE := Lib.hid hE
  have HG := Lib.hid hg
  have i0 : w.heap.size ≤ g + 1 := by omega
  clear hE hg
  have OK := Lib.hid (isPatch_v _ (hv.below hB0))
  have fin : ∀ (W : World) (v1 v2 v3 : Value) (y : PatchD) (L1 L : List Value) (B : Nat) (code : Int), w.heap.size ≤ B → Below E0.heap.size E0 W → OwnP B W v1 v2 v3 y.tables y.nodes y.outputs L1 L →
      (Box ((((W.setCell ⟨g + 1, 0, none⟩ (.int .i64 y.inputs)).setCell ⟨g + 1, 1, none⟩ v1).setCell ⟨g + 1, 2, none⟩ v2).setCell ⟨g + 1, 3, none⟩ v3) (g + 1) [.int .i64 y.inputs, v1, v2, v3] 34) ∧
      RetPC w y code (.returned (.tuple #[.agg #[.int .i64 y.inputs, v1, v2, v3], .int .i64 code])) ((((W.setCell ⟨g + 1, 0, none⟩ (.int .i64 y.inputs)).setCell ⟨g + 1, 1, none⟩ v1).setCell ⟨g + 1, 2, none⟩ v2).setCell ⟨g + 1, 3, none⟩ v3) := fun W v1 v2 v3 y L1 L B code hB hW hop => by
    have hd := OwnP.done (w := w) (inp := y.inputs) hop (br.below hW) (hB0.trans (hW.mono hB0.size)) i0 hB
    exact ⟨hd.1, RetPC.mk rfl hd.2.1 (Nat.le_refl _) hd.2.2⟩
  have FIN := Lib.hid fin
  clear fin
  have z0 := bx.cell 0 rfl
  have z1 := bx.cell 1 rfl
  have z2 := bx.cell 2 rfl
  have z3 := bx.cell 3 rfl
  cases hF : okB x
  case false =>
    rw [hF] at OK
    rw [show trimRes x = noPatch from by unfold trimRes; rw [hF]; rfl, show okCode x = 1 from by unfold okCode; rw [hF]; rfl]
    go_enter Try.func30, Try.ntmps30
    go_upto_region 1 with fail
    rw [← HE.out, ← HG.out]
    go_wp2_with fail
    refine OK.out.mono ?_
    rintro e W1 ⟨rfl, hb1⟩
    clear z0 z1 z2 z3
    have bri := br.below hb1
    obtain ⟨bW, hret⟩ := FIN.out W1 _ _ _ noPatch [] [] w.heap.size 1 (Nat.le_refl _) hb1 (OwnP.none0 _ _)
    simp only [noPatch] at bW
    have k0 := bri.cell 0 rfl
    have k1 := bri.cell 1 rfl
    have k2 := bri.cell 2 rfl
    have k3 := bri.cell 3 rfl
    have g0 := bri.frozen 0
    have g1 := bri.frozen 1
    have g2 := bri.frozen 2
    have g3 := bri.frozen 3
    have m0 := bW.cell 0 rfl
    have m1 := bW.cell 1 rfl
    have m2 := bW.cell 2 rfl
    have m3 := bW.cell 3 rfl
    have HRET := Lib.hid hret
    clear hret bW bri
    go_wp2_with fail
    refine bodyPost_ret (v := .tuple #[.agg #[.int .i64 0, .slice none 0 0, .slice none 0 0, .slice none 0 0], .int .i64 1]) (by simp [results, Try.results30, go_sem, *]) rfl ?_
    exact HRET.out
  rw [hF] at OK
  rw [show trimRes x = trimP x from by unfold trimRes; rw [hF]; rfl, show okCode x = 0 from by unfold okCode; rw [hF]; rfl]
  have hf := (okB_len hF).1
  have K1 : Hid (∀ W, Below E0.heap.size E0 W → Calls Try.prog 67 #[.agg #[.int .i64 x.inputs, .slice p1 x.tables.length c1, .slice p2 x.nodes.length c2, .slice p3 x.outputs.length c3]] W (RetP0 W (trimP x))) := fun W hW => trimmed_v W (hv.below (hB0.trans (hW.mono hB0.size))) hf
  generalize trimP x = KP at K1 ⊢
  clear hf hv
  go_enter Try.func30, Try.ntmps30
  go_upto_region 1 with fail
  rw [← HE.out, ← HG.out]
  go_wp2_with fail
  refine OK.out.mono ?_
  rintro e W1 ⟨rfl, hb1⟩
  have bx1 := bx.below hb1
  clear z0 z1 z2 z3
  have z0 := bx1.cell 0 rfl
  have z1 := bx1.cell 1 rfl
  have z2 := bx1.cell 2 rfl
  have z3 := bx1.cell 3 rfl
  go_wp2_with fail
  refine (K1.out W1 hb1).mono ?_
  rintro e W3 ⟨v1, v2, v3, L1, L, rfl, hop, hb3⟩
  have hb13 := Below.via hb1 hb3
  obtain ⟨q1, d1, e1⟩ := hop.o1.sl'
  obtain ⟨q2, d2, e2⟩ := hop.o2.sl
  obtain ⟨q3, d3, e3, -⟩ := hop.o3.rd
  subst e1 e2 e3
  have bri := br.below hb13
  obtain ⟨bW, hret⟩ := FIN.out W3 _ _ _ KP L1 L W1.heap.size 0 (Nat.le_trans hB0.size hb1.size) hb13 hop
  clear z0 z1 z2 z3
  have k0 := bri.cell 0 rfl
  have k1 := bri.cell 1 rfl
  have k2 := bri.cell 2 rfl
  have k3 := bri.cell 3 rfl
  have g0 := bri.frozen 0
  have g1 := bri.frozen 1
  have g2 := bri.frozen 2
  have g3 := bri.frozen 3
  have m0 := bW.cell 0 rfl
  have m1 := bW.cell 1 rfl
  have m2 := bW.cell 2 rfl
  have m3 := bW.cell 3 rfl
  have HRET := Lib.hid hret
  clear hret bW bri hop
  go_wp2_with fail
  refine bodyPost_ret (v := .tuple #[.agg #[.int .i64 KP.inputs, .slice q1 L1.length d1, .slice q2 KP.nodes.length d2, .slice q3 KP.outputs.length d3], .int .i64 0]) (by simp [results, Try.results30, go_sem, *]) rfl ?_
  exact HRET.out
end Go.Proofs.Ytalomhakmfknjaa
