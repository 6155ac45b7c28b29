/-
  NodeValues: the program's contract.
-/
import Derived.Test.YtbjpianbeebmeabFrameI
import Derived.Test.YtbjpianbeebmeabPatS3
namespace Go.Proofs.Ytbjpianbeebmeab
open Go.ChangeShapes Go.WideShapes Go.ChangeAt Go.RowKit Go.Sort
set_option linter.unusedVariables false
set_option linter.unusedSimpArgs false

theorem calls_sym {P : Program} {f : FuncId} {args : Array Value} {w : World} {v : Value} (h : Calls P f args w fun e w' => e = .returned v ∧ w = w') : Calls P f args w fun e w' => e = .returned v ∧ w' = w :=
  h.mono fun _ _ ⟨a, b⟩ => ⟨a, b.symm⟩
set_option maxHeartbeats 1600000 in
set_option maxRecDepth 100000 in
theorem frameCode_v {v v' : Value} {x : PatchD} {s : StateD} {fr : List Int} {pf : Option Addr} {cf : Nat} (w : World) (h : VPatch w v x) (h' : VState w v' s) (hf : RdI w pf fr) :
    Calls Try.prog 26 #[v, v', .slice pf fr.length cf] w fun e w' => e = .returned (.int .i64 (frCode x s fr)) ∧ Below w.heap.size w w' := by
  have hv := h
  have hv' := h'
  have hfl := hf.len
  unfold maxLen at hfl
  obtain ⟨p1, c1, p2, c2, p3, c3, rfl, -, -, -⟩ := h
  obtain ⟨q1, d1, rfl, -⟩ := h'
  obtain ⟨g, hg⟩ : ∃ g, g = w.heap.size := ⟨_, rfl⟩
  obtain ⟨E0, hE0⟩ : ∃ E, E = (w.alloc (.cells #[.int .i64 x.inputs, .slice p1 x.tables.length c1, .slice p2 x.nodes.length c2, .slice p3 x.outputs.length c3] 35)).alloc (.cells #[.slice q1 s.rows.length d1] 37) := ⟨_, rfl⟩
  have hB0 : Below w.heap.size w E0 := by rw [hE0]; exact ((Below.refl _ _).alloc (Nat.le_refl _) _).alloc (by simp) _
  have bx : Box E0 g [.int .i64 x.inputs, .slice p1 x.tables.length c1, .slice p2 x.nodes.length c2, .slice p3 x.outputs.length c3] 35 := by rw [hE0, hg]; exact (Box.newAt w _ _ rfl).alloc _
  have bs : Box E0 (g + 1) [.slice q1 s.rows.length d1] 37 := by rw [hE0, hg]; exact Box.newAt (w.alloc _) _ _ (by simp)
  have HE := Lib.hid hE0
  have HG := Lib.hid hg
  have z0 := bx.cell 0 rfl
  have z1 := bx.cell 1 rfl
  have z2 := bx.cell 2 rfl
  have z3 := bx.cell 3 rfl
  have z4 := bs.cell 0 rfl
  have VS := Lib.hid (implValidState_v E0 (hv.below hB0) (hv'.below hB0))
  have HR : Hid (∀ b, vsB x s = b → frCode x s fr = if b then (if decide ((fr.length : Int) = x.inputs) && fr.all isSmp then 0 else 2) else 1) := fun b hb => by unfold frCode; rw [hb]
  generalize frCode x s fr = R at HR ⊢
  clear hE0 hg hv hv'
  cases hvs : vsB x s
  case false =>
    rw [hvs] at VS
    obtain rfl : R = 1 := HR.out _ hvs
    clear HR hvs
    go_enter Try.func26, Try.ntmps26
    go_upto_region 1 with fail
    rw [← HE.out, ← HG.out]
    go_wp2_with fail
    refine VS.out.mono ?_
    rintro e W1 ⟨rfl, hb1⟩
    go_wp2_with fail
    go_ret
    exact ⟨rfl, hB0.trans (hb1.mono hB0.size)⟩
  rw [hvs] at VS
  have HR1 := Lib.hid (HR.out _ hvs)
  clear HR hvs
  go_enter Try.func26, Try.ntmps26
  go_upto_region 1 with fail
  rw [← HE.out, ← HG.out]
  go_wp2_with fail
  refine VS.out.mono ?_
  rintro e W1 ⟨rfl, hb1⟩
  have hB1 := hB0.trans (hb1.mono hB0.size)
  have bx1 := bx.below hb1
  clear z0 z1 z2 z3 z4
  have z0 := bx1.cell 0 rfl
  have SZ : Hid (∀ m, Calls Try.prog 43 #[.slice pf fr.length cf] (W1.drewN m) fun e w' => e = .returned (.int .i64 (fr.length : Int)) ∧ w' = W1.drewN m) := fun m => calls_sym (sizeI_any pf fr.length cf _ (by unfold maxLen; omega))
  have AS : Hid (∀ m, Calls Try.prog 44 #[.slice pf fr.length cf] (W1.drewN m) fun e w' => e = .returned (.bool (fr.all isSmp)) ∧ w' = W1.drewN m) := fun m => calls_sym (areSamples_any (c := cf) _ (hf.below (below_drewN hB1 m)))
  by_cases h1 : (fr.length : Int) = x.inputs
  case neg =>
    have q1 : ((fr.length : Int) != x.inputs) = true := by rw [bne_iff_ne]; exact h1
    obtain rfl : R = 2 := by rw [HR1.out, decide_eq_false h1]; rfl
    clear h1
    go_wp2_with fail
    go_quiet ((go_at_call 43; exact Calls.quiet_of_same (SZ.out _)))
    go_wp2_with fail
    go_ret
    exact ⟨rfl, below_drewN hB1 _⟩
  have q1 : ((fr.length : Int) != x.inputs) = false := by rw [bne_eq_false_iff_eq]; exact h1
  have HR2 : Hid (∀ b, fr.all isSmp = b → R = if b then 0 else 2) := fun b hb => by rw [HR1.out, decide_eq_true h1, hb]; rfl
  generalize fr.all isSmp = b at AS HR2
  obtain rfl := HR2.out b rfl
  clear h1 HR1 HR2
  cases b
  all_goals
    go_wp2_with fail
    go_quiet ((first | (go_at_call 43; exact Calls.quiet_of_same (SZ.out _)) | (go_at_call 44; exact Calls.quiet_of_same (AS.out _))))
    go_wp2_with fail
    go_ret
    exact ⟨rfl, below_drewN hB1 _⟩
set_option maxHeartbeats 1600000 in
set_option maxRecDepth 100000 in
theorem implNodeValues_v {v v1 v2 : Value} {x : PatchD} {s : StateD} {fr : List Int} (w : World) (h : VPatch w v x) (h1 : VState w v1 s) (h2 : VI w v2 fr) :
    Calls Try.prog 10 #[v, v1, v2] w (RetN1 w (nvRes x s fr) (frCode x s fr)) := by
  have hv := h
  have hv1 := h1
  obtain ⟨p1, c1, p2, c2, p3, c3, rfl, r1, r2, -⟩ := h
  obtain ⟨q1, d1, rfl, s1⟩ := h1
  obtain ⟨pf, cf, rfl, rf⟩ := h2
  obtain ⟨g, hg⟩ : ∃ g, g = w.heap.size := ⟨_, rfl⟩
  obtain ⟨E0, hE0⟩ : ∃ E, E = (w.alloc (.cells #[.int .i64 x.inputs, .slice p1 x.tables.length c1, .slice p2 x.nodes.length c2, .slice p3 x.outputs.length c3] 35)).alloc (.cells #[.slice q1 s.rows.length d1] 37) := ⟨_, rfl⟩
  have hB0 : Below w.heap.size w E0 := by rw [hE0]; exact ((Below.refl _ _).alloc (Nat.le_refl _) _).alloc (by simp) _
  have bx : Box E0 g [.int .i64 x.inputs, .slice p1 x.tables.length c1, .slice p2 x.nodes.length c2, .slice p3 x.outputs.length c3] 35 := by rw [hE0, hg]; exact (Box.newAt w _ _ rfl).alloc _
  have bs : Box E0 (g + 1) [.slice q1 s.rows.length d1] 37 := by rw [hE0, hg]; exact Box.newAt (w.alloc _) _ _ (by simp)
  have HE := Lib.hid hE0
  have HG := Lib.hid hg
  have FC := Lib.hid (frameCode_v (cf := cf) E0 (hv.below hB0) (hv1.below hB0) (rf.below hB0))
  have HN : Hid (nvRes x s fr = if frCode x s fr = 0 then valsF x s.rows fr (orderL x.nodes) else []) := rfl
  have HK := Lib.hid (frCode_ok (x := x) (s := s) (fr := fr))
  generalize nvRes x s fr = RN at HN ⊢
  generalize frCode x s fr = RC at HN HK FC ⊢
  have z0 := bx.cell 0 rfl
  have z1 := bx.cell 1 rfl
  have z2 := bx.cell 2 rfl
  have z3 := bx.cell 3 rfl
  have z4 := bs.cell 0 rfl
  clear hE0 hg
  by_cases hc : RC = 0
  case neg =>
    have q0 : (RC != 0) = true := by rw [bne_iff_ne]; exact hc
    obtain rfl : RN = [] := by rw [HN.out, if_neg hc]
    clear hc
    go_enter Try.func10, Try.ntmps10
    go_upto_region 1 with fail
    rw [← HE.out, ← HG.out]
    go_wp2_with fail
    refine FC.out.mono ?_
    rintro e W1 ⟨rfl, hb1⟩
    clear z0 z1 z2 z3 z4
    go_wp2_with fail
    refine bodyPost_ret (v := .tuple #[.slice none 0 0, .int .i64 RC]) (by simp [results, Try.results10, go_sem, *]) rfl ?_
    exact RetN1.mk (OwnI.none1 _ _) (Nat.le_refl _) (hB0.trans (hb1.mono hB0.size))
  subst hc
  obtain ⟨hok, fok⟩ := HK.out rfl
  obtain rfl : RN = valsF x s.rows fr (orderL x.nodes) := by rw [HN.out, if_pos rfl]
  have hrr : ∀ r ∈ s.rows, r.length ≤ 1048576 := by
    intro r hr
    obtain ⟨k, hk, rfl⟩ := List.getElem_of_mem hr
    have hkn : k < x.nodes.length := by rw [← fok.sl]; exact hk
    have h1 := (fok.s k hkn).1
    have h2 := startL_length (startOk_of (fok.nd hkn).1)
    rw [List.getD_eq_getElem?_getD, List.getElem?_eq_getElem hk] at h1
    have h3 : (s.rows[k]).length = (startL x.nodes[k]).length := h1
    omega
  have PO : Hid (∀ W, Below E0.heap.size E0 W → Calls Try.prog 27 #[.agg #[.int .i64 x.inputs, .slice p1 x.tables.length c1, .slice p2 x.nodes.length c2, .slice p3 x.outputs.length c3], .agg #[.slice q1 s.rows.length d1]] W (RetPl W x s.rows p1 c1 p2 c2 p3 c3)) := fun W hW =>
    playerOf_any W (hv.below (hB0.trans (hW.mono hB0.size))) (s1.below (hB0.trans (hW.mono hB0.size))) fok.f fok.sl hrr
  have HFK := Lib.hid fok
  have RR := Lib.hid (And.intro r1 (And.intro r2 rf))
  clear HN HK hok fok hrr hv hv1 r1 r2 rf s1
  go_enter Try.func10, Try.ntmps10
  go_upto_region 1 with fail
  rw [← HE.out, ← HG.out]
  go_wp2_with fail
  refine FC.out.mono ?_
  rintro e W1 ⟨rfl, hb1⟩
  have bx1 := bx.below hb1
  have bs1 := bs.below hb1
  clear z0 z1 z2 z3 z4
  have z0 := bx1.cell 0 rfl
  have z1 := bx1.cell 1 rfl
  have z2 := bx1.cell 2 rfl
  have z3 := bx1.cell 3 rfl
  have z4 := bs1.cell 0 rfl
  go_wp2_with fail
  refine (PO.out W1 hb1).mono ?_
  rintro e W2 ⟨gp, po, co, pv, cv, pc, cc, L, rfl, hgp, hpl, hb2⟩
  have hB1 := hB0.trans (hb1.mono hB0.size)
  clear z0 z1 z2 z3 z4 PO
  go_wp2_with fail
  refine (frame_any (cf := cf) W1 W2 hb2 (RR.out.1.below hB1) (RR.out.2.1.below hB1) (RR.out.2.2.below hB1) HFK.out (orderL_nodup _) orderL_mem hpl).mono ?_
  rintro e W3 ⟨⟨v, rfl⟩, L', hpl3, hb3⟩
  have y5 := hpl3.box.cell 5 rfl
  have hval := hpl3.val
  obtain ⟨p9, c9, e9, -⟩ := hval.rd
  have hvl := valsF_length x s.rows fr (orderL x.nodes)
  have HVAL := Lib.hid hval
  clear hpl hpl3 hvl e9 hval
  go_wp2_with fail
  refine bodyPost_ret (v := .tuple #[.slice pv x.nodes.length cv, .int .i64 0]) (by simp [results, Try.results10, go_sem, *]) rfl ?_
  exact RetN1.mk HVAL.out hB1.size (hB1.trans (hb3.mono hB1.size))
end Go.Proofs.Ytbjpianbeebmeab
