/-
  SavedNodes: contracts of both sides.
-/
import Derived.Test.YtonkdndpfnapjaaGreatApY
namespace Go.Proofs.YtonkdndpfnapjaaGreat
open Go.ChangeShapes Go.WideShapes Go.ChangeAt Go.RowKit Go.Sort
set_option linter.unusedVariables false

set_option maxHeartbeats 8000000 in
set_option maxRecDepth 100000 in
theorem specSavedNodes_v {v : Value} {x : PatchD} (w : World) (h : VPatch w v x) :
    Calls Tryz.prog 8 #[v] w fun e w' => e = .returned (.tuple #[.int .i64 (savRes x), .int .i64 (okCode x)]) ∧ Below w.heap.size w w' := by
  obtain ⟨p1, c1, p2, c2, p3, c3, rfl, hp⟩ := PPatch.of h
  obtain ⟨g, hg⟩ : ∃ g, g = w.heap.size := ⟨_, rfl⟩
  obtain ⟨E, hE⟩ : ∃ E, E = w.alloc (.cells #[.int .i64 x.inputs, .slice p1 x.tables.length c1, .slice p2 x.nodes.length c2, .slice p3 x.outputs.length c3] 32) := ⟨_, rfl⟩
  rw [← hE, ← hg] at hp
  have hB0 : Below w.heap.size w E := by rw [hE]; exact (Below.refl _ _).alloc (Nat.le_refl _) _
  have bx : Box E g [.int .i64 x.inputs, .slice p1 x.tables.length c1, .slice p2 x.nodes.length c2, .slice p3 x.outputs.length c3] 32 := by rw [hE, hg]; exact Box.newAt w _ _ rfl
  have HE := Lib.hid hE
  have HG := Lib.hid hg
  clear hE hg h
  have OK := Lib.hid (l07Ok_any _ hp)
  cases hF : okB x
  case false =>
    rw [hF] at OK
    rw [show savRes x = 0 from by unfold savRes; rw [hF]; rfl, show okCode x = 1 from by unfold okCode; rw [hF]; rfl]
    go_enter Tryz.func8, Tryz.ntmps8
    go_upto_region 1 with fail
    rw [← HE.out, ← HG.out]
    go_wp2_with fail
    refine OK.out.mono ?_
    rintro e W1 ⟨rfl, hb1⟩
    go_wp2_with fail
    refine bodyPost_ret (v := .tuple #[.int .i64 0, .int .i64 1]) (by simp [results, Tryz.results8, go_sem, *]) rfl ?_
    exact ⟨rfl, hB0.trans (hb1.mono hB0.size)⟩
  rw [hF] at OK
  rw [show savRes x = (x.nodes.length : Int) - ((trimP (allP x)).nodes.length : Int) from by unfold savRes; rw [hF]; rfl, show okCode x = 0 from by unfold okCode; rw [hF]; rfl]
  have K2 := Lib.hid (fun W (hW : Below E.heap.size E W) => l10Optimize_x W (hp.below hW) hF)
  have h24 := (okB_len hF).2.2
  have hk24 : (trimP (allP x)).nodes.length ≤ 24 := by
    have h1 := (formed_iff.1 (okB_formed (all_ok hF))).2.2.1
    have h2 := need_length (allP x)
    show ((need (allP x)).map _).length ≤ 24
    rw [List.length_map]; omega
  generalize trimP (allP x) = KP at K2 hk24 ⊢
  have hw : IntKind.i64.wrap ((x.nodes.length : Int) - (KP.nodes.length : Int)) = (x.nodes.length : Int) - (KP.nodes.length : Int) := IntWalk.i64_in _ (by omega)
  clear hp hF
  go_enter Tryz.func8, Tryz.ntmps8
  go_upto_region 1 with fail
  rw [← HE.out, ← HG.out]
  go_wp2_with fail
  refine OK.out.mono ?_
  rintro e W1 ⟨rfl, hb1⟩
  have K3 := Lib.hid (K2.out W1 hb1)
  clear K2
  go_wp2_with fail
  refine K3.out.mono ?_
  rintro e W2 ⟨v1, v2, v3, L1, L, rfl, hop, hb2⟩
  obtain ⟨q1, d1, e1⟩ := hop.o1.sl'
  obtain ⟨q2, d2, e2⟩ := hop.o2.sl
  obtain ⟨q3, d3, e3, -⟩ := hop.o3.rd
  subst e1 e2 e3
  obtain ⟨W3, hW3⟩ : ∃ V, V = W2.alloc (.cells #[.int .i64 KP.inputs, .slice q1 L1.length d1, .slice q2 KP.nodes.length d2, .slice q3 KP.outputs.length d3] 32) := ⟨_, rfl⟩
  have x3 : Below W2.heap.size W2 W3 := by rw [hW3]; exact (Below.refl _ _).alloc (Nat.le_refl _) _
  have bo : Box W3 W2.heap.size [.int .i64 KP.inputs, .slice q1 L1.length d1, .slice q2 KP.nodes.length d2, .slice q3 KP.outputs.length d3] 32 := by rw [hW3]; exact Box.newAt W2 _ _ rfl
  have e3 := (hb1.trans (hb2.mono hb1.size)).trans (x3.mono (hb1.trans (hb2.mono hb1.size)).size)
  have bx3 := bx.below e3
  have k3 := hB0.trans (e3.mono hB0.size)
  have HW3 := Lib.hid hW3
  have t2 := bx3.cell 2 rfl
  have o2 := bo.cell 2 rfl
  clear hW3 x3 hop K3
  go_upto_region 4 with fail
  rw [← HW3.out]
  go_wp2_with fail
  refine bodyPost_ret (v := .tuple #[.int .i64 ((x.nodes.length : Int) - (KP.nodes.length : Int)), .int .i64 0]) (by simp [results, Tryz.results8, go_sem, *]) rfl ?_
  exact ⟨rfl, k3⟩
set_option maxHeartbeats 8000000 in
set_option maxRecDepth 100000 in
theorem implSavedNodes_v {v : Value} {x : PatchD} (w : World) (h : VPatch w v x) :
    Calls Tryz.prog 10 #[v] w fun e w' => e = .returned (.tuple #[.int .i64 (savRes x), .int .i64 (okCode x)]) ∧ Below w.heap.size w w' := by
  have hv := h
  obtain ⟨p1, c1, p2, c2, p3, c3, rfl, -, r2, -⟩ := h
  have hml := r2.len
  clear r2
  obtain ⟨g, hg⟩ : ∃ g, g = w.heap.size := ⟨_, rfl⟩
  obtain ⟨E, hE⟩ : ∃ E, E = w.alloc (.cells #[.int .i64 x.inputs, .slice p1 x.tables.length c1, .slice p2 x.nodes.length c2, .slice p3 x.outputs.length c3] 32) := ⟨_, rfl⟩
  have hB0 : Below w.heap.size w E := by rw [hE]; exact (Below.refl _ _).alloc (Nat.le_refl _) _
  have bx : Box E g [.int .i64 x.inputs, .slice p1 x.tables.length c1, .slice p2 x.nodes.length c2, .slice p3 x.outputs.length c3] 32 := by rw [hE, hg]; exact Box.newAt w _ _ rfl
  have HE := Lib.hid hE
  have HG := Lib.hid hg
  clear hE hg
  have OK := Lib.hid (isPatch_v _ (hv.below hB0))
  have z0 := bx.cell 0 rfl
  have z1 := bx.cell 1 rfl
  have z2 := bx.cell 2 rfl
  have z3 := bx.cell 3 rfl
  cases hF : okB x
  case false =>
    rw [hF] at OK
    rw [show savRes x = 0 from by unfold savRes; rw [hF]; rfl, show okCode x = 1 from by unfold okCode; rw [hF]; rfl]
    go_enter Tryz.func10, Tryz.ntmps10
    go_upto_region 1 with fail
    rw [← HE.out, ← HG.out]
    go_wp2_with fail
    refine OK.out.mono ?_
    rintro e W1 ⟨rfl, hb1⟩
    clear z0 z1 z2 z3
    go_wp2_with fail
    refine bodyPost_ret (v := .tuple #[.int .i64 0, .int .i64 1]) (by simp [results, Tryz.results10, go_sem, *]) rfl ?_
    exact ⟨rfl, hB0.trans (hb1.mono hB0.size)⟩
  rw [hF] at OK
  rw [show savRes x = (x.nodes.length : Int) - ((trimP (allP x)).nodes.length : Int) from by unfold savRes; rw [hF]; rfl, show okCode x = 0 from by unfold okCode; rw [hF]; rfl]
  have K1 : Hid (∀ W, Below E.heap.size E W → Calls Tryz.prog 33 #[.agg #[.int .i64 x.inputs, .slice p1 x.tables.length c1, .slice p2 x.nodes.length c2, .slice p3 x.outputs.length c3]] W (RetA W (trimP (allP x)) (allR x))) := fun W hW => optimize_x W (hv.below (hB0.trans (hW.mono hB0.size))) hF (runs_all hF)
  have h24 := (okB_len hF).2.2
  have hk24 : (trimP (allP x)).nodes.length ≤ 24 := by
    have h1 := (formed_iff.1 (okB_formed (all_ok hF))).2.2.1
    have h2 := need_length (allP x)
    show ((need (allP x)).map _).length ≤ 24
    rw [List.length_map]; omega
  generalize trimP (allP x) = KP at K1 hk24 ⊢
  generalize allR x = rs at K1
  have hw : IntKind.i64.wrap ((x.nodes.length : Int) - (KP.nodes.length : Int)) = (x.nodes.length : Int) - (KP.nodes.length : Int) := IntWalk.i64_in _ (by omega)
  have hkl : KP.nodes.length ≤ maxLen := by unfold maxLen; omega
  clear hv hF
  go_enter Tryz.func10, Tryz.ntmps10
  go_upto_region 1 with fail
  rw [← HE.out, ← HG.out]
  go_wp2_with fail
  refine OK.out.mono ?_
  rintro e W1 ⟨rfl, hb1⟩
  have bx1 := bx.below hb1
  clear z0 z1 z2 z3
  have z0 := bx1.cell 0 rfl
  have z1 := bx1.cell 1 rfl
  have z2 := bx1.cell 2 rfl
  have z3 := bx1.cell 3 rfl
  go_wp2_with fail
  refine (K1.out W1 hb1).mono ?_
  rintro e W2 ⟨v1, v2, v3, L1, L, u, rfl, hop, hro, hb2⟩
  obtain ⟨q1, d1, e1⟩ := hop.o1.sl'
  obtain ⟨q2, d2, e2⟩ := hop.o2.sl
  obtain ⟨q3, d3, e3, -⟩ := hop.o3.rd
  obtain ⟨q4, d4, e4⟩ := hro.sl
  subst e1 e2 e3 e4
  obtain ⟨W3, hW3⟩ : ∃ V, V = W2.alloc (.cells #[.int .i64 KP.inputs, .slice q1 L1.length d1, .slice q2 KP.nodes.length d2, .slice q3 KP.outputs.length d3] 32) := ⟨_, rfl⟩
  have x3 : Below W2.heap.size W2 W3 := by rw [hW3]; exact (Below.refl _ _).alloc (Nat.le_refl _) _
  have bo : Box W3 W2.heap.size [.int .i64 KP.inputs, .slice q1 L1.length d1, .slice q2 KP.nodes.length d2, .slice q3 KP.outputs.length d3] 32 := by rw [hW3]; exact Box.newAt W2 _ _ rfl
  obtain ⟨so, hso⟩ : ∃ so, so = W2.heap.size := ⟨_, rfl⟩
  rw [← hso] at bo
  have e3 := (hb1.trans (hb2.mono hb1.size)).trans (x3.mono (hb1.trans (hb2.mono hb1.size)).size)
  have bx3 := bx.below e3
  have k3 := hB0.trans (e3.mono hB0.size)
  have HW3 := Lib.hid hW3
  have HSO := Lib.hid hso
  have SZ1 : Hid (∀ W, Calls Tryz.prog 34 #[.slice p2 x.nodes.length c2] W fun e w' => e = .returned (.int .i64 (x.nodes.length : Int)) ∧ W = w') := fun W => sizeN_any p2 x.nodes.length c2 W hml
  have SZ2 : Hid (∀ W, Calls Tryz.prog 34 #[.slice q2 KP.nodes.length d2] W fun e w' => e = .returned (.int .i64 (KP.nodes.length : Int)) ∧ W = w') := fun W => sizeN_any q2 KP.nodes.length d2 W hkl
  clear hW3 x3 hop hro hso z0 z1 z2 z3
  have t2 := bx3.cell 2 rfl
  have o2 := bo.cell 2 rfl
  have J1 : Hid (∀ W, Calls Tryz.prog 34 #[.slice p2 x.nodes.length c2] W fun e w' => e = .returned (.int .i64 (x.nodes.length : Int)) ∧ Below W.heap.size W w') := fun W => (SZ1.out W).mono fun e w' ⟨h1, h2⟩ => ⟨h1, h2 ▸ Below.refl _ _⟩
  have J2 : Hid (∀ W, Calls Tryz.prog 34 #[.slice q2 KP.nodes.length d2] W fun e w' => e = .returned (.int .i64 (KP.nodes.length : Int)) ∧ Below W.heap.size W w') := fun W => (SZ2.out W).mono fun e w' ⟨h1, h2⟩ => ⟨h1, h2 ▸ Below.refl _ _⟩
  have N1 := Lib.hid (fun n os => Calls.regrown_of (w := W3) (d := n) (os := os) (J1.out _))
  have N2 := Lib.hid (fun n os => Calls.regrown_of (w := W3) (d := n) (os := os) (J2.out _))
  have s2 := cell_regrown t2
  have u2 := cell_regrown o2
  clear J1 J2 SZ1 SZ2 t2 o2
  go_upto_region 4 with fail
  rw [← HW3.out, ← HSO.out]
  refine wp_region_quiet_below (by kernel_rfl) (by kernel_rfl) ?_
  repeat (first | go_big_quiet_step ((go_at_call 34; first | exact N1.out _ _ | exact N2.out _ _)) | quiet_step ((go_at_call 34; first | exact N1.out _ _ | exact N2.out _ _)))
  refine wpQuiet_nil ?_
  intro _ hw'
  obtain ⟨⟨dq, osq⟩, hw''⟩ := hw'
  subst hw''
  have hq := below_regrown W3 dq osq
  go_wp2_with fail
  refine bodyPost_ret (v := .tuple #[.int .i64 ((x.nodes.length : Int) - (KP.nodes.length : Int)), .int .i64 0]) (by simp [results, Tryz.results10, go_sem, *]) rfl ?_
  exact ⟨rfl, k3.trans (hq.mono k3.size)⟩
end Go.Proofs.YtonkdndpfnapjaaGreat
