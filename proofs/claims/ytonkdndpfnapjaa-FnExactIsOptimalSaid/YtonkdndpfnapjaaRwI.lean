/-
  IsOptimal: contracts of both sides.
-/
import Derived.Test.YtonkdndpfnapjaaRwZ
namespace Go.Proofs.Ytonkdndpfnapjaa
open Go.ChangeShapes Go.WideShapes Go.ChangeAt Go.RowKit Go.Sort
set_option linter.unusedVariables false

set_option maxHeartbeats 8000000 in
set_option maxRecDepth 100000 in
theorem specIsOptimal_v {v : Value} {x : PatchD} (w : World) (h : VPatch w v x) :
    Calls Try.prog 11 #[v] w fun e w' => e = .returned (.bool (optB x)) ∧ Below w.heap.size w w' := by
  obtain ⟨p1, c1, p2, c2, p3, c3, rfl, hp⟩ := PPatch.of h
  obtain ⟨g, hg⟩ : ∃ g, g = w.heap.size := ⟨_, rfl⟩
  obtain ⟨E, hE⟩ : ∃ E, E = w.alloc (.cells #[.int .i64 x.inputs, .slice p1 x.tables.length c1, .slice p2 x.nodes.length c2, .slice p3 x.outputs.length c3] 32) := ⟨_, rfl⟩
  rw [← hE, ← hg] at hp
  have hB0 : Below w.heap.size w E := by rw [hE]; exact (Below.refl _ _).alloc (Nat.le_refl _) _
  have bx : Box E g [.int .i64 x.inputs, .slice p1 x.tables.length c1, .slice p2 x.nodes.length c2, .slice p3 x.outputs.length c3] 32 := by rw [hE, hg]; exact Box.newAt w _ _ rfl
  have HE := Lib.hid hE
  have HG := Lib.hid hg
  clear hE hg h
  have z2 := bx.cell 2 rfl
  have hgl := bx.lt
  have OK : Hid (∀ b, okB x = b → ∀ W, Below E.heap.size E W → Calls Try.prog 30 #[.pointer (some ⟨g, 0, none⟩)] W fun e w' => e = .returned (.bool b) ∧ Below W.heap.size W w') := fun b hb W hW => by
    rw [← hb]; exact l07Ok_any W (hp.below hW)
  have NE : Hid (okB x = true → ∀ W, Below E.heap.size E W → Calls Try.prog 21 #[.pointer (some ⟨g, 0, none⟩)] W fun e w' => ∃ p c, e = .returned (.slice p (need x).length c) ∧ Below W.heap.size W w') := fun hb W hW =>
    (l07Needed_any W (hp.below hW) (okB_formed hb)).mono fun e w' ⟨u, he, ho, hbl⟩ => by
      obtain ⟨p, c, rfl, -⟩ := ho.rd
      exact ⟨p, c, he, hbl⟩
  have FI : Hid (okB x = true → ∀ W, Below E.heap.size E W → Calls Try.prog 31 #[.pointer (some ⟨g, 0, none⟩)] W fun e w' => e = .returned (.tuple #[.agg #[.int .i64 (nxR x), .int .i64 (nxN x)], .bool (nxB x)]) ∧ Below W.heap.size W w') := fun hb W hW =>
    l10First_x W (hp.below hW) hb
  have HR : Hid (∀ b, okB x = b → optB x = (b && (decide ((need x).length = x.nodes.length) && !nxB x))) := fun b hb => by unfold optB; rw [hb]
  generalize optB x = R at HR ⊢
  clear hp bx
  have hcur := belowDrew E
  cases hF : okB x
  case false =>
    have k3 := Lib.hid (OK.out _ hF)
    obtain rfl := HR.out _ hF
    have K := Lib.hid (fun n os => Calls.regrown_of (k3.out _ (below_regrown E n os)))
    have s2 := cell_regrown z2
    clear OK NE FI HR hF k3 z2 hcur
    go_enter Try.func11, Try.ntmps11
    go_upto_region 1 with fail
    rw [← HE.out, ← HG.out]
    refine wp_region_quiet_below (by kernel_rfl) (by kernel_rfl) ?_
    repeat (first | go_big_quiet_step ((go_at_call 30; exact K.out _ _)) | quiet_step ((go_at_call 30; exact K.out _ _)))
    refine wpQuiet_nil ?_
    intro _ hw'
    obtain ⟨⟨dq, osq⟩, hw''⟩ := hw'
    subst hw''
    have hq := below_regrown E dq osq
    go_wp2_with fail
    go_ret
    exact ⟨rfl, hB0.trans (hq.mono hB0.size)⟩
  have k3 := Lib.hid (OK.out _ hF)
  have k4 := Lib.hid (NE.out hF)
  have k5 := Lib.hid (FI.out hF)
  obtain rfl := HR.out _ hF
  clear OK NE FI HR hF
  generalize (need x).length = m at k4 ⊢
  generalize nxB x = t at k5 ⊢
  generalize nxR x = r at k5
  generalize nxN x = n at k5
  cases hq : ((m : Int) != (x.nodes.length : Int))
  case true =>
    have hd : decide (m = x.nodes.length) = false := by
      rw [bne_iff_ne] at hq
      rw [decide_eq_false_iff_not]
      omega
    have hR : (true && (decide (m = x.nodes.length) && !t)) = false := by rw [hd]; rfl
    generalize (true && (decide (m = x.nodes.length) && !t)) = R at hR ⊢
    subst hR
    clear hd
    go_enter Try.func11, Try.ntmps11
    go_upto_region 1 with fail
    rw [← HE.out, ← HG.out]
    go_region_held3 (fun W => W.cell? ⟨g, 2, none⟩ = some (.slice p2 x.nodes.length c2)) (first | go_keep | exact (hcur.cell (p := ⟨g, 2, none⟩) hgl).trans z2) (first | (go_at_call 30; refine (k3.out _ hcur).mono ?_; rintro e F ⟨rfl, hb⟩; have hcur := hcur.trans (hb.mono hcur.size)) | (go_at_call 21; refine (k4.out _ hcur).mono ?_; rintro e F ⟨op, oc, rfl, hb⟩; have hcur := hcur.trans (hb.mono hcur.size)))
    all_goals (go_wp2_with fail; go_ret; exact ⟨rfl, hB0.trans (hcur.mono hB0.size)⟩)
  case false =>
    have hd : decide (m = x.nodes.length) = true := by
      rw [bne_eq_false_iff_eq] at hq
      rw [decide_eq_true_iff]
      omega
    have hR : (true && (decide (m = x.nodes.length) && !t)) = !t := by rw [hd]; rfl
    generalize (true && (decide (m = x.nodes.length) && !t)) = R at hR ⊢
    subst hR
    clear hd
    cases t
    all_goals
      go_enter Try.func11, Try.ntmps11
      go_upto_region 1 with fail
      rw [← HE.out, ← HG.out]
      go_region_held3 (fun W => W.cell? ⟨g, 2, none⟩ = some (.slice p2 x.nodes.length c2)) (first | go_keep | exact (hcur.cell (p := ⟨g, 2, none⟩) hgl).trans z2) (first | (go_at_call 30; refine (k3.out _ hcur).mono ?_; rintro e F ⟨rfl, hb⟩; have hcur := hcur.trans (hb.mono hcur.size)) | (go_at_call 21; refine (k4.out _ hcur).mono ?_; rintro e F ⟨op, oc, rfl, hb⟩; have hcur := hcur.trans (hb.mono hcur.size)))
      all_goals
        (go_wp2_with ((go_at_call 31; refine (k5.out _ hcur).mono ?_; rintro e F ⟨rfl, hb⟩; have hcur := (hcur.trans (hb.mono hcur.size)).alloc (Nat.le_trans hcur.size hb.size) (.cells #[.int .i64 r, .int .i64 n] 39)))
         go_ret
         exact ⟨rfl, hB0.trans (hcur.mono hB0.size)⟩)
set_option maxHeartbeats 8000000 in
set_option maxRecDepth 100000 in
theorem implIsOptimal_v {v : Value} {x : PatchD} (w : World) (h : VPatch w v x) :
    Calls Try.prog 12 #[v] w fun e w' => e = .returned (.bool (optB x)) ∧ Below w.heap.size w w' := by
  have hv := h
  obtain ⟨p1, c1, p2, c2, p3, c3, rfl, -, -, -⟩ := h
  obtain ⟨g, hg⟩ : ∃ g, g = w.heap.size := ⟨_, rfl⟩
  obtain ⟨E, hE⟩ : ∃ E, E = w.alloc (.cells #[.int .i64 x.inputs, .slice p1 x.tables.length c1, .slice p2 x.nodes.length c2, .slice p3 x.outputs.length c3] 32) := ⟨_, rfl⟩
  have hB0 : Below w.heap.size w E := by rw [hE]; exact (Below.refl _ _).alloc (Nat.le_refl _) _
  have bx : Box E g [.int .i64 x.inputs, .slice p1 x.tables.length c1, .slice p2 x.nodes.length c2, .slice p3 x.outputs.length c3] 32 := by rw [hE, hg]; exact Box.newAt w _ _ rfl
  have HE := Lib.hid hE
  have HG := Lib.hid hg
  clear hE hg
  have AS := Lib.hid (isPatch_v E (hv.below hB0))
  have HR : Hid (∀ b, okB x = b → optB x = (b && (decide ((need x).length = x.nodes.length) && !nxB x))) := fun b hb => by unfold optB; rw [hb]
  generalize optB x = R at HR ⊢
  have z0 := bx.cell 0 rfl
  have z1 := bx.cell 1 rfl
  have z2 := bx.cell 2 rfl
  have z3 := bx.cell 3 rfl
  cases hok : okB x
  case false =>
    rw [hok] at AS
    obtain rfl := HR.out _ hok
    clear HR hok hv
    go_enter Try.func12, Try.ntmps12
    go_upto_region 1 with fail
    rw [← HE.out, ← HG.out]
    go_wp2_with fail
    refine AS.out.mono ?_
    rintro e W1 ⟨rfl, hb1⟩
    have k1 := hB0.trans (hb1.mono hB0.size)
    go_wp2_with fail
    go_ret
    exact ⟨rfl, k1⟩
  rw [hok] at AS
  have HF := Lib.hid (okB_formed hok)
  have HT : Hid (nxB x = true → R = false) := fun e => by rw [HR.out _ hok, e]; simp
  have HQ : Hid (∀ b, (((need x).length : Int) == (x.nodes.length : Int)) = b → nxB x = false → R = b) := fun b hb e => by
    rw [HR.out _ hok, e, ← hb, Bool.eq_iff_iff]
    simp only [Bool.true_and, Bool.not_false, Bool.and_true, decide_eq_true_iff, beq_iff_eq]
    omega
  have FI : Hid (∀ W, Below E.heap.size E W → Calls Try.prog 33 #[.agg #[.int .i64 x.inputs, .slice p1 x.tables.length c1, .slice p2 x.nodes.length c2, .slice p3 x.outputs.length c3]] W fun e w' => ∃ Q : PatchD, ∃ s1 d1 s2 d2 s3 d3, e = .returned (.tuple #[.agg #[.int .i64 (nxR x), .int .i64 (nxN x)], .agg #[.int .i64 Q.inputs, .slice s1 Q.tables.length d1, .slice s2 Q.nodes.length d2, .slice s3 Q.outputs.length d3], .bool (nxB x)]) ∧ Below W.heap.size W w') := fun W hW =>
    (next_x W (hv.below (hB0.trans (hW.mono hB0.size))) HF.out).mono fun e w' ⟨v', he, hvp, hbl⟩ => by
      obtain ⟨s1, d1, s2, d2, s3, d3, rfl, -, -, -⟩ := hvp
      exact ⟨nxP x, s1, d1, s2, d2, s3, d3, he, hbl⟩
  have NE : Hid (∀ W, Below E.heap.size E W → Calls Try.prog 34 #[.agg #[.int .i64 x.inputs, .slice p1 x.tables.length c1, .slice p2 x.nodes.length c2, .slice p3 x.outputs.length c3]] W fun e w' => ∃ p c, e = .returned (.slice p (need x).length c) ∧ Below W.heap.size W w') := fun W hW =>
    (needed_v W (hv.below (hB0.trans (hW.mono hB0.size))) HF.out).mono fun e w' ⟨u, he, ho, hbl⟩ => by
      obtain ⟨p, c, rfl, -⟩ := ho.rd
      exact ⟨p, c, he, hbl⟩
  clear HR hok hv HF
  generalize nxR x = r at FI
  generalize nxN x = n at FI
  generalize nxB x = t at FI HT HQ
  generalize (need x).length = m at NE HQ
  go_enter Try.func12, Try.ntmps12
  go_upto_region 1 with fail
  rw [← HE.out, ← HG.out]
  go_wp2_with fail
  refine AS.out.mono ?_
  rintro e W1 ⟨rfl, hb1⟩
  have bx1 := bx.below hb1
  have k1 := hB0.trans (hb1.mono hB0.size)
  have F1 := Lib.hid (FI.out W1 hb1)
  clear z0 z1 z2 z3
  have z0 := bx1.cell 0 rfl
  have z1 := bx1.cell 1 rfl
  have z2 := bx1.cell 2 rfl
  have z3 := bx1.cell 3 rfl
  go_wp2_with fail
  refine F1.out.mono ?_
  rintro e W2 ⟨Q, s1, d1, s2, d2, s3, d3, rfl, hb2⟩
  have k2 := k1.trans (hb2.mono k1.size)
  obtain ⟨V1, hV1⟩ : ∃ V, V = W2.alloc (.cells #[.int .i64 r, .int .i64 n] 39) := ⟨_, rfl⟩
  have x1 : Below W2.heap.size W2 V1 := by rw [hV1]; exact (Below.refl _ _).alloc (Nat.le_refl _) _
  obtain ⟨V, hV⟩ : ∃ V, V = V1.alloc (.cells #[.int .i64 Q.inputs, .slice s1 Q.tables.length d1, .slice s2 Q.nodes.length d2, .slice s3 Q.outputs.length d3] 32) := ⟨_, rfl⟩
  have x2 : Below V1.heap.size V1 V := by rw [hV]; exact (Below.refl _ _).alloc (Nat.le_refl _) _
  have eV := (hb1.trans ((hb2.trans ((x1.mono hb2.size).trans (x2.mono (Nat.le_trans hb2.size x1.size)))).mono hb1.size))
  have kV := hB0.trans (eV.mono hB0.size)
  have bV := bx.below eV
  have HV1 := Lib.hid hV1
  have HV := Lib.hid hV
  clear hV hV1 x1 x2 z0 z1 z2 z3 FI F1 bx1 bx AS
  have z0 := bV.cell 0 rfl
  have z1 := bV.cell 1 rfl
  have z2 := bV.cell 2 rfl
  have z3 := bV.cell 3 rfl
  have hgl := bV.lt
  have hcur := belowDrew V
  go_upto_region 4 with fail
  rw [← HV1.out, ← HV.out]
  cases t
  case true =>
    obtain rfl := HT.out rfl
    have s0 := cell_regrown z0
    have s1' := cell_regrown z1
    have s2' := cell_regrown z2
    have s3' := cell_regrown z3
    clear NE hcur
    refine wp_region_quiet_below (by kernel_rfl) (by kernel_rfl) ?_
    repeat (first | go_big_quiet_step (fail) | quiet_step (fail))
    refine wpQuiet_nil ?_
    intro _ hw'
    obtain ⟨⟨dq, osq⟩, hw''⟩ := hw'
    subst hw''
    have hq := below_regrown V dq osq
    go_wp2_with fail
    go_ret
    exact ⟨rfl, kV.trans (hq.mono kV.size)⟩
  case false =>
    have k4 : Hid (∀ W, Below V.heap.size V W → Calls Try.prog 34 #[.agg #[.int .i64 x.inputs, .slice p1 x.tables.length c1, .slice p2 x.nodes.length c2, .slice p3 x.outputs.length c3]] W fun e w' => ∃ p c, e = .returned (.slice p m c) ∧ Below W.heap.size W w') := fun W hW => NE.out W (eV.trans (hW.mono eV.size))
    cases hq : ((m : Int) == (x.nodes.length : Int))
    all_goals
      obtain rfl := HQ.out _ hq rfl
      go_region_held3 (fun W => W.cell? ⟨g, 0, none⟩ = some (.int .i64 x.inputs) ∧ W.cell? ⟨g, 1, none⟩ = some (.slice p1 x.tables.length c1) ∧ W.cell? ⟨g, 2, none⟩ = some (.slice p2 x.nodes.length c2) ∧ W.cell? ⟨g, 3, none⟩ = some (.slice p3 x.outputs.length c3)) (first | go_keep | exact ⟨(hcur.cell (p := ⟨g, 0, none⟩) hgl).trans z0, (hcur.cell (p := ⟨g, 1, none⟩) hgl).trans z1, (hcur.cell (p := ⟨g, 2, none⟩) hgl).trans z2, (hcur.cell (p := ⟨g, 3, none⟩) hgl).trans z3⟩) (first | (go_at_call 34; refine (k4.out _ hcur).mono ?_; rintro e F ⟨op, oc, rfl, hb⟩; have hcur := hcur.trans (hb.mono hcur.size)))
      all_goals (go_wp2_with fail; go_ret; exact ⟨by first | rfl | exact ret_bool hq | exact ret_bool hq.symm, kV.trans (hcur.mono kV.size)⟩)
end Go.Proofs.Ytonkdndpfnapjaa
