/-
  Patches: validity; contracts of both sides.
-/
import Derived.Test.YtdcacmmglkcliaaGreatDoorPatO
import Derived.Deep.RegionHeld3
namespace Go.Proofs.YtdcacmmglkcliaaGreatDoor
open Go.ChangeShapes Go.WideShapes Go.ChangeAt Go.RowKit Go.Sort
set_option linter.unusedVariables false

theorem belowDrew (w : World) : Below w.heap.size w w.drew := ⟨rfl, rfl, rfl, Nat.le_refl _, fun _ _ => rfl⟩
theorem PPatch.of {w : World} {x : PatchD} {v : Value} (h : VPatch w v x) : ∃ p1 c1 p2 c2 p3 c3, v = .agg #[.int .i64 x.inputs, .slice p1 x.tables.length c1, .slice p2 x.nodes.length c2, .slice p3 x.outputs.length c3] ∧
    PPatch (w.alloc (.cells #[.int .i64 x.inputs, .slice p1 x.tables.length c1, .slice p2 x.nodes.length c2, .slice p3 x.outputs.length c3] 46)) w.heap.size x := by
  obtain ⟨p1, c1, p2, c2, p3, c3, rfl, r1, r2, r3⟩ := h
  have hB0 : Below w.heap.size w (w.alloc (.cells #[.int .i64 x.inputs, .slice p1 x.tables.length c1, .slice p2 x.nodes.length c2, .slice p3 x.outputs.length c3] 46)) := (Below.refl _ _).alloc (Nat.le_refl _) _
  exact ⟨p1, c1, p2, c2, p3, c3, rfl, p1, c1, p2, c2, p3, c3, Box.newAt w _ _ rfl, r1.below hB0, r2.below hB0, r3.below hB0⟩
theorem l07Ok_any {g : Nat} {x : PatchD} (w : World) (h : PPatch w g x) :
    Calls Tryz.prog 49 #[.pointer (some ⟨g, 0, none⟩)] w fun e w' => e = .returned (.bool (okB x)) ∧ Below w.heap.size w w' := by
  have HR : Hid (∀ b, formedB x = b → okB x = (b && decide ((orderL x.nodes).length = x.nodes.length))) := fun b hb => by unfold okB; rw [hb]
  generalize okB x = R at HR ⊢
  have FM := Lib.hid (l07Formed_any w h)
  cases hF : formedB x
  case false =>
    rw [hF] at FM
    obtain rfl := HR.out _ hF
    go_enter Tryz.func49, Tryz.ntmps49
    go_wp2_with (go_at_call 92; refine FM.out.mono ?_; rintro e W1 ⟨rfl, hb1⟩)
    go_ret
    exact ⟨rfl, hb1⟩
  rw [hF] at FM
  obtain rfl := HR.out _ hF
  generalize hb : decide ((orderL x.nodes).length = x.nodes.length) = b
  have HB := Lib.hid hb
  clear hb HR
  go_enter Tryz.func49, Tryz.ntmps49
  go_wp2_with (go_at_call 92; refine FM.out.mono ?_; rintro e W1 ⟨rfl, hb1⟩)
  refine (l07Order_any W1 (h.below hb1) hF).mono ?_
  rintro e W2 ⟨u, rfl, ho, hb2⟩
  rw [HB.out]
  go_wp2_with fail
  go_ret
  exact ⟨rfl, hb1.trans (hb2.mono hb1.size)⟩
set_option maxHeartbeats 1600000 in
set_option maxRecDepth 100000 in
theorem isPatch_v {v : Value} {x : PatchD} (w : World) (h : VPatch w v x) :
    Calls Tryz.prog 52 #[v] w fun e w' => e = .returned (.bool (okB x)) ∧ Below w.heap.size w w' := by
  have HR : Hid (∀ b, formedB x = b → okB x = (b && decide ((orderL x.nodes).length = x.nodes.length))) := fun b hb => by unfold okB; rw [hb]
  generalize okB x = R at HR ⊢
  have hv := h
  obtain ⟨p1, c1, p2, c2, p3, c3, rfl, r1, r2, r3⟩ := h
  have hl2 := r2.len
  unfold maxLen at hl2
  clear r1 r2 r3
  obtain ⟨g, hg⟩ : ∃ g, g = w.heap.size := ⟨_, rfl⟩
  obtain ⟨E0, hE0⟩ : ∃ E, E = w.alloc (.cells #[.int .i64 x.inputs, .slice p1 x.tables.length c1, .slice p2 x.nodes.length c2, .slice p3 x.outputs.length c3] 46) := ⟨_, rfl⟩
  have hB0 : Below w.heap.size w E0 := by rw [hE0]; exact (Below.refl _ _).alloc (Nat.le_refl _) _
  have bx : Box E0 g [.int .i64 x.inputs, .slice p1 x.tables.length c1, .slice p2 x.nodes.length c2, .slice p3 x.outputs.length c3] 46 := by rw [hE0, hg]; exact Box.newAt w _ _ rfl
  have HE := Lib.hid hE0
  have HG := Lib.hid hg
  clear hE0 hg
  have z0 := bx.cell 0 rfl
  have z1 := bx.cell 1 rfl
  have z2 := bx.cell 2 rfl
  have z3 := bx.cell 3 rfl
  have hgl := bx.lt
  have k1 : Hid (∀ b, formedB x = b → ∀ W, Below E0.heap.size E0 W → Calls Tryz.prog 97 #[.agg #[.int .i64 x.inputs, .slice p1 x.tables.length c1, .slice p2 x.nodes.length c2, .slice p3 x.outputs.length c3]] W fun e w' => e = .returned (.bool b) ∧ Below W.heap.size W w') := fun b hb W hW => by
    rw [← hb]; exact isWellFormed_v W (hv.below (hB0.trans (hW.mono hB0.size)))
  have k2 : Hid (formedB x = true → ∀ W, Below E0.heap.size E0 W → Calls Tryz.prog 98 #[.agg #[.int .i64 x.inputs, .slice p1 x.tables.length c1, .slice p2 x.nodes.length c2, .slice p3 x.outputs.length c3]] W fun e w' => ∃ p c, e = .returned (.slice p (orderL x.nodes).length c) ∧ Below W.heap.size W w') := fun hb W hW =>
    (order_v W (hv.below (hB0.trans (hW.mono hB0.size))) hb).mono fun e w' ⟨u, he, ho, hbl⟩ => by
      obtain ⟨p, c, rfl, -⟩ := ho.rd
      exact ⟨p, c, he, hbl⟩
  clear hv bx
  have hcur := belowDrew E0
  cases hF : formedB x
  case false =>
    have k3 := Lib.hid (k1.out _ hF)
    obtain rfl := HR.out _ hF
    have K := Lib.hid (fun n os => Calls.regrown_of (k3.out _ (below_regrown E0 n os)))
    have s0 := cell_regrown z0
    have s1 := cell_regrown z1
    have s2 := cell_regrown z2
    have s3 := cell_regrown z3
    clear k1 k2 HR hF k3 z0 z1 z2 z3 hcur
    go_enter Tryz.func52, Tryz.ntmps52
    go_upto_region 1 with fail
    rw [← HE.out, ← HG.out]
    refine wp_region_quiet_below (by kernel_rfl) (by kernel_rfl) ?_
    repeat (first | go_big_quiet_step ((go_at_call 97; exact K.out _ _)) | quiet_step ((go_at_call 97; exact K.out _ _)))
    refine wpQuiet_nil ?_
    intro _ hw'
    obtain ⟨⟨dq, osq⟩, hw''⟩ := hw'
    subst hw''
    have hq := below_regrown E0 dq osq
    go_wp2_with fail
    go_ret
    exact ⟨rfl, hB0.trans (hq.mono hB0.size)⟩
  have k3 := Lib.hid (k1.out _ hF)
  have k4 := Lib.hid (k2.out hF)
  obtain rfl := HR.out _ hF
  clear k1 k2 HR hF
  generalize hm : (orderL x.nodes).length = m at k4 ⊢
  clear hm
  have RES : Hid (∀ b : Bool, ((m : Int) == (x.nodes.length : Int)) = b → (true && decide (m = x.nodes.length)) = b) := fun b hb => by
    rw [← hb, Bool.true_and, Bool.eq_iff_iff, decide_eq_true_iff, beq_iff_eq]; omega
  generalize (true && decide (m = x.nodes.length)) = R at RES ⊢
  cases hq : ((m : Int) == (x.nodes.length : Int))
  all_goals
    obtain rfl := RES.out _ hq
    go_enter Tryz.func52, Tryz.ntmps52
    go_upto_region 1 with fail
    rw [← HE.out, ← HG.out]
    go_region_held3 (fun W => W.cell? ⟨g, 0, none⟩ = some (.int .i64 x.inputs) ∧ W.cell? ⟨g, 1, none⟩ = some (.slice p1 x.tables.length c1) ∧ W.cell? ⟨g, 2, none⟩ = some (.slice p2 x.nodes.length c2) ∧ W.cell? ⟨g, 3, none⟩ = some (.slice p3 x.outputs.length c3)) (first | go_keep | exact ⟨(hcur.cell (p := ⟨g, 0, none⟩) hgl).trans z0, (hcur.cell (p := ⟨g, 1, none⟩) hgl).trans z1, (hcur.cell (p := ⟨g, 2, none⟩) hgl).trans z2, (hcur.cell (p := ⟨g, 3, none⟩) hgl).trans z3⟩) (first | (go_at_call 97; refine (k3.out _ hcur).mono ?_; rintro e F ⟨rfl, hb⟩; have hcur := hcur.trans (hb.mono hcur.size)) | (go_at_call 98; refine (k4.out _ hcur).mono ?_; rintro e F ⟨op, oc, rfl, hb⟩; have hcur := hcur.trans (hb.mono hcur.size)))
    all_goals (go_wp2_with fail; go_ret; exact ⟨by first | rfl | exact ret_bool hq | exact ret_bool hq.symm, hB0.trans (hcur.mono hB0.size)⟩)
end Go.Proofs.YtdcacmmglkcliaaGreatDoor
