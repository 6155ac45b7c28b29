/-
  States of patches: validity; contracts of both functions.
-/
import Derived.Test.YtbjpianbeebmeabPatS2
namespace Go.Proofs.Ytbjpianbeebmeab
open Go.ChangeShapes Go.WideShapes Go.ChangeAt Go.RowKit Go.Sort
set_option linter.unusedVariables false

theorem implValidState_v {v v' : Value} {x : PatchD} {s : StateD} (w : World) (h : VPatch w v x) (h' : VState w v' s) :
    Calls Try.prog 42 #[v, v'] w fun e w' => e = .returned (.bool (vsB x s)) ∧ Below w.heap.size w w' := by
  have hv := h
  have hv' := h'
  obtain ⟨p1, c1, p2, c2, p3, c3, rfl, r1, r2, r3⟩ := h
  obtain ⟨q1, d1, rfl, s1⟩ := h'
  clear r1 r2 r3 s1
  obtain ⟨g, hg⟩ : ∃ g, g = w.heap.size := ⟨_, rfl⟩
  obtain ⟨E0, hE0⟩ : ∃ E, E = (w.alloc (.cells #[.int .i64 x.inputs, .slice p1 x.tables.length c1, .slice p2 x.nodes.length c2, .slice p3 x.outputs.length c3] 35)).alloc (.cells #[.slice q1 s.rows.length d1] 37) := ⟨_, rfl⟩
  have hB0 : Below w.heap.size w E0 := by rw [hE0]; exact ((Below.refl _ _).alloc (Nat.le_refl _) _).alloc (by simp) _
  have bx : Box E0 g [.int .i64 x.inputs, .slice p1 x.tables.length c1, .slice p2 x.nodes.length c2, .slice p3 x.outputs.length c3] 35 := by rw [hE0, hg]; exact (Box.newAt w _ _ rfl).alloc _
  have bs : Box E0 (g + 1) [.slice q1 s.rows.length d1] 37 := by rw [hE0, hg]; exact Box.newAt (w.alloc _) _ _ (by simp)
  have HE := Lib.hid hE0
  have HG := Lib.hid hg
  clear hE0 hg
  have z0 := bx.cell 0 rfl
  have z1 := bx.cell 1 rfl
  have z2 := bx.cell 2 rfl
  have z3 := bx.cell 3 rfl
  have K0 : Hid (∀ b, okB x = b → Calls Try.prog 62 #[.agg #[.int .i64 x.inputs, .slice p1 x.tables.length c1, .slice p2 x.nodes.length c2, .slice p3 x.outputs.length c3]] E0 fun e w' => e = .returned (.bool b) ∧ Below E0.heap.size E0 w') := fun b hb => by rw [← hb]; exact isPatch_v _ (hv.below hB0)
  have K1 : Hid (okB x = true → ∀ W, Below E0.heap.size E0 W → Calls Try.prog 63 #[.agg #[.int .i64 x.inputs, .slice p1 x.tables.length c1, .slice p2 x.nodes.length c2, .slice p3 x.outputs.length c3], .agg #[.slice q1 s.rows.length d1]] W fun e w' => e = .returned (.bool (stB x.nodes s.rows)) ∧ Below W.heap.size W w') := fun hb W hW =>
    isState_v W (hv.below (hB0.trans (hW.mono hB0.size))) (hv'.below (hB0.trans (hW.mono hB0.size))) (okB_start hb)
  have HR : Hid (∀ b, okB x = b → vsB x s = (b && stB x.nodes s.rows)) := fun b hb => by unfold vsB; rw [hb]
  generalize vsB x s = R at HR ⊢
  generalize stB x.nodes s.rows = T at K1 HR
  clear hv hv'
  cases eo : okB x
  case false =>
    have hR : R = false := by rw [HR.out _ eo]; rfl
    subst hR
    have K2 := Lib.hid (K0.out _ eo)
    clear K0 K1 HR eo
    go_enter Try.func42, Try.ntmps42
    go_upto_region 1 with fail
    rw [← HE.out, ← HG.out]
    go_wp2_with (go_at_call 62; refine K2.out.mono ?_; rintro e W1 ⟨rfl, hb1⟩)
    go_ret
    exact ⟨rfl, hB0.trans (hb1.mono hB0.size)⟩
  have hR : R = T := by rw [HR.out _ eo, Bool.true_and]
  subst hR
  have K2 := Lib.hid (K0.out _ eo)
  have K3 := Lib.hid (K1.out eo)
  clear K0 K1 HR eo
  go_enter Try.func42, Try.ntmps42
  go_upto_region 1 with fail
  rw [← HE.out, ← HG.out]
  go_wp2_with (first | (go_at_call 62; refine K2.out.mono ?_; rintro e W1 ⟨rfl, hb1⟩; have zz0 := (bx.below hb1).cell 0 rfl; have zz1 := (bx.below hb1).cell 1 rfl; have zz2 := (bx.below hb1).cell 2 rfl; have zz3 := (bx.below hb1).cell 3 rfl; have yy := (bs.below hb1).cell 0 rfl) | (go_at_call 63; refine (K3.out _ hb1).mono ?_; rintro e W2 ⟨rfl, hb2⟩))
  go_ret
  exact ⟨rfl, hB0.trans ((hb1.trans (hb2.mono hb1.size)).mono hB0.size)⟩
end Go.Proofs.Ytbjpianbeebmeab
