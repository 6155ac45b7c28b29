/-
  Patches: equality; contracts of both sides.
-/
import Derived.Test.YtgkkmnfjndjkgaaTyPatch
import Derived.Test.YtgkkmnfjndjkgaaSeq
import Derived.Lib.QuietBelow
namespace Go.Proofs.Ytgkkmnfjndjkgaa
open Go.ChangeShapes Go.WideShapes Go.ChangeAt Go.RowKit Go.Sort
set_option linter.unusedVariables false

theorem NodeD.ext' {x y : NodeD} (h : x.kind = y.kind ∧ x.a = y.a ∧ x.b = y.b ∧ x.src = y.src) : x = y := by
  obtain ⟨a, b, c, d⟩ := x
  obtain ⟨a', b', c', d'⟩ := y
  obtain ⟨h1, h2, h3, h4⟩ := h
  simp only at h1 h2 h3 h4
  subst h1 h2 h3 h4
  rfl
instance : DecidableEq NodeD := fun x y =>
  if h : x.kind = y.kind ∧ x.a = y.a ∧ x.b = y.b ∧ x.src = y.src then isTrue (NodeD.ext' h)
  else isFalse fun e => h (by subst e; exact ⟨rfl, rfl, rfl, rfl⟩)
theorem node_eq (x y : NodeD) (b1 b2 b3 b4 : Bool) (h1 : (x.kind == y.kind) = b1) (h2 : (x.a == y.a) = b2) (h3 : (x.b == y.b) = b3) (h4 : decide (x.src = y.src) = b4) : decide (x = y) = (b1 && (b2 && (b3 && b4))) := by
  subst h1 h2 h3 h4
  rw [Bool.eq_iff_iff, decide_eq_true_iff]
  simp only [Bool.and_eq_true, beq_iff_eq, decide_eq_true_iff]
  exact ⟨fun e => by subst e; exact ⟨rfl, rfl, rfl, rfl⟩, fun ⟨a, b, c, d⟩ => NodeD.ext' ⟨a, b, c, d⟩⟩
/-- two patches are the same -/
def pEq (x y : PatchD) : Bool := decide (x.inputs = y.inputs) && (decide (x.tables = y.tables) && (decide (x.outputs = y.outputs) && decide (x.nodes = y.nodes)))
set_option maxHeartbeats 800000 in
theorem sameNode_v {v v' : Value} {x y : NodeD} (w : World) (h : VNode w v x) (h' : VNode w v' y) :
    Calls Try.prog 62 #[v, v'] w fun e w' => e = .returned (.bool (decide (x = y))) ∧ Below w.heap.size w w' := by
  obtain ⟨p3, c3, rfl, r3⟩ := h
  obtain ⟨q3, d3, rfl, s3⟩ := h'
  have hB0 : Below w.heap.size w ((w.alloc (.cells #[.int .i64 x.kind, .int .i64 x.a, .int .i64 x.b, .slice p3 x.src.length c3] 65)).alloc (.cells #[.int .i64 y.kind, .int .i64 y.a, .int .i64 y.b, .slice q3 y.src.length d3] 65)) := ((Below.refl _ _).alloc (Nat.le_refl _) _).alloc (by simp) _
  have SM := Lib.hid (same_any (c := c3) (d := d3) _ (r3.below hB0) (s3.below hB0))
  have HR := Lib.hid (node_eq x y)
  generalize decide (x = y) = R at HR ⊢
  cases e1 : (x.kind == y.kind)
  case false =>
    obtain rfl := HR.out _ _ _ _ e1 rfl rfl rfl
    go_enter Try.func62, Try.ntmps62
    go_wp2_with fail
    go_ret
    exact ⟨rfl, hB0⟩
  cases e2 : (x.a == y.a)
  case false =>
    obtain rfl := HR.out _ _ _ _ e1 e2 rfl rfl
    go_enter Try.func62, Try.ntmps62
    go_wp2_with fail
    go_ret
    exact ⟨rfl, hB0⟩
  cases e3 : (x.b == y.b)
  case false =>
    obtain rfl := HR.out _ _ _ _ e1 e2 e3 rfl
    go_enter Try.func62, Try.ntmps62
    go_wp2_with fail
    go_ret
    exact ⟨rfl, hB0⟩
  obtain rfl := HR.out _ _ _ _ e1 e2 e3 rfl
  go_enter Try.func62, Try.ntmps62
  go_wp2_with (go_at_call 61; refine SM.out.mono ?_; rintro e w' ⟨rfl, rfl⟩)
  go_ret
  exact ⟨rfl, hB0⟩
set_option maxHeartbeats 1600000 in
theorem l07SameNode_any {b o b' o' : Nat} {x y : NodeD} (w : World) (h : PNode w b o x) (h' : PNode w b' o' y) :
    Calls Try.prog 56 #[.pointer (some ⟨b, o, none⟩), .pointer (some ⟨b', o', none⟩)] w fun e w' => e = .returned (.bool (decide (x = y))) ∧ Drawn w w' := by
  obtain ⟨z0, z1, z2, q, d, z3, hr⟩ := h
  obtain ⟨y0, y1, y2, q', d', y3, hr'⟩ := h'
  have HR := Lib.hid (node_eq x y)
  have HN : Hid (∀ m, Calls Try.prog 55 #[.slice q x.src.length d, .slice q' y.src.length d'] (w.drewN m) fun e w' => e = .returned (.bool (decide (x.src = y.src))) ∧ ∃ j, w' = (w.drewN m).drewN j) := fun m => l00Same_any (c := d) (d := d') _ (hr.drewN m) (hr'.drewN m)
  clear hr hr'
  generalize decide (x = y) = R at HR ⊢
  cases e1 : (x.kind == y.kind)
  case false =>
    obtain rfl := HR.out _ _ _ _ e1 rfl rfl rfl
    go_enter Try.func56, Try.ntmps56
    go_wp2_with fail
    go_quiet (fail)
    go_wp2_with fail
    go_ret
    exact ⟨rfl, (Drawn.refl w).on _⟩
  cases e2 : (x.a == y.a)
  case false =>
    obtain rfl := HR.out _ _ _ _ e1 e2 rfl rfl
    go_enter Try.func56, Try.ntmps56
    go_wp2_with fail
    go_quiet (fail)
    go_wp2_with fail
    go_ret
    exact ⟨rfl, (Drawn.refl w).on _⟩
  cases e3 : (x.b == y.b)
  case false =>
    obtain rfl := HR.out _ _ _ _ e1 e2 e3 rfl
    go_enter Try.func56, Try.ntmps56
    go_wp2_with fail
    go_quiet (fail)
    go_wp2_with fail
    go_ret
    exact ⟨rfl, (Drawn.refl w).on _⟩
  obtain rfl := HR.out _ _ _ _ e1 e2 e3 rfl
  go_enter Try.func56, Try.ntmps56
  go_wp2_with fail
  go_quiet ((go_at_call 55; exact Calls.quiet_of (HN.out _)))
  go_wp2_with fail
  go_ret
  exact ⟨rfl, (Drawn.refl w).on _⟩
theorem pEq_of {x y : PatchD} {b1 b2 b3 b4 : Bool} (h1 : decide (x.inputs = y.inputs) = b1) (h2 : decide (x.tables = y.tables) = b2) (h3 : decide (x.outputs = y.outputs) = b3) (h4 : decide (x.nodes = y.nodes) = b4) : pEq x y = (b1 && (b2 && (b3 && b4))) := by
  unfold pEq; rw [h1, h2, h3, h4]
set_option maxHeartbeats 3200000 in
set_option maxRecDepth 100000 in
theorem implSamePatch_v {v v' : Value} {x y : PatchD} (w : World) (h : VPatch w v x) (h' : VPatch w v' y) :
    Calls Try.prog 18 #[v, v'] w fun e w' => e = .returned (.bool (pEq x y)) ∧ Below w.heap.size w w' := by
  obtain ⟨p1, c1, p2, c2, p3, c3, rfl, r1, r2, r3⟩ := h
  obtain ⟨q1, d1, q2, d2, q3, d3, rfl, s1, s2, s3⟩ := h'
  have hl1 := r2.len
  have hl2 := s2.len
  unfold maxLen at hl1 hl2
  have hB0 : Below w.heap.size w ((w.alloc (.cells #[.int .i64 x.inputs, .slice p1 x.tables.length c1, .slice p2 x.nodes.length c2, .slice p3 x.outputs.length c3] 31)).alloc (.cells #[.int .i64 y.inputs, .slice q1 y.tables.length d1, .slice q2 y.nodes.length d2, .slice q3 y.outputs.length d3] 31)) := ((Below.refl _ _).alloc (Nat.le_refl _) _).alloc (by simp) _
  have bb0 : Box ((w.alloc (.cells #[.int .i64 x.inputs, .slice p1 x.tables.length c1, .slice p2 x.nodes.length c2, .slice p3 x.outputs.length c3] 31)).alloc (.cells #[.int .i64 y.inputs, .slice q1 y.tables.length d1, .slice q2 y.nodes.length d2, .slice q3 y.outputs.length d3] 31)) (w.heap.size + 1) [.int .i64 y.inputs, .slice q1 y.tables.length d1, .slice q2 y.nodes.length d2, .slice q3 y.outputs.length d3] 31 := Box.newAt (w.alloc _) _ _ (by simp)
  have SA := Lib.hid (sameAll_any (c := c1) (d := d1) _ (r1.below hB0) (s1.below hB0))
  have SM := Lib.hid (same_any (c := c3) (d := d3) _ (r3.below hB0) (s3.below hB0))
  by_cases e1 : x.inputs = y.inputs
  case neg =>
    have n1 : (x.inputs != y.inputs) = true := by rw [bne_iff_ne]; exact e1
    rw [pEq_of (decide_eq_false e1) rfl rfl rfl]
    clear SA SM bb0
    go_enter Try.func18, Try.ntmps18
    go_wp2_with fail
    go_ret
    exact ⟨rfl, hB0⟩
  have n1 : (x.inputs != y.inputs) = false := by rw [bne_eq_false_iff_eq]; exact e1
  have E1 := Lib.hid (decide_eq_true e1)
  clear e1
  cases e2 : decide (x.tables = y.tables)
  case false =>
    rw [e2] at SA
    rw [pEq_of E1.out e2 rfl rfl]
    clear SM bb0 e2
    go_enter Try.func18, Try.ntmps18
    go_wp2_with (go_at_call 60; refine SA.out.mono ?_; rintro e w' ⟨rfl, rfl⟩)
    go_ret
    exact ⟨rfl, hB0⟩
  rw [e2] at SA
  have E2 := Lib.hid e2
  clear e2
  cases e3 : decide (x.outputs = y.outputs)
  case false =>
    rw [e3] at SM
    rw [pEq_of E1.out E2.out e3 rfl]
    clear bb0 e3
    go_enter Try.func18, Try.ntmps18
    go_wp2_with (first | (go_at_call 60; refine SA.out.mono ?_; rintro e w' ⟨rfl, rfl⟩) | (go_at_call 61; refine SM.out.mono ?_; rintro e w' ⟨rfl, rfl⟩))
    go_ret
    exact ⟨rfl, hB0⟩
  rw [e3] at SM
  rw [pEq_of E1.out E2.out e3 rfl]
  clear e3
  by_cases hl : x.nodes.length = y.nodes.length
  case neg =>
    have n4 : ((x.nodes.length : Int) != (y.nodes.length : Int)) = true := by rw [bne_iff_ne]; omega
    have e4 : decide (x.nodes = y.nodes) = false := decide_eq_false fun e => hl (by rw [e])
    rw [e4]
    clear e4 hl
    go_enter Try.func18, Try.ntmps18
    go_wp2_with (first | (go_at_call 60; refine SA.out.mono ?_; rintro e w' ⟨rfl, rfl⟩) | (go_at_call 61; refine SM.out.mono ?_; rintro e w' ⟨rfl, rfl⟩))
    go_ret
    exact ⟨rfl, hB0⟩
  have n4 : ((x.nodes.length : Int) != (y.nodes.length : Int)) = false := by rw [bne_eq_false_iff_eq]; omega
  have HL := Lib.hid hl
  clear hl
  simp only [Bool.true_and]
  generalize hE0 : (w.alloc (.cells #[.int .i64 x.inputs, .slice p1 x.tables.length c1, .slice p2 x.nodes.length c2, .slice p3 x.outputs.length c3] 31)).alloc (.cells #[.int .i64 y.inputs, .slice q1 y.tables.length d1, .slice q2 y.nodes.length d2, .slice q3 y.outputs.length d3] 31) = E0 at *
  have HE := Lib.hid hE0
  clear hE0
  have ba0 : Box E0 w.heap.size [.int .i64 x.inputs, .slice p1 x.tables.length c1, .slice p2 x.nodes.length c2, .slice p3 x.outputs.length c3] 31 := by
    rw [← HE.out]
    exact (Box.newAt w [.int .i64 x.inputs, .slice p1 x.tables.length c1, .slice p2 x.nodes.length c2, .slice p3 x.outputs.length c3] 31 rfl).alloc _
  have ha2 := ba0.cell 2 rfl
  have ha3 := ba0.cell 3 rfl
  have hb2 := bb0.cell 2 rfl
  have hb3 := bb0.cell 3 rfl
  go_enter Try.func18, Try.ntmps18
  go_wp2_with fail
  rw [HE.out]
  refine SA.out.mono ?_
  rintro e w' ⟨rfl, rfl⟩
  go_wp2_with (go_at_call 61; refine SM.out.mono ?_; rintro e w' ⟨rfl, rfl⟩)
  clear ha2 ha3 hb2 hb3 ba0
  go_loopw [40] (fun i wr => ∃ k : Nat, k ≤ x.nodes.length ∧ i = .int .i64 k ∧ x.nodes.take k = y.nodes.take k ∧ Below E0.heap.size E0 wr) (fun i _ => x.nodes.length - (intOf i).toNat)
  case atStart => exact ⟨0, Nat.zero_le _, rfl, rfl, Below.refl _ _⟩
  case round =>
    obtain ⟨k, hk, rfl, ht, hbel⟩ := hrel
    have HT := Lib.hid ht
    clear ht
    obtain ⟨wi, rfl⟩ : ∃ wi : World, wi = wr := ⟨_, rfl⟩
    have hBi := hB0.trans (hbel.mono hB0.size)
    by_cases hlt : k < x.nodes.length
    · have hlt2 : k < y.nodes.length := by have := HL.out; omega
      obtain ⟨b, o, rfl, hb, hc⟩ := (r2.below hBi).pos hlt
      obtain ⟨b', o', rfl, hb', hc'⟩ := (s2.below hBi).pos hlt2
      obtain ⟨z0, z1, z2, q, d, z3, hr⟩ := hc k hlt
      have hy := hc' k hlt2
      have bb1 := bb0.below hbel
      clear hc hc'
      generalize hx : x.nodes[k] = nx at z0 z1 z2 z3 hr
      generalize hyy : y.nodes[k] = ny at hy
      have HX := Lib.hid hx
      have HY := Lib.hid hyy
      clear hx hyy
      obtain ⟨F, hF⟩ : ∃ F, F = wi.alloc (.cells #[.int .i64 nx.kind, .int .i64 nx.a, .int .i64 nx.b, .slice q nx.src.length d] 65) := ⟨_, rfl⟩
      have hBF : Below wi.heap.size wi F := by rw [hF]; exact (Below.refl _ _).alloc (Nat.le_refl _) _
      have bx : Box F wi.heap.size [.int .i64 nx.kind, .int .i64 nx.a, .int .i64 nx.b, .slice q nx.src.length d] 65 := by rw [hF]; exact Box.newAt _ _ _ rfl
      have r0 := cell_regrown (bx.cell 0 rfl)
      have r1' := cell_regrown (bx.cell 1 rfl)
      have r2' := cell_regrown (bx.cell 2 rfl)
      have r3' := cell_regrown (bx.cell 3 rfl)
      have bb2 := cell_regrown ((bb1.below hBF).cell 2 rfl)
      have hrF := hr.below hBF
      obtain ⟨y0, y1, y2, q', d', y3, hr'⟩ := hy.below hBF
      have s0 := cell_regrown y0
      have s1' := cell_regrown y1
      have s2' := cell_regrown y2
      have s3' := cell_regrown y3
      have HF := Lib.hid hF
      have hbF := hbel.trans (hBF.mono hbel.size)
      have K1 : Hid (∀ n os, Calls Try.prog 62 #[.agg #[.int .i64 nx.kind, .int .i64 nx.a, .int .i64 nx.b, .slice q nx.src.length d], .agg #[.int .i64 ny.kind, .int .i64 ny.a, .int .i64 ny.b, .slice q' ny.src.length d']] (grow (redrawn F n) os) fun e w'' => e = .returned (.bool (decide (nx = ny))) ∧ ∃ p : Regrown, w'' = grow (redrawn F p.d) p.os) := fun n os => Calls.regrown_of (sameNode_v (x := nx) (y := ny) _ ⟨q, d, rfl, hrF.below (below_regrown F n os)⟩ ⟨q', d', rfl, hr'.below (below_regrown F n os)⟩)
      clear hF hr hr' hrF y0 y1 y2 y3 bb1 hBF bx hy
      cases e5 : decide (nx = ny)
      case false =>
        rw [e5] at K1
        have hne : nx ≠ ny := of_decide_eq_false e5
        have HNE := Lib.hid hne
        clear e5 hne
        go_wp2_with fail
        rw [← HF.out]
        refine wp_region_quiet_below (by kernel_rfl) (by kernel_rfl) ?_
        repeat (first | go_big_quiet_step ((go_at_call 62; exact K1.out _ _)) | quiet_step ((go_at_call 62; exact K1.out _ _)))
        refine wpQuiet_nil ?_
        intro _ hw'
        obtain ⟨⟨dq, osq⟩, hw''⟩ := hw'
        subst hw''
        have hq := hbF.trans ((below_regrown F dq osq).mono hbF.size)
        generalize grow (redrawn F dq) osq = F2 at hq ⊢
        go_wp2_with fail
        go_ret
        exact ⟨ret_bool (eqq_false hlt hlt2 (by rw [HX.out, HY.out]; exact HNE.out)).symm, hB0.trans (hq.mono hB0.size)⟩
      case true =>
        rw [e5] at K1
        have hee : nx = ny := of_decide_eq_true e5
        have HEE := Lib.hid hee
        clear e5 hee
        go_wp2_with fail
        rw [← HF.out]
        refine wp_region_quiet_below (by kernel_rfl) (by kernel_rfl) ?_
        repeat (first | go_big_quiet_step ((go_at_call 62; exact K1.out _ _)) | quiet_step ((go_at_call 62; exact K1.out _ _)))
        refine wpQuiet_nil ?_
        intro _ hw'
        obtain ⟨⟨dq, osq⟩, hw''⟩ := hw'
        subst hw''
        have hq := hbF.trans ((below_regrown F dq osq).mono hbF.size)
        generalize grow (redrawn F dq) osq = F2 at hq ⊢
        go_wp2_with fail
        go_roundw
        case rel => exact ⟨k + 1, by omega, by go_num, eqq_step hlt hlt2 HT.out (by rw [HX.out, HY.out, HEE.out]), hq⟩
        case measure => simp [intOf] <;> omega
    · obtain rfl : k = x.nodes.length := by omega
      go_wp2_with fail
      go_ret
      exact ⟨ret_bool (eqq_true HL.out HT.out).symm, hBi⟩
set_option maxHeartbeats 3200000 in
set_option maxRecDepth 100000 in
theorem specSamePatch_v {v v' : Value} {x y : PatchD} (w : World) (h : VPatch w v x) (h' : VPatch w v' y) :
    Calls Try.prog 16 #[v, v'] w fun e w' => e = .returned (.bool (pEq x y)) ∧ Below w.heap.size w w' := by
  obtain ⟨p1, c1, p2, c2, p3, c3, rfl, r1, r2, r3⟩ := h
  obtain ⟨q1, d1, q2, d2, q3, d3, rfl, s1, s2, s3⟩ := h'
  have hl1 := r2.len
  have hl2 := s2.len
  have hl3 := r1.len
  have hl4 := s1.len
  unfold maxLen at hl1 hl2 hl3 hl4
  have HR : Hid (∀ b1 b2 b3 b4, decide (x.inputs = y.inputs) = b1 → decide (x.tables = y.tables) = b2 → decide (x.outputs = y.outputs) = b3 → decide (x.nodes = y.nodes) = b4 → pEq x y = (b1 && (b2 && (b3 && b4)))) := fun b1 b2 b3 b4 h1 h2 h3 h4 => pEq_of h1 h2 h3 h4
  generalize pEq x y = R at HR ⊢
  obtain ⟨E0, hE0⟩ : ∃ E, E = (w.alloc (.cells #[.int .i64 x.inputs, .slice p1 x.tables.length c1, .slice p2 x.nodes.length c2, .slice p3 x.outputs.length c3] 31)).alloc (.cells #[.int .i64 y.inputs, .slice q1 y.tables.length d1, .slice q2 y.nodes.length d2, .slice q3 y.outputs.length d3] 31) := ⟨_, rfl⟩
  have hB0 : Below w.heap.size w E0 := by rw [hE0]; exact ((Below.refl _ _).alloc (Nat.le_refl _) _).alloc (by simp) _
  have ba0 : Box E0 w.heap.size [.int .i64 x.inputs, .slice p1 x.tables.length c1, .slice p2 x.nodes.length c2, .slice p3 x.outputs.length c3] 31 := by
    rw [hE0]
    exact (Box.newAt w [.int .i64 x.inputs, .slice p1 x.tables.length c1, .slice p2 x.nodes.length c2, .slice p3 x.outputs.length c3] 31 rfl).alloc _
  have bb0 : Box E0 (w.heap.size + 1) [.int .i64 y.inputs, .slice q1 y.tables.length d1, .slice q2 y.nodes.length d2, .slice q3 y.outputs.length d3] 31 := by
    rw [hE0]
    exact Box.newAt (w.alloc _) _ _ (by simp)
  have HE := Lib.hid hE0
  clear hE0
  have SM := Lib.hid (l00Same_any (c := c3) (d := d3) E0 (r3.below hB0) (s3.below hB0))
  have SM' : Hid (∀ b, decide (x.outputs = y.outputs) = b → Calls Try.prog 55 #[.slice p3 x.outputs.length c3, .slice q3 y.outputs.length d3] E0 fun e w' => e = .returned (.bool b) ∧ Drawn E0 w') := fun b hb => by rw [← hb]; exact SM.out
  clear SM
  by_cases e1 : x.inputs = y.inputs
  case neg =>
    have n1 : (x.inputs != y.inputs) = true := by rw [bne_iff_ne]; exact e1
    obtain rfl := HR.out _ _ _ _ (decide_eq_false e1) rfl rfl rfl
    go_enter Try.func16, Try.ntmps16
    go_wp2_with fail
    go_ret
    exact ⟨rfl, by rw [← HE.out]; exact hB0⟩
  have n1 : (x.inputs != y.inputs) = false := by rw [bne_eq_false_iff_eq]; exact e1
  have E1 := Lib.hid (decide_eq_true e1)
  clear e1
  by_cases ht : x.tables.length = y.tables.length
  case neg =>
    have n4 : ((x.tables.length : Int) != (y.tables.length : Int)) = true := by rw [bne_iff_ne]; omega
    obtain rfl := HR.out _ _ _ _ E1.out (decide_eq_false fun e => ht (by rw [e])) rfl rfl
    clear ht
    go_enter Try.func16, Try.ntmps16
    go_wp2_with fail
    go_ret
    exact ⟨rfl, by rw [← HE.out]; exact hB0⟩
  have n2 : ((x.tables.length : Int) != (y.tables.length : Int)) = false := by rw [bne_eq_false_iff_eq]; omega
  have HLT := Lib.hid ht
  clear ht
  by_cases hl : x.nodes.length = y.nodes.length
  case neg =>
    have n4 : ((x.nodes.length : Int) != (y.nodes.length : Int)) = true := by rw [bne_iff_ne]; omega
    have e4 : decide (x.nodes = y.nodes) = false := decide_eq_false fun e => hl (by rw [e])
    have hR : R = false := by rw [HR.out _ _ _ _ E1.out rfl rfl e4]; simp
    subst hR
    clear e4 hl
    go_enter Try.func16, Try.ntmps16
    go_wp2_with fail
    go_ret
    exact ⟨rfl, by rw [← HE.out]; exact hB0⟩
  have n4 : ((x.nodes.length : Int) != (y.nodes.length : Int)) = false := by rw [bne_eq_false_iff_eq]; omega
  have HL := Lib.hid hl
  clear hl
  cases e3 : decide (x.outputs = y.outputs)
  case false =>
    have SM := Lib.hid (SM'.out _ e3)
    have hR : R = false := by rw [HR.out _ _ _ _ E1.out rfl e3 rfl]; simp
    subst hR
    clear e3
    have ha2 := ba0.cell 2 rfl
    have ha3 := ba0.cell 3 rfl
    have hb2 := bb0.cell 2 rfl
    have hb3 := bb0.cell 3 rfl
    go_enter Try.func16, Try.ntmps16
    go_wp2_with fail
    rw [← HE.out]
    refine SM.out.mono ?_
    rintro e E1' ⟨rfl, hd⟩
    go_wp2_with fail
    go_ret
    exact ⟨rfl, hB0.trans (hd.below _)⟩
  have SM := Lib.hid (SM'.out _ e3)
  have HR2 : Hid (∀ b2 b4, decide (x.tables = y.tables) = b2 → decide (x.nodes = y.nodes) = b4 → R = (b2 && b4)) := fun b2 b4 h2 h4 => by rw [HR.out _ _ _ _ E1.out h2 e3 h4]; simp
  clear e3 SM' HR
  go_enter Try.func16, Try.ntmps16
  go_wp2_with fail
  rw [← HE.out]
  refine SM.out.mono ?_
  rintro e E2 ⟨rfl, hd⟩
  have ba1 := ba0.below (hd.below _)
  have bb1 := bb0.below (hd.below _)
  have hB1 : Below w.heap.size w E2 := hB0.trans (hd.below _)
  replace r1 := r1.below hB1
  replace r2 := r2.below hB1
  replace s1 := s1.below hB1
  replace s2 := s2.below hB1
  clear hd ba0 bb0 HE SM hB0 r3 s3
  go_wp2_with fail
  go_loopw [5] (fun i wr => ∃ k : Nat, k ≤ x.tables.length ∧ i = .int .i64 k ∧ x.tables.take k = y.tables.take k ∧ Drawn E2 wr) (fun i _ => x.tables.length - (intOf i).toNat)
  case atStart => exact ⟨0, Nat.zero_le _, rfl, rfl, Drawn.refl _⟩
  case round =>
    obtain ⟨k, hk, rfl, ht, hdr⟩ := hrel
    have HT := Lib.hid ht
    clear ht
    obtain ⟨wi, rfl⟩ : ∃ wi : World, wi = wr := ⟨_, rfl⟩
    have ba2 := ba1.below (hdr.below _)
    have bb2 := bb1.below (hdr.below _)
    have za1 := ba2.cell 1 rfl
    have zb1 := bb2.cell 1 rfl
    by_cases hlt : k < x.tables.length
    · have hlt2 : k < y.tables.length := by have := HLT.out; omega
      obtain ⟨b, o, rfl, hb, hc⟩ := (hdr.rdII r1).pos hlt
      obtain ⟨b', o', rfl, hb', hc'⟩ := (hdr.rdII s1).pos hlt2
      obtain ⟨q, d, z, hr⟩ := hc k hlt
      obtain ⟨q', d', z', hr'⟩ := hc' k hlt2
      clear hc hc'
      generalize hx : x.tables[k] = tx at z hr
      generalize hyy : y.tables[k] = ty at z' hr'
      have HX := Lib.hid hx
      have HY := Lib.hid hyy
      clear hx hyy
      have HN : Hid (∀ c, decide (tx = ty) = c → ∀ m, Calls Try.prog 55 #[.slice q tx.length d, .slice q' ty.length d'] (wi.drewN m) fun e w' => e = .returned (.bool c) ∧ ∃ j, w' = (wi.drewN m).drewN j) := fun c hc m => by
        have := l00Same_any (c := d) (d := d') _ (hr.drewN m) (hr'.drewN m)
        rwa [hc] at this
      clear hr hr'
      cases e5 : decide (tx = ty)
      case false =>
        have HN' := Lib.hid (HN.out _ e5)
        have hne : tx ≠ ty := of_decide_eq_false e5
        have hR : R = false := by rw [HR2.out _ _ (eqq_false hlt hlt2 (by rw [HX.out, HY.out]; exact hne)) rfl]; rfl
        subst hR
        clear e5 hne HN
        go_wp2_with fail
        go_quiet ((go_at_call 55; exact Calls.quiet_of (HN'.out _)))
        go_wp2_with fail
        go_ret
        exact ⟨rfl, hB1.trans ((hdr.on _).below _)⟩
      case true =>
        have HN' := Lib.hid (HN.out _ e5)
        have hee : tx = ty := of_decide_eq_true e5
        have HEE := Lib.hid hee
        clear e5 hee HN
        go_wp2_with fail
        go_quiet ((go_at_call 55; exact Calls.quiet_of (HN'.out _)))
        go_wp2_with fail
        go_roundw
        case rel => exact ⟨k + 1, by omega, by go_num, eqq_step hlt hlt2 HT.out (by rw [HX.out, HY.out, HEE.out]), hdr.on _⟩
        case measure => simp [intOf] <;> omega
    · obtain rfl : k = x.tables.length := by omega
      have HTT : Hid (decide (x.tables = y.tables) = true) := eqq_true HLT.out HT.out
      have hB2 := hB1.trans (hdr.below _)
      replace r2 := r2.below (hdr.below _)
      replace s2 := s2.below (hdr.below _)
      clear hdr ba1 bb1 r1 s1 HT hB1
      have za2 := ba2.cell 2 rfl
      go_wp2_with fail
      clear za1 zb1 za2
      obtain ⟨W0, hW0⟩ : ∃ W : World, W = wi := ⟨_, rfl⟩
      rw [← hW0] at ba2 bb2 hB2 r2 s2 ⊢
      clear hW0
      go_loopw [6] (fun i wr => ∃ k : Nat, k ≤ x.nodes.length ∧ i = .int .i64 k ∧ x.nodes.take k = y.nodes.take k ∧ Drawn W0 wr) (fun i _ => x.nodes.length - (intOf i).toNat)
      case atStart => exact ⟨0, Nat.zero_le _, rfl, rfl, Drawn.refl _⟩
      case round =>
        obtain ⟨k, hk, rfl, ht, hdr⟩ := hrel
        have HT := Lib.hid ht
        clear ht
        obtain ⟨wi, rfl⟩ : ∃ wi : World, wi = wr := ⟨_, rfl⟩
        have ba3 := ba2.below (hdr.below _)
        have bb3 := bb2.below (hdr.below _)
        have za1 := ba3.cell 2 rfl
        have zb1 := bb3.cell 2 rfl
        by_cases hlt : k < x.nodes.length
        · have hlt2 : k < y.nodes.length := by have := HL.out; omega
          obtain ⟨b, o, rfl, hb, hc⟩ := (r2.below (hdr.below _)).pos hlt
          obtain ⟨b', o', rfl, hb', hc'⟩ := (s2.below (hdr.below _)).pos hlt2
          have hr := hc k hlt
          have hr' := hc' k hlt2
          clear hc hc'
          generalize hx : x.nodes[k] = tx at hr
          generalize hyy : y.nodes[k] = ty at hr'
          have HX := Lib.hid hx
          have HY := Lib.hid hyy
          clear hx hyy
          have HN : Hid (∀ c, decide (tx = ty) = c → ∀ m, Calls Try.prog 56 #[.pointer (some ⟨b, o + k * 4, none⟩), .pointer (some ⟨b', o' + k * 4, none⟩)] (wi.drewN m) fun e w' => e = .returned (.bool c) ∧ ∃ j, w' = (wi.drewN m).drewN j) := fun c hc m => by
            have hm : Below wi.heap.size wi (wi.drewN m) := below_drewN (Below.refl _ _) m
            have := l07SameNode_any _ (hr.below hm) (hr'.below hm)
            rwa [hc] at this
          clear hr hr'
          cases e5 : decide (tx = ty)
          case false =>
            have HN' := Lib.hid (HN.out _ e5)
            have hne : tx ≠ ty := of_decide_eq_false e5
            have hR : R = false := by rw [HR2.out _ _ HTT.out (eqq_false hlt hlt2 (by rw [HX.out, HY.out]; exact hne))]; rfl
            subst hR
            clear e5 hne HN
            go_wp2_with fail
            go_quiet ((go_at_call 56; exact Calls.quiet_of (HN'.out _)))
            go_wp2_with fail
            go_ret
            exact ⟨rfl, hB2.trans ((hdr.on _).below _)⟩
          case true =>
            have HN' := Lib.hid (HN.out _ e5)
            have hee : tx = ty := of_decide_eq_true e5
            have HEE := Lib.hid hee
            clear e5 hee HN
            go_wp2_with fail
            go_quiet ((go_at_call 56; exact Calls.quiet_of (HN'.out _)))
            go_wp2_with fail
            go_roundw
            case rel => exact ⟨k + 1, by omega, by go_num, eqq_step hlt hlt2 HT.out (by rw [HX.out, HY.out, HEE.out]), hdr.on _⟩
            case measure => simp [intOf] <;> omega
        · obtain rfl : k = x.nodes.length := by omega
          have hR : R = true := by rw [HR2.out _ _ HTT.out (eqq_true HL.out HT.out)]; rfl
          subst hR
          go_wp2_with fail
          go_ret
          exact ⟨rfl, hB2.trans (hdr.below _)⟩
end Go.Proofs.Ytgkkmnfjndjkgaa
