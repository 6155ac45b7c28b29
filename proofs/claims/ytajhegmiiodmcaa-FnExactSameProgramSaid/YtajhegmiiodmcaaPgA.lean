/-
  Programs: equality; contracts of both sides.
-/
import Derived.Test.YtajhegmiiodmcaaTyProgram
import Derived.Test.YtajhegmiiodmcaaTyNode
import Derived.Deep.RegionWith
import Derived.Test.YtajhegmiiodmcaaSeq
import Derived.Lib.QuietBelow
namespace Go.Proofs.Ytajhegmiiodmcaa
open Go.ChangeShapes Go.WideShapes Go.ChangeAt Go.RowKit Go.Sort
set_option linter.unusedVariables false

theorem NodeD.ext' {x y : NodeD} (h : x.kind = y.kind ∧ x.a = y.a ∧ x.b = y.b ∧ x.src = y.src) : x = y := by
  obtain ⟨a, b, c, d⟩ := x
  obtain ⟨a', b', c', d'⟩ := y
  obtain ⟨h1, h2, h3, h4⟩ := h
  simp only at h1 h2 h3 h4
  subst h1 h2 h3 h4
  rfl
instance : DecidableEq NodeD := fun x y =>
  if h : x.kind = y.kind ∧ x.a = y.a ∧ x.b = y.b ∧ x.src = y.src then isTrue (NodeD.ext' h)
  else isFalse fun e => h (by subst e; exact ⟨rfl, rfl, rfl, rfl⟩)
theorem node_eq (x y : NodeD) (b1 b2 b3 b4 : Bool) (h1 : (x.kind == y.kind) = b1) (h2 : (x.a == y.a) = b2) (h3 : (x.b == y.b) = b3) (h4 : decide (x.src = y.src) = b4) : decide (x = y) = (b1 && (b2 && (b3 && b4))) := by
  subst h1 h2 h3 h4
  rw [Bool.eq_iff_iff, decide_eq_true_iff]
  simp only [Bool.and_eq_true, beq_iff_eq, decide_eq_true_iff]
  exact ⟨fun e => by subst e; exact ⟨rfl, rfl, rfl, rfl⟩, fun ⟨a, b, c, d⟩ => NodeD.ext' ⟨a, b, c, d⟩⟩
theorem InstrD.ext' {x y : InstrD} (h : x.kind = y.kind ∧ x.a = y.a ∧ x.b = y.b ∧ x.node = y.node ∧ x.src = y.src ∧ x.dest = y.dest) : x = y := by
  obtain ⟨a, b, c, d, e, f⟩ := x
  obtain ⟨a', b', c', d', e', f'⟩ := y
  obtain ⟨h1, h2, h3, h4, h5, h6⟩ := h
  simp only at h1 h2 h3 h4 h5 h6
  subst h1 h2 h3 h4 h5 h6
  rfl
instance : DecidableEq InstrD := fun x y =>
  if h : x.kind = y.kind ∧ x.a = y.a ∧ x.b = y.b ∧ x.node = y.node ∧ x.src = y.src ∧ x.dest = y.dest then isTrue (InstrD.ext' h)
  else isFalse fun e => h (by subst e; exact ⟨rfl, rfl, rfl, rfl, rfl, rfl⟩)
/-- the node that an instruction computes -/
def nodeOf (x : InstrD) : NodeD := ⟨x.kind, x.a, x.b, x.src⟩
theorem instr_eq (x y : InstrD) (b1 b2 b3 : Bool) (h1 : decide (nodeOf x = nodeOf y) = b1) (h2 : (x.node == y.node) = b2) (h3 : (x.dest == y.dest) = b3) : decide (x = y) = (b1 && (b2 && b3)) := by
  subst h1 h2 h3
  rw [Bool.eq_iff_iff, decide_eq_true_iff]
  simp only [Bool.and_eq_true, beq_iff_eq, decide_eq_true_iff]
  constructor
  · intro e; subst e; exact ⟨rfl, rfl, rfl⟩
  · rintro ⟨h, h4, h5⟩
    have h1 := congrArg NodeD.kind h
    have h2 := congrArg NodeD.a h
    have h3 := congrArg NodeD.b h
    have h6 := congrArg NodeD.src h
    exact InstrD.ext' ⟨h1, h2, h3, h4, h6, h5⟩
theorem instr_eq2 (x y : InstrD) (b1 b2 b3 b4 b5 b6 : Bool) (h1 : (x.kind == y.kind) = b1) (h2 : (x.a == y.a) = b2) (h3 : (x.b == y.b) = b3) (h4 : (x.node == y.node) = b4) (h5 : (x.dest == y.dest) = b5) (h6 : decide (x.src = y.src) = b6) : decide (x = y) = (b1 && (b2 && (b3 && (b4 && (b5 && b6))))) := by
  subst h1 h2 h3 h4 h5 h6
  rw [Bool.eq_iff_iff, decide_eq_true_iff]
  simp only [Bool.and_eq_true, beq_iff_eq, decide_eq_true_iff]
  exact ⟨fun e => by subst e; exact ⟨rfl, rfl, rfl, rfl, rfl, rfl⟩, fun ⟨a, b, c, d, e, f⟩ => InstrD.ext' ⟨a, b, c, d, f, e⟩⟩
/-- two programs are the same -/
def gEq (x y : ProgramD) : Bool := (decide (x.inputs = y.inputs) && decide (x.registers = y.registers)) && (decide (x.tables = y.tables) && (decide (x.outputs = y.outputs) && decide (x.code = y.code)))
set_option maxHeartbeats 800000 in
theorem sameNode_v {v v' : Value} {x y : NodeD} (w : World) (h : VNode w v x) (h' : VNode w v' y) :
    Calls Try.prog 25 #[v, v'] w fun e w' => e = .returned (.bool (decide (x = y))) ∧ Below w.heap.size w w' := by
  obtain ⟨p3, c3, rfl, r3⟩ := h
  obtain ⟨q3, d3, rfl, s3⟩ := h'
  have hB0 : Below w.heap.size w ((w.alloc (.cells #[.int .i64 x.kind, .int .i64 x.a, .int .i64 x.b, .slice p3 x.src.length c3] 53)).alloc (.cells #[.int .i64 y.kind, .int .i64 y.a, .int .i64 y.b, .slice q3 y.src.length d3] 53)) := ((Below.refl _ _).alloc (Nat.le_refl _) _).alloc (by simp) _
  have SM := Lib.hid (same_any (c := c3) (d := d3) _ (r3.below hB0) (s3.below hB0))
  have HR := Lib.hid (node_eq x y)
  generalize decide (x = y) = R at HR ⊢
  cases e1 : (x.kind == y.kind)
  case false =>
    obtain rfl := HR.out _ _ _ _ e1 rfl rfl rfl
    go_enter Try.func25, Try.ntmps25
    go_wp2_with fail
    go_ret
    exact ⟨rfl, hB0⟩
  cases e2 : (x.a == y.a)
  case false =>
    obtain rfl := HR.out _ _ _ _ e1 e2 rfl rfl
    go_enter Try.func25, Try.ntmps25
    go_wp2_with fail
    go_ret
    exact ⟨rfl, hB0⟩
  cases e3 : (x.b == y.b)
  case false =>
    obtain rfl := HR.out _ _ _ _ e1 e2 e3 rfl
    go_enter Try.func25, Try.ntmps25
    go_wp2_with fail
    go_ret
    exact ⟨rfl, hB0⟩
  obtain rfl := HR.out _ _ _ _ e1 e2 e3 rfl
  go_enter Try.func25, Try.ntmps25
  go_wp2_with (go_at_call 18; refine SM.out.mono ?_; rintro e w' ⟨rfl, rfl⟩)
  go_ret
  exact ⟨rfl, hB0⟩
theorem asNode_any (k a b n t : Int) (q : Option Addr) (l d : Nat) (w : World) :
    Calls Try.prog 26 #[.agg #[.int .i64 k, .int .i64 a, .int .i64 b, .int .i64 n, .slice q l d, .int .i64 t]] w fun e w' => e = .returned (.agg #[.int .i64 k, .int .i64 a, .int .i64 b, .slice q l d]) ∧ Below w.heap.size w w' := by
  go_enter Try.func26, Try.ntmps26
  go_wp2_with fail
  refine bodyPost_ret (v := .agg #[.int .i64 k, .int .i64 a, .int .i64 b, .slice q l d]) (by simp [results, Try.results26, go_sem, *]) rfl ⟨rfl, ?_⟩
  (repeat (first | exact Below.refl _ _ | assumption | refine Below.setCell ?_ (by first | exact Nat.le_refl _ | omega | (simp; done) | (simp; omega)) _ | refine Below.alloc ?_ (by first | exact Nat.le_refl _ | omega | (simp; done) | (simp; omega)) _ | refine below_drewN ?_ _))
def VInstr' (w : World) (v : Value) (x : InstrD) : Prop := ∃ q d, v = .agg #[.int .i64 x.kind, .int .i64 x.a, .int .i64 x.b, .int .i64 x.node, .slice q x.src.length d, .int .i64 x.dest] ∧ RdI w q x.src
set_option maxHeartbeats 1600000 in
theorem sameInstr_v {x y : InstrD} {q q' : Option Addr} {d d' : Nat} (w : World) (r3 : RdI w q x.src) (s3 : RdI w q' y.src) :
    Calls Try.prog 19 #[.agg #[.int .i64 x.kind, .int .i64 x.a, .int .i64 x.b, .int .i64 x.node, .slice q x.src.length d, .int .i64 x.dest], .agg #[.int .i64 y.kind, .int .i64 y.a, .int .i64 y.b, .int .i64 y.node, .slice q' y.src.length d', .int .i64 y.dest]] w fun e w' => e = .returned (.bool (decide (x = y))) ∧ Below w.heap.size w w' := by
  obtain ⟨g, hg⟩ : ∃ g, g = w.heap.size := ⟨_, rfl⟩
  obtain ⟨E0, hE0⟩ : ∃ E, E = (w.alloc (.cells #[.int .i64 x.kind, .int .i64 x.a, .int .i64 x.b, .int .i64 x.node, .slice q x.src.length d, .int .i64 x.dest] 41)).alloc (.cells #[.int .i64 y.kind, .int .i64 y.a, .int .i64 y.b, .int .i64 y.node, .slice q' y.src.length d', .int .i64 y.dest] 41) := ⟨_, rfl⟩
  have hB0 : Below w.heap.size w E0 := by rw [hE0]; exact ((Below.refl _ _).alloc (Nat.le_refl _) _).alloc (by simp) _
  have ba : Box E0 g [.int .i64 x.kind, .int .i64 x.a, .int .i64 x.b, .int .i64 x.node, .slice q x.src.length d, .int .i64 x.dest] 41 := by rw [hE0, hg]; exact (Box.newAt w [.int .i64 x.kind, .int .i64 x.a, .int .i64 x.b, .int .i64 x.node, .slice q x.src.length d, .int .i64 x.dest] 41 rfl).alloc _
  have bb : Box E0 (g + 1) [.int .i64 y.kind, .int .i64 y.a, .int .i64 y.b, .int .i64 y.node, .slice q' y.src.length d', .int .i64 y.dest] 41 := by rw [hE0, hg]; exact Box.newAt (w.alloc _) [.int .i64 y.kind, .int .i64 y.a, .int .i64 y.b, .int .i64 y.node, .slice q' y.src.length d', .int .i64 y.dest] 41 (by simp)
  have HE := Lib.hid hE0
  have HG := Lib.hid hg
  clear hE0 hg
  have ca0 := cell_regrown (ba.cell 0 rfl)
  have ca1 := cell_regrown (ba.cell 1 rfl)
  have ca2 := cell_regrown (ba.cell 2 rfl)
  have ca3 := cell_regrown (ba.cell 3 rfl)
  have ca4 := cell_regrown (ba.cell 4 rfl)
  have ca5 := cell_regrown (ba.cell 5 rfl)
  have cb0 := cell_regrown (bb.cell 0 rfl)
  have cb1 := cell_regrown (bb.cell 1 rfl)
  have cb2 := cell_regrown (bb.cell 2 rfl)
  have cb3 := cell_regrown (bb.cell 3 rfl)
  have cb4 := cell_regrown (bb.cell 4 rfl)
  have cb5 := cell_regrown (bb.cell 5 rfl)
  have KN : Hid (∀ (k a b n t : Int) (q : Option Addr) (l d nn : Nat) (os : Array Obj), Calls Try.prog 26 #[.agg #[.int .i64 k, .int .i64 a, .int .i64 b, .int .i64 n, .slice q l d, .int .i64 t]] (grow (redrawn E0 nn) os) fun e w'' => e = .returned (.agg #[.int .i64 k, .int .i64 a, .int .i64 b, .slice q l d]) ∧ ∃ p : Regrown, w'' = grow (redrawn E0 p.d) p.os) := fun k a b n t q l d nn os => Calls.regrown_of (asNode_any k a b n t q l d _)
  have KS : Hid (∀ b, decide (nodeOf x = nodeOf y) = b → ∀ n os, Calls Try.prog 25 #[.agg #[.int .i64 x.kind, .int .i64 x.a, .int .i64 x.b, .slice q x.src.length d], .agg #[.int .i64 y.kind, .int .i64 y.a, .int .i64 y.b, .slice q' y.src.length d']] (grow (redrawn E0 n) os) fun e w'' => e = .returned (.bool b) ∧ ∃ p : Regrown, w'' = grow (redrawn E0 p.d) p.os) := fun b hb n os => Calls.regrown_of (by
    rw [← hb]
    exact sameNode_v (x := nodeOf x) (y := nodeOf y) _ ⟨q, d, rfl, (r3.below hB0).below (below_regrown E0 n os)⟩ ⟨q', d', rfl, (s3.below hB0).below (below_regrown E0 n os)⟩)
  have HR := Lib.hid (instr_eq x y)
  generalize decide (x = y) = R at HR ⊢
  clear ba bb
  cases e1 : decide (nodeOf x = nodeOf y)
  case false =>
    have KS' := Lib.hid (KS.out _ e1)
    obtain rfl := HR.out _ _ _ e1 rfl rfl
    clear KS e1
    go_enter Try.func19, Try.ntmps19
    go_wp2_with fail
    rw [← HE.out, ← HG.out]
    refine wp_region_quiet_below (by kernel_rfl) (by kernel_rfl) ?_
    go_big_quiet_step (fail)
    go_big_quiet_step ((go_at_call 26; exact KN.out _ _ _ _ _ _ _ _ _ _))
    go_big_quiet_step (fail)
    go_big_quiet_step ((go_at_call 26; exact KN.out _ _ _ _ _ _ _ _ _ _))
    go_big_quiet_step ((go_at_call 25; exact KS'.out _ _))
    repeat (go_big_quiet_step (fail))
    refine wpQuiet_nil ?_
    intro _ hw'
    obtain ⟨⟨dq, osq⟩, hw''⟩ := hw'
    subst hw''
    have hq := hB0.trans ((below_regrown E0 dq osq).mono hB0.size)
    go_wp2_with fail
    go_ret
    exact ⟨rfl, hq⟩
  have KS' := Lib.hid (KS.out _ e1)
  have HE1 := Lib.hid e1
  clear KS e1
  cases e2 : (x.node == y.node)
  case false =>
    obtain rfl := HR.out _ _ _ HE1.out e2 rfl
    go_enter Try.func19, Try.ntmps19
    go_wp2_with fail
    rw [← HE.out, ← HG.out]
    refine wp_region_quiet_below (by kernel_rfl) (by kernel_rfl) ?_
    go_big_quiet_step (fail)
    go_big_quiet_step ((go_at_call 26; exact KN.out _ _ _ _ _ _ _ _ _ _))
    go_big_quiet_step (fail)
    go_big_quiet_step ((go_at_call 26; exact KN.out _ _ _ _ _ _ _ _ _ _))
    go_big_quiet_step ((go_at_call 25; exact KS'.out _ _))
    repeat (go_big_quiet_step (fail))
    refine wpQuiet_nil ?_
    intro _ hw'
    obtain ⟨⟨dq, osq⟩, hw''⟩ := hw'
    subst hw''
    have hq := hB0.trans ((below_regrown E0 dq osq).mono hB0.size)
    go_wp2_with fail
    go_ret
    exact ⟨rfl, hq⟩
  obtain rfl := HR.out _ _ _ HE1.out e2 rfl
  go_enter Try.func19, Try.ntmps19
  go_wp2_with fail
  rw [← HE.out, ← HG.out]
  refine wp_region_quiet_below (by kernel_rfl) (by kernel_rfl) ?_
  go_big_quiet_step (fail)
  go_big_quiet_step ((go_at_call 26; exact KN.out _ _ _ _ _ _ _ _ _ _))
  go_big_quiet_step (fail)
  go_big_quiet_step ((go_at_call 26; exact KN.out _ _ _ _ _ _ _ _ _ _))
  go_big_quiet_step ((go_at_call 25; exact KS'.out _ _))
  repeat (go_big_quiet_step (fail))
  refine wpQuiet_nil ?_
  intro _ hw'
  obtain ⟨⟨dq, osq⟩, hw''⟩ := hw'
  subst hw''
  have hq := hB0.trans ((below_regrown E0 dq osq).mono hB0.size)
  go_wp2_with fail
  go_ret
  exact ⟨rfl, hq⟩
set_option maxHeartbeats 3200000 in
theorem l11Same_any {b o b' o' : Nat} {x y : InstrD} (w : World) (h : PInstr w b o x) (h' : PInstr w b' o' y) :
    Calls Try.prog 13 #[.pointer (some ⟨b, o, none⟩), .pointer (some ⟨b', o', none⟩)] w fun e w' => e = .returned (.bool (decide (x = y))) ∧ Drawn w w' := by
  obtain ⟨z0, z1, z2, z3, ⟨q, d, z4, hr⟩, z5⟩ := h
  obtain ⟨y0, y1, y2, y3, ⟨q', d', y4, hr'⟩, y5⟩ := h'
  have HR := Lib.hid (instr_eq2 x y)
  have HN : Hid (∀ m, Calls Try.prog 12 #[.slice q x.src.length d, .slice q' y.src.length d'] (w.drewN m) fun e w' => e = .returned (.bool (decide (x.src = y.src))) ∧ ∃ j, w' = (w.drewN m).drewN j) := fun m => l00Same_any (c := d) (d := d') _ (hr.drewN m) (hr'.drewN m)
  clear hr hr'
  generalize decide (x = y) = R at HR ⊢
  cases e1 : (x.kind == y.kind)
  case false =>
    obtain rfl := HR.out _ _ _ _ _ _ e1 rfl rfl rfl rfl rfl
    go_enter Try.func13, Try.ntmps13
    go_wp2_with fail
    clear HN
    refine wp_region_quiet_lit (by kernel_rfl) (by kernel_rfl) ?_
    dsimp only [List.append]
    repeat (go_big_quiet_step (fail))
    refine wpQuiet_nil ?_
    intro _ hw'
    obtain ⟨nq, hw''⟩ := hw'
    subst hw''
    go_wp2_with fail
    go_ret
    exact ⟨rfl, (Drawn.refl w).on _⟩
  cases e2 : (x.a == y.a)
  case false =>
    obtain rfl := HR.out _ _ _ _ _ _ e1 e2 rfl rfl rfl rfl
    go_enter Try.func13, Try.ntmps13
    go_wp2_with fail
    clear HN
    refine wp_region_quiet_lit (by kernel_rfl) (by kernel_rfl) ?_
    dsimp only [List.append]
    repeat (go_big_quiet_step (fail))
    refine wpQuiet_nil ?_
    intro _ hw'
    obtain ⟨nq, hw''⟩ := hw'
    subst hw''
    go_wp2_with fail
    go_ret
    exact ⟨rfl, (Drawn.refl w).on _⟩
  cases e3 : (x.b == y.b)
  case false =>
    obtain rfl := HR.out _ _ _ _ _ _ e1 e2 e3 rfl rfl rfl
    go_enter Try.func13, Try.ntmps13
    go_wp2_with fail
    clear HN
    refine wp_region_quiet_lit (by kernel_rfl) (by kernel_rfl) ?_
    dsimp only [List.append]
    repeat (go_big_quiet_step (fail))
    refine wpQuiet_nil ?_
    intro _ hw'
    obtain ⟨nq, hw''⟩ := hw'
    subst hw''
    go_wp2_with fail
    go_ret
    exact ⟨rfl, (Drawn.refl w).on _⟩
  cases e4 : (x.node == y.node)
  case false =>
    obtain rfl := HR.out _ _ _ _ _ _ e1 e2 e3 e4 rfl rfl
    go_enter Try.func13, Try.ntmps13
    go_wp2_with fail
    clear HN
    refine wp_region_quiet_lit (by kernel_rfl) (by kernel_rfl) ?_
    dsimp only [List.append]
    repeat (go_big_quiet_step (fail))
    refine wpQuiet_nil ?_
    intro _ hw'
    obtain ⟨nq, hw''⟩ := hw'
    subst hw''
    go_wp2_with fail
    go_ret
    exact ⟨rfl, (Drawn.refl w).on _⟩
  cases e5 : (x.dest == y.dest)
  case false =>
    obtain rfl := HR.out _ _ _ _ _ _ e1 e2 e3 e4 e5 rfl
    go_enter Try.func13, Try.ntmps13
    go_wp2_with fail
    clear HN
    refine wp_region_quiet_lit (by kernel_rfl) (by kernel_rfl) ?_
    dsimp only [List.append]
    repeat (go_big_quiet_step (fail))
    refine wpQuiet_nil ?_
    intro _ hw'
    obtain ⟨nq, hw''⟩ := hw'
    subst hw''
    go_wp2_with fail
    go_ret
    exact ⟨rfl, (Drawn.refl w).on _⟩
  obtain rfl := HR.out _ _ _ _ _ _ e1 e2 e3 e4 e5 rfl
  go_enter Try.func13, Try.ntmps13
  go_wp2_with fail
  refine wp_region_quiet_lit (by kernel_rfl) (by kernel_rfl) ?_
  dsimp only [List.append]
  repeat (go_big_quiet_step ((go_at_call 12; exact Calls.quiet_of (HN.out _))))
  refine wpQuiet_nil ?_
  intro _ hw'
  obtain ⟨nq, hw''⟩ := hw'
  subst hw''
  go_wp2_with fail
  go_ret
  exact ⟨rfl, (Drawn.refl w).on _⟩
end Go.Proofs.Ytajhegmiiodmcaa
