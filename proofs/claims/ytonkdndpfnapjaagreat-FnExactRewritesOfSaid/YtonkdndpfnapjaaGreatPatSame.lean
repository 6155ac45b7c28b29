/-
  Patches: equality; contracts of both sides.
-/
import Derived.Test.YtonkdndpfnapjaaGreatTyPatch
import Derived.Test.YtonkdndpfnapjaaGreatSeq
import Derived.Lib.QuietBelow
namespace Go.Proofs.YtonkdndpfnapjaaGreat
open Go.ChangeShapes Go.WideShapes Go.ChangeAt Go.RowKit Go.Sort
set_option linter.unusedVariables false

theorem NodeD.ext' {x y : NodeD} (h : x.kind = y.kind ∧ x.a = y.a ∧ x.b = y.b ∧ x.src = y.src) : x = y := by
  obtain ⟨a, b, c, d⟩ := x
  obtain ⟨a', b', c', d'⟩ := y
  obtain ⟨h1, h2, h3, h4⟩ := h
  simp only at h1 h2 h3 h4
  subst h1 h2 h3 h4
  rfl
instance : DecidableEq NodeD := fun x y =>
  if h : x.kind = y.kind ∧ x.a = y.a ∧ x.b = y.b ∧ x.src = y.src then isTrue (NodeD.ext' h)
  else isFalse fun e => h (by subst e; exact ⟨rfl, rfl, rfl, rfl⟩)
theorem node_eq (x y : NodeD) (b1 b2 b3 b4 : Bool) (h1 : (x.kind == y.kind) = b1) (h2 : (x.a == y.a) = b2) (h3 : (x.b == y.b) = b3) (h4 : decide (x.src = y.src) = b4) : decide (x = y) = (b1 && (b2 && (b3 && b4))) := by
  subst h1 h2 h3 h4
  rw [Bool.eq_iff_iff, decide_eq_true_iff]
  simp only [Bool.and_eq_true, beq_iff_eq, decide_eq_true_iff]
  exact ⟨fun e => by subst e; exact ⟨rfl, rfl, rfl, rfl⟩, fun ⟨a, b, c, d⟩ => NodeD.ext' ⟨a, b, c, d⟩⟩
/-- two patches are the same -/
def pEq (x y : PatchD) : Bool := decide (x.inputs = y.inputs) && (decide (x.tables = y.tables) && (decide (x.outputs = y.outputs) && decide (x.nodes = y.nodes)))
set_option maxHeartbeats 800000 in
theorem sameNode_v {v v' : Value} {x y : NodeD} (w : World) (h : VNode w v x) (h' : VNode w v' y) :
    Calls Tryz.prog 115 #[v, v'] w fun e w' => e = .returned (.bool (decide (x = y))) ∧ Below w.heap.size w w' := by
  obtain ⟨p3, c3, rfl, r3⟩ := h
  obtain ⟨q3, d3, rfl, s3⟩ := h'
  have hB0 : Below w.heap.size w ((w.alloc (.cells #[.int .i64 x.kind, .int .i64 x.a, .int .i64 x.b, .slice p3 x.src.length c3] 64)).alloc (.cells #[.int .i64 y.kind, .int .i64 y.a, .int .i64 y.b, .slice q3 y.src.length d3] 64)) := ((Below.refl _ _).alloc (Nat.le_refl _) _).alloc (by simp) _
  have SM := Lib.hid (same_any (c := c3) (d := d3) _ (r3.below hB0) (s3.below hB0))
  have HR := Lib.hid (node_eq x y)
  generalize decide (x = y) = R at HR ⊢
  cases e1 : (x.kind == y.kind)
  case false =>
    obtain rfl := HR.out _ _ _ _ e1 rfl rfl rfl
    go_enter Tryz.func115, Tryz.ntmps115
    go_wp2_with fail
    go_ret
    exact ⟨rfl, hB0⟩
  cases e2 : (x.a == y.a)
  case false =>
    obtain rfl := HR.out _ _ _ _ e1 e2 rfl rfl
    go_enter Tryz.func115, Tryz.ntmps115
    go_wp2_with fail
    go_ret
    exact ⟨rfl, hB0⟩
  cases e3 : (x.b == y.b)
  case false =>
    obtain rfl := HR.out _ _ _ _ e1 e2 e3 rfl
    go_enter Tryz.func115, Tryz.ntmps115
    go_wp2_with fail
    go_ret
    exact ⟨rfl, hB0⟩
  obtain rfl := HR.out _ _ _ _ e1 e2 e3 rfl
  go_enter Tryz.func115, Tryz.ntmps115
  go_wp2_with (go_at_call 132; refine SM.out.mono ?_; rintro e w' ⟨rfl, rfl⟩)
  go_ret
  exact ⟨rfl, hB0⟩
set_option maxHeartbeats 1600000 in
theorem l07SameNode_any {b o b' o' : Nat} {x y : NodeD} (w : World) (h : PNode w b o x) (h' : PNode w b' o' y) :
    Calls Tryz.prog 102 #[.pointer (some ⟨b, o, none⟩), .pointer (some ⟨b', o', none⟩)] w fun e w' => e = .returned (.bool (decide (x = y))) ∧ Drawn w w' := by
  obtain ⟨z0, z1, z2, q, d, z3, hr⟩ := h
  obtain ⟨y0, y1, y2, q', d', y3, hr'⟩ := h'
  have HR := Lib.hid (node_eq x y)
  have HN : Hid (∀ m, Calls Tryz.prog 124 #[.slice q x.src.length d, .slice q' y.src.length d'] (w.drewN m) fun e w' => e = .returned (.bool (decide (x.src = y.src))) ∧ ∃ j, w' = (w.drewN m).drewN j) := fun m => l00Same_any (c := d) (d := d') _ (hr.drewN m) (hr'.drewN m)
  clear hr hr'
  generalize decide (x = y) = R at HR ⊢
  cases e1 : (x.kind == y.kind)
  case false =>
    obtain rfl := HR.out _ _ _ _ e1 rfl rfl rfl
    go_enter Tryz.func102, Tryz.ntmps102
    go_wp2_with fail
    go_quiet (fail)
    go_wp2_with fail
    go_ret
    exact ⟨rfl, (Drawn.refl w).on _⟩
  cases e2 : (x.a == y.a)
  case false =>
    obtain rfl := HR.out _ _ _ _ e1 e2 rfl rfl
    go_enter Tryz.func102, Tryz.ntmps102
    go_wp2_with fail
    go_quiet (fail)
    go_wp2_with fail
    go_ret
    exact ⟨rfl, (Drawn.refl w).on _⟩
  cases e3 : (x.b == y.b)
  case false =>
    obtain rfl := HR.out _ _ _ _ e1 e2 e3 rfl
    go_enter Tryz.func102, Tryz.ntmps102
    go_wp2_with fail
    go_quiet (fail)
    go_wp2_with fail
    go_ret
    exact ⟨rfl, (Drawn.refl w).on _⟩
  obtain rfl := HR.out _ _ _ _ e1 e2 e3 rfl
  go_enter Tryz.func102, Tryz.ntmps102
  go_wp2_with fail
  go_quiet ((go_at_call 124; exact Calls.quiet_of (HN.out _)))
  go_wp2_with fail
  go_ret
  exact ⟨rfl, (Drawn.refl w).on _⟩
end Go.Proofs.YtonkdndpfnapjaaGreat
