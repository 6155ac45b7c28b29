/-
  The reference's output of a node, kind by kind.
-/
import Derived.Test.YtbjpianbeebmeabNoise
import Derived.Test.YtbjpianbeebmeabNode2
namespace Go.Proofs.Ytbjpianbeebmeab
open Go.ChangeShapes Go.WideShapes Go.ChangeAt Go.RowKit Go.Sort
set_option linter.unusedVariables false

set_option maxHeartbeats 4000000 in
theorem l06Out_1 {b o : Nat} {vt vs : Value} {ba oa na ca : Nat} {x0 : Int} (w : World) (c0 : w.cell? ⟨b, o, none⟩ = some (.int .i64 1)) (hx0 : w.cell? ⟨ba, oa, none⟩ = some (.int .i64 x0)) (la : 1 ≤ na) :
    Calls Try.prog 39 #[.pointer (some ⟨b, o, none⟩), vt, .slice (some ⟨ba, oa, none⟩) na ca, vs] w fun e w' => e = .returned (.int .i64 (x0)) ∧ Below w.heap.size w w' := by
  go_enter Try.func39, Try.ntmps39
  go_wp2_with fail
  go_ret
  exact ⟨rfl, Below.refl _ _⟩
set_option maxHeartbeats 4000000 in
theorem l06Out_2 {b o : Nat} {vt va vs : Value} {A : Int} (w : World) (c0 : w.cell? ⟨b, o, none⟩ = some (.int .i64 2)) (c1 : w.cell? ⟨b, o + 1, none⟩ = some (.int .i64 A)) :
    Calls Try.prog 39 #[.pointer (some ⟨b, o, none⟩), vt, va, vs] w fun e w' => e = .returned (.int .i64 (A)) ∧ Below w.heap.size w w' := by
  go_enter Try.func39, Try.ntmps39
  go_wp2_with fail
  go_ret
  exact ⟨rfl, Below.refl _ _⟩
set_option maxHeartbeats 4000000 in
theorem l06Out_3 {b o : Nat} {vt vs : Value} {ba oa na ca : Nat} {x0 x1 : Int} (w : World) (c0 : w.cell? ⟨b, o, none⟩ = some (.int .i64 3)) (hx0 : w.cell? ⟨ba, oa, none⟩ = some (.int .i64 x0)) (hx1 : w.cell? ⟨ba, oa + 1, none⟩ = some (.int .i64 x1)) (la : 2 ≤ na) :
    Calls Try.prog 39 #[.pointer (some ⟨b, o, none⟩), vt, .slice (some ⟨ba, oa, none⟩) na ca, vs] w fun e w' => e = .returned (.int .i64 (smp (x0 + x1))) ∧ Below w.heap.size w w' := by
  go_enter Try.func39, Try.ntmps39
  go_wp2_with fail
  go_quiet ((go_at_call 55; exact Calls.quiet_of_same (Calls.turn (l01Add_any _ _ _))))
  go_wp2_with fail
  go_ret
  exact ⟨rfl, below_drewN (Below.refl _ _) _⟩
set_option maxHeartbeats 4000000 in
theorem l06Out_4 {b o : Nat} {vt vs : Value} {ba oa na ca : Nat} {x0 x1 : Int} (w : World) (c0 : w.cell? ⟨b, o, none⟩ = some (.int .i64 4)) (hx0 : w.cell? ⟨ba, oa, none⟩ = some (.int .i64 x0)) (hx1 : w.cell? ⟨ba, oa + 1, none⟩ = some (.int .i64 x1)) (la : 2 ≤ na) :
    Calls Try.prog 39 #[.pointer (some ⟨b, o, none⟩), vt, .slice (some ⟨ba, oa, none⟩) na ca, vs] w fun e w' => e = .returned (.int .i64 (smp (x0 - x1))) ∧ Below w.heap.size w w' := by
  go_enter Try.func39, Try.ntmps39
  go_wp2_with fail
  go_quiet ((go_at_call 56; exact Calls.quiet_of_same (Calls.turn (l01Sub_any _ _ _))))
  go_wp2_with fail
  go_ret
  exact ⟨rfl, below_drewN (Below.refl _ _) _⟩
set_option maxHeartbeats 4000000 in
theorem l06Out_5 {b o : Nat} {vt vs : Value} {ba oa na ca : Nat} {A x0 : Int} (w : World) (c0 : w.cell? ⟨b, o, none⟩ = some (.int .i64 5)) (c1 : w.cell? ⟨b, o + 1, none⟩ = some (.int .i64 A)) (hx0 : w.cell? ⟨ba, oa, none⟩ = some (.int .i64 x0)) (la : 1 ≤ na) :
    Calls Try.prog 39 #[.pointer (some ⟨b, o, none⟩), vt, .slice (some ⟨ba, oa, none⟩) na ca, vs] w fun e w' => e = .returned (.int .i64 (smp (A * x0))) ∧ Below w.heap.size w w' := by
  go_enter Try.func39, Try.ntmps39
  go_wp2_with fail
  go_quiet ((go_at_call 57; exact Calls.quiet_of_same (Calls.turn (l01Mul_any _ _ _))))
  go_wp2_with fail
  go_ret
  exact ⟨rfl, below_drewN (Below.refl _ _) _⟩
set_option maxHeartbeats 4000000 in
theorem l06Out_6 {b o : Nat} {vt va : Value} {bs os ns cs : Nat} {s0 : Int} (w : World) (c0 : w.cell? ⟨b, o, none⟩ = some (.int .i64 6)) (hs0 : w.cell? ⟨bs, os, none⟩ = some (.int .i64 s0)) (ls : 1 ≤ ns) :
    Calls Try.prog 39 #[.pointer (some ⟨b, o, none⟩), vt, va, .slice (some ⟨bs, os, none⟩) ns cs] w fun e w' => e = .returned (.int .i64 (s0)) ∧ Below w.heap.size w w' := by
  go_enter Try.func39, Try.ntmps39
  go_wp2_with fail
  go_ret
  exact ⟨rfl, Below.refl _ _⟩
set_option maxHeartbeats 4000000 in
theorem l06Out_12 {b o : Nat} {vt va : Value} {bs os ns cs : Nat} {s0 : Int} (w : World) (c0 : w.cell? ⟨b, o, none⟩ = some (.int .i64 12)) (hs0 : w.cell? ⟨bs, os, none⟩ = some (.int .i64 s0)) (ls : 1 ≤ ns) :
    Calls Try.prog 39 #[.pointer (some ⟨b, o, none⟩), vt, va, .slice (some ⟨bs, os, none⟩) ns cs] w fun e w' => e = .returned (.int .i64 (s0)) ∧ Below w.heap.size w w' := by
  go_enter Try.func39, Try.ntmps39
  go_wp2_with fail
  go_ret
  exact ⟨rfl, Below.refl _ _⟩
set_option maxHeartbeats 4000000 in
theorem l06Out_14 {b o : Nat} {vt va : Value} {bs os ns cs : Nat} {s0 : Int} (w : World) (c0 : w.cell? ⟨b, o, none⟩ = some (.int .i64 14)) (hs0 : w.cell? ⟨bs, os, none⟩ = some (.int .i64 s0)) (ls : 1 ≤ ns) :
    Calls Try.prog 39 #[.pointer (some ⟨b, o, none⟩), vt, va, .slice (some ⟨bs, os, none⟩) ns cs] w fun e w' => e = .returned (.int .i64 (s0)) ∧ Below w.heap.size w w' := by
  go_enter Try.func39, Try.ntmps39
  go_wp2_with fail
  go_ret
  exact ⟨rfl, Below.refl _ _⟩
set_option maxHeartbeats 4000000 in
theorem l06Out_7 {b o : Nat} {vt : Value} {ba oa na ca : Nat} {bs os ns cs : Nat} {x0 s0 : Int} (w : World) (c0 : w.cell? ⟨b, o, none⟩ = some (.int .i64 7)) (hx0 : w.cell? ⟨ba, oa, none⟩ = some (.int .i64 x0)) (hs0 : w.cell? ⟨bs, os, none⟩ = some (.int .i64 s0)) (la : 1 ≤ na) (ls : 1 ≤ ns) :
    Calls Try.prog 39 #[.pointer (some ⟨b, o, none⟩), vt, .slice (some ⟨ba, oa, none⟩) na ca, .slice (some ⟨bs, os, none⟩) ns cs] w fun e w' => e = .returned (.int .i64 (smp (s0 + x0))) ∧ Below w.heap.size w w' := by
  go_enter Try.func39, Try.ntmps39
  go_wp2_with fail
  go_quiet ((go_at_call 55; exact Calls.quiet_of_same (Calls.turn (l01Add_any _ _ _))))
  go_wp2_with fail
  go_ret
  exact ⟨rfl, below_drewN (Below.refl _ _) _⟩
set_option maxHeartbeats 4000000 in
theorem l06Out_8 {b o : Nat} {vt : Value} {ba oa na ca : Nat} {bs os ns cs : Nat} {x0 s0 : Int} (w : World) (c0 : w.cell? ⟨b, o, none⟩ = some (.int .i64 8)) (hx0 : w.cell? ⟨ba, oa, none⟩ = some (.int .i64 x0)) (hs0 : w.cell? ⟨bs, os, none⟩ = some (.int .i64 s0)) (la : 1 ≤ na) (ls : 1 ≤ ns) :
    Calls Try.prog 39 #[.pointer (some ⟨b, o, none⟩), vt, .slice (some ⟨ba, oa, none⟩) na ca, .slice (some ⟨bs, os, none⟩) ns cs] w fun e w' => e = .returned (.int .i64 (smp (x0 - s0))) ∧ Below w.heap.size w w' := by
  go_enter Try.func39, Try.ntmps39
  go_wp2_with fail
  go_quiet ((go_at_call 56; exact Calls.quiet_of_same (Calls.turn (l01Sub_any _ _ _))))
  go_wp2_with fail
  go_ret
  exact ⟨rfl, below_drewN (Below.refl _ _) _⟩
set_option maxHeartbeats 4000000 in
theorem l06Out_9 {b o : Nat} {vt vs : Value} {ba oa na ca : Nat} {x0 x1 : Int} (w : World) (c0 : w.cell? ⟨b, o, none⟩ = some (.int .i64 9)) (hx0 : w.cell? ⟨ba, oa, none⟩ = some (.int .i64 x0)) (hx1 : w.cell? ⟨ba, oa + 1, none⟩ = some (.int .i64 x1)) (la : 2 ≤ na) :
    Calls Try.prog 39 #[.pointer (some ⟨b, o, none⟩), vt, .slice (some ⟨ba, oa, none⟩) na ca, vs] w fun e w' => e = .returned (.int .i64 (smp (x0 * x1))) ∧ Below w.heap.size w w' := by
  go_enter Try.func39, Try.ntmps39
  go_wp2_with fail
  go_quiet ((go_at_call 57; exact Calls.quiet_of_same (Calls.turn (l01Mul_any _ _ _))))
  go_wp2_with fail
  go_ret
  exact ⟨rfl, below_drewN (Below.refl _ _) _⟩
set_option maxHeartbeats 4000000 in
theorem l06Out_15_pos {b o : Nat} {vt vs : Value} {ba oa na ca : Nat} {x0 x1 : Int} (w : World) (c0 : w.cell? ⟨b, o, none⟩ = some (.int .i64 15)) (hx0 : w.cell? ⟨ba, oa, none⟩ = some (.int .i64 x0)) (hx1 : w.cell? ⟨ba, oa + 1, none⟩ = some (.int .i64 x1)) (la : 2 ≤ na) (hx : 0 ≤ x0) :
    Calls Try.prog 39 #[.pointer (some ⟨b, o, none⟩), vt, .slice (some ⟨ba, oa, none⟩) na ca, vs] w fun e w' => e = .returned (.int .i64 (x1)) ∧ Below w.heap.size w w' := by
  go_enter Try.func39, Try.ntmps39
  go_wp2_with fail
  go_ret
  exact ⟨rfl, Below.refl _ _⟩
set_option maxHeartbeats 4000000 in
theorem l06Out_15_neg {b o : Nat} {vt vs : Value} {ba oa na ca : Nat} {x0 x2 : Int} (w : World) (c0 : w.cell? ⟨b, o, none⟩ = some (.int .i64 15)) (hx0 : w.cell? ⟨ba, oa, none⟩ = some (.int .i64 x0)) (hx2 : w.cell? ⟨ba, oa + 2, none⟩ = some (.int .i64 x2)) (la : 3 ≤ na) (hx : ¬ 0 ≤ x0) :
    Calls Try.prog 39 #[.pointer (some ⟨b, o, none⟩), vt, .slice (some ⟨ba, oa, none⟩) na ca, vs] w fun e w' => e = .returned (.int .i64 (x2)) ∧ Below w.heap.size w w' := by
  go_enter Try.func39, Try.ntmps39
  go_wp2_with fail
  go_ret
  exact ⟨rfl, Below.refl _ _⟩
set_option maxHeartbeats 4000000 in
theorem l06Out_16_pos {b o : Nat} {vt vs : Value} {ba oa na ca : Nat} {x0 x1 : Int} (w : World) (c0 : w.cell? ⟨b, o, none⟩ = some (.int .i64 16)) (hx0 : w.cell? ⟨ba, oa, none⟩ = some (.int .i64 x0)) (hx1 : w.cell? ⟨ba, oa + 1, none⟩ = some (.int .i64 x1)) (la : 2 ≤ na) (hx : 0 < x1) :
    Calls Try.prog 39 #[.pointer (some ⟨b, o, none⟩), vt, .slice (some ⟨ba, oa, none⟩) na ca, vs] w fun e w' => e = .returned (.int .i64 (x0)) ∧ Below w.heap.size w w' := by
  go_enter Try.func39, Try.ntmps39
  go_wp2_with fail
  go_ret
  exact ⟨rfl, Below.refl _ _⟩
set_option maxHeartbeats 4000000 in
theorem l06Out_16_neg {b o : Nat} {vt : Value} {ba oa na ca : Nat} {bs os ns cs : Nat} {x1 s0 : Int} (w : World) (c0 : w.cell? ⟨b, o, none⟩ = some (.int .i64 16)) (hx1 : w.cell? ⟨ba, oa + 1, none⟩ = some (.int .i64 x1)) (hs0 : w.cell? ⟨bs, os, none⟩ = some (.int .i64 s0)) (la : 2 ≤ na) (ls : 1 ≤ ns) (hx : ¬ 0 < x1) :
    Calls Try.prog 39 #[.pointer (some ⟨b, o, none⟩), vt, .slice (some ⟨ba, oa, none⟩) na ca, .slice (some ⟨bs, os, none⟩) ns cs] w fun e w' => e = .returned (.int .i64 (s0)) ∧ Below w.heap.size w w' := by
  go_enter Try.func39, Try.ntmps39
  go_wp2_with fail
  go_ret
  exact ⟨rfl, Below.refl _ _⟩
set_option maxHeartbeats 4000000 in
theorem l06Out_17 {b o : Nat} {vt : Value} {ba oa na ca : Nat} {bs os ns cs : Nat} {A x0 s0 : Int} (w : World) (c0 : w.cell? ⟨b, o, none⟩ = some (.int .i64 17)) (c1 : w.cell? ⟨b, o + 1, none⟩ = some (.int .i64 A)) (hx0 : w.cell? ⟨ba, oa, none⟩ = some (.int .i64 x0)) (hs0 : w.cell? ⟨bs, os, none⟩ = some (.int .i64 s0)) (la : 1 ≤ na) (ls : 1 ≤ ns) :
    Calls Try.prog 39 #[.pointer (some ⟨b, o, none⟩), vt, .slice (some ⟨ba, oa, none⟩) na ca, .slice (some ⟨bs, os, none⟩) ns cs] w fun e w' => e = .returned (.int .i64 (smp (x0 + smp (A * s0)))) ∧ Below w.heap.size w w' := by
  go_enter Try.func39, Try.ntmps39
  go_wp2_with fail
  go_quiet ((first | (go_at_call 57; exact Calls.quiet_of_same (Calls.turn (l01Mul_any _ _ _))) | (go_at_call 55; exact Calls.quiet_of_same (Calls.turn (l01Add_any _ _ _)))))
  go_wp2_with fail
  go_ret
  exact ⟨rfl, below_drewN (Below.refl _ _) _⟩
set_option maxHeartbeats 4000000 in
theorem l06Out_11 {b o : Nat} {vt vs : Value} {ba oa na ca : Nat} {A x0 : Int} (w : World) (c0 : w.cell? ⟨b, o, none⟩ = some (.int .i64 11)) (c1 : w.cell? ⟨b, o + 1, none⟩ = some (.int .i64 A)) (hx0 : w.cell? ⟨ba, oa, none⟩ = some (.int .i64 x0)) (la : 1 ≤ na) (hA : 0 ≤ A ∧ A ≤ 2147483647) :
    Calls Try.prog 39 #[.pointer (some ⟨b, o, none⟩), vt, .slice (some ⟨ba, oa, none⟩) na ca, vs] w fun e w' => e = .returned (.int .i64 (max (-A) (min x0 A))) ∧ Below w.heap.size w w' := by
  have hw : IntKind.i64.wrap (-A) = -A := IntWalk.i64_in _ (by omega)
  go_enter Try.func39, Try.ntmps39
  go_wp2_with fail
  go_quiet ((first | (go_at_call 59; exact Calls.quiet_of_same (Calls.turn (l00Min_any _ _ _))) | (go_at_call 58; exact Calls.quiet_of_same (Calls.turn (l00Max_any _ _ _)))))
  go_wp2_with fail
  go_ret
  exact ⟨rfl, below_drewN (Below.refl _ _) _⟩
set_option maxHeartbeats 4000000 in
theorem l06Out_10 {b o : Nat} {vt vs : Value} {ba oa na ca : Nat} {A x0 : Int} (w : World) (c0 : w.cell? ⟨b, o, none⟩ = some (.int .i64 10)) (c1 : w.cell? ⟨b, o + 1, none⟩ = some (.int .i64 A)) (hx0 : w.cell? ⟨ba, oa, none⟩ = some (.int .i64 x0)) (la : 1 ≤ na) (hA : 0 ≤ A ∧ A ≤ 31) (i0 : -2147483648 ≤ x0 ∧ x0 ≤ 2147483647) :
    Calls Try.prog 39 #[.pointer (some ⟨b, o, none⟩), vt, .slice (some ⟨ba, oa, none⟩) na ca, vs] w fun e w' => e = .returned (.int .i64 (x0 / 2 ^ A.toNat)) ∧ Below w.heap.size w w' := by
  go_enter Try.func39, Try.ntmps39
  go_wp2_with fail
  go_quiet (fail)
  go_wp2_with fail
  go_ret
  exact ⟨rfl, below_drewN (Below.refl _ _) _⟩
end Go.Proofs.Ytbjpianbeebmeab
