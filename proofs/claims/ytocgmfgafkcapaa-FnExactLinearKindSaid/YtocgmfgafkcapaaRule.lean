/-
  Contracts of RuleName.
-/
import Derived.Test.YtocgmfgafkcapaaOwn
import Derived.Test.YtocgmfgafkcapaaScal
namespace Go.Proofs.Ytocgmfgafkcapaa
open Go.ChangeShapes Go.WideShapes Go.ChangeAt Go.RowKit
set_option linter.unusedVariables false

def ruleS (k : Int) : ByteArray :=
  if k = 1 then ⟨#[99, 111, 110, 115, 116]⟩ else if k = 2 then ⟨#[122, 101, 114, 111]⟩ else if k = 3 then ⟨#[115, 97, 109, 101]⟩
  else if k = 4 then ⟨#[102, 97, 99, 116, 111, 114]⟩ else if k = 5 then ⟨#[103, 97, 105, 110]⟩ else if k = 6 then ⟨#[100, 101, 108, 97, 121]⟩
  else if k = 7 then ⟨#[109, 101, 114, 103, 101]⟩ else ⟨#[]⟩
theorem ruleS_out {k : Int} (h : ¬ (1 ≤ k ∧ k ≤ 7)) : ruleS k = ⟨#[]⟩ := by unfold ruleS; repeat (first | rw [if_neg (by omega)])

set_option maxHeartbeats 1000000 in
theorem specRule_any (k : Int) (w : World) :
    Calls Try.prog 8 #[.int .i64 k] w fun e w' => e = .returned (.string (ruleS k)) ∧ Below w.heap.size w w' := by
  by_cases h : 1 ≤ k ∧ k ≤ 7
  · obtain rfl | rfl | rfl | rfl | rfl | rfl | rfl : k = 1 ∨ k = 2 ∨ k = 3 ∨ k = 4 ∨ k = 5 ∨ k = 6 ∨ k = 7 := by omega
    all_goals
      go_enter Try.func8, Try.ntmps8
      go_wp2_with (go_at_call 18; refine (l00In_any _ _ _ _).mono ?_; rintro e w' ⟨rfl, rfl⟩; rw [inB_true (by omega)])
      go_ret
      exact ⟨rfl, (Below.refl _ _).alloc (Nat.le_refl _) _⟩
  · have hb := inB_false h
    rw [ruleS_out h]
    have HB := Lib.hid hb; clear hb h
    go_enter Try.func8, Try.ntmps8
    go_wp2_with (go_at_call 18; refine (l00In_any _ _ _ _).mono ?_; rintro e w' ⟨rfl, rfl⟩; rw [HB.out])
    go_ret
    exact ⟨rfl, Below.refl _ _⟩

set_option maxHeartbeats 1000000 in
theorem implRule_any (k : Int) (w : World) :
    Calls Try.prog 9 #[.int .i64 k] w fun e w' => e = .returned (.string (ruleS k)) ∧ Below w.heap.size w w' := by
  by_cases h : 1 ≤ k ∧ k ≤ 7
  · obtain rfl | rfl | rfl | rfl | rfl | rfl | rfl : k = 1 ∨ k = 2 ∨ k = 3 ∨ k = 4 ∨ k = 5 ∨ k = 6 ∨ k = 7 := by omega
    all_goals
      go_enter Try.func9, Try.ntmps9
      go_wp2_with (go_at_call 19; refine (within_any _ _ _ _).mono ?_; rintro e w' ⟨rfl, rfl⟩; rw [inB_true (by omega)])
      go_ret
      exact ⟨rfl, (Below.refl _ _).alloc (Nat.le_refl _) _⟩
  · have hb := inB_false h
    rw [ruleS_out h]
    have HB := Lib.hid hb; clear hb h
    go_enter Try.func9, Try.ntmps9
    go_wp2_with (go_at_call 19; refine (within_any _ _ _ _).mono ?_; rintro e w' ⟨rfl, rfl⟩; rw [HB.out])
    go_ret
    exact ⟨rfl, (Below.refl _ _).alloc (Nat.le_refl _) _⟩
end Go.Proofs.Ytocgmfgafkcapaa
