/-
  The law of the nearest fraction: what is drawn, and the law's walk.
-/
import Derived.Test.YtbjpianbeebmeaaBest
import Derived.Deep.RegionHeld3
namespace Go.Proofs.Ytbjpianbeebmeaa
open Go.ChangeShapes Go.WideShapes Go.ChangeAt Go.RowKit Go.Sort
set_option linter.unusedVariables false

theorem mk_small {n d : Int} (h1 : -1000000 ≤ n) (h2 : n ≤ 1000000) (h3 : 0 < d) (h4 : d ≤ 1000000) : fracB (mkN n d) (mkD n d) = true ∧ -1000000 ≤ mkN n d ∧ mkN n d ≤ 1000000 := by
  have hb : mkBig n d = false := by
    have e1 : n.natAbs / fg n d ≤ n.natAbs := Nat.div_le_self _ _
    have e2 : d.natAbs / fg n d ≤ d.natAbs := Nat.div_le_self _ _
    simp only [mkBig, Bool.or_eq_false_iff, decide_eq_false_iff_not]
    omega
  have hc : mkC n d = 0 := by unfold mkC; rw [hb]; rfl
  refine ⟨(mk_ok h3 hc).1, ?_⟩
  have e1 : n.natAbs / fg n d ≤ n.natAbs := Nat.div_le_self _ _
  unfold mkN
  rw [hb]
  simp only [Bool.false_eq_true, if_false]
  generalize n.natAbs / fg n d = q at e1 ⊢
  split <;> omega
theorem a2Long_any (p : Option Addr) (n c : Nat) (w : World) (hn : n ≤ maxLen) :
    Calls Try.prog 4 #[.slice p n c, .slice none 0 0] w fun e w' => e = .returned (.bool (decide ((3000 : Int) < (n : Int)))) ∧ w = w' := by
  unfold maxLen at hn
  by_cases h : (3000 : Int) < (n : Int)
  · have hd : decide ((3000 : Int) < (n : Int)) = true := decide_eq_true h
    rw [hd]
    go_enter Try.func4, Try.ntmps4
    go_wp2
    go_ret
    exact ⟨rfl, rfl⟩
  · have hd : decide ((3000 : Int) < (n : Int)) = false := decide_eq_false h
    rw [hd]
    go_enter Try.func4, Try.ntmps4
    go_wp2
    go_ret
    exact ⟨rfl, rfl⟩
end Go.Proofs.Ytbjpianbeebmeaa
