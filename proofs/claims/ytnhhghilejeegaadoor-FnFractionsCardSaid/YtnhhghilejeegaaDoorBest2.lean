/-
  The law of the nearest fraction: what is drawn, and the law's walk.
-/
import Derived.Test.YtnhhghilejeegaaDoorBest
import Derived.Deep.RegionHeld3
namespace Go.Proofs.YtnhhghilejeegaaDoor
open Go.ChangeShapes Go.WideShapes Go.ChangeAt Go.RowKit Go.Sort
set_option linter.unusedVariables false

theorem mk_small {n d : Int} (h1 : -1000000 ≤ n) (h2 : n ≤ 1000000) (h3 : 0 < d) (h4 : d ≤ 1000000) : fracB (mkN n d) (mkD n d) = true ∧ -1000000 ≤ mkN n d ∧ mkN n d ≤ 1000000 := by
  have hb : mkBig n d = false := by
    have e1 : n.natAbs / fg n d ≤ n.natAbs := Nat.div_le_self _ _
    have e2 : d.natAbs / fg n d ≤ d.natAbs := Nat.div_le_self _ _
    simp only [mkBig, Bool.or_eq_false_iff, decide_eq_false_iff_not]
    omega
  have hc : mkC n d = 0 := by unfold mkC; rw [hb]; rfl
  refine ⟨(mk_ok h3 hc).1, ?_⟩
  have e1 : n.natAbs / fg n d ≤ n.natAbs := Nat.div_le_self _ _
  unfold mkN
  rw [hb]
  simp only [Bool.false_eq_true, if_false]
  generalize n.natAbs / fg n d = q at e1 ⊢
  split <;> omega
theorem a2Long_any (p : Option Addr) (n c : Nat) (w : World) (hn : n ≤ maxLen) :
    Calls Tryd.prog 18 #[.slice p n c, .slice none 0 0] w fun e w' => e = .returned (.bool (decide ((3000 : Int) < (n : Int)))) ∧ w = w' := by
  unfold maxLen at hn
  by_cases h : (3000 : Int) < (n : Int)
  · have hd : decide ((3000 : Int) < (n : Int)) = true := decide_eq_true h
    rw [hd]
    go_enter Tryd.func18, Tryd.ntmps18
    go_wp2
    go_ret
    exact ⟨rfl, rfl⟩
  · have hd : decide ((3000 : Int) < (n : Int)) = false := decide_eq_false h
    rw [hd]
    go_enter Tryd.func18, Tryd.ntmps18
    go_wp2
    go_ret
    exact ⟨rfl, rfl⟩
theorem validFrac_any (n d : Int) (w : World) :
    Calls Tryd.prog 22 #[.agg #[.int .i64 n, .int .i64 d]] w fun e w' => e = .returned (.bool (fracB n d)) ∧ Below w.heap.size w w' := by
  have hB0 : Below w.heap.size w (w.alloc (.cells #[.int .i64 n, .int .i64 d] 34)) := (Below.refl _ _).alloc (Nat.le_refl _) _
  go_enter Tryd.func22, Tryd.ntmps22
  go_wp2_with fail
  refine (l02Ok_any n d _).mono ?_
  rintro e F ⟨rfl, hb⟩
  go_wp2_with fail
  go_ret
  exact ⟨rfl, hB0.trans (hb.mono hB0.size)⟩
end Go.Proofs.YtnhhghilejeegaaDoor
