/-
  Filters by the program.
-/
import Derived.Test.YtlaleoljeijkcaaGreatDoorSer2
import Derived.Test.YtlaleoljeijkcaaGreatDoorFilS
import Derived.StillTailTactics
namespace Go.Proofs.YtlaleoljeijkcaaGreatDoor
open Go.ChangeShapes Go.WideShapes Go.ChangeAt Go.RowKit
set_option linter.unusedVariables false
set_option linter.unusedSimpArgs false

theorem isSignal_true {p : Option Addr} {c : Nat} {xs : List Int} (w : World) (h : RdI w p xs) (ha : AllS xs) (hl : xs.length ≤ 4000) :
    Calls Tryz.prog 20 #[.slice p xs.length c] w fun e w' => e = .returned (.bool true) ∧ w = w' := by
  have hall : xs.all isSmp = true := by rw [List.all_eq_true]; exact ha
  have HA := Lib.hid (areSamples_any (c := c) w h)
  rw [hall] at HA
  clear hall ha h
  go_enter Tryz.func20, Tryz.ntmps20
  go_wp2_with (go_at_call 36; refine HA.out.mono ?_; rintro e w' ⟨rfl, rfl⟩)
  go_ret
  exact ⟨rfl, rfl⟩
end Go.Proofs.YtlaleoljeijkcaaGreatDoor
