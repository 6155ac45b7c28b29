/-
  The noise of a node: the next state of a shift register.
-/
import Derived.Test.YtdcacmmglkcliaaGreatDoorScal
namespace Go.Proofs.YtdcacmmglkcliaaGreatDoor
open Go.ChangeShapes Go.WideShapes Go.ChangeAt Go.RowKit
set_option linter.unusedVariables false

def noiseP (s : Int) : Int := if s % 2 = 1 then smp (bits .xor .i64 (s % 4294967296 / 2) 2734686208) else smp (s % 4294967296 / 2)
theorem unsigned_any (n : Int) (w : World) :
    Calls Tryz.prog 104 #[.int .i64 n] w fun e w' => e = .returned (.int .i64 (n % 4294967296)) ∧ w = w' := by
  go_enter Tryz.func104, Tryz.ntmps104
  go_wp2
  go_ret
  exact ⟨rfl, rfl⟩
theorem isOdd_any (n : Int) (w : World) :
    Calls Tryz.prog 105 #[.int .i64 n] w fun e w' => e = .returned (.bool (decide (n % 2 = 1))) ∧ w = w' := by
  have h := bits_and1 n
  generalize hm : n % 2 = m at *
  clear hm
  go_enter Tryz.func105, Tryz.ntmps105
  go_wp2
  go_ret
  exact ⟨rfl, rfl⟩
theorem noise_any (n : Int) (w : World) :
    Calls Tryz.prog 78 #[.int .i64 n] w fun e w' => e = .returned (.int .i64 (noiseP n)) ∧ w = w' := by
  have hr : 0 ≤ n % 4294967296 ∧ n % 4294967296 ≤ 4294967295 := by omega
  have HU : Hid (∀ W, Calls Tryz.prog 104 #[.int .i64 n] W fun e w' => e = .returned (.int .i64 (n % 4294967296)) ∧ W = w') := fun W => unsigned_any n W
  obtain ⟨R, hR⟩ : ∃ R, R = noiseP n := ⟨_, rfl⟩
  rw [← hR]
  unfold noiseP at hR
  generalize n % 4294967296 = m at hr HU hR
  have HQ : Hid (m.tdiv 2 = m / 2) := Int.tdiv_eq_ediv_of_nonneg hr.1
  by_cases h : n % 2 = 1
  · rw [if_pos h] at hR
    go_enter Tryz.func78, Tryz.ntmps78
    go_wp2_with (first | (go_at_call 104; refine (HU.out _).mono ?_; rintro e w' ⟨rfl, rfl⟩) | (go_at_call 105; refine (isOdd_any _ _).mono ?_; rintro e w' ⟨rfl, rfl⟩) | (go_at_call 77; refine (implWrap_any _ _).mono ?_; rintro e w' ⟨rfl, rfl⟩) | fail)
    go_ret
    exact ⟨by rw [hR]; rfl, rfl⟩
  · rw [if_neg h] at hR
    go_enter Tryz.func78, Tryz.ntmps78
    go_wp2_with (first | (go_at_call 104; refine (HU.out _).mono ?_; rintro e w' ⟨rfl, rfl⟩) | (go_at_call 105; refine (isOdd_any _ _).mono ?_; rintro e w' ⟨rfl, rfl⟩) | (go_at_call 77; refine (implWrap_any _ _).mono ?_; rintro e w' ⟨rfl, rfl⟩) | fail)
    go_ret
    exact ⟨by rw [hR]; rfl, rfl⟩
end Go.Proofs.YtdcacmmglkcliaaGreatDoor
