/-
  The noise of a node: the next state of a shift register.
-/
import Derived.Test.YtalomhakmfknjaaScal
namespace Go.Proofs.Ytalomhakmfknjaa
open Go.ChangeShapes Go.WideShapes Go.ChangeAt Go.RowKit
set_option linter.unusedVariables false

def noiseP (s : Int) : Int := if s % 2 = 1 then smp (bits .xor .i64 (s % 4294967296 / 2) 2734686208) else smp (s % 4294967296 / 2)
theorem unsigned_any (n : Int) (w : World) :
    Calls Try.prog 140 #[.int .i64 n] w fun e w' => e = .returned (.int .i64 (n % 4294967296)) ∧ w = w' := by
  go_enter Try.func140, Try.ntmps140
  go_wp2
  go_ret
  exact ⟨rfl, rfl⟩
theorem isOdd_any (n : Int) (w : World) :
    Calls Try.prog 141 #[.int .i64 n] w fun e w' => e = .returned (.bool (decide (n % 2 = 1))) ∧ w = w' := by
  have h := bits_and1 n
  generalize hm : n % 2 = m at *
  clear hm
  go_enter Try.func141, Try.ntmps141
  go_wp2
  go_ret
  exact ⟨rfl, rfl⟩
theorem noise_any (n : Int) (w : World) :
    Calls Try.prog 128 #[.int .i64 n] w fun e w' => e = .returned (.int .i64 (noiseP n)) ∧ w = w' := by
  have hr : 0 ≤ n % 4294967296 ∧ n % 4294967296 ≤ 4294967295 := by omega
  have HU : Hid (∀ W, Calls Try.prog 140 #[.int .i64 n] W fun e w' => e = .returned (.int .i64 (n % 4294967296)) ∧ W = w') := fun W => unsigned_any n W
  obtain ⟨R, hR⟩ : ∃ R, R = noiseP n := ⟨_, rfl⟩
  rw [← hR]
  unfold noiseP at hR
  generalize n % 4294967296 = m at hr HU hR
  have HQ : Hid (m.tdiv 2 = m / 2) := Int.tdiv_eq_ediv_of_nonneg hr.1
  by_cases h : n % 2 = 1
  · rw [if_pos h] at hR
    go_enter Try.func128, Try.ntmps128
    go_wp2_with (first | (go_at_call 140; refine (HU.out _).mono ?_; rintro e w' ⟨rfl, rfl⟩) | (go_at_call 141; refine (isOdd_any _ _).mono ?_; rintro e w' ⟨rfl, rfl⟩) | (go_at_call 127; refine (implWrap_any _ _).mono ?_; rintro e w' ⟨rfl, rfl⟩) | fail)
    go_ret
    exact ⟨by rw [hR]; rfl, rfl⟩
  · rw [if_neg h] at hR
    go_enter Try.func128, Try.ntmps128
    go_wp2_with (first | (go_at_call 140; refine (HU.out _).mono ?_; rintro e w' ⟨rfl, rfl⟩) | (go_at_call 141; refine (isOdd_any _ _).mono ?_; rintro e w' ⟨rfl, rfl⟩) | (go_at_call 127; refine (implWrap_any _ _).mono ?_; rintro e w' ⟨rfl, rfl⟩) | fail)
    go_ret
    exact ⟨by rw [hR]; rfl, rfl⟩
theorem l06Noise_any (n : Int) (w : World) :
    Calls Try.prog 121 #[.int .i64 n] w fun e w' => e = .returned (.int .i64 (noiseP n)) ∧ w = w' := by
  have hb := bits_and32 n
  have hb1 := bits_and1 (n % 4294967296)
  have h2 : n % 4294967296 % 2 = n % 2 := by omega
  rw [h2] at hb1
  have hr : 0 ≤ n % 4294967296 ∧ n % 4294967296 ≤ 4294967295 := by omega
  obtain ⟨R, hR⟩ : ∃ R, R = noiseP n := ⟨_, rfl⟩
  rw [← hR]
  unfold noiseP at hR
  clear h2
  generalize n % 4294967296 = m at *
  by_cases h : n % 2 = 1
  · rw [if_pos h] at hR
    rw [h] at hb1
    go_enter Try.func121, Try.ntmps121
    go_wp2_with (first | (go_at_call 139; refine (l01Wrap_any _ _).mono ?_; rintro e w' ⟨rfl, rfl⟩) | fail)
    go_ret
    exact ⟨by rw [hR]; rfl, rfl⟩
  · rw [if_neg h] at hR
    have h0 : n % 2 = 0 := by omega
    rw [h0] at hb1
    go_enter Try.func121, Try.ntmps121
    go_wp2_with (first | (go_at_call 139; refine (l01Wrap_any _ _).mono ?_; rintro e w' ⟨rfl, rfl⟩) | fail)
    go_ret
    exact ⟨by rw [hR]; rfl, rfl⟩
end Go.Proofs.Ytalomhakmfknjaa
