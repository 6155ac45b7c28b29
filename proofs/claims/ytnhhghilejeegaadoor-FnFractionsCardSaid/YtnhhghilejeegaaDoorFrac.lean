/-
  Fractions: greatest common divisors, validity, making, rounding: contracts of both sides.
-/
import Derived.Test.YtnhhghilejeegaaDoorSrc
import Derived.Lib.QuietBelow
namespace Go.Proofs.YtnhhghilejeegaaDoor
open Go.ChangeShapes Go.WideShapes Go.ChangeAt Go.RowKit Go.Sort
set_option linter.unusedVariables false

theorem gcd_step {x y G : Nat} (h : Nat.gcd x y = G) : Nat.gcd y (x % y) = G := by
  rw [← h, Nat.gcd_comm x y, Nat.gcd_rec y x, Nat.gcd_comm]
set_option maxHeartbeats 1000000 in
theorem gcd_any (a b : Nat) (w : World) (ha : a ≤ 4611686018427387904) (hb : b ≤ 4611686018427387904) :
    Calls Tryd.prog 103 #[.int .u64 (a : Int), .int .u64 (b : Int)] w fun e w' => e = .returned (.int .u64 ((Nat.gcd a b : Nat) : Int)) ∧ Drawn w w' := by
  have hG := Lib.hid (rfl : Nat.gcd a b = Nat.gcd a b)
  generalize hg : Nat.gcd a b = G at hG ⊢
  have HG := Lib.hid hg
  clear hg hG
  go_enter Tryd.func103, Tryd.ntmps103
  go_wp2_with fail
  go_loopw [0, 1] (fun u v wr => ∃ x y : Nat, u = .int .u64 (x : Int) ∧ v = .int .u64 (y : Int) ∧ Nat.gcd x y = G ∧ x ≤ 4611686018427387904 ∧ y ≤ 4611686018427387904 ∧ Drawn w wr) (fun _ v _ => (intOf v).toNat)
  case atStart => exact ⟨a, b, rfl, rfl, HG.out, ha, hb, Drawn.refl _⟩
  case round =>
    obtain ⟨x, y, rfl, rfl, h, hx, hy, hd⟩ := hrel
    have H := Lib.hid h
    clear h
    obtain ⟨wo, rfl⟩ : ∃ wo : World, wo = wr := ⟨_, rfl⟩
    by_cases h0 : y = 0
    · subst h0
      go_wp2_with fail
      go_ret
      exact ⟨by have := H.out; rw [Nat.gcd_zero_right] at this; rw [this]; rfl, hd⟩
    · have e0 : ((y : Int) != 0) = true := by rw [bne_iff_ne]; omega
      have hm : x % y < y := Nat.mod_lt _ (by omega)
      have hy0 : (0 : Int) < (y : Int) := by omega
      go_wp2_with fail
      go_quiet (fail)
      go_wp2_with fail
      go_roundw
      case rel => exact ⟨y, x % y, rfl, by rw [Int.natCast_emod], gcd_step H.out, hy, by omega, hd.on _⟩
      case measure => simp [intOf]; omega
set_option maxHeartbeats 1000000 in
theorem l02Gcd_any (a b : Nat) (w : World) (ha : a ≤ 4611686018427387904) (hb : b ≤ 4611686018427387904) :
    Calls Tryd.prog 105 #[.int .u64 (a : Int), .int .u64 (b : Int)] w fun e w' => e = .returned (.int .u64 ((Nat.gcd a b : Nat) : Int)) ∧ w = w' := by
  generalize hg : Nat.gcd a b = G
  have HG := Lib.hid hg
  clear hg
  go_enter Tryd.func105, Tryd.ntmps105
  go_wp2_with fail
  go_loop [0, 1] (fun u v => ∃ x y : Nat, u = .int .u64 (x : Int) ∧ v = .int .u64 (y : Int) ∧ Nat.gcd x y = G ∧ x ≤ 4611686018427387904 ∧ y ≤ 4611686018427387904) (fun _ v => (intOf v).toNat)
  case atStart => exact ⟨a, b, rfl, rfl, HG.out, ha, hb⟩
  case round =>
    obtain ⟨x, y, rfl, rfl, h, hx, hy⟩ := hrel
    have H := Lib.hid h
    clear h
    by_cases h0 : y = 0
    · subst h0
      go_wp2_with fail
      go_ret
      exact ⟨by have := H.out; rw [Nat.gcd_zero_right] at this; rw [this]; rfl, rfl⟩
    · have hm : x % y < y := Nat.mod_lt _ (by omega)
      have hy0 : (0 : Int) < (y : Int) := by omega
      go_wp2_with fail
      go_round
      case rel => exact ⟨y, x % y, rfl, by rw [Int.natCast_emod], gcd_step H.out, hy, by omega⟩
      case measure => simp [intOf]; omega
theorem fdiv_bounds {a b : Int} (hb : 0 < b) (ha : a < 0) : a ≤ a / b ∧ a / b < 0 := by
  have h1 := Int.mul_ediv_add_emod a b
  have h2 := Int.emod_nonneg a (show b ≠ 0 by omega)
  have h3 := Int.emod_lt_of_pos a hb
  have h4 : a / b < 0 := Int.ediv_neg_of_neg_of_pos ha hb
  generalize a / b = q at *
  have h5 : 0 ≤ (b - 1) * (-(q + 1)) := Int.mul_nonneg (by omega) (by omega)
  rw [Int.mul_neg, Int.sub_mul, Int.mul_add, Int.mul_one, Int.one_mul] at h5
  omega
theorem fdiv_neg {a b : Int} (hb : 0 < b) (ha : a < 0) : (a.tmod b < 0 ∧ a.tdiv b = a / b + 1) ∨ (a.tmod b = 0 ∧ a.tdiv b = a / b) := by
  have h2 := Int.emod_nonneg a (show b ≠ 0 by omega)
  have h3 := Int.emod_lt_of_pos a hb
  by_cases hd : b ∣ a
  · right
    rw [Int.tmod_eq_emod, Int.tdiv_eq_ediv]
    simp [hd, Int.emod_eq_zero_of_dvd hd]
  · left
    rw [Int.tmod_eq_emod, Int.tdiv_eq_ediv]
    have : ¬ (0 ≤ a ∨ b ∣ a) := by rintro (h | h); omega; exact hd h
    rw [if_neg this, if_neg this, Int.sign_eq_one_of_pos hb]
    omega
theorem floorDiv_any (a b : Int) (w : World) (hb : 0 < b) (h1 : -4611686018427387904 ≤ a) (h2 : a ≤ 4611686018427387904) (h3 : b ≤ 4611686018427387904) :
    Calls Tryd.prog 60 #[.int .i64 a, .int .i64 b] w fun e w' => e = .returned (.int .i64 (a / b)) ∧ w = w' := by
  by_cases h0 : 0 ≤ a
  · have hm := Int.emod_nonneg a (show b ≠ 0 by omega)
    have hm2 : decide (a % b < 0) = false := decide_eq_false (by omega)
    go_enter Tryd.func60, Tryd.ntmps60
    go_wp2_with fail
    go_ret
    exact ⟨rfl, rfl⟩
  · have ha : a < 0 := by omega
    rcases fdiv_neg hb ha with ⟨hm, he⟩ | ⟨hm, he⟩
    · have hbd := fdiv_bounds hb ha
      have HE : Hid (wrap64 (a.tdiv b - 1) = a / b) := by
        unfold Hid; rw [he, show a / b + 1 - 1 = a / b by omega]; exact IntWalk.wrap64_in _ (by omega)
      clear he hbd
      go_enter Tryd.func60, Tryd.ntmps60
      go_wp2_with fail
      go_ret
      exact ⟨ret_int HE.out, rfl⟩
    · have HE := Lib.hid he
      have hm0 : 0 ≤ a.tmod b := by omega
      have hm2 : decide (a.tmod b < 0) = false := decide_eq_false (by omega)
      clear he hm
      go_enter Tryd.func60, Tryd.ntmps60
      go_wp2_with fail
      go_ret
      exact ⟨ret_int HE.out, rfl⟩
theorem magnitude_any (n : Int) (w : World) (h1 : -4611686018427387904 ≤ n) (h2 : n ≤ 4611686018427387904) :
    Calls Tryd.prog 102 #[.int .i64 n] w fun e w' => e = .returned (.int .u64 ((n.natAbs : Nat) : Int)) ∧ w = w' := by
  have HU : Hid (IntKind.u64.wrap (-IntKind.u64.wrap n) = n.natAbs ∨ 0 ≤ n) := by
    by_cases h0 : 0 ≤ n
    · exact .inr h0
    · left
      simp only [IntKind.wrap, IntKind.bits, IntKind.signed]
      simp
      omega
  by_cases h0 : n < 0
  · go_enter Tryd.func102, Tryd.ntmps102
    go_wp2_with fail
    go_ret
    exact ⟨ret_int (by rcases HU.out with h | h; exact h; omega), rfl⟩
  · go_enter Tryd.func102, Tryd.ntmps102
    go_wp2_with fail
    go_ret
    exact ⟨ret_int (by omega), rfl⟩
theorem l02Size_any (n : Int) (w : World) (h1 : -4611686018427387904 ≤ n) (h2 : n ≤ 4611686018427387904) :
    Calls Tryd.prog 106 #[.int .i64 n] w fun e w' => e = .returned (.int .u64 ((n.natAbs : Nat) : Int)) ∧ w = w' := by
  by_cases h0 : n < 0
  · go_enter Tryd.func106, Tryd.ntmps106
    go_wp2_with fail
    go_ret
    exact ⟨ret_int (by omega), rfl⟩
  · go_enter Tryd.func106, Tryd.ntmps106
    go_wp2_with fail
    go_ret
    exact ⟨ret_int (by omega), rfl⟩
end Go.Proofs.YtnhhghilejeegaaDoor
