/-
  Contracts of small functions on numbers: ranges, samples, sums and products modulo 2^32.
-/
import Derived.Test.YtljlcbichimhaaaGreatDoorBase
import Derived.IntWalk
namespace Go.Proofs.YtljlcbichimhaaaGreatDoor
open Go.ChangeShapes Go.WideShapes Go.ChangeAt Go.RowKit
set_option linter.unusedVariables false

theorem Calls.turn {P : Program} {f : FuncId} {args : Array Value} {w : World} {v : Value} (h : Calls P f args w fun e w' => e = .returned v ∧ w = w') : Calls P f args w fun e w' => e = .returned v ∧ w' = w :=
  h.mono fun _ _ ⟨a, b⟩ => ⟨a, b.symm⟩
theorem within_any (n lo hi : Int) (w : World) :
    Calls Tryz.prog 58 #[.int .i64 n, .int .i64 lo, .int .i64 hi] w fun e w' => e = .returned (.bool (inB n lo hi)) ∧ w = w' := by
  by_cases h1 : lo ≤ n
  · go_enter Tryz.func58, Tryz.ntmps58
    go_wp2
    go_ret
    exact ⟨by rw [inB_of_le h1]; rfl, rfl⟩
  · go_enter Tryz.func58, Tryz.ntmps58
    go_wp2
    go_ret
    exact ⟨by rw [inB_of_lt h1]; rfl, rfl⟩
theorem l00In_any (n lo hi : Int) (w : World) :
    Calls Tryz.prog 69 #[.int .i64 n, .int .i64 lo, .int .i64 hi] w fun e w' => e = .returned (.bool (inB n lo hi)) ∧ w = w' := by
  by_cases h1 : lo ≤ n
  · go_enter Tryz.func69, Tryz.ntmps69
    go_wp2
    go_ret
    exact ⟨by rw [inB_of_le h1]; rfl, rfl⟩
  · go_enter Tryz.func69, Tryz.ntmps69
    go_wp2
    go_ret
    exact ⟨by rw [inB_of_lt h1]; rfl, rfl⟩
def isSmp (n : Int) : Bool := inB n (-2147483648) 2147483647
theorem isSample_any (n : Int) (w : World) :
    Calls Tryz.prog 72 #[.int .i64 n] w fun e w' => e = .returned (.bool (isSmp n)) ∧ w = w' := by
  go_enter Tryz.func72, Tryz.ntmps72
  go_wp2_with (go_at_call 58; refine (within_any _ _ _ _).mono ?_; rintro e w' ⟨rfl, rfl⟩)
  go_ret
  exact ⟨rfl, rfl⟩
theorem l01Sample_any (n : Int) (w : World) :
    Calls Tryz.prog 54 #[.int .i64 n] w fun e w' => e = .returned (.bool (isSmp n)) ∧ w = w' := by
  go_enter Tryz.func54, Tryz.ntmps54
  go_wp2_with (go_at_call 69; refine (l00In_any _ _ _ _).mono ?_; rintro e w' ⟨rfl, rfl⟩)
  go_ret
  exact ⟨rfl, rfl⟩
/-- the sample that is congruent to n modulo 2^32 -/
def smp (n : Int) : Int := (n + 2147483648) % 4294967296 - 2147483648
theorem smp_bounds (n : Int) : -2147483648 ≤ smp n ∧ smp n ≤ 2147483647 := by unfold smp; omega
theorem smp_of (n : Int) (h : -2147483648 ≤ n ∧ n ≤ 2147483647) : smp n = n := by unfold smp; omega
theorem wrap32_smp (n : Int) : wrap32 n = smp n := by unfold wrap32 smp; omega
theorem wrap6432_smp (n : Int) : wrap64 (wrap32 n) = smp n := by unfold wrap64 wrap32 smp; omega
theorem smp_wrap64 (n : Int) : smp (wrap64 n) = smp n := by unfold smp wrap64; omega
theorem smp_smp (n : Int) : smp (smp n) = smp n := smp_of _ (smp_bounds n)
theorem smp_eq {a b : Int} (h : (a - b) % 4294967296 = 0) : smp a = smp b := by unfold smp; omega
theorem smp_mod (n : Int) : ∃ k, smp n = n + 4294967296 * k := ⟨-((n + 2147483648) / 4294967296), by unfold smp; omega⟩
theorem smp_add_smp (a b : Int) : smp (smp a + smp b) = smp (a + b) := by
  obtain ⟨k, hk⟩ := smp_mod a
  obtain ⟨l, hl⟩ := smp_mod b
  rw [hk, hl]; unfold smp; omega
theorem smp_sub_smp (a b : Int) : smp (smp a - smp b) = smp (a - b) := by
  obtain ⟨k, hk⟩ := smp_mod a
  obtain ⟨l, hl⟩ := smp_mod b
  rw [hk, hl]; unfold smp; omega
theorem smp_mul_smp (a b : Int) : smp (smp a * smp b) = smp (a * b) := by
  obtain ⟨k, hk⟩ := smp_mod a
  obtain ⟨l, hl⟩ := smp_mod b
  rw [hk, hl]
  have e : (a + 4294967296 * k) * (b + 4294967296 * l) = a * b + 4294967296 * (k * b + l * a + 4294967296 * (k * l)) := by
    rw [Int.add_mul, Int.mul_add, Int.mul_add]
    have h1 : a * (4294967296 * l) = 4294967296 * (l * a) := by rw [Int.mul_left_comm, Int.mul_comm a l]
    have h2 : 4294967296 * k * b = 4294967296 * (k * b) := by rw [Int.mul_assoc]
    have h3 : 4294967296 * k * (4294967296 * l) = 4294967296 * (4294967296 * (k * l)) := by rw [Int.mul_assoc, Int.mul_left_comm k]
    rw [h1, h2, h3]; omega
  rw [e]; unfold smp; omega
theorem bits_and32 (n : Int) : bits .and .i64 n 4294967295 = n % 4294967296 := by
  show IntKind.i64.wrap ((BitVec.ofInt 64 n &&& BitVec.ofInt 64 4294967295).toNat : Int) = _
  have h2 : (BitVec.ofInt 64 4294967295).toNat = 2 ^ 32 - 1 := by rfl
  rw [BitVec.toNat_and, h2, Nat.and_two_pow_sub_one_eq_mod, BitVec.toNat_ofInt]
  have h3 : IntKind.i64.wrap ((((n % ((2 ^ 64 : Nat) : Int)).toNat % 2 ^ 32 : Nat)) : Int) = (((n % ((2 ^ 64 : Nat) : Int)).toNat % 2 ^ 32 : Nat) : Int) := by
    have := Nat.mod_lt (n % ((2 ^ 64 : Nat) : Int)).toNat (show 0 < 2 ^ 32 by decide)
    exact IntWalk.i64_in _ (by omega)
  rw [h3]
  omega
theorem bits_and1 (n : Int) : bits .and .i64 n 1 = n % 2 := by
  show IntKind.i64.wrap ((BitVec.ofInt 64 n &&& BitVec.ofInt 64 1).toNat : Int) = _
  have h2 : (BitVec.ofInt 64 1).toNat = 2 ^ 1 - 1 := by rfl
  rw [BitVec.toNat_and, h2, Nat.and_two_pow_sub_one_eq_mod, BitVec.toNat_ofInt]
  have h3 : IntKind.i64.wrap ((((n % ((2 ^ 64 : Nat) : Int)).toNat % 2 ^ 1 : Nat)) : Int) = (((n % ((2 ^ 64 : Nat) : Int)).toNat % 2 ^ 1 : Nat) : Int) := by
    have := Nat.mod_lt (n % ((2 ^ 64 : Nat) : Int)).toNat (show 0 < 2 ^ 1 by decide)
    exact IntWalk.i64_in _ (by omega)
  rw [h3]
  omega
theorem implWrap_any (n : Int) (w : World) :
    Calls Tryz.prog 47 #[.int .i64 n] w fun e w' => e = .returned (.int .i64 (smp n)) ∧ w = w' := by
  go_enter Tryz.func47, Tryz.ntmps47
  go_wp2
  go_ret
  exact ⟨ret_int (a := wrap64 (wrap32 n)) (wrap6432_smp n), rfl⟩
theorem l01Wrap_any (n : Int) (w : World) :
    Calls Tryz.prog 68 #[.int .i64 n] w fun e w' => e = .returned (.int .i64 (smp n)) ∧ w = w' := by
  have hb := bits_and32 n
  have h0 : 0 ≤ n % 4294967296 := by omega
  have h1 : n % 4294967296 ≤ 4294967295 := by omega
  by_cases h : n % 4294967296 ≤ 2147483647
  · have hs : smp n = n % 4294967296 := by unfold smp; omega
    rw [hs]
    clear hs
    generalize hm : n % 4294967296 = m at *
    clear hm
    go_enter Tryz.func68, Tryz.ntmps68
    go_wp2
    go_ret
    exact ⟨rfl, rfl⟩
  · have hs : smp n = n % 4294967296 - 4294967296 := by unfold smp; omega
    rw [hs]
    clear hs
    generalize hm : n % 4294967296 = m at *
    clear hm
    go_enter Tryz.func68, Tryz.ntmps68
    go_wp2
    go_ret
    exact ⟨rfl, rfl⟩
theorem l01Add_any (a b : Int) (w : World) :
    Calls Tryz.prog 45 #[.int .i64 a, .int .i64 b] w fun e w' => e = .returned (.int .i64 (smp (a + b))) ∧ w = w' := by
  have h1 := smp_bounds a
  have h2 := smp_bounds b
  go_enter Tryz.func45, Tryz.ntmps45
  go_wp2_with (go_at_call 68; refine (l01Wrap_any _ _).mono ?_; rintro e w' ⟨rfl, rfl⟩)
  go_ret
  exact ⟨ret_int (smp_add_smp a b), rfl⟩
theorem l01Mul_any (a b : Int) (w : World) :
    Calls Tryz.prog 57 #[.int .i64 a, .int .i64 b] w fun e w' => e = .returned (.int .i64 (smp (a * b))) ∧ w = w' := by
  go_enter Tryz.func57, Tryz.ntmps57
  go_wp2_with (go_at_call 68; refine (l01Wrap_any _ _).mono ?_; rintro e w' ⟨rfl, rfl⟩)
  go_ret
  exact ⟨ret_int (by simp only [smp_wrap64]; exact smp_mul_smp a b), rfl⟩
end Go.Proofs.YtljlcbichimhaaaGreatDoor
