/-
  Polynomials on the program's side: cutting of zeros, sums, equality: contracts.
-/
import Derived.Test.YtbjpianbeebmeacSer2
namespace Go.Proofs.Ytbjpianbeebmeac
open Go.ChangeShapes Go.WideShapes Go.ChangeAt Go.RowKit
set_option linter.unusedVariables false
set_option linter.unusedSimpArgs false

set_option maxHeartbeats 2000000 in
theorem v8Same_true {p q : Option Addr} {c d : Nat} {xs : List Int} (w : World) (h : RdI w p xs) (h' : RdI w q xs) (hl : xs.length ≤ 1048576) :
    Calls Try.prog 10 #[.slice p xs.length c, .slice q xs.length d] w fun e w' => e = .returned (.bool true) ∧ Below w.heap.size w w' := by
  go_enter Try.func10, Try.ntmps10
  go_wp2_with fail
  go_loopw [5] (fun i wr => ∃ k : Nat, k ≤ xs.length ∧ i = .int .i64 (k : Int) ∧ Drawn w wr) (fun i _ => xs.length - (intOf i).toNat)
  case atStart => exact ⟨0, Nat.zero_le _, rfl, Drawn.refl _⟩
  case round =>
    obtain ⟨k, hk, rfl, hdr⟩ := hrel
    by_cases hlt : k < xs.length
    · obtain ⟨b, o, rfl, hb, hc⟩ := (hdr.rdI h).pos hlt
      obtain ⟨b', o', rfl, hb', hc'⟩ := (hdr.rdI h').pos hlt
      have z1 := hc k hlt
      have z2 := hc' k hlt
      generalize xs[k] = x at z1 z2
      clear hc hc'
      go_wp2_with fail
      go_quiet (fail)
      go_wp2_with fail
      go_roundw
      case rel => exact ⟨k + 1, by omega, by go_num, hdr.on _⟩
      case measure => simp [intOf] <;> omega
    · obtain rfl : k = xs.length := by omega
      go_wp2_with fail
      go_ret
      obtain ⟨m, rfl⟩ := hdr
      exact ⟨rfl, below_drewN (Below.refl _ _) m⟩
end Go.Proofs.Ytbjpianbeebmeac
