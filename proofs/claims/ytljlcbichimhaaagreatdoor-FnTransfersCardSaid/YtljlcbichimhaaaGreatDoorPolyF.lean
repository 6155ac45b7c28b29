/-
  Polynomials on the program's side: products, values, powers; a drawn divisor; validity by the reference.
-/
import Derived.Test.YtljlcbichimhaaaGreatDoorPolyE
import Derived.Test.YtljlcbichimhaaaGreatDoorWalkSer
namespace Go.Proofs.YtljlcbichimhaaaGreatDoor
open Go.ChangeShapes Go.WideShapes Go.ChangeAt Go.RowKit
set_option linter.unusedVariables false
set_option linter.unusedSimpArgs false

theorem l04Samples_true {p : Option Addr} {c : Nat} {xs : List Int} (w : World) (h : RdI w p xs) (ha : AllS xs) :
    Calls Tryz.prog 70 #[.slice p xs.length c] w fun e w' => e = .returned (.bool true) ∧ w = w' := by
  have hlen := h.len
  unfold maxLen at hlen
  have HA := Lib.hid ha
  clear ha
  go_enter Tryz.func70, Tryz.ntmps70
  go_wp2_with fail
  go_loop [3] (fun i => ∃ k : Nat, k ≤ xs.length ∧ i = .int .i64 k) (fun i => xs.length - (intOf i).toNat)
  case atStart => exact ⟨0, Nat.zero_le _, rfl⟩
  case round =>
    obtain ⟨k, hk, rfl⟩ := hrel
    by_cases hlt : k < xs.length
    · obtain ⟨b, o, rfl, hb, hck⟩ := h.pos hlt
      have hcell := hck k hlt
      have SM := HA.out _ (List.getElem_mem hlt)
      clear hck
      generalize xs[k] = x at hcell SM
      have IS := Lib.hid (l01Sample_any x w)
      rw [SM] at IS
      clear SM
      go_wp2_with (go_at_call 54; refine IS.out.mono ?_; rintro e w' ⟨rfl, rfl⟩)
      go_round
      case rel => exact ⟨k + 1, by omega, by go_num⟩
      case measure => simp [intOf] <;> omega
    · obtain rfl : k = xs.length := by omega
      go_wp2_with fail
      go_ret
      exact ⟨rfl, rfl⟩
theorem v8Same_rd {u v : Value} {xs : List Int} (w : World) (h : RdP w u xs) (h' : RdP w v xs) (hl : xs.length ≤ 1048576) :
    Calls Tryz.prog 12 #[u, v] w fun e w' => e = .returned (.bool true) ∧ Below w.heap.size w w' := by
  obtain ⟨p, c, rfl, hr, -⟩ := h
  obtain ⟨q, d, rfl, hr', -⟩ := h'
  exact v8Same_true w hr hr' hl
end Go.Proofs.YtljlcbichimhaaaGreatDoor
