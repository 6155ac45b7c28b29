/-
  Sums and delays of signals by the reference, and the filter that delays.
-/
import Derived.Test.YtlaleoljeijkcaaGreatDoorFilI
namespace Go.Proofs.YtlaleoljeijkcaaGreatDoor
open Go.ChangeShapes Go.WideShapes Go.ChangeAt Go.RowKit
set_option linter.unusedVariables false
set_option linter.unusedSimpArgs false

theorem l03Ok_any {p : Option Addr} {c : Nat} {xs : List Int} (w : World) (h : RdI w p xs) :
    Calls Tryz.prog 22 #[.slice p xs.length c] w fun e w' => e = .returned (.bool (decide (xs.length ≤ 4000) && xs.all isSmp)) ∧ w = w' := by
  have hl := h.len
  unfold maxLen at hl
  by_cases h4 : xs.length ≤ 4000
  case neg =>
    have e : decide (xs.length ≤ 4000) = false := decide_eq_false h4
    rw [e]
    clear e
    go_enter Tryz.func22, Tryz.ntmps22
    go_wp2_with fail
    go_ret
    exact ⟨rfl, rfl⟩
  have e : decide (xs.length ≤ 4000) = true := decide_eq_true h4
  rw [e, Bool.true_and]
  clear e
  go_enter Tryz.func22, Tryz.ntmps22
  go_wp2_with fail
  go_loop [3] (fun i => ∃ k : Nat, k ≤ xs.length ∧ i = .int .i64 k ∧ (xs.take k).all isSmp = true) (fun i => xs.length - (intOf i).toNat)
  case atStart => exact ⟨0, Nat.zero_le _, rfl, by simp⟩
  case round =>
    obtain ⟨k, hk, rfl, hall⟩ := hrel
    have HA := Lib.hid hall; clear hall
    by_cases hlt : k < xs.length
    · obtain ⟨b, o, rfl, hb, hc⟩ := h.pos hlt
      have hck := hc k hlt
      clear hc
      generalize hx : xs[k] = f at hck
      have HX := Lib.hid hx; clear hx
      cases hs : isSmp f
      · go_wp2_with (go_at_call 39; refine (l01Sample_any _ _).mono ?_; rintro e w' ⟨rfl, rfl⟩)
        go_ret
        exact ⟨ret_bool (by rw [all_false hlt (by rw [HX.out]; exact hs)]), rfl⟩
      · go_wp2_with (go_at_call 39; refine (l01Sample_any _ _).mono ?_; rintro e w' ⟨rfl, rfl⟩)
        go_round
        case rel => exact ⟨k + 1, by omega, by go_num, all_step hlt HA.out (by rw [HX.out]; exact hs)⟩
        case measure => simp [intOf] <;> omega
    · obtain rfl : k = xs.length := by omega
      go_wp2_with fail
      go_ret
      exact ⟨ret_bool (all_done HA.out).symm, rfl⟩
theorem l03Ok_true {p : Option Addr} {c : Nat} {xs : List Int} (w : World) (h : RdI w p xs) (ha : AllS xs) (hl : xs.length ≤ 4000) :
    Calls Tryz.prog 22 #[.slice p xs.length c] w fun e w' => e = .returned (.bool true) ∧ w = w' := by
  have := l03Ok_any (c := c) w h
  rwa [decide_eq_true hl, (by rw [List.all_eq_true]; exact ha : xs.all isSmp = true)] at this
theorem l03Zeros_any (n : Nat) (w : World) (hn : n ≤ 5000) :
    Calls Tryz.prog 35 #[.int .i64 (n : Int)] w fun e w' => ∃ v, e = .returned v ∧ OwnI w.heap.size w' v (List.replicate n 0) ∧ Below w.heap.size w w' := by
  have h0 := OwnI.lit (B := w.heap.size) w [] (Nat.le_refl _) (by simp [maxLen])
  have hb0 := (Below.refl w.heap.size w).alloc (Nat.le_refl _) (.cells #[] 2)
  go_enter Tryz.func35, Tryz.ntmps35
  go_wp2_with fail
  go_loopw [0, 3] (fun i ov wr => ∃ k : Nat, k ≤ n ∧ i = .int .i64 (k : Int) ∧ OwnI w.heap.size wr ov (List.replicate (n - k) 0) ∧ Below w.heap.size w wr) (fun i _ _ => (intOf i).toNat)
  case atStart => exact ⟨n, Nat.le_refl _, rfl, by rw [Nat.sub_self]; exact h0, hb0⟩
  case round =>
    obtain ⟨k, hk, rfl, hown, hbel⟩ := hrel
    clear h0 hb0
    obtain ⟨wi, rfl⟩ : ∃ wi : World, wi = wr := ⟨_, rfl⟩
    have hsz := hbel.size
    have hl2 : (List.replicate (n - k) (0 : Int)).length < 17592186044415 := by rw [List.length_replicate]; omega
    by_cases hlt : 0 < k
    · obtain ⟨m, rfl⟩ : ∃ m, k = m + 1 := ⟨k - 1, by omega⟩
      have HR : Hid (List.replicate (n - m) (0 : Int) = List.replicate (n - (m + 1)) 0 ++ [0]) := by
        unfold Hid
        rw [show n - m = (n - (m + 1)) + 1 by omega, List.replicate_succ']
      go_wp2_with (at_builtin; refine wpList_append_one rfl _ _ rfl rfl hown rfl hbel hl2 hsz (Nat.le_refl _) ?_; intro v' w4 hown4 hb4 hz4 hk4)
      go_roundw
      case rel => exact ⟨m, by omega, by go_num, by rw [HR.out]; exact hown4, hb4⟩
      case measure => simp [intOf] <;> omega
    · obtain rfl : k = 0 := by omega
      go_wp2_with fail
      go_ret
      exact ⟨_, rfl, by simpa using hown, hbel⟩
end Go.Proofs.YtlaleoljeijkcaaGreatDoor
