/-
  Contracts of small functions on lists: samples, equality, tables of numbers.
-/
import Derived.Test.YtmfahnkcfcmhiaaOwn
import Derived.Test.YtmfahnkcfcmhiaaScal
namespace Go.Proofs.Ytmfahnkcfcmhiaa
open Go.ChangeShapes Go.WideShapes Go.ChangeAt Go.RowKit
set_option linter.unusedVariables false

theorem all_false {α : Type} {f : α → Bool} {xs : List α} {k : Nat} (h : k < xs.length) (hf : f xs[k] = false) : xs.all f = false := by
  rw [List.all_eq_false]
  exact ⟨xs[k], List.getElem_mem h, by rw [hf]; simp⟩
theorem all_step {α : Type} {f : α → Bool} {xs : List α} {k : Nat} (h : k < xs.length) (ht : (xs.take k).all f = true) (hf : f xs[k] = true) : (xs.take (k + 1)).all f = true := by
  rw [List.take_succ_eq_append_getElem h, List.all_append, ht]
  simp [hf]
theorem all_done {α : Type} {f : α → Bool} {xs : List α} (ht : (xs.take xs.length).all f = true) : xs.all f = true := by rwa [List.take_length] at ht
theorem eqq_false {α : Type} [DecidableEq α] {xs ys : List α} {k : Nat} (h1 : k < xs.length) (h2 : k < ys.length) (h : xs[k] ≠ ys[k]) : decide (xs = ys) = false := by
  rw [decide_eq_false_iff_not]
  rintro rfl
  exact h rfl
theorem eqq_true {α : Type} [DecidableEq α] {xs ys : List α} (hl : xs.length = ys.length) (h : xs.take xs.length = ys.take xs.length) : decide (xs = ys) = true := by
  rw [List.take_length, hl, List.take_length] at h
  simp [h]
theorem eqq_step {α : Type} {xs ys : List α} {k : Nat} (h1 : k < xs.length) (h2 : k < ys.length) (h : xs.take k = ys.take k) (he : xs[k] = ys[k]) : xs.take (k + 1) = ys.take (k + 1) := by
  rw [List.take_succ_eq_append_getElem h1, List.take_succ_eq_append_getElem h2, h, he]

set_option maxHeartbeats 400000 in
theorem areSamples_any {p : Option Addr} {c : Nat} {xs : List Int} (w : World) (h : RdI w p xs) :
    Calls Try.prog 35 #[.slice p xs.length c] w fun e w' => e = .returned (.bool (xs.all isSmp)) ∧ w = w' := by
  have hlen := h.len
  unfold maxLen at hlen
  go_enter Try.func35, Try.ntmps35
  go_wp2_with fail
  go_loop [7] (fun i => ∃ k : Nat, k ≤ xs.length ∧ i = .int .i64 k ∧ (xs.take k).all isSmp = true) (fun i => xs.length - (intOf i).toNat)
  case atStart => exact ⟨0, Nat.zero_le _, rfl, by simp⟩
  case round =>
    obtain ⟨k, hk, rfl, hall⟩ := hrel
    have HA := Lib.hid hall; clear hall
    by_cases hlt : k < xs.length
    · obtain ⟨b, o, rfl, hb, hc⟩ := h.pos hlt
      have hck := hc k hlt
      clear hc
      generalize hx : xs[k] = x at hck
      have HX := Lib.hid hx; clear hx
      cases hs : isSmp x
      · go_wp2_with (go_at_call 37; refine (isSample_any _ _).mono ?_; rintro e w' ⟨rfl, rfl⟩)
        go_ret
        exact ⟨ret_bool (all_false hlt (by rw [HX.out]; exact hs)).symm, rfl⟩
      · go_wp2_with (go_at_call 37; refine (isSample_any _ _).mono ?_; rintro e w' ⟨rfl, rfl⟩)
        go_round
        case rel => exact ⟨k + 1, by omega, by go_num, all_step hlt HA.out (by rw [HX.out]; exact hs)⟩
        case measure => simp [intOf] <;> omega
    · obtain rfl : k = xs.length := by omega
      go_wp2_with fail
      go_ret
      exact ⟨ret_bool (all_done HA.out).symm, rfl⟩
set_option maxHeartbeats 400000 in
theorem l04Samples_any {p : Option Addr} {c : Nat} {xs : List Int} (w : World) (h : RdI w p xs) :
    Calls Try.prog 36 #[.slice p xs.length c] w fun e w' => e = .returned (.bool (xs.all isSmp)) ∧ w = w' := by
  have hlen := h.len
  unfold maxLen at hlen
  go_enter Try.func36, Try.ntmps36
  go_wp2_with fail
  go_loop [3] (fun i => ∃ k : Nat, k ≤ xs.length ∧ i = .int .i64 k ∧ (xs.take k).all isSmp = true) (fun i => xs.length - (intOf i).toNat)
  case atStart => exact ⟨0, Nat.zero_le _, rfl, by simp⟩
  case round =>
    obtain ⟨k, hk, rfl, hall⟩ := hrel
    have HA := Lib.hid hall; clear hall
    by_cases hlt : k < xs.length
    · obtain ⟨b, o, rfl, hb, hc⟩ := h.pos hlt
      have hck := hc k hlt
      clear hc
      generalize hx : xs[k] = x at hck
      have HX := Lib.hid hx; clear hx
      cases hs : isSmp x
      · go_wp2_with (go_at_call 38; refine (l01Sample_any _ _).mono ?_; rintro e w' ⟨rfl, rfl⟩)
        go_ret
        exact ⟨ret_bool (all_false hlt (by rw [HX.out]; exact hs)).symm, rfl⟩
      · go_wp2_with (go_at_call 38; refine (l01Sample_any _ _).mono ?_; rintro e w' ⟨rfl, rfl⟩)
        go_round
        case rel => exact ⟨k + 1, by omega, by go_num, all_step hlt HA.out (by rw [HX.out]; exact hs)⟩
        case measure => simp [intOf] <;> omega
    · obtain rfl : k = xs.length := by omega
      go_wp2_with fail
      go_ret
      exact ⟨ret_bool (all_done HA.out).symm, rfl⟩
theorem sizeI_any (p : Option Addr) (n c : Nat) (w : World) (hn : n ≤ maxLen) :
    Calls Try.prog 31 #[.slice p n c] w fun e w' => e = .returned (.int .i64 n) ∧ w = w' := by
  unfold maxLen at hn
  go_enter Try.func31, Try.ntmps31
  go_wp2
  go_ret
  exact ⟨rfl, rfl⟩
theorem sizeII_any (p : Option Addr) (n c : Nat) (w : World) (hn : n ≤ maxLen) :
    Calls Try.prog 18 #[.slice p n c] w fun e w' => e = .returned (.int .i64 n) ∧ w = w' := by
  unfold maxLen at hn
  go_enter Try.func18, Try.ntmps18
  go_wp2
  go_ret
  exact ⟨rfl, rfl⟩
/-- so many rows of so many samples each -/
def rowB (c : Int) (xs : List Int) : Bool := decide ((xs.length : Int) = c) && xs.all isSmp
def tabB (xss : List (List Int)) (r c : Int) : Bool := decide ((xss.length : Int) = r) && xss.all (rowB c)
theorem tabB_iff {xss : List (List Int)} {r c : Int} : tabB xss r c = true ↔ (xss.length : Int) = r ∧ ∀ xs ∈ xss, (xs.length : Int) = c ∧ ∀ x ∈ xs, isSmp x = true := by
  simp [tabB, rowB]
set_option maxHeartbeats 800000 in
theorem isTable_any {p : Option Addr} {c : Nat} {xss : List (List Int)} (n m : Int) (w : World) (h : RdII w p xss) :
    Calls Try.prog 29 #[.slice p xss.length c, .int .i64 n, .int .i64 m] w fun e w' => e = .returned (.bool (tabB xss n m)) ∧ w = w' := by
  have hlen := h.len
  have hlen0 := h.len
  unfold maxLen at hlen
  by_cases hl : (xss.length : Int) = n
  · have hb : ((xss.length : Int) != n) = false := by rw [bne_eq_false_iff_eq]; exact hl
    have ht : tabB xss n m = xss.all (rowB m) := by simp [tabB, hl]
    rw [ht]
    clear ht hl
    go_enter Try.func29, Try.ntmps29
    go_wp2_with (go_at_call 18; refine (sizeII_any _ _ _ _ hlen0).mono ?_; rintro e w' ⟨rfl, rfl⟩)
    go_loop [15] (fun i => ∃ k : Nat, k ≤ xss.length ∧ i = .int .i64 k ∧ (xss.take k).all (rowB m) = true) (fun i => xss.length - (intOf i).toNat)
    case atStart => exact ⟨0, Nat.zero_le _, rfl, by simp⟩
    case round =>
      obtain ⟨k, hk, rfl, hall⟩ := hrel
      have HA := Lib.hid hall; clear hall
      by_cases hlt : k < xss.length
      · obtain ⟨b, o, rfl, hb, hc⟩ := h.pos hlt
        obtain ⟨q, d, hck, hr⟩ := hc k hlt
        have hrl := hr.len
        clear hc
        generalize hx : xss[k] = xs at hck hr hrl
        have HX := Lib.hid hx; clear hx
        by_cases h1 : (xs.length : Int) = m
        · have hb1 : ((xs.length : Int) != m) = false := by rw [bne_eq_false_iff_eq]; exact h1
          have H1 := Lib.hid h1
          clear h1
          cases hs : xs.all isSmp
          · go_wp2_with (first | (go_at_call 31; refine (sizeI_any _ _ _ _ hrl).mono ?_; rintro e w' ⟨rfl, rfl⟩) | (go_at_call 35; refine (areSamples_any _ hr).mono ?_; rintro e w' ⟨rfl, rfl⟩))
            go_ret
            exact ⟨ret_bool (all_false hlt (by rw [HX.out, rowB, hs]; simp)).symm, rfl⟩
          · go_wp2_with (first | (go_at_call 31; refine (sizeI_any _ _ _ _ hrl).mono ?_; rintro e w' ⟨rfl, rfl⟩) | (go_at_call 35; refine (areSamples_any _ hr).mono ?_; rintro e w' ⟨rfl, rfl⟩))
            go_round
            case rel => exact ⟨k + 1, by omega, by go_num, all_step hlt HA.out (by rw [HX.out, rowB, hs, H1.out]; simp)⟩
            case measure => simp [intOf] <;> omega
        · have hb1 : ((xs.length : Int) != m) = true := by rw [bne_iff_ne]; exact h1
          have H1 := Lib.hid h1
          clear h1
          go_wp2_with (go_at_call 31; refine (sizeI_any _ _ _ _ hrl).mono ?_; rintro e w' ⟨rfl, rfl⟩)
          go_ret
          exact ⟨ret_bool (all_false hlt (by rw [HX.out, rowB, decide_eq_false H1.out]; simp)).symm, rfl⟩
      · obtain rfl : k = xss.length := by omega
        go_wp2_with fail
        go_ret
        exact ⟨ret_bool (all_done HA.out).symm, rfl⟩
  · have hb : ((xss.length : Int) != n) = true := by rw [bne_iff_ne]; exact hl
    have ht : tabB xss n m = false := by simp [tabB, hl]
    rw [ht]
    clear ht hl
    go_enter Try.func29, Try.ntmps29
    go_wp2_with (go_at_call 18; refine (sizeII_any _ _ _ _ hlen0).mono ?_; rintro e w' ⟨rfl, rfl⟩)
    go_ret
    exact ⟨rfl, rfl⟩
set_option maxHeartbeats 800000 in
theorem l09Rows_any {p : Option Addr} {c : Nat} {xss : List (List Int)} (n m : Int) (w : World) (h : RdII w p xss) :
    Calls Try.prog 32 #[.slice p xss.length c, .int .i64 n, .int .i64 m] w fun e w' => e = .returned (.bool (tabB xss n m)) ∧ w = w' := by
  have hlen := h.len
  unfold maxLen at hlen
  by_cases hl : (xss.length : Int) = n
  · have hb : ((xss.length : Int) != n) = false := by rw [bne_eq_false_iff_eq]; exact hl
    have ht : tabB xss n m = xss.all (rowB m) := by simp [tabB, hl]
    rw [ht]
    clear ht hl
    go_enter Try.func32, Try.ntmps32
    go_wp2_with fail
    go_loop [7] (fun i => ∃ k : Nat, k ≤ xss.length ∧ i = .int .i64 k ∧ (xss.take k).all (rowB m) = true) (fun i => xss.length - (intOf i).toNat)
    case atStart => exact ⟨0, Nat.zero_le _, rfl, by simp⟩
    case round =>
      obtain ⟨k, hk, rfl, hall⟩ := hrel
      have HA := Lib.hid hall; clear hall
      by_cases hlt : k < xss.length
      · obtain ⟨b, o, rfl, hb, hc⟩ := h.pos hlt
        obtain ⟨q, d, hck, hr⟩ := hc k hlt
        have hrl := hr.len
        unfold maxLen at hrl
        clear hc
        generalize hx : xss[k] = xs at hck hr hrl
        have HX := Lib.hid hx; clear hx
        by_cases h1 : (xs.length : Int) = m
        · have hb1 : ((xs.length : Int) != m) = false := by rw [bne_eq_false_iff_eq]; exact h1
          have H1 := Lib.hid h1
          clear h1
          cases hs : xs.all isSmp
          · go_wp2_with (go_at_call 36; refine (l04Samples_any _ hr).mono ?_; rintro e w' ⟨rfl, rfl⟩)
            go_ret
            exact ⟨ret_bool (all_false hlt (by rw [HX.out, rowB, hs]; simp)).symm, rfl⟩
          · go_wp2_with (go_at_call 36; refine (l04Samples_any _ hr).mono ?_; rintro e w' ⟨rfl, rfl⟩)
            go_round
            case rel => exact ⟨k + 1, by omega, by go_num, all_step hlt HA.out (by rw [HX.out, rowB, hs, H1.out]; simp)⟩
            case measure => simp [intOf] <;> omega
        · have hb1 : ((xs.length : Int) != m) = true := by rw [bne_iff_ne]; exact h1
          have H1 := Lib.hid h1
          clear h1
          go_wp2_with fail
          go_ret
          exact ⟨ret_bool (all_false hlt (by rw [HX.out, rowB, decide_eq_false H1.out]; simp)).symm, rfl⟩
      · obtain rfl : k = xss.length := by omega
        go_wp2_with fail
        go_ret
        exact ⟨ret_bool (all_done HA.out).symm, rfl⟩
  · have hb : ((xss.length : Int) != n) = true := by rw [bne_iff_ne]; exact hl
    have ht : tabB xss n m = false := by simp [tabB, hl]
    rw [ht]
    clear ht hl
    go_enter Try.func32, Try.ntmps32
    go_wp2_with fail
    go_ret
    exact ⟨rfl, rfl⟩
def matB (xss : List (List Int)) : Bool := decide ((xss.length : Int) ≤ 24) && tabB xss xss.length xss.length
theorem isMatrix_any {p : Option Addr} {c : Nat} {xss : List (List Int)} (w : World) (h : RdII w p xss) :
    Calls Try.prog 16 #[.slice p xss.length c] w fun e w' => e = .returned (.bool (matB xss)) ∧ w = w' := by
  have hlen0 := h.len
  have hlen := h.len
  unfold maxLen at hlen
  by_cases hl : (xss.length : Int) ≤ 24
  · have ht : matB xss = tabB xss xss.length xss.length := by simp only [matB, decide_eq_true hl, Bool.true_and]
    rw [ht]
    clear ht
    go_enter Try.func16, Try.ntmps16
    go_wp2_with (first | (go_at_call 18; refine (sizeII_any _ _ _ _ hlen0).mono ?_; rintro e w' ⟨rfl, rfl⟩) | (go_at_call 29; refine (isTable_any _ _ _ h).mono ?_; rintro e w' ⟨rfl, rfl⟩))
    go_ret
    exact ⟨rfl, rfl⟩
  · have ht : matB xss = false := by simp only [matB, decide_eq_false hl, Bool.false_and]
    rw [ht]
    clear ht
    go_enter Try.func16, Try.ntmps16
    go_wp2_with fail
    go_ret
    exact ⟨rfl, rfl⟩
theorem l09Square_any {p : Option Addr} {c : Nat} {xss : List (List Int)} (w : World) (h : RdII w p xss) :
    Calls Try.prog 22 #[.slice p xss.length c] w fun e w' => e = .returned (.bool (matB xss)) ∧ w = w' := by
  have hlen := h.len
  unfold maxLen at hlen
  by_cases hl : (xss.length : Int) ≤ 24
  · have ht : matB xss = tabB xss xss.length xss.length := by simp only [matB, decide_eq_true hl, Bool.true_and]
    rw [ht]
    clear ht
    go_enter Try.func22, Try.ntmps22
    go_wp2_with (go_at_call 32; refine (l09Rows_any _ _ _ h).mono ?_; rintro e w' ⟨rfl, rfl⟩)
    go_ret
    exact ⟨rfl, rfl⟩
  · have ht : matB xss = false := by simp only [matB, decide_eq_false hl, Bool.false_and]
    rw [ht]
    clear ht
    go_enter Try.func22, Try.ntmps22
    go_wp2_with fail
    go_ret
    exact ⟨rfl, rfl⟩
theorem specValidMatrix_any {p : Option Addr} {c : Nat} {xss : List (List Int)} (w : World) (h : RdII w p xss) :
    Calls Try.prog 7 #[.slice p xss.length c] w fun e w' => e = .returned (.bool (matB xss)) ∧ w = w' := by
  go_enter Try.func7, Try.ntmps7
  go_wp2_with (go_at_call 22; refine (l09Square_any _ h).mono ?_; rintro e w' ⟨rfl, rfl⟩)
  go_ret
  exact ⟨rfl, rfl⟩
end Go.Proofs.Ytmfahnkcfcmhiaa
