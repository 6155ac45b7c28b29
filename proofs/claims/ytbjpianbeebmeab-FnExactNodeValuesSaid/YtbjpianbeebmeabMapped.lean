/-
  Lists of places that have become others: contracts of both sides; copies of lists of lists.
-/
import Derived.Test.YtbjpianbeebmeabOwnP
namespace Go.Proofs.Ytbjpianbeebmeab
open Go.ChangeShapes Go.WideShapes Go.ChangeAt Go.RowKit
set_option linter.unusedVariables false

def mapL (by_ xs : List Int) : List Int := xs.map fun i => by_.getD i.toNat 0
theorem mapL_length (by_ xs : List Int) : (mapL by_ xs).length = xs.length := by simp [mapL]
theorem mapL_succ {by_ xs : List Int} {k m : Nat} (h : k < xs.length) (hm : xs[k] = (m : Int)) (hb : m < by_.length) : mapL by_ (xs.take (k + 1)) = mapL by_ (xs.take k) ++ [by_[m]] := by
  unfold mapL
  rw [List.take_succ_eq_append_getElem h, List.map_append]
  congr 1
  simp only [List.map_cons, List.map_nil]
  rw [hm, Int.toNat_natCast, List.getD_eq_getElem?_getD, List.getElem?_eq_getElem hb]; rfl
set_option maxHeartbeats 800000 in
theorem mapped_any {p q : Option Addr} {c d : Nat} {xs by_ : List Int} (w : World) (h : RdI w p xs) (h' : RdI w q by_) (hl : xs.length ≤ 1048576) (hr : ∀ i ∈ xs, 0 ≤ i ∧ i < (by_.length : Int)) :
    Calls Try.prog 70 #[.slice p xs.length c, .slice q by_.length d] w fun e w' => ∃ v, e = .returned v ∧ OwnI w.heap.size w' v (mapL by_ xs) ∧ Below w.heap.size w w' := by
  have h0 := OwnI.lit (B := w.heap.size) w [] (Nat.le_refl _) (by simp [maxLen])
  have hb0 := (Below.refl w.heap.size w).alloc (Nat.le_refl _) (.cells #[] 2)
  have HR := Lib.hid hr
  clear hr
  go_enter Try.func70, Try.ntmps70
  go_wp2_with fail
  go_loopw [5, 7, 11] (fun ov _ iv wr => ∃ k : Nat, k ≤ xs.length ∧ iv = .int .i64 k ∧ OwnI w.heap.size wr ov (mapL by_ (xs.take k)) ∧ Below w.heap.size w wr) (fun _ _ iv _ => xs.length - (intOf iv).toNat)
  case atStart => exact ⟨0, Nat.zero_le _, rfl, by simpa [mapL] using h0, hb0⟩
  case round =>
    obtain ⟨k, hk, rfl, hown, hbel⟩ := hrel
    clear h0 hb0
    obtain ⟨wi, rfl⟩ : ∃ wi : World, wi = wr := ⟨_, rfl⟩
    have hsz := hbel.size
    by_cases hlt : k < xs.length
    · obtain ⟨b, o, rfl, hb, hc⟩ := (h.below hbel).pos hlt
      have hck := hc k hlt
      have hrk := HR.out _ (List.getElem_mem hlt)
      obtain ⟨m, hm⟩ : ∃ m : Nat, xs[k] = m := ⟨xs[k].toNat, by omega⟩
      rw [hm] at hck hrk
      have hmb : m < by_.length := by omega
      have HS := Lib.hid (mapL_succ hlt hm hmb)
      obtain ⟨b2, o2, rfl, hb2, hc2⟩ := (h'.below hbel).pos hmb
      have hcm := hc2 m hmb
      have hll : (mapL by_ (xs.take k)).length < 17592186044415 := by rw [mapL_length, List.length_take]; omega
      generalize mapL by_ (xs.take k) = cur at hown HS hll
      generalize by_[m] = y at hcm HS
      clear hc hc2 hm hrk
      go_wp2_with (at_builtin; refine wpList_append_one rfl _ _ rfl rfl hown rfl hbel hll hsz (Nat.le_refl _) ?_; intro v' w4 hown4 hb4 hz4 hk4)
      go_roundw
      case rel => exact ⟨k + 1, by omega, by go_num, by rw [HS.out]; exact hown4, hb4⟩
      case measure => simp [intOf] <;> omega
    · obtain rfl : k = xs.length := by omega
      rw [List.take_length] at hown
      go_wp2_with fail
      go_ret
      exact ⟨_, rfl, hown, hbel⟩
set_option maxHeartbeats 800000 in
theorem l07Map_any {p q : Option Addr} {c d : Nat} {xs by_ : List Int} (w : World) (h : RdI w p xs) (h' : RdI w q by_) (hl : xs.length ≤ 1048576) (hr : ∀ i ∈ xs, 0 ≤ i ∧ i < (by_.length : Int)) :
    Calls Try.prog 61 #[.slice p xs.length c, .slice q by_.length d] w fun e w' => ∃ v, e = .returned v ∧ OwnI w.heap.size w' v (mapL by_ xs) ∧ Below w.heap.size w w' := by
  have h0 := OwnI.lit (B := w.heap.size) w [] (Nat.le_refl _) (by simp [maxLen])
  have hb0 := (Below.refl w.heap.size w).alloc (Nat.le_refl _) (.cells #[] 2)
  have HR := Lib.hid hr
  clear hr
  go_enter Try.func61, Try.ntmps61
  go_wp2_with fail
  go_loopw [5, 6] (fun ov iv wr => ∃ k : Nat, k ≤ xs.length ∧ iv = .int .i64 k ∧ OwnI w.heap.size wr ov (mapL by_ (xs.take k)) ∧ Below w.heap.size w wr) (fun _ iv _ => xs.length - (intOf iv).toNat)
  case atStart => exact ⟨0, Nat.zero_le _, rfl, by simpa [mapL] using h0, hb0⟩
  case round =>
    obtain ⟨k, hk, rfl, hown, hbel⟩ := hrel
    clear h0 hb0
    obtain ⟨wi, rfl⟩ : ∃ wi : World, wi = wr := ⟨_, rfl⟩
    have hsz := hbel.size
    by_cases hlt : k < xs.length
    · obtain ⟨b, o, rfl, hb, hc⟩ := (h.below hbel).pos hlt
      have hck := hc k hlt
      have hrk := HR.out _ (List.getElem_mem hlt)
      obtain ⟨m, hm⟩ : ∃ m : Nat, xs[k] = m := ⟨xs[k].toNat, by omega⟩
      rw [hm] at hck hrk
      have hmb : m < by_.length := by omega
      have HS := Lib.hid (mapL_succ hlt hm hmb)
      obtain ⟨b2, o2, rfl, hb2, hc2⟩ := (h'.below hbel).pos hmb
      have hcm := hc2 m hmb
      have hll : (mapL by_ (xs.take k)).length < 17592186044415 := by rw [mapL_length, List.length_take]; omega
      generalize mapL by_ (xs.take k) = cur at hown HS hll
      generalize by_[m] = y at hcm HS
      clear hc hc2 hm hrk
      go_wp2_with (at_builtin; refine wpList_append_one rfl _ _ rfl rfl hown rfl hbel hll hsz (Nat.le_refl _) ?_; intro v' w4 hown4 hb4 hz4 hk4)
      go_roundw
      case rel => exact ⟨k + 1, by omega, by go_num, by rw [HS.out]; exact hown4, hb4⟩
      case measure => simp [intOf] <;> omega
    · obtain rfl : k = xs.length := by omega
      rw [List.take_length] at hown
      go_wp2_with fail
      go_ret
      exact ⟨_, rfl, hown, hbel⟩
set_option maxHeartbeats 800000 in
theorem clones_any {p : Option Addr} {c : Nat} {xss : List (List Int)} (w : World) (h : RdII w p xss) (hl : xss.length ≤ 1048576) (hr : ∀ xs ∈ xss, xs.length ≤ 1048576) :
    Calls Try.prog 48 #[.slice p xss.length c] w fun e w' => ∃ v L, e = .returned v ∧ OwnII w.heap.size w' v xss L ∧ Below w.heap.size w w' := by
  have h0 := OwnII.empty (B := w.heap.size) w (Nat.le_refl _)
  have hb0 := (Below.refl w.heap.size w).alloc (Nat.le_refl _) (.cells #[] 24)
  have HR := Lib.hid hr
  clear hr
  go_enter Try.func48, Try.ntmps48
  go_wp2_with fail
  go_loopw [3, 5, 9] (fun ov _ iv wr => ∃ (k : Nat) (L : List Value), k ≤ xss.length ∧ iv = .int .i64 k ∧ OwnII w.heap.size wr ov (xss.take k) L ∧ Below w.heap.size w wr) (fun _ _ iv _ => xss.length - (intOf iv).toNat)
  case atStart => exact ⟨0, [], Nat.zero_le _, rfl, by simpa using h0, hb0⟩
  case round =>
    obtain ⟨k, L, hk, rfl, hown, hbel⟩ := hrel
    clear h0 hb0
    obtain ⟨wi, rfl⟩ : ∃ wi : World, wi = wr := ⟨_, rfl⟩
    have hsz := hbel.size
    by_cases hlt : k < xss.length
    · obtain ⟨b, o, rfl, hb, hc⟩ := (h.below hbel).pos hlt
      obtain ⟨q, d, hck, hrk⟩ := hc k hlt
      have hlk := HR.out _ (List.getElem_mem hlt)
      have HS : Hid (xss.take (k + 1) = xss.take k ++ [xss[k]]) := List.take_succ_eq_append_getElem hlt
      have hlL : L.length < 1099511627776 := by have := hown.2.1.1; rw [List.length_take] at this; omega
      generalize xss[k] = xs at hck hrk hlk HS
      clear hc
      have CL := Lib.hid (clone_any (c := d) wi hrk hlk)
      obtain ⟨oq, oc, e⟩ := hown.1.sl'
      subst e
      have HOW := Lib.hid hown
      clear hown
      go_wp2_with fail
      refine CL.out.mono ?_
      rintro e W1 ⟨u, rfl, hu, hb1⟩
      have hown1 := HOW.out.below hb1
      have hbel1 := hbel.trans (hb1.mono hbel.size)
      have huc := hu.oneCell
      have hnew : ∀ b, u.ownBlock = some b → ¬ Blk L b := fun b hb' hbk => by
        have h1 := (hu.lt hb').1
        have h2 := (HOW.out.2.1.blk hbk).2.1
        omega
      have HNW := Lib.hid hnew
      have hs1 := hb1.size
      have hs2 : w.heap.size ≤ W1.heap.size := by omega
      clear hnew CL HOW
      obtain ⟨uq, ucc, rfl, -⟩ := hu.rd
      go_wp2_with (at_builtin; refine wpList_append_val rfl _ _ rfl 24 (.slice none 0 0) Try.underlying22 infoII rfl (by omega) rfl hown1.1 rfl huc hbel1 hlL hs2 (Nat.le_refl _) ?_; intro v' w4 ho4 hb4 hz4 hk4)
      have ho5 := hown1.snoc (hu.mono hsz) HNW.out ho4 hk4
      go_roundw
      case rel => exact ⟨k + 1, L ++ [_], by omega, by go_num, by rw [HS.out]; exact ho5, hb4⟩
      case measure => simp [intOf] <;> omega
    · obtain rfl : k = xss.length := by omega
      rw [List.take_length] at hown
      go_wp2_with fail
      go_ret
      exact ⟨_, _, rfl, hown, hbel⟩
end Go.Proofs.Ytbjpianbeebmeab
