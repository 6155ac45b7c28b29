/-
  Contracts of the functions on kinds of nodes.
-/
import Derived.Test.YtdcacmmglkcliaaGreatDoorKinds
namespace Go.Proofs.YtdcacmmglkcliaaGreatDoor
open Go.ChangeShapes Go.WideShapes Go.ChangeAt Go.RowKit
set_option linter.unusedVariables false

theorem kind_of_in {k : Int} (h : inB k 1 17 = true) : ∃ i : Nat, i < 17 ∧ k = (i : Int) + 1 := by
  rw [inB_iff] at h
  exact ⟨(k - 1).toNat, by omega, by omega⟩
def kindLinear (k : Int) : Bool := inB k 1 17 && kLi (k - 1).toNat
def kindArity (k : Int) : Int := if inB k 1 17 then kAr (k - 1).toNat else -1
def kindName (k : Int) : ByteArray := if inB k 1 17 then kNm (k - 1).toNat else ⟨#[]⟩
theorem kindLinear_in {i : Nat} (h : i < 17) : kindLinear ((i : Int) + 1) = kLi i := by
  have e : ((i : Int) + 1 - 1).toNat = i := by omega
  rw [kindLinear, inB_true (by omega), e, Bool.true_and]
theorem kindArity_in {i : Nat} (h : i < 17) : kindArity ((i : Int) + 1) = kAr i := by
  have e : ((i : Int) + 1 - 1).toNat = i := by omega
  rw [kindArity, inB_true (by omega), e, if_pos rfl]
theorem kindName_in {i : Nat} (h : i < 17) : kindName ((i : Int) + 1) = kNm i := by
  have e : ((i : Int) + 1 - 1).toNat = i := by omega
  rw [kindName, inB_true (by omega), e, if_pos rfl]
theorem kindLinear_out {k : Int} (h : inB k 1 17 = false) : kindLinear k = false := by rw [kindLinear, h, Bool.false_and]
theorem kindArity_out {k : Int} (h : inB k 1 17 = false) : kindArity k = -1 := by rw [kindArity, h]; rfl
theorem kindName_out {k : Int} (h : inB k 1 17 = false) : kindName k = ⟨#[]⟩ := by rw [kindName, h]; rfl
set_option maxHeartbeats 800000 in
theorem implLinearKind_any (k : Int) (w : World) :
    Calls Tryz.prog 13 #[.int .i64 k] w fun e w' => e = .returned (.bool (kindLinear k)) ∧ Below w.heap.size w w' := by
  cases hk : inB k 1 17
  · rw [kindLinear_out hk]
    go_enter Tryz.func13, Tryz.ntmps13
    go_wp2_with (go_at_call 41; refine (isKind_any _ _).mono ?_; rintro e w' ⟨rfl, rfl⟩)
    go_ret
    exact ⟨rfl, Below.refl _ _⟩
  · obtain ⟨i, hi, rfl⟩ := kind_of_in hk
    rw [kindLinear_in hi]
    go_enter Tryz.func13, Tryz.ntmps13
    go_wp2_with (go_at_call 41; refine (isKind_any _ _).mono ?_; rintro e w' ⟨rfl, rfl⟩)
    refine (kinds_any _).mono ?_
    rintro e w1 ⟨rfl, hc, hb⟩
    obtain ⟨h0, h1, h2, h3, h4, h5⟩ := hc i hi
    clear hc
    go_wp2_with fail
    go_ret
    exact ⟨rfl, hb⟩
theorem any_true {α : Type} {f : α → Bool} {xs : List α} {k : Nat} (h : k < xs.length) (hf : f xs[k] = true) : xs.any f = true := by
  rw [List.any_eq_true]
  exact ⟨xs[k], List.getElem_mem h, hf⟩
theorem any_step {α : Type} {f : α → Bool} {xs : List α} {k : Nat} (h : k < xs.length) (ht : (xs.take k).any f = false) (hf : f xs[k] = false) : (xs.take (k + 1)).any f = false := by
  rw [List.take_succ_eq_append_getElem h, List.any_append, ht]
  simp [hf]
theorem any_done {α : Type} {f : α → Bool} {xs : List α} (ht : (xs.take xs.length).any f = false) : xs.any f = false := by rwa [List.take_length] at ht
set_option maxHeartbeats 400000 in
theorem l00Has_any {p : Option Addr} {c : Nat} {xs : List Int} (n : Int) (w : World) (h : RdI w p xs) :
    Calls Tryz.prog 117 #[.slice p xs.length c, .int .i64 n] w fun e w' => e = .returned (.bool (xs.any (· == n))) ∧ w = w' := by
  have hlen := h.len
  unfold maxLen at hlen
  go_enter Tryz.func117, Tryz.ntmps117
  go_wp2_with fail
  go_loop [5] (fun i => ∃ k : Nat, k ≤ xs.length ∧ i = .int .i64 k ∧ (xs.take k).any (· == n) = false) (fun i => xs.length - (intOf i).toNat)
  case atStart => exact ⟨0, Nat.zero_le _, rfl, by simp⟩
  case round =>
    obtain ⟨k, hk, rfl, hall⟩ := hrel
    have HA := Lib.hid hall; clear hall
    by_cases hlt : k < xs.length
    · obtain ⟨b, o, rfl, hb, hc⟩ := h.pos hlt
      have hck := hc k hlt
      clear hc
      generalize hx : xs[k] = x at hck
      have HX := Lib.hid hx; clear hx
      cases hs : (x == n)
      · go_wp2_with fail
        go_round
        case rel => exact ⟨k + 1, by omega, by go_num, any_step hlt HA.out (by rw [HX.out]; exact hs)⟩
        case measure => simp [intOf] <;> omega
      · go_wp2_with fail
        go_ret
        exact ⟨ret_bool (any_true hlt (by rw [HX.out]; exact hs)).symm, rfl⟩
    · obtain rfl : k = xs.length := by omega
      go_wp2_with fail
      go_ret
      exact ⟨ret_bool (any_done HA.out).symm, rfl⟩
/-- the kind with a name, 0 if there is none -/
def kindNamed (s : ByteArray) : Int := (((List.range 17).find? fun i => decide (kNm i = s)).map fun i => (i : Int) + 1).getD 0
theorem find_at (p : Nat → Bool) (n i : Nat) (hi : i < n) (hp : p i = true) (hb : ∀ j, j < i → p j = false) : (List.range n).find? p = some i := by
  rw [List.find?_range_eq_some]
  exact ⟨hp, by simpa using hi, fun j hj => by simp [hb j hj]⟩
theorem kindNamed_found {s : ByteArray} {i : Nat} (hi : i < 17) (he : kNm i = s) (hne : ∀ j, j < i → kNm j ≠ s) : kindNamed s = (i : Int) + 1 := by
  rw [kindNamed, find_at _ 17 i hi (by simpa using he) (fun j hj => by simpa using hne j hj)]
  rfl
theorem kindNamed_none {s : ByteArray} (hne : ∀ j, j < 17 → kNm j ≠ s) : kindNamed s = 0 := by
  rw [kindNamed, List.find?_eq_none.2 (by simpa using hne)]
  rfl
set_option maxHeartbeats 400000 in
theorem specKindNamed_any (s : ByteArray) (w : World) :
    Calls Tryz.prog 90 #[.string s] w fun e w' => e = .returned (.int .i64 (kindNamed s)) ∧ Below w.heap.size w w' := by
  go_enter Tryz.func90, Tryz.ntmps90
  go_wp2_with fail
  refine (l06Names_any _).mono ?_
  rintro e w1 ⟨rfl, hc, hb⟩
  generalize hg : w.heap.size = g at hc
  have HG := Lib.hid hg; clear hg
  have HC := Lib.hid hc; clear hc
  go_wp2_with fail
  go_loop [4] (fun i => ∃ k : Nat, k ≤ 17 ∧ i = .int .i64 ((k : Int) + 1) ∧ ∀ j, j < k → kNm j ≠ s) (fun i => 18 - (intOf i).toNat)
  case atStart => exact ⟨0, by omega, rfl, fun j hj => by omega⟩
  case round =>
    obtain ⟨k, hk, rfl, hne⟩ := hrel
    have HN := Lib.hid hne; clear hne
    by_cases hlt : k < 17
    · have hck := HC.out k hlt
      by_cases he : kNm k = s
      · have hb1 := str_beq_true he
        have HE := Lib.hid he; clear he
        go_wp2_with fail
        go_ret
        exact ⟨ret_int (kindNamed_found hlt HE.out HN.out).symm, hb⟩
      · have hb1 := str_beq_false he
        have HE := Lib.hid he; clear he
        go_wp2_with fail
        go_round
        case rel =>
          refine ⟨k + 1, by omega, by go_num, fun j hj => ?_⟩
          by_cases e : j = k
          · rw [e]; exact HE.out
          · exact HN.out j (by omega)
        case measure => simp [intOf] <;> omega
    · obtain rfl : k = 17 := by omega
      go_wp2_with fail
      go_ret
      exact ⟨ret_int (kindNamed_none HN.out).symm, hb⟩
set_option maxHeartbeats 800000 in
theorem implKindNamed_any (s : ByteArray) (w : World) :
    Calls Tryz.prog 38 #[.string s] w fun e w' => e = .returned (.int .i64 (kindNamed s)) ∧ Below w.heap.size w w' := by
  go_enter Tryz.func38, Tryz.ntmps38
  go_wp2_with fail
  refine (kinds_any _).mono ?_
  rintro e w1 ⟨rfl, hc, hb⟩
  have hgl : Hid (KindCells w1 w.heap.size) := hc
  have hlt0 : w.heap.size < w1.heap.size := World.block_lt_of_cell? w1 _ (hc 0 (by omega)).1
  clear hc
  go_wp2_with fail
  go_loopw [7] (fun i wr => ∃ k : Nat, k ≤ 17 ∧ i = .int .i64 (k : Int) ∧ (∀ j, j < k → kNm j ≠ s) ∧ Below w1.heap.size w1 wr) (fun i _ => 17 - (intOf i).toNat)
  case atStart => exact ⟨0, by omega, rfl, (fun j hj => by omega), Below.refl _ _⟩
  case round =>
    obtain ⟨k, hk, rfl, hne, hbr⟩ := hrel
    have HN := Lib.hid hne; clear hne
    have hsz := hbr.size
    by_cases hlt : k < 17
    · obtain ⟨h0, h1, h2, h3, h4, h5⟩ := hgl.out k hlt
      rw [← hbr.cell (by exact hlt0)] at h0 h1 h2 h3 h4 h5
      have hbr' := hbr.alloc hsz (.cells #[.string (kNm k), .int .i64 (kAr k), .int .i64 (kLo k), .int .i64 (kHi k), .bool (kLi k), .bool (kBb k)] 75)
      by_cases he : kNm k = s
      · have hb1 := str_beq_true he
        have HE := Lib.hid he; clear he
        go_wp2_with fail
        go_ret
        exact ⟨ret_int (kindNamed_found hlt HE.out HN.out).symm, hb.trans (hbr'.mono hb.size)⟩
      · have hb1 := str_beq_false he
        have HE := Lib.hid he; clear he
        go_wp2_with fail
        go_roundw
        case rel =>
          refine ⟨k + 1, by omega, by go_num, fun j hj => ?_, hbr'⟩
          by_cases e : j = k
          · rw [e]; exact HE.out
          · exact HN.out j (by omega)
        case measure => simp [intOf] <;> omega
    · obtain rfl : k = 17 := by omega
      go_wp2_with fail
      go_ret
      exact ⟨ret_int (kindNamed_none HN.out).symm, hb.trans (hbr.mono hb.size)⟩
end Go.Proofs.YtdcacmmglkcliaaGreatDoor
