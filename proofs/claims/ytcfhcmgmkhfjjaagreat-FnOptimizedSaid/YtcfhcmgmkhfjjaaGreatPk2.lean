/-
  Several texts in one: Kinds, KindFns, Node, PNode, Node2, Out, Node3.
-/
import Derived.Test.YtcfhcmgmkhfjjaaGreatPk1
import Derived.Lib.QuietBelow
import Derived.Deep.RegionHeld3
namespace Go.Proofs.YtcfhcmgmkhfjjaaGreat
open Go.ChangeShapes Go.WideShapes Go.ChangeAt Go.RowKit
set_option linter.unusedVariables false

theorem isKind_any (n : Int) (w : World) :
    Calls Tryz.prog 103 #[.int .i64 n] w fun e w' => e = .returned (.bool (inB n 1 17)) ∧ w = w' := by
  go_enter Tryz.func103, Tryz.ntmps103
  go_wp2_with (go_at_call 30; refine (within_any _ _ _ _).mono ?_; rintro e w' ⟨rfl, rfl⟩)
  go_ret
  exact ⟨rfl, rfl⟩
theorem l06Kind_any (n : Int) (w : World) :
    Calls Tryz.prog 106 #[.int .i64 n] w fun e w' => e = .returned (.bool (inB n 1 17)) ∧ w = w' := by
  go_enter Tryz.func106, Tryz.ntmps106
  go_wp2_with (go_at_call 25; refine (l00In_any _ _ _ _).mono ?_; rintro e w' ⟨rfl, rfl⟩)
  go_ret
  exact ⟨rfl, rfl⟩
/-! ### what is known of the kinds: kind k is row k - 1 -/
def kNm (i : Nat) : ByteArray := ([(⟨#[105, 110, 112, 117, 116]⟩ : ByteArray), (⟨#[99, 111, 110, 115, 116]⟩ : ByteArray), (⟨#[97, 100, 100]⟩ : ByteArray), (⟨#[115, 117, 98]⟩ : ByteArray), (⟨#[103, 97, 105, 110]⟩ : ByteArray), (⟨#[100, 101, 108, 97, 121]⟩ : ByteArray), (⟨#[115, 117, 109]⟩ : ByteArray), (⟨#[100, 105, 102, 102]⟩ : ByteArray), (⟨#[109, 117, 108]⟩ : ByteArray), (⟨#[115, 104, 105, 102, 116]⟩ : ByteArray), (⟨#[99, 108, 105, 112]⟩ : ByteArray), (⟨#[112, 104, 97, 115, 101]⟩ : ByteArray), (⟨#[116, 97, 98, 108, 101]⟩ : ByteArray), (⟨#[110, 111, 105, 115, 101]⟩ : ByteArray), (⟨#[115, 101, 108, 101, 99, 116]⟩ : ByteArray), (⟨#[104, 111, 108, 100]⟩ : ByteArray), (⟨#[99, 111, 109, 98]⟩ : ByteArray)] : List ByteArray).getD i ⟨#[]⟩
def kAr (i : Nat) : Int := ([0, 0, 2, 2, 1, 1, 1, 1, 2, 1, 1, 1, 1, 0, 3, 2, 1] : List Int).getD i 0
def kLo (i : Nat) : Int := ([0, -2147483648, 1, 1, -2147483648, 1, 1, 1, 1, 0, 0, -2147483648, 0, -2147483648, 1, 1, -2147483648] : List Int).getD i 0
def kHi (i : Nat) : Int := ([3, 2147483647, 0, 0, 2147483647, 16, 0, 0, 0, 31, 2147483647, 2147483647, 3, 2147483647, 0, 0, 2147483647] : List Int).getD i 0
def kLi (i : Nat) : Bool := ([true, false, true, true, true, true, true, true, false, false, false, false, false, false, false, false, true] : List Bool).getD i false
def kBb (i : Nat) : Bool := ([false, false, false, false, false, false, false, false, false, false, false, false, false, false, false, false, true] : List Bool).getD i false

/-- the table of kinds lies at block g -/
def KindCells (w : World) (g : Nat) : Prop := ∀ i, i < 17 → w.cell? ⟨g, i * 6, none⟩ = some (.string (kNm i)) ∧ w.cell? ⟨g, i * 6 + 1, none⟩ = some (.int .i64 (kAr i)) ∧ w.cell? ⟨g, i * 6 + 2, none⟩ = some (.int .i64 (kLo i)) ∧
  w.cell? ⟨g, i * 6 + 3, none⟩ = some (.int .i64 (kHi i)) ∧ w.cell? ⟨g, i * 6 + 4, none⟩ = some (.bool (kLi i)) ∧ w.cell? ⟨g, i * 6 + 5, none⟩ = some (.bool (kBb i))
theorem seventeen {i : Nat} (h : i < 17) : i = 0 ∨ i = 1 ∨ i = 2 ∨ i = 3 ∨ i = 4 ∨ i = 5 ∨ i = 6 ∨ i = 7 ∨ i = 8 ∨ i = 9 ∨ i = 10 ∨ i = 11 ∨ i = 12 ∨ i = 13 ∨ i = 14 ∨ i = 15 ∨ i = 16 := by omega
set_option maxHeartbeats 4000000 in
set_option maxRecDepth 100000 in
theorem kinds_any (w : World) :
    Calls Tryz.prog 104 #[] w fun e w' => e = .returned (.slice (some ⟨w.heap.size, 0, none⟩) 17 17) ∧ KindCells w' w.heap.size ∧ Below w.heap.size w w' := by
  go_enter Tryz.func104, Tryz.ntmps104
  go_wp2
  go_ret
  refine ⟨rfl, fun i hi => ?_, (Below.refl _ _).alloc (Nat.le_refl _) _⟩
  rcases seventeen hi with rfl | rfl | rfl | rfl | rfl | rfl | rfl | rfl | rfl | rfl | rfl | rfl | rfl | rfl | rfl | rfl | rfl <;>
    exact ⟨by rw [World.cell?_alloc_at _ _ _ _ rfl]; rfl, by rw [World.cell?_alloc_at _ _ _ _ rfl]; rfl, by rw [World.cell?_alloc_at _ _ _ _ rfl]; rfl, by rw [World.cell?_alloc_at _ _ _ _ rfl]; rfl, by rw [World.cell?_alloc_at _ _ _ _ rfl]; rfl, by rw [World.cell?_alloc_at _ _ _ _ rfl]; rfl⟩
set_option maxHeartbeats 4000000 in
set_option maxRecDepth 100000 in
theorem l06Arity_any (i : Nat) (hi : i < 17) (w : World) :
    Calls Tryz.prog 63 #[.int .i64 ((i : Int) + 1)] w fun e w' => e = .returned (.int .i64 (kAr i)) ∧ Below w.heap.size w w' := by
  go_enter Tryz.func63, Tryz.ntmps63
  go_wp2
  go_ret
  refine ⟨?_, (Below.refl _ _).alloc (Nat.le_refl _) _⟩
  rcases seventeen hi with rfl | rfl | rfl | rfl | rfl | rfl | rfl | rfl | rfl | rfl | rfl | rfl | rfl | rfl | rfl | rfl | rfl <;> rfl
end Go.Proofs.YtcfhcmgmkhfjjaaGreat

namespace Go.Proofs.YtcfhcmgmkhfjjaaGreat
open Go.ChangeShapes Go.WideShapes Go.ChangeAt Go.RowKit
set_option linter.unusedVariables false

theorem kind_of_in {k : Int} (h : inB k 1 17 = true) : ∃ i : Nat, i < 17 ∧ k = (i : Int) + 1 := by
  rw [inB_iff] at h
  exact ⟨(k - 1).toNat, by omega, by omega⟩
def kindLinear (k : Int) : Bool := inB k 1 17 && kLi (k - 1).toNat
def kindArity (k : Int) : Int := if inB k 1 17 then kAr (k - 1).toNat else -1
def kindName (k : Int) : ByteArray := if inB k 1 17 then kNm (k - 1).toNat else ⟨#[]⟩
theorem kindLinear_in {i : Nat} (h : i < 17) : kindLinear ((i : Int) + 1) = kLi i := by
  have e : ((i : Int) + 1 - 1).toNat = i := by omega
  rw [kindLinear, inB_true (by omega), e, Bool.true_and]
theorem kindArity_in {i : Nat} (h : i < 17) : kindArity ((i : Int) + 1) = kAr i := by
  have e : ((i : Int) + 1 - 1).toNat = i := by omega
  rw [kindArity, inB_true (by omega), e, if_pos rfl]
theorem kindName_in {i : Nat} (h : i < 17) : kindName ((i : Int) + 1) = kNm i := by
  have e : ((i : Int) + 1 - 1).toNat = i := by omega
  rw [kindName, inB_true (by omega), e, if_pos rfl]
theorem kindLinear_out {k : Int} (h : inB k 1 17 = false) : kindLinear k = false := by rw [kindLinear, h, Bool.false_and]
theorem kindArity_out {k : Int} (h : inB k 1 17 = false) : kindArity k = -1 := by rw [kindArity, h]; rfl
theorem kindName_out {k : Int} (h : inB k 1 17 = false) : kindName k = ⟨#[]⟩ := by rw [kindName, h]; rfl
theorem any_true {α : Type} {f : α → Bool} {xs : List α} {k : Nat} (h : k < xs.length) (hf : f xs[k] = true) : xs.any f = true := by
  rw [List.any_eq_true]
  exact ⟨xs[k], List.getElem_mem h, hf⟩
theorem any_step {α : Type} {f : α → Bool} {xs : List α} {k : Nat} (h : k < xs.length) (ht : (xs.take k).any f = false) (hf : f xs[k] = false) : (xs.take (k + 1)).any f = false := by
  rw [List.take_succ_eq_append_getElem h, List.any_append, ht]
  simp [hf]
theorem any_done {α : Type} {f : α → Bool} {xs : List α} (ht : (xs.take xs.length).any f = false) : xs.any f = false := by rwa [List.take_length] at ht
set_option maxHeartbeats 400000 in
theorem l00Has_any {p : Option Addr} {c : Nat} {xs : List Int} (n : Int) (w : World) (h : RdI w p xs) :
    Calls Tryz.prog 75 #[.slice p xs.length c, .int .i64 n] w fun e w' => e = .returned (.bool (xs.any (· == n))) ∧ w = w' := by
  have hlen := h.len
  unfold maxLen at hlen
  go_enter Tryz.func75, Tryz.ntmps75
  go_wp2_with fail
  go_loop [5] (fun i => ∃ k : Nat, k ≤ xs.length ∧ i = .int .i64 k ∧ (xs.take k).any (· == n) = false) (fun i => xs.length - (intOf i).toNat)
  case atStart => exact ⟨0, Nat.zero_le _, rfl, by simp⟩
  case round =>
    obtain ⟨k, hk, rfl, hall⟩ := hrel
    have HA := Lib.hid hall; clear hall
    by_cases hlt : k < xs.length
    · obtain ⟨b, o, rfl, hb, hc⟩ := h.pos hlt
      have hck := hc k hlt
      clear hc
      generalize hx : xs[k] = x at hck
      have HX := Lib.hid hx; clear hx
      cases hs : (x == n)
      · go_wp2_with fail
        go_round
        case rel => exact ⟨k + 1, by omega, by go_num, any_step hlt HA.out (by rw [HX.out]; exact hs)⟩
        case measure => simp [intOf] <;> omega
      · go_wp2_with fail
        go_ret
        exact ⟨ret_bool (any_true hlt (by rw [HX.out]; exact hs)).symm, rfl⟩
    · obtain rfl : k = xs.length := by omega
      go_wp2_with fail
      go_ret
      exact ⟨ret_bool (any_done HA.out).symm, rfl⟩
/-- the kind with a name, 0 if there is none -/
def kindNamed (s : ByteArray) : Int := (((List.range 17).find? fun i => decide (kNm i = s)).map fun i => (i : Int) + 1).getD 0
theorem find_at (p : Nat → Bool) (n i : Nat) (hi : i < n) (hp : p i = true) (hb : ∀ j, j < i → p j = false) : (List.range n).find? p = some i := by
  rw [List.find?_range_eq_some]
  exact ⟨hp, by simpa using hi, fun j hj => by simp [hb j hj]⟩
theorem kindNamed_found {s : ByteArray} {i : Nat} (hi : i < 17) (he : kNm i = s) (hne : ∀ j, j < i → kNm j ≠ s) : kindNamed s = (i : Int) + 1 := by
  rw [kindNamed, find_at _ 17 i hi (by simpa using he) (fun j hj => by simpa using hne j hj)]
  rfl
theorem kindNamed_none {s : ByteArray} (hne : ∀ j, j < 17 → kNm j ≠ s) : kindNamed s = 0 := by
  rw [kindNamed, List.find?_eq_none.2 (by simpa using hne)]
  rfl
end Go.Proofs.YtcfhcmgmkhfjjaaGreat

namespace Go.Proofs.YtcfhcmgmkhfjjaaGreat
open Go.ChangeShapes Go.WideShapes Go.ChangeAt Go.RowKit
set_option linter.unusedVariables false

/-- A and B of a node of kind i + 1 are valid -/
def abB (i : Nat) (a b : Int) : Bool := (if kLo i ≤ kHi i then inB a (kLo i) (kHi i) else a == 0) && (if kBb i then inB b 1 16 else b == 0)
/-- a valid node, for a number of tables -/
def nodeB (x : NodeD) (tables : Int) : Bool :=
  inB x.kind 1 17 && abB (x.kind - 1).toNat x.a x.b && x.src.all (fun f => inB f 0 23) && decide ((x.src.length : Int) = kAr (x.kind - 1).toNat) && (x.kind != 13 || decide (x.a < tables))

theorem hasA_any (nm : ByteArray) (a lo hi : Int) (l b : Bool) (w : World) :
    Calls Tryz.prog 105 #[.agg #[.string nm, .int .i64 a, .int .i64 lo, .int .i64 hi, .bool l, .bool b]] w fun e w' => e = .returned (.bool (decide (lo ≤ hi))) ∧ Below w.heap.size w w' := by
  go_enter Tryz.func105, Tryz.ntmps105
  go_wp2
  go_ret
  exact ⟨rfl, (Below.refl _ _).alloc (Nat.le_refl _) _⟩
theorem l00Min_any (a b : Int) (w : World) :
    Calls Tryz.prog 120 #[.int .i64 a, .int .i64 b] w fun e w' => e = .returned (.int .i64 (min a b)) ∧ w = w' := by
  by_cases h : a < b
  · have e : min a b = a := by omega
    rw [e]; clear e
    go_enter Tryz.func120, Tryz.ntmps120
    go_wp2
    go_ret
    exact ⟨rfl, rfl⟩
  · have e : min a b = b := by omega
    rw [e]; clear e
    go_enter Tryz.func120, Tryz.ntmps120
    go_wp2
    go_ret
    exact ⟨rfl, rfl⟩
theorem l00Max_any (a b : Int) (w : World) :
    Calls Tryz.prog 37 #[.int .i64 a, .int .i64 b] w fun e w' => e = .returned (.int .i64 (max a b)) ∧ w = w' := by
  by_cases h : b < a
  · have e : max a b = a := by omega
    rw [e]; clear e
    go_enter Tryz.func37, Tryz.ntmps37
    go_wp2
    go_ret
    exact ⟨rfl, rfl⟩
  · have e : max a b = b := by omega
    rw [e]; clear e
    go_enter Tryz.func37, Tryz.ntmps37
    go_wp2
    go_ret
    exact ⟨rfl, rfl⟩
theorem kinds_ex (w : World) :
    Calls Tryz.prog 104 #[] w fun e w' => ∃ g, e = .returned (.slice (some ⟨g, 0, none⟩) 17 17) ∧ KindCells w' g ∧ w.heap.size ≤ g ∧ Below w.heap.size w w' :=
  (kinds_any w).mono fun _ _ h => ⟨_, h.1, h.2.1, Nat.le_refl _, h.2.2⟩
set_option maxHeartbeats 16000000 in
set_option maxRecDepth 100000 in
theorem isNode_in {p : Option Addr} {c : Nat} {src : List Int} (i : Nat) (hi : i < 17) (a b t : Int) (w : World) (r : RdI w p src) :
    Calls Tryz.prog 67 #[.agg #[.int .i64 ((i : Int) + 1), .int .i64 a, .int .i64 b, .slice p src.length c], .int .i64 t] w fun e w' => e = .returned (.bool (nodeB ⟨(i : Int) + 1, a, b, src⟩ t)) ∧ Below w.heap.size w w' := by
  have hl := r.len
  have hl0 := r.len
  unfold maxLen at hl
  have hk : inB ((i : Int) + 1) 1 17 = true := inB_true (by omega)
  have hN : Hid (nodeB ⟨(i : Int) + 1, a, b, src⟩ t = (abB i a b && src.all (fun f => inB f 0 23) && decide ((src.length : Int) = kAr i) && (((i : Int) + 1) != 13 || decide (a < t)))) := by
    have e : ((i : Int) + 1 - 1).toNat = i := by omega
    unfold Hid nodeB
    simp only [hk, e, Bool.true_and]
  obtain ⟨E0, hE0⟩ : ∃ E, E = w.alloc (.cells #[.int .i64 ((i : Int) + 1), .int .i64 a, .int .i64 b, .slice p src.length c] 55) := ⟨_, rfl⟩
  have hB0 : Below w.heap.size w E0 := by rw [hE0]; exact (Below.refl _ _).alloc (Nat.le_refl _) _
  have ba0 : Box E0 w.heap.size [.int .i64 ((i : Int) + 1), .int .i64 a, .int .i64 b, .slice p src.length c] 55 := by rw [hE0]; exact Box.newAt w [.int .i64 ((i : Int) + 1), .int .i64 a, .int .i64 b, .slice p src.length c] _ rfl
  have HE0 := Lib.hid hE0
  clear hE0
  go_enter Tryz.func67, Tryz.ntmps67
  go_upto_region 3 with (go_at_call 103; refine (isKind_any _ _).mono ?_; rintro e w' ⟨rfl, rfl⟩)
  rw [← HE0.out]
  go_cut [5] (fun v wr => ∃ g, v = .pointer (some ⟨g, 0, none⟩) ∧ Box wr g [.string (kNm i), .int .i64 (kAr i), .int .i64 (kLo i), .int .i64 (kHi i), .bool (kLi i), .bool (kBb i)] 127 ∧ Below E0.heap.size E0 wr)
  case first =>
    have z0 := ba0.cell 0 rfl
    have w1 : IntKind.i64.wrap ((i : Int) + 1 - 1) = (i : Int) := by rw [IntWalk.i64_in _ (by omega)]; omega
    have w5 : IntKind.i64.wrap (i : Int) = (i : Int) := IntWalk.i64_in _ (by omega)
    have w2 : (0 : Int) ≤ (i : Int) := by omega
    have w3 : (i : Int) < 17 := by omega
    have w4 : ((i : Int)).toNat = i := by omega
    have hwl0 := ba0.lt
    go_region_with (first | (go_at_call 104; refine (kinds_ex E0.drew).mono ?_; rintro e F1 ⟨g, rfl, hc, hg, hb⟩; have hb0 : Below E0.heap.size E0 F1 := below_drew' hb; have ba1 := ba0.below hb0; have y0 := ba1.cell 0 rfl; have hwl := ba1.lt; have hq := hc i hi; obtain ⟨k0, k1, k2, k3, k4, k5⟩ := hq; have hgl : g < F1.heap.size := World.block_lt_of_cell? _ _ k0; clear hc) | (go_at_call 104; refine (kinds_ex _).mono ?_; rintro e F1 ⟨g, rfl, hc, hg, hb⟩; have hb0 : Below E0.heap.size E0 F1 := ((Below.refl _ _).alloc (Nat.le_refl _) _).trans ((below_drew' hb).mono (by simp)); have bz := (Box.newAt E0 [.string ⟨#[]⟩, .int .i64 0, .int .i64 0, .int .i64 0, .bool false, .bool false] 127 rfl).below (below_drew' hb); have ba1 := (ba0.alloc (.cells #[.string ⟨#[]⟩, .int .i64 0, .int .i64 0, .int .i64 0, .bool false, .bool false] 127)).below (below_drew' hb); have u0 := bz.cell 0 rfl; have u1 := bz.cell 1 rfl; have u2 := bz.cell 2 rfl; have u3 := bz.cell 3 rfl; have u4 := bz.cell 4 rfl; have u5 := bz.cell 5 rfl; have hgz : g ≠ E0.heap.size := (by simp at hg; omega); have hzl := bz.lt; have fz := bz.frozen; have y0 := ba1.cell 0 rfl; have hwl := ba1.lt; have hq := hc i hi; obtain ⟨k0, k1, k2, k3, k4, k5⟩ := hq; have hgl : g < F1.heap.size := World.block_lt_of_cell? _ _ k0; clear hc))
    all_goals (go_wp2_with fail)
    all_goals go_meet
    all_goals refine ⟨_, rfl, ?_, ?_⟩
    all_goals clear HE0 hN
    all_goals first
      | (with_reducible exact Box.newAt F1 [.string (kNm i), .int .i64 (kAr i), .int .i64 (kLo i), .int .i64 (kHi i), .bool (kLi i), .bool (kBb i)] _ rfl)
      | (with_reducible exact hb0.alloc hb0.size _)
      | exact ((((((bz.set 0 (.string (kNm i))).set 1 (.int .i64 (kAr i))).set 2 (.int .i64 (kLo i))).set 3 (.int .i64 (kHi i))).set 4 (.bool (kLi i))).set 5 (.bool (kBb i)))
      | (with_reducible exact (((((hb0.setCell (Nat.le_refl _) _).setCell (Nat.le_refl _) _).setCell (Nat.le_refl _) _).setCell (Nat.le_refl _) _).setCell (Nat.le_refl _) _).setCell (Nat.le_refl _) _)
  case rest =>
    obtain ⟨g, rfl, bk, hb⟩ := hcut
    obtain ⟨E1, rfl⟩ : ∃ E, E = wc := ⟨_, rfl⟩
    have ba1 := ba0.below hb
    have hB1 := hB0.trans (hb.mono hB0.size)
    clear hb ba0 hB0
    go_upto_region 4 with fail
    go_cut [59] (fun v wr => v = .bool (!abB i a b) ∧ Below E1.heap.size E1 wr)
    case first =>
      have bk0 := bk
      have hbR := Below.refl E1.heap.size E1

      have bn0 := ba1
      clear ba1 bk
      by_cases hA : kLo i ≤ kHi i
      case pos =>
        have hAd : decide (kLo i ≤ kHi i) = true := decide_eq_true hA
        cases cA : inB a (kLo i) (kHi i)
        case false =>
          have hv : (!abB i a b) = true := by unfold abB; rw [if_pos hA]; simp [cA]
          have HV := Lib.hid hv
          clear hv
          have k0_0 := bk0.cell 0 rfl
          have k0_1 := bk0.cell 1 rfl
          have k0_2 := bk0.cell 2 rfl
          have k0_3 := bk0.cell 3 rfl
          have k0_4 := bk0.cell 4 rfl
          have k0_5 := bk0.cell 5 rfl
          have n0_0 := bn0.cell 0 rfl
          have n0_1 := bn0.cell 1 rfl
          have n0_2 := bn0.cell 2 rfl
          have n0_3 := bn0.cell 3 rfl
          go_wp2_with fail
          refine (hasA_any _ _ _ _ _ _ _).mono ?_
          rintro e F1 ⟨rfl, hb1⟩
          have bk1 := bk0.below hb1
          have bn1 := bn0.below hb1
          have hR1 := hbR.trans hb1
          clear k0_0 k0_1 k0_2 k0_3 k0_4 k0_5 n0_0 n0_1 n0_2 n0_3 hb1
          have k1_0 := bk1.cell 0 rfl
          have k1_1 := bk1.cell 1 rfl
          have k1_2 := bk1.cell 2 rfl
          have k1_3 := bk1.cell 3 rfl
          have k1_4 := bk1.cell 4 rfl
          have k1_5 := bk1.cell 5 rfl
          have n1_0 := bn1.cell 0 rfl
          have n1_1 := bn1.cell 1 rfl
          have n1_2 := bn1.cell 2 rfl
          have n1_3 := bn1.cell 3 rfl
          go_wp2_with (go_at_call 30; refine (within_any _ _ _ _).mono ?_; rintro e w' ⟨rfl, rfl⟩)
          go_meet
          exact ⟨by rw [HV.out], hR1⟩
        cases hBb : kBb i
        case true =>
          cases cB : inB b 1 16
          case false =>
            have hv : (!abB i a b) = true := by unfold abB; rw [if_pos hA]; simp [cA, hBb, cB]
            have HV := Lib.hid hv
            clear hv
            have k0_0 := bk0.cell 0 rfl
            have k0_1 := bk0.cell 1 rfl
            have k0_2 := bk0.cell 2 rfl
            have k0_3 := bk0.cell 3 rfl
            have k0_4 := bk0.cell 4 rfl
            have k0_5 := bk0.cell 5 rfl
            have n0_0 := bn0.cell 0 rfl
            have n0_1 := bn0.cell 1 rfl
            have n0_2 := bn0.cell 2 rfl
            have n0_3 := bn0.cell 3 rfl
            go_wp2_with fail
            refine (hasA_any _ _ _ _ _ _ _).mono ?_
            rintro e F1 ⟨rfl, hb1⟩
            have bk1 := bk0.below hb1
            have bn1 := bn0.below hb1
            have hR1 := hbR.trans hb1
            clear k0_0 k0_1 k0_2 k0_3 k0_4 k0_5 n0_0 n0_1 n0_2 n0_3 hb1
            have k1_0 := bk1.cell 0 rfl
            have k1_1 := bk1.cell 1 rfl
            have k1_2 := bk1.cell 2 rfl
            have k1_3 := bk1.cell 3 rfl
            have k1_4 := bk1.cell 4 rfl
            have k1_5 := bk1.cell 5 rfl
            have n1_0 := bn1.cell 0 rfl
            have n1_1 := bn1.cell 1 rfl
            have n1_2 := bn1.cell 2 rfl
            have n1_3 := bn1.cell 3 rfl
            go_wp2_with (go_at_call 30; refine (within_any _ _ _ _).mono ?_; rintro e w' ⟨rfl, rfl⟩)
            refine (hasA_any _ _ _ _ _ _ _).mono ?_
            rintro e F2 ⟨rfl, hb2⟩
            have bk2 := bk1.below hb2
            have bn2 := bn1.below hb2
            have hR2 := hR1.trans (hb2.mono hR1.size)
            clear k1_0 k1_1 k1_2 k1_3 k1_4 k1_5 n1_0 n1_1 n1_2 n1_3 hb2
            have k2_0 := bk2.cell 0 rfl
            have k2_1 := bk2.cell 1 rfl
            have k2_2 := bk2.cell 2 rfl
            have k2_3 := bk2.cell 3 rfl
            have k2_4 := bk2.cell 4 rfl
            have k2_5 := bk2.cell 5 rfl
            have n2_0 := bn2.cell 0 rfl
            have n2_1 := bn2.cell 1 rfl
            have n2_2 := bn2.cell 2 rfl
            have n2_3 := bn2.cell 3 rfl
            go_wp2_with (go_at_call 30; refine (within_any _ _ _ _).mono ?_; rintro e w' ⟨rfl, rfl⟩)
            go_meet
            exact ⟨by rw [HV.out], hR2⟩
          have hv : (!abB i a b) = false := by unfold abB; rw [if_pos hA]; simp [cA, hBb, cB]
          have HV := Lib.hid hv
          clear hv
          have k0_0 := bk0.cell 0 rfl
          have k0_1 := bk0.cell 1 rfl
          have k0_2 := bk0.cell 2 rfl
          have k0_3 := bk0.cell 3 rfl
          have k0_4 := bk0.cell 4 rfl
          have k0_5 := bk0.cell 5 rfl
          have n0_0 := bn0.cell 0 rfl
          have n0_1 := bn0.cell 1 rfl
          have n0_2 := bn0.cell 2 rfl
          have n0_3 := bn0.cell 3 rfl
          go_wp2_with fail
          refine (hasA_any _ _ _ _ _ _ _).mono ?_
          rintro e F1 ⟨rfl, hb1⟩
          have bk1 := bk0.below hb1
          have bn1 := bn0.below hb1
          have hR1 := hbR.trans hb1
          clear k0_0 k0_1 k0_2 k0_3 k0_4 k0_5 n0_0 n0_1 n0_2 n0_3 hb1
          have k1_0 := bk1.cell 0 rfl
          have k1_1 := bk1.cell 1 rfl
          have k1_2 := bk1.cell 2 rfl
          have k1_3 := bk1.cell 3 rfl
          have k1_4 := bk1.cell 4 rfl
          have k1_5 := bk1.cell 5 rfl
          have n1_0 := bn1.cell 0 rfl
          have n1_1 := bn1.cell 1 rfl
          have n1_2 := bn1.cell 2 rfl
          have n1_3 := bn1.cell 3 rfl
          go_wp2_with (go_at_call 30; refine (within_any _ _ _ _).mono ?_; rintro e w' ⟨rfl, rfl⟩)
          refine (hasA_any _ _ _ _ _ _ _).mono ?_
          rintro e F2 ⟨rfl, hb2⟩
          have bk2 := bk1.below hb2
          have bn2 := bn1.below hb2
          have hR2 := hR1.trans (hb2.mono hR1.size)
          clear k1_0 k1_1 k1_2 k1_3 k1_4 k1_5 n1_0 n1_1 n1_2 n1_3 hb2
          have k2_0 := bk2.cell 0 rfl
          have k2_1 := bk2.cell 1 rfl
          have k2_2 := bk2.cell 2 rfl
          have k2_3 := bk2.cell 3 rfl
          have k2_4 := bk2.cell 4 rfl
          have k2_5 := bk2.cell 5 rfl
          have n2_0 := bn2.cell 0 rfl
          have n2_1 := bn2.cell 1 rfl
          have n2_2 := bn2.cell 2 rfl
          have n2_3 := bn2.cell 3 rfl
          go_wp2_with (go_at_call 30; refine (within_any _ _ _ _).mono ?_; rintro e w' ⟨rfl, rfl⟩)
          go_meet
          exact ⟨by rw [HV.out], hR2⟩
        cases cB : (b == 0)
        case false =>
          have cB' : (b != 0) = true := by rw [bne, cB]; rfl
          have hv : (!abB i a b) = true := by unfold abB; rw [if_pos hA]; simp [cA, hBb, cB]
          have HV := Lib.hid hv
          clear hv
          have k0_0 := bk0.cell 0 rfl
          have k0_1 := bk0.cell 1 rfl
          have k0_2 := bk0.cell 2 rfl
          have k0_3 := bk0.cell 3 rfl
          have k0_4 := bk0.cell 4 rfl
          have k0_5 := bk0.cell 5 rfl
          have n0_0 := bn0.cell 0 rfl
          have n0_1 := bn0.cell 1 rfl
          have n0_2 := bn0.cell 2 rfl
          have n0_3 := bn0.cell 3 rfl
          go_wp2_with fail
          refine (hasA_any _ _ _ _ _ _ _).mono ?_
          rintro e F1 ⟨rfl, hb1⟩
          have bk1 := bk0.below hb1
          have bn1 := bn0.below hb1
          have hR1 := hbR.trans hb1
          clear k0_0 k0_1 k0_2 k0_3 k0_4 k0_5 n0_0 n0_1 n0_2 n0_3 hb1
          have k1_0 := bk1.cell 0 rfl
          have k1_1 := bk1.cell 1 rfl
          have k1_2 := bk1.cell 2 rfl
          have k1_3 := bk1.cell 3 rfl
          have k1_4 := bk1.cell 4 rfl
          have k1_5 := bk1.cell 5 rfl
          have n1_0 := bn1.cell 0 rfl
          have n1_1 := bn1.cell 1 rfl
          have n1_2 := bn1.cell 2 rfl
          have n1_3 := bn1.cell 3 rfl
          go_wp2_with (go_at_call 30; refine (within_any _ _ _ _).mono ?_; rintro e w' ⟨rfl, rfl⟩)
          refine (hasA_any _ _ _ _ _ _ _).mono ?_
          rintro e F2 ⟨rfl, hb2⟩
          have bk2 := bk1.below hb2
          have bn2 := bn1.below hb2
          have hR2 := hR1.trans (hb2.mono hR1.size)
          clear k1_0 k1_1 k1_2 k1_3 k1_4 k1_5 n1_0 n1_1 n1_2 n1_3 hb2
          have k2_0 := bk2.cell 0 rfl
          have k2_1 := bk2.cell 1 rfl
          have k2_2 := bk2.cell 2 rfl
          have k2_3 := bk2.cell 3 rfl
          have k2_4 := bk2.cell 4 rfl
          have k2_5 := bk2.cell 5 rfl
          have n2_0 := bn2.cell 0 rfl
          have n2_1 := bn2.cell 1 rfl
          have n2_2 := bn2.cell 2 rfl
          have n2_3 := bn2.cell 3 rfl
          go_wp2_with (go_at_call 30; refine (within_any _ _ _ _).mono ?_; rintro e w' ⟨rfl, rfl⟩)
          go_meet
          exact ⟨by rw [HV.out], hR2⟩
        have cB' : (b != 0) = false := by rw [bne, cB]; rfl
        have hv : (!abB i a b) = false := by unfold abB; rw [if_pos hA]; simp [cA, hBb, cB]
        have HV := Lib.hid hv
        clear hv
        have k0_0 := bk0.cell 0 rfl
        have k0_1 := bk0.cell 1 rfl
        have k0_2 := bk0.cell 2 rfl
        have k0_3 := bk0.cell 3 rfl
        have k0_4 := bk0.cell 4 rfl
        have k0_5 := bk0.cell 5 rfl
        have n0_0 := bn0.cell 0 rfl
        have n0_1 := bn0.cell 1 rfl
        have n0_2 := bn0.cell 2 rfl
        have n0_3 := bn0.cell 3 rfl
        go_wp2_with fail
        refine (hasA_any _ _ _ _ _ _ _).mono ?_
        rintro e F1 ⟨rfl, hb1⟩
        have bk1 := bk0.below hb1
        have bn1 := bn0.below hb1
        have hR1 := hbR.trans hb1
        clear k0_0 k0_1 k0_2 k0_3 k0_4 k0_5 n0_0 n0_1 n0_2 n0_3 hb1
        have k1_0 := bk1.cell 0 rfl
        have k1_1 := bk1.cell 1 rfl
        have k1_2 := bk1.cell 2 rfl
        have k1_3 := bk1.cell 3 rfl
        have k1_4 := bk1.cell 4 rfl
        have k1_5 := bk1.cell 5 rfl
        have n1_0 := bn1.cell 0 rfl
        have n1_1 := bn1.cell 1 rfl
        have n1_2 := bn1.cell 2 rfl
        have n1_3 := bn1.cell 3 rfl
        go_wp2_with (go_at_call 30; refine (within_any _ _ _ _).mono ?_; rintro e w' ⟨rfl, rfl⟩)
        refine (hasA_any _ _ _ _ _ _ _).mono ?_
        rintro e F2 ⟨rfl, hb2⟩
        have bk2 := bk1.below hb2
        have bn2 := bn1.below hb2
        have hR2 := hR1.trans (hb2.mono hR1.size)
        clear k1_0 k1_1 k1_2 k1_3 k1_4 k1_5 n1_0 n1_1 n1_2 n1_3 hb2
        have k2_0 := bk2.cell 0 rfl
        have k2_1 := bk2.cell 1 rfl
        have k2_2 := bk2.cell 2 rfl
        have k2_3 := bk2.cell 3 rfl
        have k2_4 := bk2.cell 4 rfl
        have k2_5 := bk2.cell 5 rfl
        have n2_0 := bn2.cell 0 rfl
        have n2_1 := bn2.cell 1 rfl
        have n2_2 := bn2.cell 2 rfl
        have n2_3 := bn2.cell 3 rfl
        go_wp2_with (go_at_call 30; refine (within_any _ _ _ _).mono ?_; rintro e w' ⟨rfl, rfl⟩)
        go_meet
        exact ⟨by rw [HV.out], hR2⟩
      have hAd : decide (kLo i ≤ kHi i) = false := decide_eq_false hA
      cases cA : (a == 0)
      case false =>
        have cA' : (a != 0) = true := by rw [bne, cA]; rfl
        have hv : (!abB i a b) = true := by unfold abB; rw [if_neg hA]; simp [cA]
        have HV := Lib.hid hv
        clear hv
        have k0_0 := bk0.cell 0 rfl
        have k0_1 := bk0.cell 1 rfl
        have k0_2 := bk0.cell 2 rfl
        have k0_3 := bk0.cell 3 rfl
        have k0_4 := bk0.cell 4 rfl
        have k0_5 := bk0.cell 5 rfl
        have n0_0 := bn0.cell 0 rfl
        have n0_1 := bn0.cell 1 rfl
        have n0_2 := bn0.cell 2 rfl
        have n0_3 := bn0.cell 3 rfl
        go_wp2_with fail
        refine (hasA_any _ _ _ _ _ _ _).mono ?_
        rintro e F1 ⟨rfl, hb1⟩
        have bk1 := bk0.below hb1
        have bn1 := bn0.below hb1
        have hR1 := hbR.trans hb1
        clear k0_0 k0_1 k0_2 k0_3 k0_4 k0_5 n0_0 n0_1 n0_2 n0_3 hb1
        have k1_0 := bk1.cell 0 rfl
        have k1_1 := bk1.cell 1 rfl
        have k1_2 := bk1.cell 2 rfl
        have k1_3 := bk1.cell 3 rfl
        have k1_4 := bk1.cell 4 rfl
        have k1_5 := bk1.cell 5 rfl
        have n1_0 := bn1.cell 0 rfl
        have n1_1 := bn1.cell 1 rfl
        have n1_2 := bn1.cell 2 rfl
        have n1_3 := bn1.cell 3 rfl
        go_wp2_with (go_at_call 30; refine (within_any _ _ _ _).mono ?_; rintro e w' ⟨rfl, rfl⟩)
        refine (hasA_any _ _ _ _ _ _ _).mono ?_
        rintro e F2 ⟨rfl, hb2⟩
        have bk2 := bk1.below hb2
        have bn2 := bn1.below hb2
        have hR2 := hR1.trans (hb2.mono hR1.size)
        clear k1_0 k1_1 k1_2 k1_3 k1_4 k1_5 n1_0 n1_1 n1_2 n1_3 hb2
        have k2_0 := bk2.cell 0 rfl
        have k2_1 := bk2.cell 1 rfl
        have k2_2 := bk2.cell 2 rfl
        have k2_3 := bk2.cell 3 rfl
        have k2_4 := bk2.cell 4 rfl
        have k2_5 := bk2.cell 5 rfl
        have n2_0 := bn2.cell 0 rfl
        have n2_1 := bn2.cell 1 rfl
        have n2_2 := bn2.cell 2 rfl
        have n2_3 := bn2.cell 3 rfl
        go_wp2_with (go_at_call 30; refine (within_any _ _ _ _).mono ?_; rintro e w' ⟨rfl, rfl⟩)
        go_meet
        exact ⟨by rw [HV.out], hR2⟩
      have cA' : (a != 0) = false := by rw [bne, cA]; rfl
      cases hBb : kBb i
      case true =>
        cases cB : inB b 1 16
        case false =>
          have hv : (!abB i a b) = true := by unfold abB; rw [if_neg hA]; simp [cA, hBb, cB]
          have HV := Lib.hid hv
          clear hv
          have k0_0 := bk0.cell 0 rfl
          have k0_1 := bk0.cell 1 rfl
          have k0_2 := bk0.cell 2 rfl
          have k0_3 := bk0.cell 3 rfl
          have k0_4 := bk0.cell 4 rfl
          have k0_5 := bk0.cell 5 rfl
          have n0_0 := bn0.cell 0 rfl
          have n0_1 := bn0.cell 1 rfl
          have n0_2 := bn0.cell 2 rfl
          have n0_3 := bn0.cell 3 rfl
          go_wp2_with fail
          refine (hasA_any _ _ _ _ _ _ _).mono ?_
          rintro e F1 ⟨rfl, hb1⟩
          have bk1 := bk0.below hb1
          have bn1 := bn0.below hb1
          have hR1 := hbR.trans hb1
          clear k0_0 k0_1 k0_2 k0_3 k0_4 k0_5 n0_0 n0_1 n0_2 n0_3 hb1
          have k1_0 := bk1.cell 0 rfl
          have k1_1 := bk1.cell 1 rfl
          have k1_2 := bk1.cell 2 rfl
          have k1_3 := bk1.cell 3 rfl
          have k1_4 := bk1.cell 4 rfl
          have k1_5 := bk1.cell 5 rfl
          have n1_0 := bn1.cell 0 rfl
          have n1_1 := bn1.cell 1 rfl
          have n1_2 := bn1.cell 2 rfl
          have n1_3 := bn1.cell 3 rfl
          go_wp2_with (go_at_call 30; refine (within_any _ _ _ _).mono ?_; rintro e w' ⟨rfl, rfl⟩)
          refine (hasA_any _ _ _ _ _ _ _).mono ?_
          rintro e F2 ⟨rfl, hb2⟩
          have bk2 := bk1.below hb2
          have bn2 := bn1.below hb2
          have hR2 := hR1.trans (hb2.mono hR1.size)
          clear k1_0 k1_1 k1_2 k1_3 k1_4 k1_5 n1_0 n1_1 n1_2 n1_3 hb2
          have k2_0 := bk2.cell 0 rfl
          have k2_1 := bk2.cell 1 rfl
          have k2_2 := bk2.cell 2 rfl
          have k2_3 := bk2.cell 3 rfl
          have k2_4 := bk2.cell 4 rfl
          have k2_5 := bk2.cell 5 rfl
          have n2_0 := bn2.cell 0 rfl
          have n2_1 := bn2.cell 1 rfl
          have n2_2 := bn2.cell 2 rfl
          have n2_3 := bn2.cell 3 rfl
          go_wp2_with (go_at_call 30; refine (within_any _ _ _ _).mono ?_; rintro e w' ⟨rfl, rfl⟩)
          go_meet
          exact ⟨by rw [HV.out], hR2⟩
        have hv : (!abB i a b) = false := by unfold abB; rw [if_neg hA]; simp [cA, hBb, cB]
        have HV := Lib.hid hv
        clear hv
        have k0_0 := bk0.cell 0 rfl
        have k0_1 := bk0.cell 1 rfl
        have k0_2 := bk0.cell 2 rfl
        have k0_3 := bk0.cell 3 rfl
        have k0_4 := bk0.cell 4 rfl
        have k0_5 := bk0.cell 5 rfl
        have n0_0 := bn0.cell 0 rfl
        have n0_1 := bn0.cell 1 rfl
        have n0_2 := bn0.cell 2 rfl
        have n0_3 := bn0.cell 3 rfl
        go_wp2_with fail
        refine (hasA_any _ _ _ _ _ _ _).mono ?_
        rintro e F1 ⟨rfl, hb1⟩
        have bk1 := bk0.below hb1
        have bn1 := bn0.below hb1
        have hR1 := hbR.trans hb1
        clear k0_0 k0_1 k0_2 k0_3 k0_4 k0_5 n0_0 n0_1 n0_2 n0_3 hb1
        have k1_0 := bk1.cell 0 rfl
        have k1_1 := bk1.cell 1 rfl
        have k1_2 := bk1.cell 2 rfl
        have k1_3 := bk1.cell 3 rfl
        have k1_4 := bk1.cell 4 rfl
        have k1_5 := bk1.cell 5 rfl
        have n1_0 := bn1.cell 0 rfl
        have n1_1 := bn1.cell 1 rfl
        have n1_2 := bn1.cell 2 rfl
        have n1_3 := bn1.cell 3 rfl
        go_wp2_with (go_at_call 30; refine (within_any _ _ _ _).mono ?_; rintro e w' ⟨rfl, rfl⟩)
        refine (hasA_any _ _ _ _ _ _ _).mono ?_
        rintro e F2 ⟨rfl, hb2⟩
        have bk2 := bk1.below hb2
        have bn2 := bn1.below hb2
        have hR2 := hR1.trans (hb2.mono hR1.size)
        clear k1_0 k1_1 k1_2 k1_3 k1_4 k1_5 n1_0 n1_1 n1_2 n1_3 hb2
        have k2_0 := bk2.cell 0 rfl
        have k2_1 := bk2.cell 1 rfl
        have k2_2 := bk2.cell 2 rfl
        have k2_3 := bk2.cell 3 rfl
        have k2_4 := bk2.cell 4 rfl
        have k2_5 := bk2.cell 5 rfl
        have n2_0 := bn2.cell 0 rfl
        have n2_1 := bn2.cell 1 rfl
        have n2_2 := bn2.cell 2 rfl
        have n2_3 := bn2.cell 3 rfl
        go_wp2_with (go_at_call 30; refine (within_any _ _ _ _).mono ?_; rintro e w' ⟨rfl, rfl⟩)
        go_meet
        exact ⟨by rw [HV.out], hR2⟩
      cases cB : (b == 0)
      case false =>
        have cB' : (b != 0) = true := by rw [bne, cB]; rfl
        have hv : (!abB i a b) = true := by unfold abB; rw [if_neg hA]; simp [cA, hBb, cB]
        have HV := Lib.hid hv
        clear hv
        have k0_0 := bk0.cell 0 rfl
        have k0_1 := bk0.cell 1 rfl
        have k0_2 := bk0.cell 2 rfl
        have k0_3 := bk0.cell 3 rfl
        have k0_4 := bk0.cell 4 rfl
        have k0_5 := bk0.cell 5 rfl
        have n0_0 := bn0.cell 0 rfl
        have n0_1 := bn0.cell 1 rfl
        have n0_2 := bn0.cell 2 rfl
        have n0_3 := bn0.cell 3 rfl
        go_wp2_with fail
        refine (hasA_any _ _ _ _ _ _ _).mono ?_
        rintro e F1 ⟨rfl, hb1⟩
        have bk1 := bk0.below hb1
        have bn1 := bn0.below hb1
        have hR1 := hbR.trans hb1
        clear k0_0 k0_1 k0_2 k0_3 k0_4 k0_5 n0_0 n0_1 n0_2 n0_3 hb1
        have k1_0 := bk1.cell 0 rfl
        have k1_1 := bk1.cell 1 rfl
        have k1_2 := bk1.cell 2 rfl
        have k1_3 := bk1.cell 3 rfl
        have k1_4 := bk1.cell 4 rfl
        have k1_5 := bk1.cell 5 rfl
        have n1_0 := bn1.cell 0 rfl
        have n1_1 := bn1.cell 1 rfl
        have n1_2 := bn1.cell 2 rfl
        have n1_3 := bn1.cell 3 rfl
        go_wp2_with (go_at_call 30; refine (within_any _ _ _ _).mono ?_; rintro e w' ⟨rfl, rfl⟩)
        refine (hasA_any _ _ _ _ _ _ _).mono ?_
        rintro e F2 ⟨rfl, hb2⟩
        have bk2 := bk1.below hb2
        have bn2 := bn1.below hb2
        have hR2 := hR1.trans (hb2.mono hR1.size)
        clear k1_0 k1_1 k1_2 k1_3 k1_4 k1_5 n1_0 n1_1 n1_2 n1_3 hb2
        have k2_0 := bk2.cell 0 rfl
        have k2_1 := bk2.cell 1 rfl
        have k2_2 := bk2.cell 2 rfl
        have k2_3 := bk2.cell 3 rfl
        have k2_4 := bk2.cell 4 rfl
        have k2_5 := bk2.cell 5 rfl
        have n2_0 := bn2.cell 0 rfl
        have n2_1 := bn2.cell 1 rfl
        have n2_2 := bn2.cell 2 rfl
        have n2_3 := bn2.cell 3 rfl
        go_wp2_with (go_at_call 30; refine (within_any _ _ _ _).mono ?_; rintro e w' ⟨rfl, rfl⟩)
        go_meet
        exact ⟨by rw [HV.out], hR2⟩
      have cB' : (b != 0) = false := by rw [bne, cB]; rfl
      have hv : (!abB i a b) = false := by unfold abB; rw [if_neg hA]; simp [cA, hBb, cB]
      have HV := Lib.hid hv
      clear hv
      have k0_0 := bk0.cell 0 rfl
      have k0_1 := bk0.cell 1 rfl
      have k0_2 := bk0.cell 2 rfl
      have k0_3 := bk0.cell 3 rfl
      have k0_4 := bk0.cell 4 rfl
      have k0_5 := bk0.cell 5 rfl
      have n0_0 := bn0.cell 0 rfl
      have n0_1 := bn0.cell 1 rfl
      have n0_2 := bn0.cell 2 rfl
      have n0_3 := bn0.cell 3 rfl
      go_wp2_with fail
      refine (hasA_any _ _ _ _ _ _ _).mono ?_
      rintro e F1 ⟨rfl, hb1⟩
      have bk1 := bk0.below hb1
      have bn1 := bn0.below hb1
      have hR1 := hbR.trans hb1
      clear k0_0 k0_1 k0_2 k0_3 k0_4 k0_5 n0_0 n0_1 n0_2 n0_3 hb1
      have k1_0 := bk1.cell 0 rfl
      have k1_1 := bk1.cell 1 rfl
      have k1_2 := bk1.cell 2 rfl
      have k1_3 := bk1.cell 3 rfl
      have k1_4 := bk1.cell 4 rfl
      have k1_5 := bk1.cell 5 rfl
      have n1_0 := bn1.cell 0 rfl
      have n1_1 := bn1.cell 1 rfl
      have n1_2 := bn1.cell 2 rfl
      have n1_3 := bn1.cell 3 rfl
      go_wp2_with (go_at_call 30; refine (within_any _ _ _ _).mono ?_; rintro e w' ⟨rfl, rfl⟩)
      refine (hasA_any _ _ _ _ _ _ _).mono ?_
      rintro e F2 ⟨rfl, hb2⟩
      have bk2 := bk1.below hb2
      have bn2 := bn1.below hb2
      have hR2 := hR1.trans (hb2.mono hR1.size)
      clear k1_0 k1_1 k1_2 k1_3 k1_4 k1_5 n1_0 n1_1 n1_2 n1_3 hb2
      have k2_0 := bk2.cell 0 rfl
      have k2_1 := bk2.cell 1 rfl
      have k2_2 := bk2.cell 2 rfl
      have k2_3 := bk2.cell 3 rfl
      have k2_4 := bk2.cell 4 rfl
      have k2_5 := bk2.cell 5 rfl
      have n2_0 := bn2.cell 0 rfl
      have n2_1 := bn2.cell 1 rfl
      have n2_2 := bn2.cell 2 rfl
      have n2_3 := bn2.cell 3 rfl
      go_wp2_with (go_at_call 30; refine (within_any _ _ _ _).mono ?_; rintro e w' ⟨rfl, rfl⟩)
      go_meet
      exact ⟨by rw [HV.out], hR2⟩
    case rest =>
      obtain ⟨rfl, hb⟩ := hcut
      obtain ⟨E2, rfl⟩ : ∃ E, E = wc := ⟨_, rfl⟩
      have ba2 := ba1.below hb
      have bk2 := bk.below hb
      have hB2 := hB1.trans (hb.mono hB1.size)
      have r2 := r.below hB2
      clear hb ba1 bk hB1 r
      cases hab' : (!abB i a b)
      case true =>
        have hab : abB i a b = false := by simpa using hab'
        go_wp2_with fail
        go_ret
        exact ⟨ret_bool (by rw [hN.out, hab]; simp), hB2⟩
      have hab : abB i a b = true := by simpa using hab'
      clear hab'
      have z3 := ba2.cell 3 rfl
      go_wp2_with fail
      clear z3
      go_loop [63] (fun j => ∃ k : Nat, k ≤ src.length ∧ j = .int .i64 k ∧ (src.take k).all (fun f => inB f 0 23) = true) (fun j => src.length - (intOf j).toNat)
      case atStart => exact ⟨0, Nat.zero_le _, rfl, by simp⟩
      case round =>
        obtain ⟨k, hk2, rfl, hall⟩ := hrel
        have HA := Lib.hid hall; clear hall
        by_cases hlt : k < src.length
        · obtain ⟨b1, o1, rfl, hb1, hc1⟩ := r2.pos hlt
          have hck := hc1 k hlt
          clear hc1
          generalize hx : src[k] = f at hck
          have HX := Lib.hid hx; clear hx
          cases hs : inB f 0 23
          · go_wp2_with (go_at_call 30; refine (within_any _ _ _ _).mono ?_; rintro e w' ⟨rfl, rfl⟩)
            go_ret
            exact ⟨ret_bool (by rw [hN.out, all_false hlt (by rw [HX.out]; exact hs)]; simp), hB2⟩
          · go_wp2_with (go_at_call 30; refine (within_any _ _ _ _).mono ?_; rintro e w' ⟨rfl, rfl⟩)
            go_round
            case rel => exact ⟨k + 1, by omega, by go_num, all_step hlt HA.out (by rw [HX.out]; exact hs)⟩
            case measure => simp [intOf] <;> omega
        · obtain rfl : k = src.length := by omega
          have hd := all_done HA.out
          have z0 := ba2.cell 0 rfl
          have z1 := ba2.cell 1 rfl
          have z3 := ba2.cell 3 rfl
          have q1 := bk2.cell 1 rfl
          have S1 : Hid (∀ m, Calls Tryz.prog 65 #[.slice p src.length c] (E2.drewN m) fun e w' => e = .returned (.int .i64 src.length) ∧ w' = E2.drewN m) := fun m => (sizeI_any _ _ _ _ hl0).mono fun e w' h => ⟨h.1, h.2.symm⟩
          by_cases c1 : (src.length : Int) = kAr i
          · have d1 : ((src.length : Int) == kAr i) = true := by rw [beq_iff_eq]; exact c1
            by_cases c2 : ((i : Int) + 1) = 13
            · have d2 : (((i : Int) + 1) != 13) = false := by rw [bne_eq_false_iff_eq]; exact c2
              have HR : Hid (nodeB ⟨(i : Int) + 1, a, b, src⟩ t = decide (a < t)) := by rw [hN.out, hab, hd, decide_eq_true c1, d2]; simp [Hid]
              clear c1 c2 hd hab
              go_wp2_with fail
              go_quiet ((go_at_call 65; exact Calls.quiet_of_same (S1.out _)))
              go_wp2_with fail
              go_ret
              exact ⟨ret_bool HR.out.symm, below_drewN hB2 _⟩
            · have d2 : (((i : Int) + 1) != 13) = true := by rw [bne_iff_ne]; exact c2
              have HR : Hid (nodeB ⟨(i : Int) + 1, a, b, src⟩ t = true) := by rw [hN.out, hab, hd, decide_eq_true c1, d2]; simp [Hid]
              clear c1 c2 hd hab
              go_wp2_with fail
              go_quiet ((go_at_call 65; exact Calls.quiet_of_same (S1.out _)))
              go_wp2_with fail
              go_ret
              exact ⟨ret_bool HR.out.symm, below_drewN hB2 _⟩
          · have d1 : ((src.length : Int) == kAr i) = false := by rw [beq_eq_false_iff_ne]; exact c1
            have HR : Hid (nodeB ⟨(i : Int) + 1, a, b, src⟩ t = false) := by rw [hN.out, decide_eq_false c1]; simp [Hid]
            clear c1 hd hab
            go_wp2_with fail
            go_quiet ((go_at_call 65; exact Calls.quiet_of_same (S1.out _)))
            go_wp2_with fail
            go_ret
            exact ⟨ret_bool HR.out.symm, below_drewN hB2 _⟩

end Go.Proofs.YtcfhcmgmkhfjjaaGreat

namespace Go.Proofs.YtcfhcmgmkhfjjaaGreat
open Go.ChangeShapes Go.WideShapes Go.ChangeAt Go.RowKit
set_option linter.unusedVariables false

/-- a node lies at a place of memory -/
structure PNode (w : World) (b o : Nat) (x : NodeD) : Prop where
  c0 : w.cell? ⟨b, o, none⟩ = some (.int .i64 x.kind)
  c1 : w.cell? ⟨b, o + 1, none⟩ = some (.int .i64 x.a)
  c2 : w.cell? ⟨b, o + 2, none⟩ = some (.int .i64 x.b)
  c3 : ∃ p c, w.cell? ⟨b, o + 3, none⟩ = some (.slice p x.src.length c) ∧ RdI w p x.src
theorem PNode.lt {w : World} {b o : Nat} {x : NodeD} (h : PNode w b o x) : b < w.heap.size := World.block_lt_of_cell? w _ h.c0
theorem PNode.below {w w' : World} {b o : Nat} {x : NodeD} (h : PNode w b o x) (hb : Below w.heap.size w w') : PNode w' b o x := by
  obtain ⟨p, c, h3, hr⟩ := h.c3
  exact ⟨(hb.cell (p := ⟨b, o, none⟩) h.lt).trans h.c0, (hb.cell (p := ⟨b, o + 1, none⟩) h.lt).trans h.c1, (hb.cell (p := ⟨b, o + 2, none⟩) h.lt).trans h.c2, p, c, (hb.cell (p := ⟨b, o + 3, none⟩) h.lt).trans h3, hr.below hb⟩
theorem PNode.box {w : World} {g : Nat} {x : NodeD} {p : Option Addr} {c : Nat} (h : Box w g [.int .i64 x.kind, .int .i64 x.a, .int .i64 x.b, .slice p x.src.length c] 55) (hr : RdI w p x.src) : PNode w g 0 x :=
  ⟨h.cell 0 rfl, h.cell 1 rfl, h.cell 2 rfl, p, c, h.cell 3 rfl, hr⟩
end Go.Proofs.YtcfhcmgmkhfjjaaGreat

namespace Go.Proofs.YtcfhcmgmkhfjjaaGreat
open Go.ChangeShapes Go.WideShapes Go.ChangeAt Go.RowKit Go.Sort
set_option linter.unusedVariables false

theorem Calls.same_below {P : Program} {f : FuncId} {args : Array Value} {w : World} {v : Value} (h : Calls P f args w fun e w' => e = .returned v ∧ w = w') : Calls P f args w fun e w' => e = .returned v ∧ Below w.heap.size w w' :=
  h.mono fun _ _ ⟨a, b⟩ => ⟨a, by rw [← b]; exact Below.refl _ _⟩
/-- A of a node of a kind is valid -/
def aB (k a t : Int) : Bool := if k = 13 then inB a 0 (min (max t 0) 4 - 1) else if kLo (k - 1).toNat ≤ kHi (k - 1).toNat then inB a (kLo (k - 1).toNat) (kHi (k - 1).toNat) else a == 0
theorem kinds_of {k : Int} (h : inB k 1 17 = true) : k = 1 ∨ k = 2 ∨ k = 3 ∨ k = 4 ∨ k = 5 ∨ k = 6 ∨ k = 7 ∨ k = 8 ∨ k = 9 ∨ k = 10 ∨ k = 11 ∨ k = 12 ∨ k = 13 ∨ k = 14 ∨ k = 15 ∨ k = 16 ∨ k = 17 := by
  rw [inB_iff] at h; omega
theorem nodeB_split (x : NodeD) (t : Int) : nodeB x t = (inB x.kind 1 17 && (aB x.kind x.a t && (((x.src.length : Int) == kAr (x.kind - 1).toNat) && (x.src.all (fun f => inB f 0 23) && (if x.kind = 17 then inB x.b 1 16 else x.b == 0))))) := by
  unfold nodeB
  cases hk : inB x.kind 1 17
  · simp
  · simp only [Bool.true_and]
    have hlen : decide ((x.src.length : Int) = kAr (x.kind - 1).toNat) = ((x.src.length : Int) == kAr (x.kind - 1).toNat) := by
      rw [Bool.eq_iff_iff, decide_eq_true_iff, beq_iff_eq]
    have hab : (abB (x.kind - 1).toNat x.a x.b && (x.kind != 13 || decide (x.a < t))) = (aB x.kind x.a t && (if x.kind = 17 then inB x.b 1 16 else x.b == 0)) := by
      rcases kinds_of hk with h | h | h | h | h | h | h | h | h | h | h | h | h | h | h | h | h <;> rw [h] <;> simp [abB, aB, kLo, kHi, kBb, Int.toNat]
      have hm : (inB x.a 0 (min (max t 0) 4 - 1)) = (inB x.a 0 3 && decide (x.a < t)) := by
        rw [Bool.eq_iff_iff]; simp only [Bool.and_eq_true, inB_iff, decide_eq_true_iff]; omega
      rw [hm]
      cases inB x.a 0 3 <;> cases (x.b == 0) <;> cases decide (x.a < t) <;> rfl
    rw [hlen]
    generalize abB (x.kind - 1).toNat x.a x.b = p at *
    generalize (x.kind != 13 || decide (x.a < t)) = q at *
    generalize aB x.kind x.a t = r at *
    generalize (if x.kind = 17 then inB x.b 1 16 else x.b == 0) = s at *
    generalize (x.src.all fun f => inB f 0 23) = u
    generalize ((x.src.length : Int) == kAr (x.kind - 1).toNat) = v
    revert hab
    cases p <;> cases q <;> cases r <;> cases s <;> cases u <;> cases v <;> simp
def hasAB (k : Int) : Bool := ([1, 2, 5, 6, 10, 11, 12, 13, 14, 17] : List Int).any (· == k)
theorem l06HasA_any (k : Int) (w : World) :
    Calls Tryz.prog 100 #[.int .i64 k] w fun e w' => e = .returned (.bool (hasAB k)) ∧ Below w.heap.size w w' := by
  have ho := OwnI.lit (B := w.heap.size) w [1, 2, 5, 6, 10, 11, 12, 13, 14, 17] (Nat.le_refl _) (by simp [maxLen])
  rcases ho.cases with ⟨h, _⟩ | ⟨g, cap, hv, _, _, _, hr⟩
  · simp at h
  · simp only [Value.slice.injEq, Option.some.injEq, Addr.mk.injEq, and_true] at hv
    obtain ⟨rfl, -, rfl⟩ := hv
    go_enter Tryz.func100, Tryz.ntmps100
    go_wp2_with fail
    refine (l00Has_any (xs := [1, 2, 5, 6, 10, 11, 12, 13, 14, 17]) _ _ hr).mono ?_
    rintro e w' ⟨rfl, rfl⟩
    rw [show ([1, 2, 5, 6, 10, 11, 12, 13, 14, 17] : List Int).any (· == k) = hasAB k from rfl]
    go_wp2_with fail
    go_ret
    exact ⟨rfl, (Below.refl _ _).alloc (Nat.le_refl _) _⟩
set_option maxHeartbeats 8000000 in
theorem l06A_any {b o : Nat} {x : NodeD} (t : Int) (w : World) (h : PNode w b o x) (hk : inB x.kind 1 17 = true) :
    Calls Tryz.prog 107 #[.pointer (some ⟨b, o, none⟩), .int .i64 t] w fun e w' => e = .returned (.bool (aB x.kind x.a t)) ∧ Below w.heap.size w w' := by
  have hlt := h.lt
  obtain ⟨c0, c1, c2, -⟩ := h
  have hres := Lib.hid (rfl : aB x.kind x.a t = aB x.kind x.a t)
  rcases kinds_of hk with e | e | e | e | e | e | e | e | e | e | e | e | e | e | e | e | e <;> rw [e] at c0 hk ⊢ <;> clear e
  case inr.inr.inr.inr.inr.inr.inr.inr.inr.inr.inr.inr.inl =>
    have e : aB 13 x.a t = inB x.a 0 (min (max t 0) 4 - 1) := by simp [aB]
    rw [e]
    clear e
    have hw : IntKind.i64.wrap (min (max t 0) 4 - 1) = min (max t 0) 4 - 1 := IntWalk.i64_in _ (by omega)
    have M1 : Hid (∀ n, Calls Tryz.prog 37 #[.int .i64 t, .int .i64 0] (w.drewN n) fun e w' => e = .returned (.int .i64 (max t 0)) ∧ w' = w.drewN n) := fun n => Calls.turn (l00Max_any _ _ _)
    generalize max t 0 = m1 at M1 hw ⊢
    have M2 : Hid (∀ n, Calls Tryz.prog 120 #[.int .i64 m1, .int .i64 4] (w.drewN n) fun e w' => e = .returned (.int .i64 (min m1 4)) ∧ w' = w.drewN n) := fun n => Calls.turn (l00Min_any _ _ _)
    generalize min m1 4 = m2 at M2 hw ⊢
    have M3 : Hid (∀ n, Calls Tryz.prog 25 #[.int .i64 x.a, .int .i64 0, .int .i64 (m2 - 1)] (w.drewN n) fun e w' => e = .returned (.bool (inB x.a 0 (m2 - 1))) ∧ w' = w.drewN n) := fun n => Calls.turn (l00In_any _ _ _ _)
    go_enter Tryz.func107, Tryz.ntmps107
    go_wp2_with fail
    go_quiet ((first | (go_at_call 37; exact Calls.quiet_of_same (M1.out _)) | (go_at_call 120; exact Calls.quiet_of_same (M2.out _)) | (go_at_call 25; exact Calls.quiet_of_same (M3.out _))))
    go_wp2_with fail
    go_ret
    exact ⟨rfl, below_drewN (Below.refl _ _) _⟩
  all_goals
    go_enter Tryz.func107, Tryz.ntmps107
    go_wp2_with (first | (go_at_call 25; refine (l00In_any _ _ _ _).mono ?_; rintro e w' ⟨rfl, rfl⟩) | (go_at_call 100; refine (l06HasA_any _ _).mono ?_; rintro e w1 ⟨rfl, hb⟩; have z1 := (hb.cell (p := ⟨b, o + 1, none⟩) hlt).trans c1; simp only [hasAB, List.any_cons, List.any_nil]) | (go_at_call 79; refine (l01Sample_any _ _).mono ?_; rintro e w' ⟨rfl, rfl⟩))
    go_ret
    first
      | exact ⟨rfl, Below.refl _ _⟩
      | exact ⟨rfl, hb⟩
/-- what is asked of a node beside its kind, A and the number of inputs -/
def restB (x : NodeD) : Bool := x.src.all (fun f => inB f 0 23) && (if x.kind = 17 then inB x.b 1 16 else x.b == 0)
set_option maxHeartbeats 8000000 in
theorem l06Ok_any {b o : Nat} {x : NodeD} (t : Int) (w : World) (h : PNode w b o x) :
    Calls Tryz.prog 74 #[.pointer (some ⟨b, o, none⟩), .int .i64 t] w fun e w' => e = .returned (.bool (nodeB x t)) ∧ Below w.heap.size w w' := by
  have HN : Hid (∀ b1 b2 b3 : Bool, inB x.kind 1 17 = b1 → aB x.kind x.a t = b2 → ((x.src.length : Int) == kAr (x.kind - 1).toNat) = b3 → nodeB x t = (b1 && (b2 && (b3 && restB x)))) := by
    intro b1 b2 b3 e1 e2 e3
    rw [nodeB_split, e1, e2, e3]; rfl
  generalize hres : nodeB x t = R at HN ⊢
  clear hres
  have HP := Lib.hid h
  have hlt := h.lt
  obtain ⟨c0, c1, c2, p, c, c3, hr⟩ := h
  have hl := hr.len
  unfold maxLen at hl
  have r0 := cell_regrown c0
  have r3 := cell_regrown c3
  have K1 : Hid (∀ (b1 : Bool), inB x.kind 1 17 = b1 → ∀ d os, Calls Tryz.prog 106 #[.int .i64 x.kind] (grow (redrawn w d) os) fun e w'' => e = .returned (.bool b1) ∧ ∃ p : Regrown, w'' = grow (redrawn w p.d) p.os) := fun b1 h1 d os => Calls.regrown_of (Calls.same_below (by rw [← h1]; exact l06Kind_any _ _))
  go_enter Tryz.func74, Tryz.ntmps74
  go_wp2_with fail
  cases e1 : inB x.kind 1 17
  case false =>
    obtain rfl := HN.out _ _ _ e1 rfl rfl
    refine wp_region_quiet_below (by kernel_rfl) (by kernel_rfl) ?_
    repeat (first | go_big_quiet_step ((go_at_call 106; exact K1.out _ e1 _ _)) | quiet_step ((go_at_call 106; exact K1.out _ e1 _ _)))
    refine wpQuiet_nil ?_
    intro _ hw'
    obtain ⟨⟨dq, osq⟩, hw''⟩ := hw'
    subst hw''
    have hq := below_regrown w dq osq
    go_wp2_with fail
    go_ret
    exact ⟨rfl, hq⟩
  have hk := e1
  have K2 : Hid (∀ (b2 : Bool), aB x.kind x.a t = b2 → ∀ d os, Calls Tryz.prog 107 #[.pointer (some ⟨b, o, none⟩), .int .i64 t] (grow (redrawn w d) os) fun e w'' => e = .returned (.bool b2) ∧ ∃ p : Regrown, w'' = grow (redrawn w p.d) p.os) := fun b2 h2 d os => Calls.regrown_of (by rw [← h2]; exact l06A_any t _ (HP.out.below (below_regrown w d os)) e1)
  cases e2 : aB x.kind x.a t
  case false =>
    obtain rfl := HN.out _ _ _ e1 e2 rfl
    refine wp_region_quiet_below (by kernel_rfl) (by kernel_rfl) ?_
    repeat (first | go_big_quiet_step ((first | (go_at_call 106; exact K1.out _ e1 _ _) | (go_at_call 107; exact K2.out _ e2 _ _))) | quiet_step ((first | (go_at_call 106; exact K1.out _ e1 _ _) | (go_at_call 107; exact K2.out _ e2 _ _))))
    refine wpQuiet_nil ?_
    intro _ hw'
    obtain ⟨⟨dq, osq⟩, hw''⟩ := hw'
    subst hw''
    have hq := below_regrown w dq osq
    go_wp2_with fail
    go_ret
    exact ⟨rfl, hq⟩
  have K3 : Hid (∀ d os, Calls Tryz.prog 63 #[.int .i64 x.kind] (grow (redrawn w d) os) fun e w'' => e = .returned (.int .i64 (kAr (x.kind - 1).toNat)) ∧ ∃ p : Regrown, w'' = grow (redrawn w p.d) p.os) := fun d os => Calls.regrown_of (by
    obtain ⟨i, hi, he⟩ := kind_of_in hk
    rw [he, show ((i : Int) + 1 - 1).toNat = i by omega]
    exact l06Arity_any i hi _)
  generalize kAr (x.kind - 1).toNat = A at K3 HN
  by_cases e3 : (x.src.length : Int) = A
  case neg =>
    have n3 : ((x.src.length : Int) != A) = true := by rw [bne_iff_ne]; exact e3
    have n4 : decide ((x.src.length : Int) = A) = false := decide_eq_false e3
    obtain rfl := HN.out _ _ _ e1 e2 (by rw [beq_eq_false_iff_ne]; exact e3)
    refine wp_region_quiet_below (by kernel_rfl) (by kernel_rfl) ?_
    repeat (first | go_big_quiet_step ((first | (go_at_call 106; exact K1.out _ e1 _ _) | (go_at_call 107; exact K2.out _ e2 _ _) | (go_at_call 63; exact K3.out _ _))) | quiet_step ((first | (go_at_call 106; exact K1.out _ e1 _ _) | (go_at_call 107; exact K2.out _ e2 _ _) | (go_at_call 63; exact K3.out _ _))))
    refine wpQuiet_nil ?_
    intro _ hw'
    obtain ⟨⟨dq, osq⟩, hw''⟩ := hw'
    subst hw''
    have hq := below_regrown w dq osq
    go_wp2_with fail
    go_ret
    exact ⟨rfl, hq⟩
  have n3 : ((x.src.length : Int) != A) = false := by rw [bne_eq_false_iff_eq]; exact e3
  have n4 : decide ((x.src.length : Int) = A) = true := decide_eq_true e3
  obtain rfl := HN.out _ _ _ e1 e2 (by rw [beq_iff_eq]; exact e3)
  clear e3
  refine wp_region_quiet_below (by kernel_rfl) (by kernel_rfl) ?_
  repeat (first | go_big_quiet_step ((first | (go_at_call 106; exact K1.out _ e1 _ _) | (go_at_call 107; exact K2.out _ e2 _ _) | (go_at_call 63; exact K3.out _ _))) | quiet_step ((first | (go_at_call 106; exact K1.out _ e1 _ _) | (go_at_call 107; exact K2.out _ e2 _ _) | (go_at_call 63; exact K3.out _ _))))
  refine wpQuiet_nil ?_
  intro _ hw'
  obtain ⟨⟨dq, osq⟩, hw''⟩ := hw'
  subst hw''
  have hq := below_regrown w dq osq
  generalize grow (redrawn w dq) osq = F at hq ⊢
  have hf := HP.out.below hq
  obtain ⟨f0, -, f2, -⟩ := hf
  have f3 := (hq.cell (p := ⟨b, o + 3, none⟩) hlt).trans c3
  have hrF := hr.below hq
  clear r0 r3 c0 c1 c2 c3 K1 K2 K3 n3 n4 e1 e2 hk HN
  go_wp2_with fail
  go_loop [5] (fun j => ∃ k : Nat, k ≤ x.src.length ∧ j = .int .i64 k ∧ (x.src.take k).all (fun f => inB f 0 23) = true) (fun j => x.src.length - (intOf j).toNat)
  case atStart => exact ⟨0, Nat.zero_le _, rfl, by simp⟩
  case round =>
    obtain ⟨k, hk2, rfl, hall⟩ := hrel
    have HA := Lib.hid hall; clear hall
    by_cases hlt2 : k < x.src.length
    · obtain ⟨b1, o1, rfl, hb1, hc1⟩ := hrF.pos hlt2
      have hck := hc1 k hlt2
      clear hc1
      generalize hx : x.src[k] = f at hck
      have HX := Lib.hid hx; clear hx
      cases hs : inB f 0 23
      · go_wp2_with (go_at_call 25; refine (l00In_any _ _ _ _).mono ?_; rintro e w' ⟨rfl, rfl⟩)
        go_ret
        exact ⟨ret_bool (by rw [restB, all_false hlt2 (by rw [HX.out]; exact hs)]; rfl), hq⟩
      · go_wp2_with (go_at_call 25; refine (l00In_any _ _ _ _).mono ?_; rintro e w' ⟨rfl, rfl⟩)
        go_round
        case rel => exact ⟨k + 1, by omega, by go_num, all_step hlt2 HA.out (by rw [HX.out]; exact hs)⟩
        case measure => simp [intOf] <;> omega
    · obtain rfl : k = x.src.length := by omega
      have hd := Lib.hid (all_done HA.out)
      by_cases h17 : x.kind = 17
      · have e17 : (x.kind == 17) = true := by rw [beq_iff_eq]; exact h17
        have HR : Hid (restB x = inB x.b 1 16) := by unfold Hid restB; rw [hd.out, if_pos h17]; rfl
        clear h17
        go_wp2_with (go_at_call 25; refine (l00In_any _ _ _ _).mono ?_; rintro e w' ⟨rfl, rfl⟩)
        go_ret
        exact ⟨ret_bool HR.out.symm, hq⟩
      · have e17 : (x.kind == 17) = false := by rw [beq_eq_false_iff_ne]; exact h17
        have HR : Hid (restB x = (x.b == 0)) := by unfold Hid restB; rw [hd.out, if_neg h17]; rfl
        clear h17
        go_wp2_with fail
        go_ret
        exact ⟨ret_bool HR.out.symm, hq⟩
end Go.Proofs.YtcfhcmgmkhfjjaaGreat

namespace Go.Proofs.YtcfhcmgmkhfjjaaGreat
open Go.ChangeShapes Go.WideShapes Go.ChangeAt Go.RowKit Go.Sort
set_option linter.unusedVariables false

set_option maxHeartbeats 4000000 in
theorem l06Out_1 {b o : Nat} {vt vs : Value} {ba oa na ca : Nat} {x0 : Int} (w : World) (c0 : w.cell? ⟨b, o, none⟩ = some (.int .i64 1)) (hx0 : w.cell? ⟨ba, oa, none⟩ = some (.int .i64 x0)) (la : 1 ≤ na) :
    Calls Tryz.prog 109 #[.pointer (some ⟨b, o, none⟩), vt, .slice (some ⟨ba, oa, none⟩) na ca, vs] w fun e w' => e = .returned (.int .i64 (x0)) ∧ Below w.heap.size w w' := by
  go_enter Tryz.func109, Tryz.ntmps109
  go_wp2_with fail
  go_ret
  exact ⟨rfl, Below.refl _ _⟩
set_option maxHeartbeats 4000000 in
theorem l06Out_2 {b o : Nat} {vt va vs : Value} {A : Int} (w : World) (c0 : w.cell? ⟨b, o, none⟩ = some (.int .i64 2)) (c1 : w.cell? ⟨b, o + 1, none⟩ = some (.int .i64 A)) :
    Calls Tryz.prog 109 #[.pointer (some ⟨b, o, none⟩), vt, va, vs] w fun e w' => e = .returned (.int .i64 (A)) ∧ Below w.heap.size w w' := by
  go_enter Tryz.func109, Tryz.ntmps109
  go_wp2_with fail
  go_ret
  exact ⟨rfl, Below.refl _ _⟩
set_option maxHeartbeats 4000000 in
theorem l06Out_3 {b o : Nat} {vt vs : Value} {ba oa na ca : Nat} {x0 x1 : Int} (w : World) (c0 : w.cell? ⟨b, o, none⟩ = some (.int .i64 3)) (hx0 : w.cell? ⟨ba, oa, none⟩ = some (.int .i64 x0)) (hx1 : w.cell? ⟨ba, oa + 1, none⟩ = some (.int .i64 x1)) (la : 2 ≤ na) :
    Calls Tryz.prog 109 #[.pointer (some ⟨b, o, none⟩), vt, .slice (some ⟨ba, oa, none⟩) na ca, vs] w fun e w' => e = .returned (.int .i64 (smp (x0 + x1))) ∧ Below w.heap.size w w' := by
  go_enter Tryz.func109, Tryz.ntmps109
  go_wp2_with fail
  go_quiet ((go_at_call 121; exact Calls.quiet_of_same (Calls.turn (l01Add_any _ _ _))))
  go_wp2_with fail
  go_ret
  exact ⟨rfl, below_drewN (Below.refl _ _) _⟩
set_option maxHeartbeats 4000000 in
theorem l06Out_4 {b o : Nat} {vt vs : Value} {ba oa na ca : Nat} {x0 x1 : Int} (w : World) (c0 : w.cell? ⟨b, o, none⟩ = some (.int .i64 4)) (hx0 : w.cell? ⟨ba, oa, none⟩ = some (.int .i64 x0)) (hx1 : w.cell? ⟨ba, oa + 1, none⟩ = some (.int .i64 x1)) (la : 2 ≤ na) :
    Calls Tryz.prog 109 #[.pointer (some ⟨b, o, none⟩), vt, .slice (some ⟨ba, oa, none⟩) na ca, vs] w fun e w' => e = .returned (.int .i64 (smp (x0 - x1))) ∧ Below w.heap.size w w' := by
  go_enter Tryz.func109, Tryz.ntmps109
  go_wp2_with fail
  go_quiet ((go_at_call 122; exact Calls.quiet_of_same (Calls.turn (l01Sub_any _ _ _))))
  go_wp2_with fail
  go_ret
  exact ⟨rfl, below_drewN (Below.refl _ _) _⟩
set_option maxHeartbeats 4000000 in
theorem l06Out_5 {b o : Nat} {vt vs : Value} {ba oa na ca : Nat} {A x0 : Int} (w : World) (c0 : w.cell? ⟨b, o, none⟩ = some (.int .i64 5)) (c1 : w.cell? ⟨b, o + 1, none⟩ = some (.int .i64 A)) (hx0 : w.cell? ⟨ba, oa, none⟩ = some (.int .i64 x0)) (la : 1 ≤ na) :
    Calls Tryz.prog 109 #[.pointer (some ⟨b, o, none⟩), vt, .slice (some ⟨ba, oa, none⟩) na ca, vs] w fun e w' => e = .returned (.int .i64 (smp (A * x0))) ∧ Below w.heap.size w w' := by
  go_enter Tryz.func109, Tryz.ntmps109
  go_wp2_with fail
  go_quiet ((go_at_call 123; exact Calls.quiet_of_same (Calls.turn (l01Mul_any _ _ _))))
  go_wp2_with fail
  go_ret
  exact ⟨rfl, below_drewN (Below.refl _ _) _⟩
set_option maxHeartbeats 4000000 in
theorem l06Out_6 {b o : Nat} {vt va : Value} {bs os ns cs : Nat} {s0 : Int} (w : World) (c0 : w.cell? ⟨b, o, none⟩ = some (.int .i64 6)) (hs0 : w.cell? ⟨bs, os, none⟩ = some (.int .i64 s0)) (ls : 1 ≤ ns) :
    Calls Tryz.prog 109 #[.pointer (some ⟨b, o, none⟩), vt, va, .slice (some ⟨bs, os, none⟩) ns cs] w fun e w' => e = .returned (.int .i64 (s0)) ∧ Below w.heap.size w w' := by
  go_enter Tryz.func109, Tryz.ntmps109
  go_wp2_with fail
  go_ret
  exact ⟨rfl, Below.refl _ _⟩
set_option maxHeartbeats 4000000 in
theorem l06Out_12 {b o : Nat} {vt va : Value} {bs os ns cs : Nat} {s0 : Int} (w : World) (c0 : w.cell? ⟨b, o, none⟩ = some (.int .i64 12)) (hs0 : w.cell? ⟨bs, os, none⟩ = some (.int .i64 s0)) (ls : 1 ≤ ns) :
    Calls Tryz.prog 109 #[.pointer (some ⟨b, o, none⟩), vt, va, .slice (some ⟨bs, os, none⟩) ns cs] w fun e w' => e = .returned (.int .i64 (s0)) ∧ Below w.heap.size w w' := by
  go_enter Tryz.func109, Tryz.ntmps109
  go_wp2_with fail
  go_ret
  exact ⟨rfl, Below.refl _ _⟩
set_option maxHeartbeats 4000000 in
theorem l06Out_14 {b o : Nat} {vt va : Value} {bs os ns cs : Nat} {s0 : Int} (w : World) (c0 : w.cell? ⟨b, o, none⟩ = some (.int .i64 14)) (hs0 : w.cell? ⟨bs, os, none⟩ = some (.int .i64 s0)) (ls : 1 ≤ ns) :
    Calls Tryz.prog 109 #[.pointer (some ⟨b, o, none⟩), vt, va, .slice (some ⟨bs, os, none⟩) ns cs] w fun e w' => e = .returned (.int .i64 (s0)) ∧ Below w.heap.size w w' := by
  go_enter Tryz.func109, Tryz.ntmps109
  go_wp2_with fail
  go_ret
  exact ⟨rfl, Below.refl _ _⟩
set_option maxHeartbeats 4000000 in
theorem l06Out_7 {b o : Nat} {vt : Value} {ba oa na ca : Nat} {bs os ns cs : Nat} {x0 s0 : Int} (w : World) (c0 : w.cell? ⟨b, o, none⟩ = some (.int .i64 7)) (hx0 : w.cell? ⟨ba, oa, none⟩ = some (.int .i64 x0)) (hs0 : w.cell? ⟨bs, os, none⟩ = some (.int .i64 s0)) (la : 1 ≤ na) (ls : 1 ≤ ns) :
    Calls Tryz.prog 109 #[.pointer (some ⟨b, o, none⟩), vt, .slice (some ⟨ba, oa, none⟩) na ca, .slice (some ⟨bs, os, none⟩) ns cs] w fun e w' => e = .returned (.int .i64 (smp (s0 + x0))) ∧ Below w.heap.size w w' := by
  go_enter Tryz.func109, Tryz.ntmps109
  go_wp2_with fail
  go_quiet ((go_at_call 121; exact Calls.quiet_of_same (Calls.turn (l01Add_any _ _ _))))
  go_wp2_with fail
  go_ret
  exact ⟨rfl, below_drewN (Below.refl _ _) _⟩
set_option maxHeartbeats 4000000 in
theorem l06Out_8 {b o : Nat} {vt : Value} {ba oa na ca : Nat} {bs os ns cs : Nat} {x0 s0 : Int} (w : World) (c0 : w.cell? ⟨b, o, none⟩ = some (.int .i64 8)) (hx0 : w.cell? ⟨ba, oa, none⟩ = some (.int .i64 x0)) (hs0 : w.cell? ⟨bs, os, none⟩ = some (.int .i64 s0)) (la : 1 ≤ na) (ls : 1 ≤ ns) :
    Calls Tryz.prog 109 #[.pointer (some ⟨b, o, none⟩), vt, .slice (some ⟨ba, oa, none⟩) na ca, .slice (some ⟨bs, os, none⟩) ns cs] w fun e w' => e = .returned (.int .i64 (smp (x0 - s0))) ∧ Below w.heap.size w w' := by
  go_enter Tryz.func109, Tryz.ntmps109
  go_wp2_with fail
  go_quiet ((go_at_call 122; exact Calls.quiet_of_same (Calls.turn (l01Sub_any _ _ _))))
  go_wp2_with fail
  go_ret
  exact ⟨rfl, below_drewN (Below.refl _ _) _⟩
set_option maxHeartbeats 4000000 in
theorem l06Out_9 {b o : Nat} {vt vs : Value} {ba oa na ca : Nat} {x0 x1 : Int} (w : World) (c0 : w.cell? ⟨b, o, none⟩ = some (.int .i64 9)) (hx0 : w.cell? ⟨ba, oa, none⟩ = some (.int .i64 x0)) (hx1 : w.cell? ⟨ba, oa + 1, none⟩ = some (.int .i64 x1)) (la : 2 ≤ na) :
    Calls Tryz.prog 109 #[.pointer (some ⟨b, o, none⟩), vt, .slice (some ⟨ba, oa, none⟩) na ca, vs] w fun e w' => e = .returned (.int .i64 (smp (x0 * x1))) ∧ Below w.heap.size w w' := by
  go_enter Tryz.func109, Tryz.ntmps109
  go_wp2_with fail
  go_quiet ((go_at_call 123; exact Calls.quiet_of_same (Calls.turn (l01Mul_any _ _ _))))
  go_wp2_with fail
  go_ret
  exact ⟨rfl, below_drewN (Below.refl _ _) _⟩
set_option maxHeartbeats 4000000 in
theorem l06Out_15_pos {b o : Nat} {vt vs : Value} {ba oa na ca : Nat} {x0 x1 : Int} (w : World) (c0 : w.cell? ⟨b, o, none⟩ = some (.int .i64 15)) (hx0 : w.cell? ⟨ba, oa, none⟩ = some (.int .i64 x0)) (hx1 : w.cell? ⟨ba, oa + 1, none⟩ = some (.int .i64 x1)) (la : 2 ≤ na) (hx : 0 ≤ x0) :
    Calls Tryz.prog 109 #[.pointer (some ⟨b, o, none⟩), vt, .slice (some ⟨ba, oa, none⟩) na ca, vs] w fun e w' => e = .returned (.int .i64 (x1)) ∧ Below w.heap.size w w' := by
  go_enter Tryz.func109, Tryz.ntmps109
  go_wp2_with fail
  go_ret
  exact ⟨rfl, Below.refl _ _⟩
set_option maxHeartbeats 4000000 in
theorem l06Out_15_neg {b o : Nat} {vt vs : Value} {ba oa na ca : Nat} {x0 x2 : Int} (w : World) (c0 : w.cell? ⟨b, o, none⟩ = some (.int .i64 15)) (hx0 : w.cell? ⟨ba, oa, none⟩ = some (.int .i64 x0)) (hx2 : w.cell? ⟨ba, oa + 2, none⟩ = some (.int .i64 x2)) (la : 3 ≤ na) (hx : ¬ 0 ≤ x0) :
    Calls Tryz.prog 109 #[.pointer (some ⟨b, o, none⟩), vt, .slice (some ⟨ba, oa, none⟩) na ca, vs] w fun e w' => e = .returned (.int .i64 (x2)) ∧ Below w.heap.size w w' := by
  go_enter Tryz.func109, Tryz.ntmps109
  go_wp2_with fail
  go_ret
  exact ⟨rfl, Below.refl _ _⟩
set_option maxHeartbeats 4000000 in
theorem l06Out_16_pos {b o : Nat} {vt vs : Value} {ba oa na ca : Nat} {x0 x1 : Int} (w : World) (c0 : w.cell? ⟨b, o, none⟩ = some (.int .i64 16)) (hx0 : w.cell? ⟨ba, oa, none⟩ = some (.int .i64 x0)) (hx1 : w.cell? ⟨ba, oa + 1, none⟩ = some (.int .i64 x1)) (la : 2 ≤ na) (hx : 0 < x1) :
    Calls Tryz.prog 109 #[.pointer (some ⟨b, o, none⟩), vt, .slice (some ⟨ba, oa, none⟩) na ca, vs] w fun e w' => e = .returned (.int .i64 (x0)) ∧ Below w.heap.size w w' := by
  go_enter Tryz.func109, Tryz.ntmps109
  go_wp2_with fail
  go_ret
  exact ⟨rfl, Below.refl _ _⟩
set_option maxHeartbeats 4000000 in
theorem l06Out_16_neg {b o : Nat} {vt : Value} {ba oa na ca : Nat} {bs os ns cs : Nat} {x1 s0 : Int} (w : World) (c0 : w.cell? ⟨b, o, none⟩ = some (.int .i64 16)) (hx1 : w.cell? ⟨ba, oa + 1, none⟩ = some (.int .i64 x1)) (hs0 : w.cell? ⟨bs, os, none⟩ = some (.int .i64 s0)) (la : 2 ≤ na) (ls : 1 ≤ ns) (hx : ¬ 0 < x1) :
    Calls Tryz.prog 109 #[.pointer (some ⟨b, o, none⟩), vt, .slice (some ⟨ba, oa, none⟩) na ca, .slice (some ⟨bs, os, none⟩) ns cs] w fun e w' => e = .returned (.int .i64 (s0)) ∧ Below w.heap.size w w' := by
  go_enter Tryz.func109, Tryz.ntmps109
  go_wp2_with fail
  go_ret
  exact ⟨rfl, Below.refl _ _⟩
set_option maxHeartbeats 4000000 in
theorem l06Out_17 {b o : Nat} {vt : Value} {ba oa na ca : Nat} {bs os ns cs : Nat} {A x0 s0 : Int} (w : World) (c0 : w.cell? ⟨b, o, none⟩ = some (.int .i64 17)) (c1 : w.cell? ⟨b, o + 1, none⟩ = some (.int .i64 A)) (hx0 : w.cell? ⟨ba, oa, none⟩ = some (.int .i64 x0)) (hs0 : w.cell? ⟨bs, os, none⟩ = some (.int .i64 s0)) (la : 1 ≤ na) (ls : 1 ≤ ns) :
    Calls Tryz.prog 109 #[.pointer (some ⟨b, o, none⟩), vt, .slice (some ⟨ba, oa, none⟩) na ca, .slice (some ⟨bs, os, none⟩) ns cs] w fun e w' => e = .returned (.int .i64 (smp (x0 + smp (A * s0)))) ∧ Below w.heap.size w w' := by
  go_enter Tryz.func109, Tryz.ntmps109
  go_wp2_with fail
  go_quiet ((first | (go_at_call 123; exact Calls.quiet_of_same (Calls.turn (l01Mul_any _ _ _))) | (go_at_call 121; exact Calls.quiet_of_same (Calls.turn (l01Add_any _ _ _)))))
  go_wp2_with fail
  go_ret
  exact ⟨rfl, below_drewN (Below.refl _ _) _⟩
set_option maxHeartbeats 4000000 in
theorem l06Out_11 {b o : Nat} {vt vs : Value} {ba oa na ca : Nat} {A x0 : Int} (w : World) (c0 : w.cell? ⟨b, o, none⟩ = some (.int .i64 11)) (c1 : w.cell? ⟨b, o + 1, none⟩ = some (.int .i64 A)) (hx0 : w.cell? ⟨ba, oa, none⟩ = some (.int .i64 x0)) (la : 1 ≤ na) (hA : 0 ≤ A ∧ A ≤ 2147483647) :
    Calls Tryz.prog 109 #[.pointer (some ⟨b, o, none⟩), vt, .slice (some ⟨ba, oa, none⟩) na ca, vs] w fun e w' => e = .returned (.int .i64 (max (-A) (min x0 A))) ∧ Below w.heap.size w w' := by
  have hw : IntKind.i64.wrap (-A) = -A := IntWalk.i64_in _ (by omega)
  go_enter Tryz.func109, Tryz.ntmps109
  go_wp2_with fail
  go_quiet ((first | (go_at_call 120; exact Calls.quiet_of_same (Calls.turn (l00Min_any _ _ _))) | (go_at_call 37; exact Calls.quiet_of_same (Calls.turn (l00Max_any _ _ _)))))
  go_wp2_with fail
  go_ret
  exact ⟨rfl, below_drewN (Below.refl _ _) _⟩
set_option maxHeartbeats 4000000 in
theorem l06Out_10 {b o : Nat} {vt vs : Value} {ba oa na ca : Nat} {A x0 : Int} (w : World) (c0 : w.cell? ⟨b, o, none⟩ = some (.int .i64 10)) (c1 : w.cell? ⟨b, o + 1, none⟩ = some (.int .i64 A)) (hx0 : w.cell? ⟨ba, oa, none⟩ = some (.int .i64 x0)) (la : 1 ≤ na) (hA : 0 ≤ A ∧ A ≤ 31) (i0 : -2147483648 ≤ x0 ∧ x0 ≤ 2147483647) :
    Calls Tryz.prog 109 #[.pointer (some ⟨b, o, none⟩), vt, .slice (some ⟨ba, oa, none⟩) na ca, vs] w fun e w' => e = .returned (.int .i64 (x0 / 2 ^ A.toNat)) ∧ Below w.heap.size w w' := by
  go_enter Tryz.func109, Tryz.ntmps109
  go_wp2_with fail
  go_quiet (fail)
  go_wp2_with fail
  go_ret
  exact ⟨rfl, below_drewN (Below.refl _ _) _⟩
end Go.Proofs.YtcfhcmgmkhfjjaaGreat

namespace Go.Proofs.YtcfhcmgmkhfjjaaGreat
open Go.ChangeShapes Go.WideShapes Go.ChangeAt Go.RowKit Go.Sort
set_option linter.unusedVariables false

theorem isNode_v {v : Value} {x : NodeD} (t : Int) (w : World) (h : VNode w v x) :
    Calls Tryz.prog 67 #[v, .int .i64 t] w fun e w' => e = .returned (.bool (nodeB x t)) ∧ Below w.heap.size w w' := by
  obtain ⟨p, c, rfl, hr⟩ := h
  cases hk : inB x.kind 1 17
  case true =>
    obtain ⟨k, a, b, src⟩ := x
    obtain ⟨i, hi, rfl⟩ := kind_of_in hk
    exact isNode_in i hi a b t w hr
  have e : nodeB x t = false := by rw [nodeB, hk]; rfl
  rw [e]
  clear e
  go_enter Tryz.func67, Tryz.ntmps67
  go_wp2_with (go_at_call 103; refine (isKind_any _ _).mono ?_; rintro e w' ⟨rfl, rfl⟩)
  go_ret
  exact ⟨rfl, (Below.refl _ _).alloc (Nat.le_refl _) _⟩
theorem zeros_any (n : Nat) (w : World) (hn : n ≤ 1048576) :
    Calls Tryz.prog 70 #[.int .i64 n] w fun e w' => ∃ v, e = .returned v ∧ OwnI w.heap.size w' v (List.replicate n 0) ∧ Below w.heap.size w w' := by
  have hmk := fun w => run_make_row' (P := Tryz.prog) 26 2 (.int .i64 0) 8 Tryz.underlying26 infoI rfl .i64 .i64 n (by omega) (by omega) w
  have h0 := OwnI.made (B := w.heap.size) w n (Nat.le_refl _) (by unfold maxLen; omega)
  go_enter Tryz.func70, Tryz.ntmps70
  go_wp2_with fail
  go_ret
  exact ⟨_, rfl, h0, (Below.refl _ _).alloc (Nat.le_refl _) _⟩
theorem zerosI_any (n : Int) (w : World) (h0 : 0 ≤ n) (hn : n ≤ 1048576) :
    Calls Tryz.prog 70 #[.int .i64 n] w fun e w' => ∃ v, e = .returned v ∧ OwnI w.heap.size w' v (List.replicate n.toNat 0) ∧ Below w.heap.size w w' := by
  obtain ⟨m, rfl⟩ : ∃ m : Nat, n = m := ⟨n.toNat, by omega⟩
  exact zeros_any m w (by omega)
set_option maxHeartbeats 800000 in
theorem l03Zeros_any (n : Int) (w : World) (h0 : 0 ≤ n) (hn : n ≤ 1048576) :
    Calls Tryz.prog 108 #[.int .i64 n] w fun e w' => ∃ v, e = .returned v ∧ OwnI w.heap.size w' v (List.replicate n.toNat 0) ∧ Below w.heap.size w w' := by
  obtain ⟨m, rfl⟩ : ∃ m : Nat, n = m := ⟨n.toNat, by omega⟩
  have hl := OwnI.lit (B := w.heap.size) w [] (Nat.le_refl _) (by simp [maxLen])
  go_enter Tryz.func108, Tryz.ntmps108
  go_wp2_with fail
  go_loopw [0, 3] (fun i v wr => ∃ k : Nat, k ≤ m ∧ i = .int .i64 k ∧ OwnI w.heap.size wr v (List.replicate (m - k) 0) ∧ Below w.heap.size w wr) (fun i _ _ => (intOf i).toNat)
  case atStart => exact ⟨m, Nat.le_refl _, rfl, by simpa using hl, (Below.refl _ _).alloc (Nat.le_refl _) _⟩
  case round =>
    obtain ⟨k, hk, rfl, hown, hbel⟩ := hrel
    clear hl
    by_cases hlt : 0 < k
    · obtain ⟨j, rfl⟩ : ∃ j, k = j + 1 := ⟨k - 1, by omega⟩
      have hst : Hid (List.replicate (m - j) (0 : Int) = List.replicate (m - (j + 1)) 0 ++ [0]) := by
        unfold Hid
        rw [show m - j = (m - (j + 1)) + 1 by omega, List.replicate_succ']
      have hlen : (List.replicate (m - (j + 1)) (0 : Int)).length < 17592186044415 := by simp; omega
      have hsz := hbel.size
      have hj : ((j : Int) + 1 - 1) = j := by omega
      go_wp2_with (at_builtin; refine wpList_append_one rfl _ _ rfl rfl hown rfl hbel hlen hsz (Nat.le_refl _) ?_; intro v' w1 hown1 hbel1 _ _)
      go_roundw
      case rel => exact ⟨j, by omega, by first | rfl | go_num, by rw [hst.out]; exact hown1, hbel1⟩
      case measure => simp [intOf] <;> omega
    · obtain rfl : k = 0 := by omega
      go_wp2_with fail
      go_ret
      exact ⟨_, rfl, by simpa using hown, hbel⟩
/-- the state of a node at the beginning -/
def startL (x : NodeD) : List Int :=
  if x.kind = 6 then List.replicate x.a.toNat 0 else if x.kind = 17 then List.replicate x.b.toNat 0 else if x.kind = 7 ∨ x.kind = 8 ∨ x.kind = 16 then [0] else if x.kind = 12 ∨ x.kind = 14 then [x.a] else []
structure StartOk (x : NodeD) : Prop where
  a : x.kind = 6 → 0 ≤ x.a ∧ x.a ≤ 16
  b : x.kind = 17 → 0 ≤ x.b ∧ x.b ≤ 16
theorem startOk_of {x : NodeD} {t : Int} (h : nodeB x t = true) : StartOk x := by
  rw [nodeB_split] at h
  simp only [Bool.and_eq_true] at h
  obtain ⟨_, h2, _, _, h5⟩ := h
  constructor
  · intro e
    rw [e] at h2
    have : inB x.a 1 16 = true := h2
    rw [inB_iff] at this
    omega
  · intro e
    rw [if_pos e] at h5
    rw [inB_iff] at h5
    omega
theorem startL_length {x : NodeD} (h : StartOk x) : (startL x).length ≤ 16 := by
  unfold startL
  split
  · rename_i e; have := h.a e; rw [List.length_replicate]; omega
  split
  · rename_i e; have := h.b e; rw [List.length_replicate]; omega
  split
  · simp
  split <;> simp
set_option maxHeartbeats 4000000 in
theorem l06Start_any {b o : Nat} {x : NodeD} (w : World) (h : PNode w b o x) (ok : StartOk x) :
    Calls Tryz.prog 80 #[.pointer (some ⟨b, o, none⟩)] w fun e w' => ∃ u, e = .returned u ∧ OwnI w.heap.size w' u (startL x) ∧ Below w.heap.size w w' := by
  obtain ⟨c0, c1, c2, -⟩ := h
  have fin : Hid (∀ (n : Int), 0 ≤ n → n ≤ 16 → startL x = List.replicate n.toNat 0 → Calls Tryz.prog 108 #[.int .i64 n] w fun e w' => ∃ u, e = .returned u ∧ OwnI w.heap.size w' u (startL x) ∧ Below w.heap.size w w') := fun n h0 h1 he =>
    (l03Zeros_any n w h0 (by omega)).mono fun e w' ⟨u, h2, h3, h4⟩ => ⟨u, h2, by rw [he]; exact h3, h4⟩
  have OK := Lib.hid ok
  clear ok
  by_cases k6 : x.kind = 6
  · have hs : startL x = List.replicate x.a.toNat 0 := by unfold startL; rw [if_pos k6]
    have F := Lib.hid (fin.out x.a (OK.out.a k6).1 (OK.out.a k6).2 hs)
    rw [k6] at c0
    clear hs k6
    go_enter Tryz.func80, Tryz.ntmps80
    go_wp2_with (go_at_call 108; refine F.out.mono ?_; rintro e w1 ⟨u, rfl, ho, hb⟩)
    go_ret
    exact ⟨_, rfl, ho, hb⟩
  have q6 : (x.kind == 6) = false := by rw [beq_eq_false_iff_ne]; exact k6
  by_cases k17 : x.kind = 17
  · have hs : startL x = List.replicate x.b.toNat 0 := by unfold startL; rw [if_neg k6, if_pos k17]
    have F := Lib.hid (fin.out x.b (OK.out.b k17).1 (OK.out.b k17).2 hs)
    rw [k17] at c0
    clear hs k17 k6 q6
    go_enter Tryz.func80, Tryz.ntmps80
    go_wp2_with (go_at_call 108; refine F.out.mono ?_; rintro e w1 ⟨u, rfl, ho, hb⟩)
    go_ret
    exact ⟨_, rfl, ho, hb⟩
  have q17 : (x.kind == 17) = false := by rw [beq_eq_false_iff_ne]; exact k17
  by_cases k1 : x.kind = 7 ∨ x.kind = 8 ∨ x.kind = 16
  · have hs : Hid (startL x = [0]) := by unfold Hid startL; rw [if_neg k6, if_neg k17, if_pos k1]
    have ho := Lib.hid (OwnI.lit (B := w.heap.size) w [0] (Nat.le_refl _) (by simp [maxLen]))
    clear k17 k6
    rcases k1 with k | k | k
    all_goals
      rw [k] at c0
      clear q6 q17 k
      go_enter Tryz.func80, Tryz.ntmps80
      go_wp2_with fail
      go_ret
      exact ⟨_, rfl, by rw [hs.out]; exact ho.out, (Below.refl _ _).alloc (Nat.le_refl _) _⟩
  by_cases k2 : x.kind = 12 ∨ x.kind = 14
  · have hs : Hid (startL x = [x.a]) := by unfold Hid startL; rw [if_neg k6, if_neg k17, if_neg k1, if_pos k2]
    have ho := Lib.hid (OwnI.lit (B := w.heap.size) w [x.a] (Nat.le_refl _) (by simp [maxLen]))
    clear k17 k6 k1
    rcases k2 with k | k
    all_goals
      rw [k] at c0
      clear q6 q17 k
      go_enter Tryz.func80, Tryz.ntmps80
      go_wp2_with fail
      go_ret
      exact ⟨_, rfl, by rw [hs.out]; exact ho.out, (Below.refl _ _).alloc (Nat.le_refl _) _⟩
  have hs : Hid (startL x = []) := by unfold Hid startL; rw [if_neg k6, if_neg k17, if_neg k1, if_neg k2]
  have ho := Lib.hid (OwnI.lit (B := w.heap.size) w [] (Nat.le_refl _) (by simp [maxLen]))
  have q7 : (x.kind == 7) = false := by rw [beq_eq_false_iff_ne]; omega
  have q8 : (x.kind == 8) = false := by rw [beq_eq_false_iff_ne]; omega
  have q16 : (x.kind == 16) = false := by rw [beq_eq_false_iff_ne]; omega
  have q12 : (x.kind == 12) = false := by rw [beq_eq_false_iff_ne]; omega
  have q14 : (x.kind == 14) = false := by rw [beq_eq_false_iff_ne]; omega
  clear k17 k6 k1 k2
  go_enter Tryz.func80, Tryz.ntmps80
  go_wp2_with fail
  go_ret
  exact ⟨_, rfl, by rw [hs.out]; exact ho.out, (Below.refl _ _).alloc (Nat.le_refl _) _⟩
def startRes (x : NodeD) : List Int := if nodeB x 4 then startL x else []
def startSize (x : NodeD) : Int := if nodeB x 4 then ((startL x).length : Int) else -1
theorem startRes_small (x : NodeD) : cntI (startRes x) ≤ 1048576 := by
  unfold cntI startRes
  split
  · rename_i h
    have := startL_length (startOk_of h)
    omega
  · simp
/-- a list of the call's own -/
def RetL (w : World) (xs : List Int) (e : Ending) (w' : World) : Prop := ∃ u L, e = .returned u ∧ OwnLI w.heap.size w' u xs L ∧ Dis L ∧ Below w.heap.size w w'
theorem OwnLI.nilu (B : Nat) (w : World) : OwnLI B w (.slice none 0 0) [] [.slice none 0 0] := ⟨OwnI.nil _ _, rfl⟩
end Go.Proofs.YtcfhcmgmkhfjjaaGreat
