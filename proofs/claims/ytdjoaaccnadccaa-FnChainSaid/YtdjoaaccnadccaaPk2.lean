/-
  Several texts in one: TyNode, Kinds, KindFns, Node, PNode.
-/
import Derived.Test.YtdjoaaccnadccaaPk1
namespace Go.Proofs.Ytdjoaaccnadccaa
open Go.ChangeShapes Go.WideShapes Go.ChangeAt Go.RowKit
set_option linter.unusedVariables false

structure NodeD where
  kind : Int
  a : Int
  b : Int
  src : List Int

/-- the value v is a Node that reads x -/
def VNode (w : World) (v : Value) (x : NodeD) : Prop := ∃ p3 c3, v = .agg #[.int .i64 x.kind, .int .i64 x.a, .int .i64 x.b, .slice p3 x.src.length c3] ∧ RdI w p3 x.src
theorem VNode.below {w w' : World} {v : Value} {x : NodeD} (h : VNode w v x) (hb : Below w.heap.size w w') : VNode w' v x := by
  obtain ⟨p3, c3, rfl, r3⟩ := h
  exact ⟨p3, c3, rfl, r3.below hb⟩
/-- a Node of the call's own; L: its slices of integers -/
def OwnNode (B : Nat) (w : World) (v : Value) (x : NodeD) (L : List Value) : Prop := ∃ u3 L3, v = .agg #[.int .i64 x.kind, .int .i64 x.a, .int .i64 x.b, u3] ∧ L3 = L ∧ OwnLI B w u3 x.src L3
theorem OwnNode.rd {B : Nat} {w : World} {v : Value} {x : NodeD} {L : List Value} (h : OwnNode B w v x L) : VNode w v x := by
  obtain ⟨u3, L3, rfl, rfl, o3⟩ := h
  obtain ⟨p3, c3, rfl, r3⟩ := OwnLI.rd o3
  exact ⟨p3, c3, rfl, r3⟩
theorem OwnNode.mono {B B' : Nat} {w : World} {v : Value} {x : NodeD} {L : List Value} (h : OwnNode B w v x L) (hB : B' ≤ B) : OwnNode B' w v x L := by
  obtain ⟨u3, L3, rfl, rfl, o3⟩ := h
  exact ⟨u3, L3, rfl, rfl, o3.mono hB⟩
theorem OwnNode.keeps {B : Nat} {w w' : World} {v : Value} {x : NodeD} {L : List Value} (h : OwnNode B w v x L) (hk : ∀ k, B ≤ k → k < w.heap.size → w'.heap[k]? = w.heap[k]?) : OwnNode B w' v x L := by
  obtain ⟨u3, L3, rfl, rfl, o3⟩ := h
  exact ⟨u3, L3, rfl, rfl, o3.keeps hk⟩
theorem OwnNode.below {B : Nat} {w w' : World} {v : Value} {x : NodeD} {L : List Value} (h : OwnNode B w v x L) (hb : Below w.heap.size w w') : OwnNode B w' v x L := h.keeps fun k _ hk => hb.block k hk
theorem OwnNode.blk {B : Nat} {w : World} {v : Value} {x : NodeD} {L : List Value} (h : OwnNode B w v x L) {b : Nat} (hb : Blk L b) : B ≤ b ∧ b < w.heap.size := by
  obtain ⟨u3, L3, rfl, rfl, o3⟩ := h
  obtain ⟨u, hu, hb⟩ := hb
  exact o3.blk ⟨u, hu, hb⟩
theorem OwnNode.ints {B : Nat} {w : World} {v : Value} {x : NodeD} {L : List Value} (h : OwnNode B w v x L) : IntBlks w L := by
  obtain ⟨u3, L3, rfl, rfl, o3⟩ := h
  exact o3.ints
def wtNode (x : NodeD) : Nat := wtI x.src
def cntNode (x : NodeD) : Nat := cntI x.src
theorem cntNode_le (x : NodeD) : cntNode x ≤ wtNode x := by
  have e3 := cntI_le x.src
  unfold cntNode wtNode; omega
def markNode (m : Int) (x : NodeD) : NodeD := { x with src := markI (m) x.src }
end Go.Proofs.Ytdjoaaccnadccaa

namespace Go.Proofs.Ytdjoaaccnadccaa
open Go.ChangeShapes Go.WideShapes Go.ChangeAt Go.RowKit
set_option linter.unusedVariables false

theorem isKind_any (n : Int) (w : World) :
    Calls Try.prog 65 #[.int .i64 n] w fun e w' => e = .returned (.bool (inB n 1 17)) ∧ w = w' := by
  go_enter Try.func65, Try.ntmps65
  go_wp2_with (go_at_call 47; refine (within_any _ _ _ _).mono ?_; rintro e w' ⟨rfl, rfl⟩)
  go_ret
  exact ⟨rfl, rfl⟩
theorem l06Kind_any (n : Int) (w : World) :
    Calls Try.prog 68 #[.int .i64 n] w fun e w' => e = .returned (.bool (inB n 1 17)) ∧ w = w' := by
  go_enter Try.func68, Try.ntmps68
  go_wp2_with (go_at_call 25; refine (l00In_any _ _ _ _).mono ?_; rintro e w' ⟨rfl, rfl⟩)
  go_ret
  exact ⟨rfl, rfl⟩
/-! ### what is known of the kinds: kind k is row k - 1 -/
def kNm (i : Nat) : ByteArray := ([(⟨#[105, 110, 112, 117, 116]⟩ : ByteArray), (⟨#[99, 111, 110, 115, 116]⟩ : ByteArray), (⟨#[97, 100, 100]⟩ : ByteArray), (⟨#[115, 117, 98]⟩ : ByteArray), (⟨#[103, 97, 105, 110]⟩ : ByteArray), (⟨#[100, 101, 108, 97, 121]⟩ : ByteArray), (⟨#[115, 117, 109]⟩ : ByteArray), (⟨#[100, 105, 102, 102]⟩ : ByteArray), (⟨#[109, 117, 108]⟩ : ByteArray), (⟨#[115, 104, 105, 102, 116]⟩ : ByteArray), (⟨#[99, 108, 105, 112]⟩ : ByteArray), (⟨#[112, 104, 97, 115, 101]⟩ : ByteArray), (⟨#[116, 97, 98, 108, 101]⟩ : ByteArray), (⟨#[110, 111, 105, 115, 101]⟩ : ByteArray), (⟨#[115, 101, 108, 101, 99, 116]⟩ : ByteArray), (⟨#[104, 111, 108, 100]⟩ : ByteArray), (⟨#[99, 111, 109, 98]⟩ : ByteArray)] : List ByteArray).getD i ⟨#[]⟩
def kAr (i : Nat) : Int := ([0, 0, 2, 2, 1, 1, 1, 1, 2, 1, 1, 1, 1, 0, 3, 2, 1] : List Int).getD i 0
def kLo (i : Nat) : Int := ([0, -2147483648, 1, 1, -2147483648, 1, 1, 1, 1, 0, 0, -2147483648, 0, -2147483648, 1, 1, -2147483648] : List Int).getD i 0
def kHi (i : Nat) : Int := ([3, 2147483647, 0, 0, 2147483647, 16, 0, 0, 0, 31, 2147483647, 2147483647, 3, 2147483647, 0, 0, 2147483647] : List Int).getD i 0
def kLi (i : Nat) : Bool := ([true, false, true, true, true, true, true, true, false, false, false, false, false, false, false, false, true] : List Bool).getD i false
def kBb (i : Nat) : Bool := ([false, false, false, false, false, false, false, false, false, false, false, false, false, false, false, false, true] : List Bool).getD i false

/-- the table of kinds lies at block g -/
def KindCells (w : World) (g : Nat) : Prop := ∀ i, i < 17 → w.cell? ⟨g, i * 6, none⟩ = some (.string (kNm i)) ∧ w.cell? ⟨g, i * 6 + 1, none⟩ = some (.int .i64 (kAr i)) ∧ w.cell? ⟨g, i * 6 + 2, none⟩ = some (.int .i64 (kLo i)) ∧
  w.cell? ⟨g, i * 6 + 3, none⟩ = some (.int .i64 (kHi i)) ∧ w.cell? ⟨g, i * 6 + 4, none⟩ = some (.bool (kLi i)) ∧ w.cell? ⟨g, i * 6 + 5, none⟩ = some (.bool (kBb i))
theorem seventeen {i : Nat} (h : i < 17) : i = 0 ∨ i = 1 ∨ i = 2 ∨ i = 3 ∨ i = 4 ∨ i = 5 ∨ i = 6 ∨ i = 7 ∨ i = 8 ∨ i = 9 ∨ i = 10 ∨ i = 11 ∨ i = 12 ∨ i = 13 ∨ i = 14 ∨ i = 15 ∨ i = 16 := by omega
set_option maxHeartbeats 4000000 in
set_option maxRecDepth 100000 in
theorem kinds_any (w : World) :
    Calls Try.prog 66 #[] w fun e w' => e = .returned (.slice (some ⟨w.heap.size, 0, none⟩) 17 17) ∧ KindCells w' w.heap.size ∧ Below w.heap.size w w' := by
  go_enter Try.func66, Try.ntmps66
  go_wp2
  go_ret
  refine ⟨rfl, fun i hi => ?_, (Below.refl _ _).alloc (Nat.le_refl _) _⟩
  rcases seventeen hi with rfl | rfl | rfl | rfl | rfl | rfl | rfl | rfl | rfl | rfl | rfl | rfl | rfl | rfl | rfl | rfl | rfl <;>
    exact ⟨by rw [World.cell?_alloc_at _ _ _ _ rfl]; rfl, by rw [World.cell?_alloc_at _ _ _ _ rfl]; rfl, by rw [World.cell?_alloc_at _ _ _ _ rfl]; rfl, by rw [World.cell?_alloc_at _ _ _ _ rfl]; rfl, by rw [World.cell?_alloc_at _ _ _ _ rfl]; rfl, by rw [World.cell?_alloc_at _ _ _ _ rfl]; rfl⟩
set_option maxHeartbeats 4000000 in
set_option maxRecDepth 100000 in
theorem l06Arity_any (i : Nat) (hi : i < 17) (w : World) :
    Calls Try.prog 32 #[.int .i64 ((i : Int) + 1)] w fun e w' => e = .returned (.int .i64 (kAr i)) ∧ Below w.heap.size w w' := by
  go_enter Try.func32, Try.ntmps32
  go_wp2
  go_ret
  refine ⟨?_, (Below.refl _ _).alloc (Nat.le_refl _) _⟩
  rcases seventeen hi with rfl | rfl | rfl | rfl | rfl | rfl | rfl | rfl | rfl | rfl | rfl | rfl | rfl | rfl | rfl | rfl | rfl <;> rfl
end Go.Proofs.Ytdjoaaccnadccaa

namespace Go.Proofs.Ytdjoaaccnadccaa
open Go.ChangeShapes Go.WideShapes Go.ChangeAt Go.RowKit
set_option linter.unusedVariables false

theorem kind_of_in {k : Int} (h : inB k 1 17 = true) : ∃ i : Nat, i < 17 ∧ k = (i : Int) + 1 := by
  rw [inB_iff] at h
  exact ⟨(k - 1).toNat, by omega, by omega⟩
def kindLinear (k : Int) : Bool := inB k 1 17 && kLi (k - 1).toNat
def kindArity (k : Int) : Int := if inB k 1 17 then kAr (k - 1).toNat else -1
def kindName (k : Int) : ByteArray := if inB k 1 17 then kNm (k - 1).toNat else ⟨#[]⟩
theorem kindLinear_in {i : Nat} (h : i < 17) : kindLinear ((i : Int) + 1) = kLi i := by
  have e : ((i : Int) + 1 - 1).toNat = i := by omega
  rw [kindLinear, inB_true (by omega), e, Bool.true_and]
theorem kindArity_in {i : Nat} (h : i < 17) : kindArity ((i : Int) + 1) = kAr i := by
  have e : ((i : Int) + 1 - 1).toNat = i := by omega
  rw [kindArity, inB_true (by omega), e, if_pos rfl]
theorem kindName_in {i : Nat} (h : i < 17) : kindName ((i : Int) + 1) = kNm i := by
  have e : ((i : Int) + 1 - 1).toNat = i := by omega
  rw [kindName, inB_true (by omega), e, if_pos rfl]
theorem kindLinear_out {k : Int} (h : inB k 1 17 = false) : kindLinear k = false := by rw [kindLinear, h, Bool.false_and]
theorem kindArity_out {k : Int} (h : inB k 1 17 = false) : kindArity k = -1 := by rw [kindArity, h]; rfl
theorem kindName_out {k : Int} (h : inB k 1 17 = false) : kindName k = ⟨#[]⟩ := by rw [kindName, h]; rfl
theorem any_true {α : Type} {f : α → Bool} {xs : List α} {k : Nat} (h : k < xs.length) (hf : f xs[k] = true) : xs.any f = true := by
  rw [List.any_eq_true]
  exact ⟨xs[k], List.getElem_mem h, hf⟩
theorem any_step {α : Type} {f : α → Bool} {xs : List α} {k : Nat} (h : k < xs.length) (ht : (xs.take k).any f = false) (hf : f xs[k] = false) : (xs.take (k + 1)).any f = false := by
  rw [List.take_succ_eq_append_getElem h, List.any_append, ht]
  simp [hf]
theorem any_done {α : Type} {f : α → Bool} {xs : List α} (ht : (xs.take xs.length).any f = false) : xs.any f = false := by rwa [List.take_length] at ht
set_option maxHeartbeats 400000 in
theorem l00Has_any {p : Option Addr} {c : Nat} {xs : List Int} (n : Int) (w : World) (h : RdI w p xs) :
    Calls Try.prog 54 #[.slice p xs.length c, .int .i64 n] w fun e w' => e = .returned (.bool (xs.any (· == n))) ∧ w = w' := by
  have hlen := h.len
  unfold maxLen at hlen
  go_enter Try.func54, Try.ntmps54
  go_wp2_with fail
  go_loop [5] (fun i => ∃ k : Nat, k ≤ xs.length ∧ i = .int .i64 k ∧ (xs.take k).any (· == n) = false) (fun i => xs.length - (intOf i).toNat)
  case atStart => exact ⟨0, Nat.zero_le _, rfl, by simp⟩
  case round =>
    obtain ⟨k, hk, rfl, hall⟩ := hrel
    have HA := Lib.hid hall; clear hall
    by_cases hlt : k < xs.length
    · obtain ⟨b, o, rfl, hb, hc⟩ := h.pos hlt
      have hck := hc k hlt
      clear hc
      generalize hx : xs[k] = x at hck
      have HX := Lib.hid hx; clear hx
      cases hs : (x == n)
      · go_wp2_with fail
        go_round
        case rel => exact ⟨k + 1, by omega, by go_num, any_step hlt HA.out (by rw [HX.out]; exact hs)⟩
        case measure => simp [intOf] <;> omega
      · go_wp2_with fail
        go_ret
        exact ⟨ret_bool (any_true hlt (by rw [HX.out]; exact hs)).symm, rfl⟩
    · obtain rfl : k = xs.length := by omega
      go_wp2_with fail
      go_ret
      exact ⟨ret_bool (any_done HA.out).symm, rfl⟩
/-- the kind with a name, 0 if there is none -/
def kindNamed (s : ByteArray) : Int := (((List.range 17).find? fun i => decide (kNm i = s)).map fun i => (i : Int) + 1).getD 0
theorem find_at (p : Nat → Bool) (n i : Nat) (hi : i < n) (hp : p i = true) (hb : ∀ j, j < i → p j = false) : (List.range n).find? p = some i := by
  rw [List.find?_range_eq_some]
  exact ⟨hp, by simpa using hi, fun j hj => by simp [hb j hj]⟩
theorem kindNamed_found {s : ByteArray} {i : Nat} (hi : i < 17) (he : kNm i = s) (hne : ∀ j, j < i → kNm j ≠ s) : kindNamed s = (i : Int) + 1 := by
  rw [kindNamed, find_at _ 17 i hi (by simpa using he) (fun j hj => by simpa using hne j hj)]
  rfl
theorem kindNamed_none {s : ByteArray} (hne : ∀ j, j < 17 → kNm j ≠ s) : kindNamed s = 0 := by
  rw [kindNamed, List.find?_eq_none.2 (by simpa using hne)]
  rfl
end Go.Proofs.Ytdjoaaccnadccaa

namespace Go.Proofs.Ytdjoaaccnadccaa
open Go.ChangeShapes Go.WideShapes Go.ChangeAt Go.RowKit
set_option linter.unusedVariables false

/-- A and B of a node of kind i + 1 are valid -/
def abB (i : Nat) (a b : Int) : Bool := (if kLo i ≤ kHi i then inB a (kLo i) (kHi i) else a == 0) && (if kBb i then inB b 1 16 else b == 0)
/-- a valid node, for a number of tables -/
def nodeB (x : NodeD) (tables : Int) : Bool :=
  inB x.kind 1 17 && abB (x.kind - 1).toNat x.a x.b && x.src.all (fun f => inB f 0 23) && decide ((x.src.length : Int) = kAr (x.kind - 1).toNat) && (x.kind != 13 || decide (x.a < tables))

theorem hasA_any (nm : ByteArray) (a lo hi : Int) (l b : Bool) (w : World) :
    Calls Try.prog 67 #[.agg #[.string nm, .int .i64 a, .int .i64 lo, .int .i64 hi, .bool l, .bool b]] w fun e w' => e = .returned (.bool (decide (lo ≤ hi))) ∧ Below w.heap.size w w' := by
  go_enter Try.func67, Try.ntmps67
  go_wp2
  go_ret
  exact ⟨rfl, (Below.refl _ _).alloc (Nat.le_refl _) _⟩
theorem l00Min_any (a b : Int) (w : World) :
    Calls Try.prog 75 #[.int .i64 a, .int .i64 b] w fun e w' => e = .returned (.int .i64 (min a b)) ∧ w = w' := by
  by_cases h : a < b
  · have e : min a b = a := by omega
    rw [e]; clear e
    go_enter Try.func75, Try.ntmps75
    go_wp2
    go_ret
    exact ⟨rfl, rfl⟩
  · have e : min a b = b := by omega
    rw [e]; clear e
    go_enter Try.func75, Try.ntmps75
    go_wp2
    go_ret
    exact ⟨rfl, rfl⟩
theorem l00Max_any (a b : Int) (w : World) :
    Calls Try.prog 34 #[.int .i64 a, .int .i64 b] w fun e w' => e = .returned (.int .i64 (max a b)) ∧ w = w' := by
  by_cases h : b < a
  · have e : max a b = a := by omega
    rw [e]; clear e
    go_enter Try.func34, Try.ntmps34
    go_wp2
    go_ret
    exact ⟨rfl, rfl⟩
  · have e : max a b = b := by omega
    rw [e]; clear e
    go_enter Try.func34, Try.ntmps34
    go_wp2
    go_ret
    exact ⟨rfl, rfl⟩
theorem kinds_ex (w : World) :
    Calls Try.prog 66 #[] w fun e w' => ∃ g, e = .returned (.slice (some ⟨g, 0, none⟩) 17 17) ∧ KindCells w' g ∧ w.heap.size ≤ g ∧ Below w.heap.size w w' :=
  (kinds_any w).mono fun _ _ h => ⟨_, h.1, h.2.1, Nat.le_refl _, h.2.2⟩
set_option maxHeartbeats 16000000 in
set_option maxRecDepth 100000 in
theorem isNode_in {p : Option Addr} {c : Nat} {src : List Int} (i : Nat) (hi : i < 17) (a b t : Int) (w : World) (r : RdI w p src) :
    Calls Try.prog 50 #[.agg #[.int .i64 ((i : Int) + 1), .int .i64 a, .int .i64 b, .slice p src.length c], .int .i64 t] w fun e w' => e = .returned (.bool (nodeB ⟨(i : Int) + 1, a, b, src⟩ t)) ∧ Below w.heap.size w w' := by
  have hl := r.len
  have hl0 := r.len
  unfold maxLen at hl
  have hk : inB ((i : Int) + 1) 1 17 = true := inB_true (by omega)
  have hN : Hid (nodeB ⟨(i : Int) + 1, a, b, src⟩ t = (abB i a b && src.all (fun f => inB f 0 23) && decide ((src.length : Int) = kAr i) && (((i : Int) + 1) != 13 || decide (a < t)))) := by
    have e : ((i : Int) + 1 - 1).toNat = i := by omega
    unfold Hid nodeB
    simp only [hk, e, Bool.true_and]
  obtain ⟨E0, hE0⟩ : ∃ E, E = w.alloc (.cells #[.int .i64 ((i : Int) + 1), .int .i64 a, .int .i64 b, .slice p src.length c] 50) := ⟨_, rfl⟩
  have hB0 : Below w.heap.size w E0 := by rw [hE0]; exact (Below.refl _ _).alloc (Nat.le_refl _) _
  have ba0 : Box E0 w.heap.size [.int .i64 ((i : Int) + 1), .int .i64 a, .int .i64 b, .slice p src.length c] 50 := by rw [hE0]; exact Box.newAt w [.int .i64 ((i : Int) + 1), .int .i64 a, .int .i64 b, .slice p src.length c] _ rfl
  have HE0 := Lib.hid hE0
  clear hE0
  go_enter Try.func50, Try.ntmps50
  go_upto_region 3 with (go_at_call 65; refine (isKind_any _ _).mono ?_; rintro e w' ⟨rfl, rfl⟩)
  rw [← HE0.out]
  go_cut [5] (fun v wr => ∃ g, v = .pointer (some ⟨g, 0, none⟩) ∧ Box wr g [.string (kNm i), .int .i64 (kAr i), .int .i64 (kLo i), .int .i64 (kHi i), .bool (kLi i), .bool (kBb i)] 95 ∧ Below E0.heap.size E0 wr)
  case first =>
    have z0 := ba0.cell 0 rfl
    have w1 : IntKind.i64.wrap ((i : Int) + 1 - 1) = (i : Int) := by rw [IntWalk.i64_in _ (by omega)]; omega
    have w5 : IntKind.i64.wrap (i : Int) = (i : Int) := IntWalk.i64_in _ (by omega)
    have w2 : (0 : Int) ≤ (i : Int) := by omega
    have w3 : (i : Int) < 17 := by omega
    have w4 : ((i : Int)).toNat = i := by omega
    have hwl0 := ba0.lt
    go_region_with (first | (go_at_call 66; refine (kinds_ex E0.drew).mono ?_; rintro e F1 ⟨g, rfl, hc, hg, hb⟩; have hb0 : Below E0.heap.size E0 F1 := below_drew' hb; have ba1 := ba0.below hb0; have y0 := ba1.cell 0 rfl; have hwl := ba1.lt; have hq := hc i hi; obtain ⟨k0, k1, k2, k3, k4, k5⟩ := hq; have hgl : g < F1.heap.size := World.block_lt_of_cell? _ _ k0; clear hc) | (go_at_call 66; refine (kinds_ex _).mono ?_; rintro e F1 ⟨g, rfl, hc, hg, hb⟩; have hb0 : Below E0.heap.size E0 F1 := ((Below.refl _ _).alloc (Nat.le_refl _) _).trans ((below_drew' hb).mono (by simp)); have bz := (Box.newAt E0 [.string ⟨#[]⟩, .int .i64 0, .int .i64 0, .int .i64 0, .bool false, .bool false] 95 rfl).below (below_drew' hb); have ba1 := (ba0.alloc (.cells #[.string ⟨#[]⟩, .int .i64 0, .int .i64 0, .int .i64 0, .bool false, .bool false] 95)).below (below_drew' hb); have u0 := bz.cell 0 rfl; have u1 := bz.cell 1 rfl; have u2 := bz.cell 2 rfl; have u3 := bz.cell 3 rfl; have u4 := bz.cell 4 rfl; have u5 := bz.cell 5 rfl; have hgz : g ≠ E0.heap.size := (by simp at hg; omega); have hzl := bz.lt; have fz := bz.frozen; have y0 := ba1.cell 0 rfl; have hwl := ba1.lt; have hq := hc i hi; obtain ⟨k0, k1, k2, k3, k4, k5⟩ := hq; have hgl : g < F1.heap.size := World.block_lt_of_cell? _ _ k0; clear hc))
    all_goals (go_wp2_with fail)
    all_goals go_meet
    all_goals refine ⟨_, rfl, ?_, ?_⟩
    all_goals clear HE0 hN
    all_goals first
      | (with_reducible exact Box.newAt F1 [.string (kNm i), .int .i64 (kAr i), .int .i64 (kLo i), .int .i64 (kHi i), .bool (kLi i), .bool (kBb i)] _ rfl)
      | (with_reducible exact hb0.alloc hb0.size _)
      | exact ((((((bz.set 0 (.string (kNm i))).set 1 (.int .i64 (kAr i))).set 2 (.int .i64 (kLo i))).set 3 (.int .i64 (kHi i))).set 4 (.bool (kLi i))).set 5 (.bool (kBb i)))
      | (with_reducible exact (((((hb0.setCell (Nat.le_refl _) _).setCell (Nat.le_refl _) _).setCell (Nat.le_refl _) _).setCell (Nat.le_refl _) _).setCell (Nat.le_refl _) _).setCell (Nat.le_refl _) _)
  case rest =>
    obtain ⟨g, rfl, bk, hb⟩ := hcut
    obtain ⟨E1, rfl⟩ : ∃ E, E = wc := ⟨_, rfl⟩
    have ba1 := ba0.below hb
    have hB1 := hB0.trans (hb.mono hB0.size)
    clear hb ba0 hB0
    go_upto_region 4 with fail
    go_cut [59] (fun v wr => v = .bool (!abB i a b) ∧ Below E1.heap.size E1 wr)
    case first =>
      have bk0 := bk
      have hbR := Below.refl E1.heap.size E1

      have bn0 := ba1
      clear ba1 bk
      by_cases hA : kLo i ≤ kHi i
      case pos =>
        have hAd : decide (kLo i ≤ kHi i) = true := decide_eq_true hA
        cases cA : inB a (kLo i) (kHi i)
        case false =>
          have hv : (!abB i a b) = true := by unfold abB; rw [if_pos hA]; simp [cA]
          have HV := Lib.hid hv
          clear hv
          have k0_0 := bk0.cell 0 rfl
          have k0_1 := bk0.cell 1 rfl
          have k0_2 := bk0.cell 2 rfl
          have k0_3 := bk0.cell 3 rfl
          have k0_4 := bk0.cell 4 rfl
          have k0_5 := bk0.cell 5 rfl
          have n0_0 := bn0.cell 0 rfl
          have n0_1 := bn0.cell 1 rfl
          have n0_2 := bn0.cell 2 rfl
          have n0_3 := bn0.cell 3 rfl
          go_wp2_with fail
          refine (hasA_any _ _ _ _ _ _ _).mono ?_
          rintro e F1 ⟨rfl, hb1⟩
          have bk1 := bk0.below hb1
          have bn1 := bn0.below hb1
          have hR1 := hbR.trans hb1
          clear k0_0 k0_1 k0_2 k0_3 k0_4 k0_5 n0_0 n0_1 n0_2 n0_3 hb1
          have k1_0 := bk1.cell 0 rfl
          have k1_1 := bk1.cell 1 rfl
          have k1_2 := bk1.cell 2 rfl
          have k1_3 := bk1.cell 3 rfl
          have k1_4 := bk1.cell 4 rfl
          have k1_5 := bk1.cell 5 rfl
          have n1_0 := bn1.cell 0 rfl
          have n1_1 := bn1.cell 1 rfl
          have n1_2 := bn1.cell 2 rfl
          have n1_3 := bn1.cell 3 rfl
          go_wp2_with (go_at_call 47; refine (within_any _ _ _ _).mono ?_; rintro e w' ⟨rfl, rfl⟩)
          go_meet
          exact ⟨by rw [HV.out], hR1⟩
        cases hBb : kBb i
        case true =>
          cases cB : inB b 1 16
          case false =>
            have hv : (!abB i a b) = true := by unfold abB; rw [if_pos hA]; simp [cA, hBb, cB]
            have HV := Lib.hid hv
            clear hv
            have k0_0 := bk0.cell 0 rfl
            have k0_1 := bk0.cell 1 rfl
            have k0_2 := bk0.cell 2 rfl
            have k0_3 := bk0.cell 3 rfl
            have k0_4 := bk0.cell 4 rfl
            have k0_5 := bk0.cell 5 rfl
            have n0_0 := bn0.cell 0 rfl
            have n0_1 := bn0.cell 1 rfl
            have n0_2 := bn0.cell 2 rfl
            have n0_3 := bn0.cell 3 rfl
            go_wp2_with fail
            refine (hasA_any _ _ _ _ _ _ _).mono ?_
            rintro e F1 ⟨rfl, hb1⟩
            have bk1 := bk0.below hb1
            have bn1 := bn0.below hb1
            have hR1 := hbR.trans hb1
            clear k0_0 k0_1 k0_2 k0_3 k0_4 k0_5 n0_0 n0_1 n0_2 n0_3 hb1
            have k1_0 := bk1.cell 0 rfl
            have k1_1 := bk1.cell 1 rfl
            have k1_2 := bk1.cell 2 rfl
            have k1_3 := bk1.cell 3 rfl
            have k1_4 := bk1.cell 4 rfl
            have k1_5 := bk1.cell 5 rfl
            have n1_0 := bn1.cell 0 rfl
            have n1_1 := bn1.cell 1 rfl
            have n1_2 := bn1.cell 2 rfl
            have n1_3 := bn1.cell 3 rfl
            go_wp2_with (go_at_call 47; refine (within_any _ _ _ _).mono ?_; rintro e w' ⟨rfl, rfl⟩)
            refine (hasA_any _ _ _ _ _ _ _).mono ?_
            rintro e F2 ⟨rfl, hb2⟩
            have bk2 := bk1.below hb2
            have bn2 := bn1.below hb2
            have hR2 := hR1.trans (hb2.mono hR1.size)
            clear k1_0 k1_1 k1_2 k1_3 k1_4 k1_5 n1_0 n1_1 n1_2 n1_3 hb2
            have k2_0 := bk2.cell 0 rfl
            have k2_1 := bk2.cell 1 rfl
            have k2_2 := bk2.cell 2 rfl
            have k2_3 := bk2.cell 3 rfl
            have k2_4 := bk2.cell 4 rfl
            have k2_5 := bk2.cell 5 rfl
            have n2_0 := bn2.cell 0 rfl
            have n2_1 := bn2.cell 1 rfl
            have n2_2 := bn2.cell 2 rfl
            have n2_3 := bn2.cell 3 rfl
            go_wp2_with (go_at_call 47; refine (within_any _ _ _ _).mono ?_; rintro e w' ⟨rfl, rfl⟩)
            go_meet
            exact ⟨by rw [HV.out], hR2⟩
          have hv : (!abB i a b) = false := by unfold abB; rw [if_pos hA]; simp [cA, hBb, cB]
          have HV := Lib.hid hv
          clear hv
          have k0_0 := bk0.cell 0 rfl
          have k0_1 := bk0.cell 1 rfl
          have k0_2 := bk0.cell 2 rfl
          have k0_3 := bk0.cell 3 rfl
          have k0_4 := bk0.cell 4 rfl
          have k0_5 := bk0.cell 5 rfl
          have n0_0 := bn0.cell 0 rfl
          have n0_1 := bn0.cell 1 rfl
          have n0_2 := bn0.cell 2 rfl
          have n0_3 := bn0.cell 3 rfl
          go_wp2_with fail
          refine (hasA_any _ _ _ _ _ _ _).mono ?_
          rintro e F1 ⟨rfl, hb1⟩
          have bk1 := bk0.below hb1
          have bn1 := bn0.below hb1
          have hR1 := hbR.trans hb1
          clear k0_0 k0_1 k0_2 k0_3 k0_4 k0_5 n0_0 n0_1 n0_2 n0_3 hb1
          have k1_0 := bk1.cell 0 rfl
          have k1_1 := bk1.cell 1 rfl
          have k1_2 := bk1.cell 2 rfl
          have k1_3 := bk1.cell 3 rfl
          have k1_4 := bk1.cell 4 rfl
          have k1_5 := bk1.cell 5 rfl
          have n1_0 := bn1.cell 0 rfl
          have n1_1 := bn1.cell 1 rfl
          have n1_2 := bn1.cell 2 rfl
          have n1_3 := bn1.cell 3 rfl
          go_wp2_with (go_at_call 47; refine (within_any _ _ _ _).mono ?_; rintro e w' ⟨rfl, rfl⟩)
          refine (hasA_any _ _ _ _ _ _ _).mono ?_
          rintro e F2 ⟨rfl, hb2⟩
          have bk2 := bk1.below hb2
          have bn2 := bn1.below hb2
          have hR2 := hR1.trans (hb2.mono hR1.size)
          clear k1_0 k1_1 k1_2 k1_3 k1_4 k1_5 n1_0 n1_1 n1_2 n1_3 hb2
          have k2_0 := bk2.cell 0 rfl
          have k2_1 := bk2.cell 1 rfl
          have k2_2 := bk2.cell 2 rfl
          have k2_3 := bk2.cell 3 rfl
          have k2_4 := bk2.cell 4 rfl
          have k2_5 := bk2.cell 5 rfl
          have n2_0 := bn2.cell 0 rfl
          have n2_1 := bn2.cell 1 rfl
          have n2_2 := bn2.cell 2 rfl
          have n2_3 := bn2.cell 3 rfl
          go_wp2_with (go_at_call 47; refine (within_any _ _ _ _).mono ?_; rintro e w' ⟨rfl, rfl⟩)
          go_meet
          exact ⟨by rw [HV.out], hR2⟩
        cases cB : (b == 0)
        case false =>
          have cB' : (b != 0) = true := by rw [bne, cB]; rfl
          have hv : (!abB i a b) = true := by unfold abB; rw [if_pos hA]; simp [cA, hBb, cB]
          have HV := Lib.hid hv
          clear hv
          have k0_0 := bk0.cell 0 rfl
          have k0_1 := bk0.cell 1 rfl
          have k0_2 := bk0.cell 2 rfl
          have k0_3 := bk0.cell 3 rfl
          have k0_4 := bk0.cell 4 rfl
          have k0_5 := bk0.cell 5 rfl
          have n0_0 := bn0.cell 0 rfl
          have n0_1 := bn0.cell 1 rfl
          have n0_2 := bn0.cell 2 rfl
          have n0_3 := bn0.cell 3 rfl
          go_wp2_with fail
          refine (hasA_any _ _ _ _ _ _ _).mono ?_
          rintro e F1 ⟨rfl, hb1⟩
          have bk1 := bk0.below hb1
          have bn1 := bn0.below hb1
          have hR1 := hbR.trans hb1
          clear k0_0 k0_1 k0_2 k0_3 k0_4 k0_5 n0_0 n0_1 n0_2 n0_3 hb1
          have k1_0 := bk1.cell 0 rfl
          have k1_1 := bk1.cell 1 rfl
          have k1_2 := bk1.cell 2 rfl
          have k1_3 := bk1.cell 3 rfl
          have k1_4 := bk1.cell 4 rfl
          have k1_5 := bk1.cell 5 rfl
          have n1_0 := bn1.cell 0 rfl
          have n1_1 := bn1.cell 1 rfl
          have n1_2 := bn1.cell 2 rfl
          have n1_3 := bn1.cell 3 rfl
          go_wp2_with (go_at_call 47; refine (within_any _ _ _ _).mono ?_; rintro e w' ⟨rfl, rfl⟩)
          refine (hasA_any _ _ _ _ _ _ _).mono ?_
          rintro e F2 ⟨rfl, hb2⟩
          have bk2 := bk1.below hb2
          have bn2 := bn1.below hb2
          have hR2 := hR1.trans (hb2.mono hR1.size)
          clear k1_0 k1_1 k1_2 k1_3 k1_4 k1_5 n1_0 n1_1 n1_2 n1_3 hb2
          have k2_0 := bk2.cell 0 rfl
          have k2_1 := bk2.cell 1 rfl
          have k2_2 := bk2.cell 2 rfl
          have k2_3 := bk2.cell 3 rfl
          have k2_4 := bk2.cell 4 rfl
          have k2_5 := bk2.cell 5 rfl
          have n2_0 := bn2.cell 0 rfl
          have n2_1 := bn2.cell 1 rfl
          have n2_2 := bn2.cell 2 rfl
          have n2_3 := bn2.cell 3 rfl
          go_wp2_with (go_at_call 47; refine (within_any _ _ _ _).mono ?_; rintro e w' ⟨rfl, rfl⟩)
          go_meet
          exact ⟨by rw [HV.out], hR2⟩
        have cB' : (b != 0) = false := by rw [bne, cB]; rfl
        have hv : (!abB i a b) = false := by unfold abB; rw [if_pos hA]; simp [cA, hBb, cB]
        have HV := Lib.hid hv
        clear hv
        have k0_0 := bk0.cell 0 rfl
        have k0_1 := bk0.cell 1 rfl
        have k0_2 := bk0.cell 2 rfl
        have k0_3 := bk0.cell 3 rfl
        have k0_4 := bk0.cell 4 rfl
        have k0_5 := bk0.cell 5 rfl
        have n0_0 := bn0.cell 0 rfl
        have n0_1 := bn0.cell 1 rfl
        have n0_2 := bn0.cell 2 rfl
        have n0_3 := bn0.cell 3 rfl
        go_wp2_with fail
        refine (hasA_any _ _ _ _ _ _ _).mono ?_
        rintro e F1 ⟨rfl, hb1⟩
        have bk1 := bk0.below hb1
        have bn1 := bn0.below hb1
        have hR1 := hbR.trans hb1
        clear k0_0 k0_1 k0_2 k0_3 k0_4 k0_5 n0_0 n0_1 n0_2 n0_3 hb1
        have k1_0 := bk1.cell 0 rfl
        have k1_1 := bk1.cell 1 rfl
        have k1_2 := bk1.cell 2 rfl
        have k1_3 := bk1.cell 3 rfl
        have k1_4 := bk1.cell 4 rfl
        have k1_5 := bk1.cell 5 rfl
        have n1_0 := bn1.cell 0 rfl
        have n1_1 := bn1.cell 1 rfl
        have n1_2 := bn1.cell 2 rfl
        have n1_3 := bn1.cell 3 rfl
        go_wp2_with (go_at_call 47; refine (within_any _ _ _ _).mono ?_; rintro e w' ⟨rfl, rfl⟩)
        refine (hasA_any _ _ _ _ _ _ _).mono ?_
        rintro e F2 ⟨rfl, hb2⟩
        have bk2 := bk1.below hb2
        have bn2 := bn1.below hb2
        have hR2 := hR1.trans (hb2.mono hR1.size)
        clear k1_0 k1_1 k1_2 k1_3 k1_4 k1_5 n1_0 n1_1 n1_2 n1_3 hb2
        have k2_0 := bk2.cell 0 rfl
        have k2_1 := bk2.cell 1 rfl
        have k2_2 := bk2.cell 2 rfl
        have k2_3 := bk2.cell 3 rfl
        have k2_4 := bk2.cell 4 rfl
        have k2_5 := bk2.cell 5 rfl
        have n2_0 := bn2.cell 0 rfl
        have n2_1 := bn2.cell 1 rfl
        have n2_2 := bn2.cell 2 rfl
        have n2_3 := bn2.cell 3 rfl
        go_wp2_with (go_at_call 47; refine (within_any _ _ _ _).mono ?_; rintro e w' ⟨rfl, rfl⟩)
        go_meet
        exact ⟨by rw [HV.out], hR2⟩
      have hAd : decide (kLo i ≤ kHi i) = false := decide_eq_false hA
      cases cA : (a == 0)
      case false =>
        have cA' : (a != 0) = true := by rw [bne, cA]; rfl
        have hv : (!abB i a b) = true := by unfold abB; rw [if_neg hA]; simp [cA]
        have HV := Lib.hid hv
        clear hv
        have k0_0 := bk0.cell 0 rfl
        have k0_1 := bk0.cell 1 rfl
        have k0_2 := bk0.cell 2 rfl
        have k0_3 := bk0.cell 3 rfl
        have k0_4 := bk0.cell 4 rfl
        have k0_5 := bk0.cell 5 rfl
        have n0_0 := bn0.cell 0 rfl
        have n0_1 := bn0.cell 1 rfl
        have n0_2 := bn0.cell 2 rfl
        have n0_3 := bn0.cell 3 rfl
        go_wp2_with fail
        refine (hasA_any _ _ _ _ _ _ _).mono ?_
        rintro e F1 ⟨rfl, hb1⟩
        have bk1 := bk0.below hb1
        have bn1 := bn0.below hb1
        have hR1 := hbR.trans hb1
        clear k0_0 k0_1 k0_2 k0_3 k0_4 k0_5 n0_0 n0_1 n0_2 n0_3 hb1
        have k1_0 := bk1.cell 0 rfl
        have k1_1 := bk1.cell 1 rfl
        have k1_2 := bk1.cell 2 rfl
        have k1_3 := bk1.cell 3 rfl
        have k1_4 := bk1.cell 4 rfl
        have k1_5 := bk1.cell 5 rfl
        have n1_0 := bn1.cell 0 rfl
        have n1_1 := bn1.cell 1 rfl
        have n1_2 := bn1.cell 2 rfl
        have n1_3 := bn1.cell 3 rfl
        go_wp2_with (go_at_call 47; refine (within_any _ _ _ _).mono ?_; rintro e w' ⟨rfl, rfl⟩)
        refine (hasA_any _ _ _ _ _ _ _).mono ?_
        rintro e F2 ⟨rfl, hb2⟩
        have bk2 := bk1.below hb2
        have bn2 := bn1.below hb2
        have hR2 := hR1.trans (hb2.mono hR1.size)
        clear k1_0 k1_1 k1_2 k1_3 k1_4 k1_5 n1_0 n1_1 n1_2 n1_3 hb2
        have k2_0 := bk2.cell 0 rfl
        have k2_1 := bk2.cell 1 rfl
        have k2_2 := bk2.cell 2 rfl
        have k2_3 := bk2.cell 3 rfl
        have k2_4 := bk2.cell 4 rfl
        have k2_5 := bk2.cell 5 rfl
        have n2_0 := bn2.cell 0 rfl
        have n2_1 := bn2.cell 1 rfl
        have n2_2 := bn2.cell 2 rfl
        have n2_3 := bn2.cell 3 rfl
        go_wp2_with (go_at_call 47; refine (within_any _ _ _ _).mono ?_; rintro e w' ⟨rfl, rfl⟩)
        go_meet
        exact ⟨by rw [HV.out], hR2⟩
      have cA' : (a != 0) = false := by rw [bne, cA]; rfl
      cases hBb : kBb i
      case true =>
        cases cB : inB b 1 16
        case false =>
          have hv : (!abB i a b) = true := by unfold abB; rw [if_neg hA]; simp [cA, hBb, cB]
          have HV := Lib.hid hv
          clear hv
          have k0_0 := bk0.cell 0 rfl
          have k0_1 := bk0.cell 1 rfl
          have k0_2 := bk0.cell 2 rfl
          have k0_3 := bk0.cell 3 rfl
          have k0_4 := bk0.cell 4 rfl
          have k0_5 := bk0.cell 5 rfl
          have n0_0 := bn0.cell 0 rfl
          have n0_1 := bn0.cell 1 rfl
          have n0_2 := bn0.cell 2 rfl
          have n0_3 := bn0.cell 3 rfl
          go_wp2_with fail
          refine (hasA_any _ _ _ _ _ _ _).mono ?_
          rintro e F1 ⟨rfl, hb1⟩
          have bk1 := bk0.below hb1
          have bn1 := bn0.below hb1
          have hR1 := hbR.trans hb1
          clear k0_0 k0_1 k0_2 k0_3 k0_4 k0_5 n0_0 n0_1 n0_2 n0_3 hb1
          have k1_0 := bk1.cell 0 rfl
          have k1_1 := bk1.cell 1 rfl
          have k1_2 := bk1.cell 2 rfl
          have k1_3 := bk1.cell 3 rfl
          have k1_4 := bk1.cell 4 rfl
          have k1_5 := bk1.cell 5 rfl
          have n1_0 := bn1.cell 0 rfl
          have n1_1 := bn1.cell 1 rfl
          have n1_2 := bn1.cell 2 rfl
          have n1_3 := bn1.cell 3 rfl
          go_wp2_with (go_at_call 47; refine (within_any _ _ _ _).mono ?_; rintro e w' ⟨rfl, rfl⟩)
          refine (hasA_any _ _ _ _ _ _ _).mono ?_
          rintro e F2 ⟨rfl, hb2⟩
          have bk2 := bk1.below hb2
          have bn2 := bn1.below hb2
          have hR2 := hR1.trans (hb2.mono hR1.size)
          clear k1_0 k1_1 k1_2 k1_3 k1_4 k1_5 n1_0 n1_1 n1_2 n1_3 hb2
          have k2_0 := bk2.cell 0 rfl
          have k2_1 := bk2.cell 1 rfl
          have k2_2 := bk2.cell 2 rfl
          have k2_3 := bk2.cell 3 rfl
          have k2_4 := bk2.cell 4 rfl
          have k2_5 := bk2.cell 5 rfl
          have n2_0 := bn2.cell 0 rfl
          have n2_1 := bn2.cell 1 rfl
          have n2_2 := bn2.cell 2 rfl
          have n2_3 := bn2.cell 3 rfl
          go_wp2_with (go_at_call 47; refine (within_any _ _ _ _).mono ?_; rintro e w' ⟨rfl, rfl⟩)
          go_meet
          exact ⟨by rw [HV.out], hR2⟩
        have hv : (!abB i a b) = false := by unfold abB; rw [if_neg hA]; simp [cA, hBb, cB]
        have HV := Lib.hid hv
        clear hv
        have k0_0 := bk0.cell 0 rfl
        have k0_1 := bk0.cell 1 rfl
        have k0_2 := bk0.cell 2 rfl
        have k0_3 := bk0.cell 3 rfl
        have k0_4 := bk0.cell 4 rfl
        have k0_5 := bk0.cell 5 rfl
        have n0_0 := bn0.cell 0 rfl
        have n0_1 := bn0.cell 1 rfl
        have n0_2 := bn0.cell 2 rfl
        have n0_3 := bn0.cell 3 rfl
        go_wp2_with fail
        refine (hasA_any _ _ _ _ _ _ _).mono ?_
        rintro e F1 ⟨rfl, hb1⟩
        have bk1 := bk0.below hb1
        have bn1 := bn0.below hb1
        have hR1 := hbR.trans hb1
        clear k0_0 k0_1 k0_2 k0_3 k0_4 k0_5 n0_0 n0_1 n0_2 n0_3 hb1
        have k1_0 := bk1.cell 0 rfl
        have k1_1 := bk1.cell 1 rfl
        have k1_2 := bk1.cell 2 rfl
        have k1_3 := bk1.cell 3 rfl
        have k1_4 := bk1.cell 4 rfl
        have k1_5 := bk1.cell 5 rfl
        have n1_0 := bn1.cell 0 rfl
        have n1_1 := bn1.cell 1 rfl
        have n1_2 := bn1.cell 2 rfl
        have n1_3 := bn1.cell 3 rfl
        go_wp2_with (go_at_call 47; refine (within_any _ _ _ _).mono ?_; rintro e w' ⟨rfl, rfl⟩)
        refine (hasA_any _ _ _ _ _ _ _).mono ?_
        rintro e F2 ⟨rfl, hb2⟩
        have bk2 := bk1.below hb2
        have bn2 := bn1.below hb2
        have hR2 := hR1.trans (hb2.mono hR1.size)
        clear k1_0 k1_1 k1_2 k1_3 k1_4 k1_5 n1_0 n1_1 n1_2 n1_3 hb2
        have k2_0 := bk2.cell 0 rfl
        have k2_1 := bk2.cell 1 rfl
        have k2_2 := bk2.cell 2 rfl
        have k2_3 := bk2.cell 3 rfl
        have k2_4 := bk2.cell 4 rfl
        have k2_5 := bk2.cell 5 rfl
        have n2_0 := bn2.cell 0 rfl
        have n2_1 := bn2.cell 1 rfl
        have n2_2 := bn2.cell 2 rfl
        have n2_3 := bn2.cell 3 rfl
        go_wp2_with (go_at_call 47; refine (within_any _ _ _ _).mono ?_; rintro e w' ⟨rfl, rfl⟩)
        go_meet
        exact ⟨by rw [HV.out], hR2⟩
      cases cB : (b == 0)
      case false =>
        have cB' : (b != 0) = true := by rw [bne, cB]; rfl
        have hv : (!abB i a b) = true := by unfold abB; rw [if_neg hA]; simp [cA, hBb, cB]
        have HV := Lib.hid hv
        clear hv
        have k0_0 := bk0.cell 0 rfl
        have k0_1 := bk0.cell 1 rfl
        have k0_2 := bk0.cell 2 rfl
        have k0_3 := bk0.cell 3 rfl
        have k0_4 := bk0.cell 4 rfl
        have k0_5 := bk0.cell 5 rfl
        have n0_0 := bn0.cell 0 rfl
        have n0_1 := bn0.cell 1 rfl
        have n0_2 := bn0.cell 2 rfl
        have n0_3 := bn0.cell 3 rfl
        go_wp2_with fail
        refine (hasA_any _ _ _ _ _ _ _).mono ?_
        rintro e F1 ⟨rfl, hb1⟩
        have bk1 := bk0.below hb1
        have bn1 := bn0.below hb1
        have hR1 := hbR.trans hb1
        clear k0_0 k0_1 k0_2 k0_3 k0_4 k0_5 n0_0 n0_1 n0_2 n0_3 hb1
        have k1_0 := bk1.cell 0 rfl
        have k1_1 := bk1.cell 1 rfl
        have k1_2 := bk1.cell 2 rfl
        have k1_3 := bk1.cell 3 rfl
        have k1_4 := bk1.cell 4 rfl
        have k1_5 := bk1.cell 5 rfl
        have n1_0 := bn1.cell 0 rfl
        have n1_1 := bn1.cell 1 rfl
        have n1_2 := bn1.cell 2 rfl
        have n1_3 := bn1.cell 3 rfl
        go_wp2_with (go_at_call 47; refine (within_any _ _ _ _).mono ?_; rintro e w' ⟨rfl, rfl⟩)
        refine (hasA_any _ _ _ _ _ _ _).mono ?_
        rintro e F2 ⟨rfl, hb2⟩
        have bk2 := bk1.below hb2
        have bn2 := bn1.below hb2
        have hR2 := hR1.trans (hb2.mono hR1.size)
        clear k1_0 k1_1 k1_2 k1_3 k1_4 k1_5 n1_0 n1_1 n1_2 n1_3 hb2
        have k2_0 := bk2.cell 0 rfl
        have k2_1 := bk2.cell 1 rfl
        have k2_2 := bk2.cell 2 rfl
        have k2_3 := bk2.cell 3 rfl
        have k2_4 := bk2.cell 4 rfl
        have k2_5 := bk2.cell 5 rfl
        have n2_0 := bn2.cell 0 rfl
        have n2_1 := bn2.cell 1 rfl
        have n2_2 := bn2.cell 2 rfl
        have n2_3 := bn2.cell 3 rfl
        go_wp2_with (go_at_call 47; refine (within_any _ _ _ _).mono ?_; rintro e w' ⟨rfl, rfl⟩)
        go_meet
        exact ⟨by rw [HV.out], hR2⟩
      have cB' : (b != 0) = false := by rw [bne, cB]; rfl
      have hv : (!abB i a b) = false := by unfold abB; rw [if_neg hA]; simp [cA, hBb, cB]
      have HV := Lib.hid hv
      clear hv
      have k0_0 := bk0.cell 0 rfl
      have k0_1 := bk0.cell 1 rfl
      have k0_2 := bk0.cell 2 rfl
      have k0_3 := bk0.cell 3 rfl
      have k0_4 := bk0.cell 4 rfl
      have k0_5 := bk0.cell 5 rfl
      have n0_0 := bn0.cell 0 rfl
      have n0_1 := bn0.cell 1 rfl
      have n0_2 := bn0.cell 2 rfl
      have n0_3 := bn0.cell 3 rfl
      go_wp2_with fail
      refine (hasA_any _ _ _ _ _ _ _).mono ?_
      rintro e F1 ⟨rfl, hb1⟩
      have bk1 := bk0.below hb1
      have bn1 := bn0.below hb1
      have hR1 := hbR.trans hb1
      clear k0_0 k0_1 k0_2 k0_3 k0_4 k0_5 n0_0 n0_1 n0_2 n0_3 hb1
      have k1_0 := bk1.cell 0 rfl
      have k1_1 := bk1.cell 1 rfl
      have k1_2 := bk1.cell 2 rfl
      have k1_3 := bk1.cell 3 rfl
      have k1_4 := bk1.cell 4 rfl
      have k1_5 := bk1.cell 5 rfl
      have n1_0 := bn1.cell 0 rfl
      have n1_1 := bn1.cell 1 rfl
      have n1_2 := bn1.cell 2 rfl
      have n1_3 := bn1.cell 3 rfl
      go_wp2_with (go_at_call 47; refine (within_any _ _ _ _).mono ?_; rintro e w' ⟨rfl, rfl⟩)
      refine (hasA_any _ _ _ _ _ _ _).mono ?_
      rintro e F2 ⟨rfl, hb2⟩
      have bk2 := bk1.below hb2
      have bn2 := bn1.below hb2
      have hR2 := hR1.trans (hb2.mono hR1.size)
      clear k1_0 k1_1 k1_2 k1_3 k1_4 k1_5 n1_0 n1_1 n1_2 n1_3 hb2
      have k2_0 := bk2.cell 0 rfl
      have k2_1 := bk2.cell 1 rfl
      have k2_2 := bk2.cell 2 rfl
      have k2_3 := bk2.cell 3 rfl
      have k2_4 := bk2.cell 4 rfl
      have k2_5 := bk2.cell 5 rfl
      have n2_0 := bn2.cell 0 rfl
      have n2_1 := bn2.cell 1 rfl
      have n2_2 := bn2.cell 2 rfl
      have n2_3 := bn2.cell 3 rfl
      go_wp2_with (go_at_call 47; refine (within_any _ _ _ _).mono ?_; rintro e w' ⟨rfl, rfl⟩)
      go_meet
      exact ⟨by rw [HV.out], hR2⟩
    case rest =>
      obtain ⟨rfl, hb⟩ := hcut
      obtain ⟨E2, rfl⟩ : ∃ E, E = wc := ⟨_, rfl⟩
      have ba2 := ba1.below hb
      have bk2 := bk.below hb
      have hB2 := hB1.trans (hb.mono hB1.size)
      have r2 := r.below hB2
      clear hb ba1 bk hB1 r
      cases hab' : (!abB i a b)
      case true =>
        have hab : abB i a b = false := by simpa using hab'
        go_wp2_with fail
        go_ret
        exact ⟨ret_bool (by rw [hN.out, hab]; simp), hB2⟩
      have hab : abB i a b = true := by simpa using hab'
      clear hab'
      have z3 := ba2.cell 3 rfl
      go_wp2_with fail
      clear z3
      go_loop [63] (fun j => ∃ k : Nat, k ≤ src.length ∧ j = .int .i64 k ∧ (src.take k).all (fun f => inB f 0 23) = true) (fun j => src.length - (intOf j).toNat)
      case atStart => exact ⟨0, Nat.zero_le _, rfl, by simp⟩
      case round =>
        obtain ⟨k, hk2, rfl, hall⟩ := hrel
        have HA := Lib.hid hall; clear hall
        by_cases hlt : k < src.length
        · obtain ⟨b1, o1, rfl, hb1, hc1⟩ := r2.pos hlt
          have hck := hc1 k hlt
          clear hc1
          generalize hx : src[k] = f at hck
          have HX := Lib.hid hx; clear hx
          cases hs : inB f 0 23
          · go_wp2_with (go_at_call 47; refine (within_any _ _ _ _).mono ?_; rintro e w' ⟨rfl, rfl⟩)
            go_ret
            exact ⟨ret_bool (by rw [hN.out, all_false hlt (by rw [HX.out]; exact hs)]; simp), hB2⟩
          · go_wp2_with (go_at_call 47; refine (within_any _ _ _ _).mono ?_; rintro e w' ⟨rfl, rfl⟩)
            go_round
            case rel => exact ⟨k + 1, by omega, by go_num, all_step hlt HA.out (by rw [HX.out]; exact hs)⟩
            case measure => simp [intOf] <;> omega
        · obtain rfl : k = src.length := by omega
          have hd := all_done HA.out
          have z0 := ba2.cell 0 rfl
          have z1 := ba2.cell 1 rfl
          have z3 := ba2.cell 3 rfl
          have q1 := bk2.cell 1 rfl
          have S1 : Hid (∀ m, Calls Try.prog 16 #[.slice p src.length c] (E2.drewN m) fun e w' => e = .returned (.int .i64 src.length) ∧ w' = E2.drewN m) := fun m => (sizeI_any _ _ _ _ hl0).mono fun e w' h => ⟨h.1, h.2.symm⟩
          by_cases c1 : (src.length : Int) = kAr i
          · have d1 : ((src.length : Int) == kAr i) = true := by rw [beq_iff_eq]; exact c1
            by_cases c2 : ((i : Int) + 1) = 13
            · have d2 : (((i : Int) + 1) != 13) = false := by rw [bne_eq_false_iff_eq]; exact c2
              have HR : Hid (nodeB ⟨(i : Int) + 1, a, b, src⟩ t = decide (a < t)) := by rw [hN.out, hab, hd, decide_eq_true c1, d2]; simp [Hid]
              clear c1 c2 hd hab
              go_wp2_with fail
              go_quiet ((go_at_call 16; exact Calls.quiet_of_same (S1.out _)))
              go_wp2_with fail
              go_ret
              exact ⟨ret_bool HR.out.symm, below_drewN hB2 _⟩
            · have d2 : (((i : Int) + 1) != 13) = true := by rw [bne_iff_ne]; exact c2
              have HR : Hid (nodeB ⟨(i : Int) + 1, a, b, src⟩ t = true) := by rw [hN.out, hab, hd, decide_eq_true c1, d2]; simp [Hid]
              clear c1 c2 hd hab
              go_wp2_with fail
              go_quiet ((go_at_call 16; exact Calls.quiet_of_same (S1.out _)))
              go_wp2_with fail
              go_ret
              exact ⟨ret_bool HR.out.symm, below_drewN hB2 _⟩
          · have d1 : ((src.length : Int) == kAr i) = false := by rw [beq_eq_false_iff_ne]; exact c1
            have HR : Hid (nodeB ⟨(i : Int) + 1, a, b, src⟩ t = false) := by rw [hN.out, decide_eq_false c1]; simp [Hid]
            clear c1 hd hab
            go_wp2_with fail
            go_quiet ((go_at_call 16; exact Calls.quiet_of_same (S1.out _)))
            go_wp2_with fail
            go_ret
            exact ⟨ret_bool HR.out.symm, below_drewN hB2 _⟩

end Go.Proofs.Ytdjoaaccnadccaa

namespace Go.Proofs.Ytdjoaaccnadccaa
open Go.ChangeShapes Go.WideShapes Go.ChangeAt Go.RowKit
set_option linter.unusedVariables false

/-- a node lies at a place of memory -/
structure PNode (w : World) (b o : Nat) (x : NodeD) : Prop where
  c0 : w.cell? ⟨b, o, none⟩ = some (.int .i64 x.kind)
  c1 : w.cell? ⟨b, o + 1, none⟩ = some (.int .i64 x.a)
  c2 : w.cell? ⟨b, o + 2, none⟩ = some (.int .i64 x.b)
  c3 : ∃ p c, w.cell? ⟨b, o + 3, none⟩ = some (.slice p x.src.length c) ∧ RdI w p x.src
theorem PNode.lt {w : World} {b o : Nat} {x : NodeD} (h : PNode w b o x) : b < w.heap.size := World.block_lt_of_cell? w _ h.c0
theorem PNode.below {w w' : World} {b o : Nat} {x : NodeD} (h : PNode w b o x) (hb : Below w.heap.size w w') : PNode w' b o x := by
  obtain ⟨p, c, h3, hr⟩ := h.c3
  exact ⟨(hb.cell (p := ⟨b, o, none⟩) h.lt).trans h.c0, (hb.cell (p := ⟨b, o + 1, none⟩) h.lt).trans h.c1, (hb.cell (p := ⟨b, o + 2, none⟩) h.lt).trans h.c2, p, c, (hb.cell (p := ⟨b, o + 3, none⟩) h.lt).trans h3, hr.below hb⟩
theorem PNode.box {w : World} {g : Nat} {x : NodeD} {p : Option Addr} {c : Nat} (h : Box w g [.int .i64 x.kind, .int .i64 x.a, .int .i64 x.b, .slice p x.src.length c] 50) (hr : RdI w p x.src) : PNode w g 0 x :=
  ⟨h.cell 0 rfl, h.cell 1 rfl, h.cell 2 rfl, p, c, h.cell 3 rfl, hr⟩
end Go.Proofs.Ytdjoaaccnadccaa
