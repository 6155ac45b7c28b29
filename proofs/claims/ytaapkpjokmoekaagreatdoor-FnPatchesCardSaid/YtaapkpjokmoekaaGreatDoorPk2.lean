/-
  Several texts in one: TyBase, TyNode, Kinds, KindFns, Node, PNode, Node2, Out, Node3, TyNodeS.
-/
import Derived.Test.YtaapkpjokmoekaaGreatDoorPk1
import Derived.Deep.RegionWith
import Derived.Deep.DeepCutAuto
import Derived.Lib.QuietBelow
import Derived.Deep.RegionHeld3
namespace Go.Proofs.YtaapkpjokmoekaaGreatDoor
open Go.ChangeShapes Go.WideShapes Go.ChangeAt Go.RowKit
set_option linter.unusedVariables false

theorem below_drew' {B : Nat} {w w' : World} (h : Below B w.drew w') : Below B w w' := ⟨h.os, h.tape, h.output, h.size, h.block⟩

/-- what is left of a size -/
def szF (left : Int) (n : Nat) : Int := if left < n then -1 else left - n
theorem szF_neg {left : Int} {n : Nat} (h : szF left n < 0) (h0 : 0 ≤ left) : szF left n = -1 ∧ left < n := by
  unfold szF at *
  split at h
  · rename_i h'; rw [if_pos h']; exact ⟨rfl, h'⟩
  · omega
theorem szF_pos {left : Int} {n : Nat} (h : ¬ szF left n < 0) : szF left n = left - n ∧ (n : Int) ≤ left := by
  unfold szF at *
  split at h
  · omega
  · rename_i h'; rw [if_neg h']; exact ⟨rfl, by omega⟩
theorem szF_lt {left : Int} {n : Nat} (h : left < n) : szF left n = -1 := by unfold szF; rw [if_pos h]
theorem szF_ge {left : Int} {n : Nat} (h : (n : Int) ≤ left) : szF left n = left - n := by unfold szF; rw [if_neg (by omega)]

theorem blk_append {L M : List Value} {b : Nat} : Blk (L ++ M) b ↔ Blk L b ∨ Blk M b := by
  constructor
  · rintro ⟨u, hu, hb⟩
    rcases List.mem_append.1 hu with hu | hu
    · exact .inl ⟨u, hu, hb⟩
    · exact .inr ⟨u, hu, hb⟩
  · rintro (⟨u, hu, hb⟩ | ⟨u, hu, hb⟩)
    · exact ⟨u, List.mem_append_left _ hu, hb⟩
    · exact ⟨u, List.mem_append_right _ hu, hb⟩
theorem Dis.left {L M : List Value} (h : Dis (L ++ M)) : Dis L := (List.pairwise_append.1 h).1
theorem Dis.right {L M : List Value} (h : Dis (L ++ M)) : Dis M := (List.pairwise_append.1 h).2.1
theorem Dis.sep {L M : List Value} (h : Dis (L ++ M)) : ∀ b, Blk L b → ¬ Blk M b := by
  rintro b ⟨u, hu, hb⟩ ⟨u', hu', hb'⟩
  exact (List.pairwise_append.1 h).2.2 u hu u' hu' b hb hb'

/-- the types whose blocks a mark writes -/
abbrev mkT (T : TypeId) : Prop := T = 2 ∨ T = 2 ∨ T = 2 ∨ T = 2
/-- the blocks of L hold what a mark writes -/
def IntBlks (w : World) (L : List Value) : Prop := ∀ b, Blk L b → ∃ cur T, w.heap[b]? = some (.cells cur T (0, 0)) ∧ mkT T
theorem IntBlks.append {w : World} {L M : List Value} (h : IntBlks w L) (h' : IntBlks w M) : IntBlks w (L ++ M) := by
  rintro b ⟨u, hu, hb⟩
  rcases List.mem_append.1 hu with hu | hu
  · exact h b ⟨u, hu, hb⟩
  · exact h' b ⟨u, hu, hb⟩
theorem OwnI.ints {B : Nat} {w : World} {v : Value} {xs : List Int} (h : OwnI B w v xs) {b : Nat} (hb : v.ownBlock = some b) : ∃ cur T, w.heap[b]? = some (.cells cur T (0, 0)) ∧ mkT T := by
  rcases h.2 with ⟨hn, _⟩ | ⟨g, cap, cur, hv, _, hg, _⟩
  · rw [hn] at hb; simp [Value.ownBlock] at hb
  · rw [hv] at hb
    simp only [Value.ownBlock, Option.some.injEq] at hb
    subst hb
    exact ⟨cur, _, hg, .inl rfl⟩

theorem Box.offBlk {w w' : World} {g : Nat} {L M : List Value} {T : TypeId} (h : Box w g L T) (hT : ¬ mkT T) (hi : IntBlks w M) (hf : Off (Blk M) w w') : Box w' g L T :=
  h.keep (hf.block g h.lt fun hb => by
    obtain ⟨cur, T', hg, hm⟩ := hi g hb
    rw [Box, hg] at h
    simp only [Option.some.injEq, Obj.cells.injEq] at h
    rw [h.2.1] at hm
    exact hT hm)
/-- the leaves of one thing lie below those of another -/
theorem apart {L M : List Value} {a b : Nat} (hL : ∀ x, Blk L x → x < a) (hM : ∀ x, Blk M x → b ≤ x) (hab : a ≤ b) : ∀ x, Blk L x → ¬ Blk M x := fun x h h' => by have := hL x h; have := hM x h'; omega
theorem apart' {L M : List Value} {a b : Nat} (hL : ∀ x, Blk L x → x < a) (hM : ∀ x, Blk M x → b ≤ x) (hab : a ≤ b) : ∀ x, Blk M x → ¬ Blk L x := fun x h h' => by have := hL x h'; have := hM x h; omega

/-! ### slices of integers -/
def VI (w : World) (v : Value) (xs : List Int) : Prop := ∃ p c, v = .slice p xs.length c ∧ RdI w p xs
theorem VI.below {w w' : World} {v : Value} {xs : List Int} (h : VI w v xs) (hb : Below w.heap.size w w') : VI w' v xs := by
  obtain ⟨p, c, rfl, hr⟩ := h
  exact ⟨p, c, rfl, hr.below hb⟩
def OwnLI (B : Nat) (w : World) (v : Value) (xs : List Int) (L : List Value) : Prop := OwnI B w v xs ∧ L = [v]
theorem OwnLI.rd {B : Nat} {w : World} {v : Value} {xs : List Int} {L : List Value} (h : OwnLI B w v xs L) : VI w v xs := h.1.rd
theorem OwnLI.mono {B B' : Nat} {w : World} {v : Value} {xs : List Int} {L : List Value} (h : OwnLI B w v xs L) (hB : B' ≤ B) : OwnLI B' w v xs L := ⟨h.1.mono hB, h.2⟩
theorem OwnLI.blk {B : Nat} {w : World} {v : Value} {xs : List Int} {L : List Value} (h : OwnLI B w v xs L) {b : Nat} (hb : Blk L b) : B ≤ b ∧ b < w.heap.size := by
  obtain ⟨u, hu, hb⟩ := hb
  rw [h.2, List.mem_singleton] at hu
  subst hu
  exact h.1.lt hb
theorem OwnLI.off {B : Nat} {w w' : World} {v : Value} {xs : List Int} {L : List Value} (h : OwnLI B w v xs L) (hk : ∀ k, B ≤ k → k < w.heap.size → Blk L k → w'.heap[k]? = w.heap[k]?) : OwnLI B w' v xs L :=
  ⟨h.1.keep fun k hb => hk k (h.1.lt hb).1 (h.1.lt hb).2 ⟨v, by rw [h.2]; exact List.mem_singleton.2 rfl, hb⟩, h.2⟩
theorem OwnLI.ints {B : Nat} {w : World} {v : Value} {xs : List Int} {L : List Value} (h : OwnLI B w v xs L) : IntBlks w L := by
  rintro b ⟨u, hu, hb⟩
  rw [h.2, List.mem_singleton] at hu
  subst hu
  exact h.1.ints hb
theorem OwnLI.keeps {B : Nat} {w w' : World} {v : Value} {xs : List Int} {L : List Value} (h : OwnLI B w v xs L) (hk : ∀ k, B ≤ k → k < w.heap.size → w'.heap[k]? = w.heap[k]?) : OwnLI B w' v xs L :=
  h.off fun k h1 h2 _ => hk k h1 h2
theorem OwnLI.offBlk {B : Nat} {w w' : World} {v : Value} {xs : List Int} {L M : List Value} (h : OwnLI B w v xs L) (_hi : IntBlks w M) (hd : ∀ b, Blk L b → ¬ Blk M b) (hf : Off (Blk M) w w') : OwnLI B w' v xs L :=
  h.off fun k _ hk hb => hf.block k hk (hd k hb)
theorem OwnLI.below {B : Nat} {w w' : World} {v : Value} {xs : List Int} {L : List Value} (h : OwnLI B w v xs L) (hb : Below w.heap.size w w') : OwnLI B w' v xs L := h.keeps fun k _ hk => hb.block k hk
theorem OwnLI.dis {B : Nat} {w : World} {v : Value} {xs : List Int} {L : List Value} (h : OwnLI B w v xs L) : Dis L := by rw [h.2]; exact List.pairwise_singleton _ _
def wtI (xs : List Int) : Nat := xs.length
def cntI (xs : List Int) : Nat := xs.length
theorem cntI_le (xs : List Int) : cntI xs ≤ wtI xs := Nat.le_refl _
def markI (k : Int) (xs : List Int) : List Int := seqI k xs.length
/-! ### slices of slices of integers -/
def VII (w : World) (v : Value) (xs : List (List Int)) : Prop := ∃ p c, v = .slice p xs.length c ∧ RdII w p xs
theorem VII.below {w w' : World} {v : Value} {xs : List (List Int)} (h : VII w v xs) (hb : Below w.heap.size w w') : VII w' v xs := by
  obtain ⟨p, c, rfl, hr⟩ := h
  exact ⟨p, c, rfl, hr.below hb⟩
theorem OwnII.rdv {B : Nat} {w : World} {v : Value} {xs : List (List Int)} {L : List Value} (h : OwnII B w v xs L) : VII w v xs := h.rd
theorem OwnII.blk {B : Nat} {w : World} {v : Value} {xs : List (List Int)} {L : List Value} (h : OwnII B w v xs L) {b : Nat} (hb : Blk L b) : B ≤ b ∧ b < w.heap.size := ⟨(h.2.1.blk hb).1, (h.2.1.blk hb).2.1⟩
theorem OwnII.keeps {B : Nat} {w w' : World} {v : Value} {xs : List (List Int)} {L : List Value} (h : OwnII B w v xs L) (hk : ∀ k, B ≤ k → k < w.heap.size → w'.heap[k]? = w.heap[k]?) : OwnII B w' v xs L :=
  ⟨h.1.keep fun k hb => hk k (h.1.lt hb).1 (h.1.lt hb).2, h.2.1.keep fun k hb => hk k (h.2.1.blk hb).1 (h.2.1.blk hb).2.1, h.2.2⟩
theorem OwnII.ints {B : Nat} {w : World} {v : Value} {xs : List (List Int)} {L : List Value} (h : OwnII B w v xs L) : IntBlks w L := fun b hb => by
  obtain ⟨cur, hg⟩ := (h.2.1.blk hb).2.2
  exact ⟨cur, _, hg, .inl rfl⟩
theorem OwnII.offBlk {B : Nat} {w w' : World} {v : Value} {xs : List (List Int)} {L M : List Value} (h : OwnII B w v xs L) (hi : IntBlks w M) (hd : ∀ b, Blk L b → ¬ Blk M b) (hf : Off (Blk M) w w') : OwnII B w' v xs L := by
  refine ⟨h.1.keep fun k hk => hf.block k (h.1.lt hk).2 fun hb => ?_, h.2.1.keep fun k hk => hf.block k (h.2.1.blk hk).2.1 (hd k hk), h.2.2⟩
  obtain ⟨cur, T, hg, hm⟩ := hi k hb
  rcases h.1.cases with ⟨e, _⟩ | ⟨g, cap, e, _, _, ⟨cur', hg'⟩, _⟩
  · rw [e] at hk; simp [Value.ownBlock] at hk
  · rw [e] at hk
    simp only [Value.ownBlock, Option.some.injEq] at hk
    subst hk
    rw [hg] at hg'
    simp only [Option.some.injEq, Obj.cells.injEq] at hg'
    rw [hg'.2.1] at hm
    exact absurd hm (by decide)
theorem OwnII.dis {B : Nat} {w : World} {v : Value} {xs : List (List Int)} {L : List Value} (h : OwnII B w v xs L) : Dis L := h.2.2
def wtII (xs : List (List Int)) : Nat := xs.length + lens xs
def cntII (xs : List (List Int)) : Nat := lens xs
theorem cntII_le (xs : List (List Int)) : cntII xs ≤ wtII xs := by unfold cntII wtII; omega
def markII (k : Int) (xs : List (List Int)) : List (List Int) := marks k xs
end Go.Proofs.YtaapkpjokmoekaaGreatDoor

namespace Go.Proofs.YtaapkpjokmoekaaGreatDoor
open Go.ChangeShapes Go.WideShapes Go.ChangeAt Go.RowKit
set_option linter.unusedVariables false

structure NodeD where
  kind : Int
  a : Int
  b : Int
  src : List Int

/-- the value v is a Node that reads x -/
def VNode (w : World) (v : Value) (x : NodeD) : Prop := ∃ p3 c3, v = .agg #[.int .i64 x.kind, .int .i64 x.a, .int .i64 x.b, .slice p3 x.src.length c3] ∧ RdI w p3 x.src
theorem VNode.below {w w' : World} {v : Value} {x : NodeD} (h : VNode w v x) (hb : Below w.heap.size w w') : VNode w' v x := by
  obtain ⟨p3, c3, rfl, r3⟩ := h
  exact ⟨p3, c3, rfl, r3.below hb⟩
/-- a Node of the call's own; L: its slices of integers -/
def OwnNode (B : Nat) (w : World) (v : Value) (x : NodeD) (L : List Value) : Prop := ∃ u3 L3, v = .agg #[.int .i64 x.kind, .int .i64 x.a, .int .i64 x.b, u3] ∧ L3 = L ∧ OwnLI B w u3 x.src L3
theorem OwnNode.rd {B : Nat} {w : World} {v : Value} {x : NodeD} {L : List Value} (h : OwnNode B w v x L) : VNode w v x := by
  obtain ⟨u3, L3, rfl, rfl, o3⟩ := h
  obtain ⟨p3, c3, rfl, r3⟩ := OwnLI.rd o3
  exact ⟨p3, c3, rfl, r3⟩
theorem OwnNode.mono {B B' : Nat} {w : World} {v : Value} {x : NodeD} {L : List Value} (h : OwnNode B w v x L) (hB : B' ≤ B) : OwnNode B' w v x L := by
  obtain ⟨u3, L3, rfl, rfl, o3⟩ := h
  exact ⟨u3, L3, rfl, rfl, o3.mono hB⟩
theorem OwnNode.keeps {B : Nat} {w w' : World} {v : Value} {x : NodeD} {L : List Value} (h : OwnNode B w v x L) (hk : ∀ k, B ≤ k → k < w.heap.size → w'.heap[k]? = w.heap[k]?) : OwnNode B w' v x L := by
  obtain ⟨u3, L3, rfl, rfl, o3⟩ := h
  exact ⟨u3, L3, rfl, rfl, o3.keeps hk⟩
theorem OwnNode.below {B : Nat} {w w' : World} {v : Value} {x : NodeD} {L : List Value} (h : OwnNode B w v x L) (hb : Below w.heap.size w w') : OwnNode B w' v x L := h.keeps fun k _ hk => hb.block k hk
theorem OwnNode.blk {B : Nat} {w : World} {v : Value} {x : NodeD} {L : List Value} (h : OwnNode B w v x L) {b : Nat} (hb : Blk L b) : B ≤ b ∧ b < w.heap.size := by
  obtain ⟨u3, L3, rfl, rfl, o3⟩ := h
  obtain ⟨u, hu, hb⟩ := hb
  exact o3.blk ⟨u, hu, hb⟩
theorem OwnNode.ints {B : Nat} {w : World} {v : Value} {x : NodeD} {L : List Value} (h : OwnNode B w v x L) : IntBlks w L := by
  obtain ⟨u3, L3, rfl, rfl, o3⟩ := h
  exact o3.ints
def wtNode (x : NodeD) : Nat := wtI x.src
def cntNode (x : NodeD) : Nat := cntI x.src
theorem cntNode_le (x : NodeD) : cntNode x ≤ wtNode x := by
  have e3 := cntI_le x.src
  unfold cntNode wtNode; omega
def markNode (m : Int) (x : NodeD) : NodeD := { x with src := markI (m) x.src }
end Go.Proofs.YtaapkpjokmoekaaGreatDoor

namespace Go.Proofs.YtaapkpjokmoekaaGreatDoor
open Go.ChangeShapes Go.WideShapes Go.ChangeAt Go.RowKit
set_option linter.unusedVariables false

theorem isKind_any (n : Int) (w : World) :
    Calls Tryz.prog 77 #[.int .i64 n] w fun e w' => e = .returned (.bool (inB n 1 17)) ∧ w = w' := by
  go_enter Tryz.func77, Tryz.ntmps77
  go_wp2_with (go_at_call 43; refine (within_any _ _ _ _).mono ?_; rintro e w' ⟨rfl, rfl⟩)
  go_ret
  exact ⟨rfl, rfl⟩
theorem l06Kind_any (n : Int) (w : World) :
    Calls Tryz.prog 103 #[.int .i64 n] w fun e w' => e = .returned (.bool (inB n 1 17)) ∧ w = w' := by
  go_enter Tryz.func103, Tryz.ntmps103
  go_wp2_with (go_at_call 31; refine (l00In_any _ _ _ _).mono ?_; rintro e w' ⟨rfl, rfl⟩)
  go_ret
  exact ⟨rfl, rfl⟩
/-! ### what is known of the kinds: kind k is row k - 1 -/
def kNm (i : Nat) : ByteArray := ([(⟨#[105, 110, 112, 117, 116]⟩ : ByteArray), (⟨#[99, 111, 110, 115, 116]⟩ : ByteArray), (⟨#[97, 100, 100]⟩ : ByteArray), (⟨#[115, 117, 98]⟩ : ByteArray), (⟨#[103, 97, 105, 110]⟩ : ByteArray), (⟨#[100, 101, 108, 97, 121]⟩ : ByteArray), (⟨#[115, 117, 109]⟩ : ByteArray), (⟨#[100, 105, 102, 102]⟩ : ByteArray), (⟨#[109, 117, 108]⟩ : ByteArray), (⟨#[115, 104, 105, 102, 116]⟩ : ByteArray), (⟨#[99, 108, 105, 112]⟩ : ByteArray), (⟨#[112, 104, 97, 115, 101]⟩ : ByteArray), (⟨#[116, 97, 98, 108, 101]⟩ : ByteArray), (⟨#[110, 111, 105, 115, 101]⟩ : ByteArray), (⟨#[115, 101, 108, 101, 99, 116]⟩ : ByteArray), (⟨#[104, 111, 108, 100]⟩ : ByteArray), (⟨#[99, 111, 109, 98]⟩ : ByteArray)] : List ByteArray).getD i ⟨#[]⟩
def kAr (i : Nat) : Int := ([0, 0, 2, 2, 1, 1, 1, 1, 2, 1, 1, 1, 1, 0, 3, 2, 1] : List Int).getD i 0
def kLo (i : Nat) : Int := ([0, -2147483648, 1, 1, -2147483648, 1, 1, 1, 1, 0, 0, -2147483648, 0, -2147483648, 1, 1, -2147483648] : List Int).getD i 0
def kHi (i : Nat) : Int := ([3, 2147483647, 0, 0, 2147483647, 16, 0, 0, 0, 31, 2147483647, 2147483647, 3, 2147483647, 0, 0, 2147483647] : List Int).getD i 0
def kLi (i : Nat) : Bool := ([true, false, true, true, true, true, true, true, false, false, false, false, false, false, false, false, true] : List Bool).getD i false
def kBb (i : Nat) : Bool := ([false, false, false, false, false, false, false, false, false, false, false, false, false, false, false, false, true] : List Bool).getD i false

/-- the table of kinds lies at block g -/
def KindCells (w : World) (g : Nat) : Prop := ∀ i, i < 17 → w.cell? ⟨g, i * 6, none⟩ = some (.string (kNm i)) ∧ w.cell? ⟨g, i * 6 + 1, none⟩ = some (.int .i64 (kAr i)) ∧ w.cell? ⟨g, i * 6 + 2, none⟩ = some (.int .i64 (kLo i)) ∧
  w.cell? ⟨g, i * 6 + 3, none⟩ = some (.int .i64 (kHi i)) ∧ w.cell? ⟨g, i * 6 + 4, none⟩ = some (.bool (kLi i)) ∧ w.cell? ⟨g, i * 6 + 5, none⟩ = some (.bool (kBb i))
theorem seventeen {i : Nat} (h : i < 17) : i = 0 ∨ i = 1 ∨ i = 2 ∨ i = 3 ∨ i = 4 ∨ i = 5 ∨ i = 6 ∨ i = 7 ∨ i = 8 ∨ i = 9 ∨ i = 10 ∨ i = 11 ∨ i = 12 ∨ i = 13 ∨ i = 14 ∨ i = 15 ∨ i = 16 := by omega
set_option maxHeartbeats 4000000 in
set_option maxRecDepth 100000 in
theorem kinds_any (w : World) :
    Calls Tryz.prog 78 #[] w fun e w' => e = .returned (.slice (some ⟨w.heap.size, 0, none⟩) 17 17) ∧ KindCells w' w.heap.size ∧ Below w.heap.size w w' := by
  go_enter Tryz.func78, Tryz.ntmps78
  go_wp2
  go_ret
  refine ⟨rfl, fun i hi => ?_, (Below.refl _ _).alloc (Nat.le_refl _) _⟩
  rcases seventeen hi with rfl | rfl | rfl | rfl | rfl | rfl | rfl | rfl | rfl | rfl | rfl | rfl | rfl | rfl | rfl | rfl | rfl <;>
    exact ⟨by rw [World.cell?_alloc_at _ _ _ _ rfl]; rfl, by rw [World.cell?_alloc_at _ _ _ _ rfl]; rfl, by rw [World.cell?_alloc_at _ _ _ _ rfl]; rfl, by rw [World.cell?_alloc_at _ _ _ _ rfl]; rfl, by rw [World.cell?_alloc_at _ _ _ _ rfl]; rfl, by rw [World.cell?_alloc_at _ _ _ _ rfl]; rfl⟩
set_option maxHeartbeats 4000000 in
set_option maxRecDepth 100000 in
theorem l06Arity_any (i : Nat) (hi : i < 17) (w : World) :
    Calls Tryz.prog 70 #[.int .i64 ((i : Int) + 1)] w fun e w' => e = .returned (.int .i64 (kAr i)) ∧ Below w.heap.size w w' := by
  go_enter Tryz.func70, Tryz.ntmps70
  go_wp2
  go_ret
  refine ⟨?_, (Below.refl _ _).alloc (Nat.le_refl _) _⟩
  rcases seventeen hi with rfl | rfl | rfl | rfl | rfl | rfl | rfl | rfl | rfl | rfl | rfl | rfl | rfl | rfl | rfl | rfl | rfl <;> rfl
end Go.Proofs.YtaapkpjokmoekaaGreatDoor

namespace Go.Proofs.YtaapkpjokmoekaaGreatDoor
open Go.ChangeShapes Go.WideShapes Go.ChangeAt Go.RowKit
set_option linter.unusedVariables false

theorem kind_of_in {k : Int} (h : inB k 1 17 = true) : ∃ i : Nat, i < 17 ∧ k = (i : Int) + 1 := by
  rw [inB_iff] at h
  exact ⟨(k - 1).toNat, by omega, by omega⟩
def kindLinear (k : Int) : Bool := inB k 1 17 && kLi (k - 1).toNat
def kindArity (k : Int) : Int := if inB k 1 17 then kAr (k - 1).toNat else -1
def kindName (k : Int) : ByteArray := if inB k 1 17 then kNm (k - 1).toNat else ⟨#[]⟩
theorem kindLinear_in {i : Nat} (h : i < 17) : kindLinear ((i : Int) + 1) = kLi i := by
  have e : ((i : Int) + 1 - 1).toNat = i := by omega
  rw [kindLinear, inB_true (by omega), e, Bool.true_and]
theorem kindArity_in {i : Nat} (h : i < 17) : kindArity ((i : Int) + 1) = kAr i := by
  have e : ((i : Int) + 1 - 1).toNat = i := by omega
  rw [kindArity, inB_true (by omega), e, if_pos rfl]
theorem kindName_in {i : Nat} (h : i < 17) : kindName ((i : Int) + 1) = kNm i := by
  have e : ((i : Int) + 1 - 1).toNat = i := by omega
  rw [kindName, inB_true (by omega), e, if_pos rfl]
theorem kindLinear_out {k : Int} (h : inB k 1 17 = false) : kindLinear k = false := by rw [kindLinear, h, Bool.false_and]
theorem kindArity_out {k : Int} (h : inB k 1 17 = false) : kindArity k = -1 := by rw [kindArity, h]; rfl
theorem kindName_out {k : Int} (h : inB k 1 17 = false) : kindName k = ⟨#[]⟩ := by rw [kindName, h]; rfl
theorem any_true {α : Type} {f : α → Bool} {xs : List α} {k : Nat} (h : k < xs.length) (hf : f xs[k] = true) : xs.any f = true := by
  rw [List.any_eq_true]
  exact ⟨xs[k], List.getElem_mem h, hf⟩
theorem any_step {α : Type} {f : α → Bool} {xs : List α} {k : Nat} (h : k < xs.length) (ht : (xs.take k).any f = false) (hf : f xs[k] = false) : (xs.take (k + 1)).any f = false := by
  rw [List.take_succ_eq_append_getElem h, List.any_append, ht]
  simp [hf]
theorem any_done {α : Type} {f : α → Bool} {xs : List α} (ht : (xs.take xs.length).any f = false) : xs.any f = false := by rwa [List.take_length] at ht
set_option maxHeartbeats 400000 in
theorem l00Has_any {p : Option Addr} {c : Nat} {xs : List Int} (n : Int) (w : World) (h : RdI w p xs) :
    Calls Tryz.prog 82 #[.slice p xs.length c, .int .i64 n] w fun e w' => e = .returned (.bool (xs.any (· == n))) ∧ w = w' := by
  have hlen := h.len
  unfold maxLen at hlen
  go_enter Tryz.func82, Tryz.ntmps82
  go_wp2_with fail
  go_loop [5] (fun i => ∃ k : Nat, k ≤ xs.length ∧ i = .int .i64 k ∧ (xs.take k).any (· == n) = false) (fun i => xs.length - (intOf i).toNat)
  case atStart => exact ⟨0, Nat.zero_le _, rfl, by simp⟩
  case round =>
    obtain ⟨k, hk, rfl, hall⟩ := hrel
    have HA := Lib.hid hall; clear hall
    by_cases hlt : k < xs.length
    · obtain ⟨b, o, rfl, hb, hc⟩ := h.pos hlt
      have hck := hc k hlt
      clear hc
      generalize hx : xs[k] = x at hck
      have HX := Lib.hid hx; clear hx
      cases hs : (x == n)
      · go_wp2_with fail
        go_round
        case rel => exact ⟨k + 1, by omega, by go_num, any_step hlt HA.out (by rw [HX.out]; exact hs)⟩
        case measure => simp [intOf] <;> omega
      · go_wp2_with fail
        go_ret
        exact ⟨ret_bool (any_true hlt (by rw [HX.out]; exact hs)).symm, rfl⟩
    · obtain rfl : k = xs.length := by omega
      go_wp2_with fail
      go_ret
      exact ⟨ret_bool (any_done HA.out).symm, rfl⟩
/-- the kind with a name, 0 if there is none -/
def kindNamed (s : ByteArray) : Int := (((List.range 17).find? fun i => decide (kNm i = s)).map fun i => (i : Int) + 1).getD 0
theorem find_at (p : Nat → Bool) (n i : Nat) (hi : i < n) (hp : p i = true) (hb : ∀ j, j < i → p j = false) : (List.range n).find? p = some i := by
  rw [List.find?_range_eq_some]
  exact ⟨hp, by simpa using hi, fun j hj => by simp [hb j hj]⟩
theorem kindNamed_found {s : ByteArray} {i : Nat} (hi : i < 17) (he : kNm i = s) (hne : ∀ j, j < i → kNm j ≠ s) : kindNamed s = (i : Int) + 1 := by
  rw [kindNamed, find_at _ 17 i hi (by simpa using he) (fun j hj => by simpa using hne j hj)]
  rfl
theorem kindNamed_none {s : ByteArray} (hne : ∀ j, j < 17 → kNm j ≠ s) : kindNamed s = 0 := by
  rw [kindNamed, List.find?_eq_none.2 (by simpa using hne)]
  rfl
set_option maxHeartbeats 800000 in
theorem implKindNamed_any (s : ByteArray) (w : World) :
    Calls Tryz.prog 87 #[.string s] w fun e w' => e = .returned (.int .i64 (kindNamed s)) ∧ Below w.heap.size w w' := by
  go_enter Tryz.func87, Tryz.ntmps87
  go_wp2_with fail
  refine (kinds_any _).mono ?_
  rintro e w1 ⟨rfl, hc, hb⟩
  have hgl : Hid (KindCells w1 w.heap.size) := hc
  have hlt0 : w.heap.size < w1.heap.size := World.block_lt_of_cell? w1 _ (hc 0 (by omega)).1
  clear hc
  go_wp2_with fail
  go_loopw [7] (fun i wr => ∃ k : Nat, k ≤ 17 ∧ i = .int .i64 (k : Int) ∧ (∀ j, j < k → kNm j ≠ s) ∧ Below w1.heap.size w1 wr) (fun i _ => 17 - (intOf i).toNat)
  case atStart => exact ⟨0, by omega, rfl, (fun j hj => by omega), Below.refl _ _⟩
  case round =>
    obtain ⟨k, hk, rfl, hne, hbr⟩ := hrel
    have HN := Lib.hid hne; clear hne
    have hsz := hbr.size
    by_cases hlt : k < 17
    · obtain ⟨h0, h1, h2, h3, h4, h5⟩ := hgl.out k hlt
      rw [← hbr.cell (by exact hlt0)] at h0 h1 h2 h3 h4 h5
      have hbr' := hbr.alloc hsz (.cells #[.string (kNm k), .int .i64 (kAr k), .int .i64 (kLo k), .int .i64 (kHi k), .bool (kLi k), .bool (kBb k)] 106)
      by_cases he : kNm k = s
      · have hb1 := str_beq_true he
        have HE := Lib.hid he; clear he
        go_wp2_with fail
        go_ret
        exact ⟨ret_int (kindNamed_found hlt HE.out HN.out).symm, hb.trans (hbr'.mono hb.size)⟩
      · have hb1 := str_beq_false he
        have HE := Lib.hid he; clear he
        go_wp2_with fail
        go_roundw
        case rel =>
          refine ⟨k + 1, by omega, by go_num, fun j hj => ?_, hbr'⟩
          by_cases e : j = k
          · rw [e]; exact HE.out
          · exact HN.out j (by omega)
        case measure => simp [intOf] <;> omega
    · obtain rfl : k = 17 := by omega
      go_wp2_with fail
      go_ret
      exact ⟨ret_int (kindNamed_none HN.out).symm, hb.trans (hbr.mono hb.size)⟩
end Go.Proofs.YtaapkpjokmoekaaGreatDoor

namespace Go.Proofs.YtaapkpjokmoekaaGreatDoor
open Go.ChangeShapes Go.WideShapes Go.ChangeAt Go.RowKit
set_option linter.unusedVariables false

/-- A and B of a node of kind i + 1 are valid -/
def abB (i : Nat) (a b : Int) : Bool := (if kLo i ≤ kHi i then inB a (kLo i) (kHi i) else a == 0) && (if kBb i then inB b 1 16 else b == 0)
/-- a valid node, for a number of tables -/
def nodeB (x : NodeD) (tables : Int) : Bool :=
  inB x.kind 1 17 && abB (x.kind - 1).toNat x.a x.b && x.src.all (fun f => inB f 0 23) && decide ((x.src.length : Int) = kAr (x.kind - 1).toNat) && (x.kind != 13 || decide (x.a < tables))

theorem hasA_any (nm : ByteArray) (a lo hi : Int) (l b : Bool) (w : World) :
    Calls Tryz.prog 79 #[.agg #[.string nm, .int .i64 a, .int .i64 lo, .int .i64 hi, .bool l, .bool b]] w fun e w' => e = .returned (.bool (decide (lo ≤ hi))) ∧ Below w.heap.size w w' := by
  go_enter Tryz.func79, Tryz.ntmps79
  go_wp2
  go_ret
  exact ⟨rfl, (Below.refl _ _).alloc (Nat.le_refl _) _⟩
theorem l00Min_any (a b : Int) (w : World) :
    Calls Tryz.prog 39 #[.int .i64 a, .int .i64 b] w fun e w' => e = .returned (.int .i64 (min a b)) ∧ w = w' := by
  by_cases h : a < b
  · have e : min a b = a := by omega
    rw [e]; clear e
    go_enter Tryz.func39, Tryz.ntmps39
    go_wp2
    go_ret
    exact ⟨rfl, rfl⟩
  · have e : min a b = b := by omega
    rw [e]; clear e
    go_enter Tryz.func39, Tryz.ntmps39
    go_wp2
    go_ret
    exact ⟨rfl, rfl⟩
theorem l00Max_any (a b : Int) (w : World) :
    Calls Tryz.prog 72 #[.int .i64 a, .int .i64 b] w fun e w' => e = .returned (.int .i64 (max a b)) ∧ w = w' := by
  by_cases h : b < a
  · have e : max a b = a := by omega
    rw [e]; clear e
    go_enter Tryz.func72, Tryz.ntmps72
    go_wp2
    go_ret
    exact ⟨rfl, rfl⟩
  · have e : max a b = b := by omega
    rw [e]; clear e
    go_enter Tryz.func72, Tryz.ntmps72
    go_wp2
    go_ret
    exact ⟨rfl, rfl⟩
theorem kinds_ex (w : World) :
    Calls Tryz.prog 78 #[] w fun e w' => ∃ g, e = .returned (.slice (some ⟨g, 0, none⟩) 17 17) ∧ KindCells w' g ∧ w.heap.size ≤ g ∧ Below w.heap.size w w' :=
  (kinds_any w).mono fun _ _ h => ⟨_, h.1, h.2.1, Nat.le_refl _, h.2.2⟩
set_option maxHeartbeats 16000000 in
set_option maxRecDepth 100000 in
theorem isNode_in {p : Option Addr} {c : Nat} {src : List Int} (i : Nat) (hi : i < 17) (a b t : Int) (w : World) (r : RdI w p src) :
    Calls Tryz.prog 47 #[.agg #[.int .i64 ((i : Int) + 1), .int .i64 a, .int .i64 b, .slice p src.length c], .int .i64 t] w fun e w' => e = .returned (.bool (nodeB ⟨(i : Int) + 1, a, b, src⟩ t)) ∧ Below w.heap.size w w' := by
  have hl := r.len
  have hl0 := r.len
  unfold maxLen at hl
  have hk : inB ((i : Int) + 1) 1 17 = true := inB_true (by omega)
  have hN : Hid (nodeB ⟨(i : Int) + 1, a, b, src⟩ t = (abB i a b && src.all (fun f => inB f 0 23) && decide ((src.length : Int) = kAr i) && (((i : Int) + 1) != 13 || decide (a < t)))) := by
    have e : ((i : Int) + 1 - 1).toNat = i := by omega
    unfold Hid nodeB
    simp only [hk, e, Bool.true_and]
  obtain ⟨E0, hE0⟩ : ∃ E, E = w.alloc (.cells #[.int .i64 ((i : Int) + 1), .int .i64 a, .int .i64 b, .slice p src.length c] 35) := ⟨_, rfl⟩
  have hB0 : Below w.heap.size w E0 := by rw [hE0]; exact (Below.refl _ _).alloc (Nat.le_refl _) _
  have ba0 : Box E0 w.heap.size [.int .i64 ((i : Int) + 1), .int .i64 a, .int .i64 b, .slice p src.length c] 35 := by rw [hE0]; exact Box.newAt w [.int .i64 ((i : Int) + 1), .int .i64 a, .int .i64 b, .slice p src.length c] _ rfl
  have HE0 := Lib.hid hE0
  clear hE0
  go_enter Tryz.func47, Tryz.ntmps47
  go_upto_region 3 with (go_at_call 77; refine (isKind_any _ _).mono ?_; rintro e w' ⟨rfl, rfl⟩)
  rw [← HE0.out]
  go_cut [5] (fun v wr => ∃ g, v = .pointer (some ⟨g, 0, none⟩) ∧ Box wr g [.string (kNm i), .int .i64 (kAr i), .int .i64 (kLo i), .int .i64 (kHi i), .bool (kLi i), .bool (kBb i)] 106 ∧ Below E0.heap.size E0 wr)
  case first =>
    have z0 := ba0.cell 0 rfl
    have w1 : IntKind.i64.wrap ((i : Int) + 1 - 1) = (i : Int) := by rw [IntWalk.i64_in _ (by omega)]; omega
    have w5 : IntKind.i64.wrap (i : Int) = (i : Int) := IntWalk.i64_in _ (by omega)
    have w2 : (0 : Int) ≤ (i : Int) := by omega
    have w3 : (i : Int) < 17 := by omega
    have w4 : ((i : Int)).toNat = i := by omega
    have hwl0 := ba0.lt
    go_region_with (first | (go_at_call 78; refine (kinds_ex E0.drew).mono ?_; rintro e F1 ⟨g, rfl, hc, hg, hb⟩; have hb0 : Below E0.heap.size E0 F1 := below_drew' hb; have ba1 := ba0.below hb0; have y0 := ba1.cell 0 rfl; have hwl := ba1.lt; have hq := hc i hi; obtain ⟨k0, k1, k2, k3, k4, k5⟩ := hq; have hgl : g < F1.heap.size := World.block_lt_of_cell? _ _ k0; clear hc) | (go_at_call 78; refine (kinds_ex _).mono ?_; rintro e F1 ⟨g, rfl, hc, hg, hb⟩; have hb0 : Below E0.heap.size E0 F1 := ((Below.refl _ _).alloc (Nat.le_refl _) _).trans ((below_drew' hb).mono (by simp)); have bz := (Box.newAt E0 [.string ⟨#[]⟩, .int .i64 0, .int .i64 0, .int .i64 0, .bool false, .bool false] 106 rfl).below (below_drew' hb); have ba1 := (ba0.alloc (.cells #[.string ⟨#[]⟩, .int .i64 0, .int .i64 0, .int .i64 0, .bool false, .bool false] 106)).below (below_drew' hb); have u0 := bz.cell 0 rfl; have u1 := bz.cell 1 rfl; have u2 := bz.cell 2 rfl; have u3 := bz.cell 3 rfl; have u4 := bz.cell 4 rfl; have u5 := bz.cell 5 rfl; have hgz : g ≠ E0.heap.size := (by simp at hg; omega); have hzl := bz.lt; have fz := bz.frozen; have y0 := ba1.cell 0 rfl; have hwl := ba1.lt; have hq := hc i hi; obtain ⟨k0, k1, k2, k3, k4, k5⟩ := hq; have hgl : g < F1.heap.size := World.block_lt_of_cell? _ _ k0; clear hc))
    all_goals (go_wp2_with fail)
    all_goals go_meet
    all_goals refine ⟨_, rfl, ?_, ?_⟩
    all_goals clear HE0 hN
    all_goals first
      | (with_reducible exact Box.newAt F1 [.string (kNm i), .int .i64 (kAr i), .int .i64 (kLo i), .int .i64 (kHi i), .bool (kLi i), .bool (kBb i)] _ rfl)
      | (with_reducible exact hb0.alloc hb0.size _)
      | exact ((((((bz.set 0 (.string (kNm i))).set 1 (.int .i64 (kAr i))).set 2 (.int .i64 (kLo i))).set 3 (.int .i64 (kHi i))).set 4 (.bool (kLi i))).set 5 (.bool (kBb i)))
      | (with_reducible exact (((((hb0.setCell (Nat.le_refl _) _).setCell (Nat.le_refl _) _).setCell (Nat.le_refl _) _).setCell (Nat.le_refl _) _).setCell (Nat.le_refl _) _).setCell (Nat.le_refl _) _)
  case rest =>
    obtain ⟨g, rfl, bk, hb⟩ := hcut
    obtain ⟨E1, rfl⟩ : ∃ E, E = wc := ⟨_, rfl⟩
    have ba1 := ba0.below hb
    have hB1 := hB0.trans (hb.mono hB0.size)
    clear hb ba0 hB0
    go_upto_region 4 with fail
    go_cut [59] (fun v wr => v = .bool (!abB i a b) ∧ Below E1.heap.size E1 wr)
    case first =>
      have bk0 := bk
      have hbR := Below.refl E1.heap.size E1

      have bn0 := ba1
      clear ba1 bk
      by_cases hA : kLo i ≤ kHi i
      case pos =>
        have hAd : decide (kLo i ≤ kHi i) = true := decide_eq_true hA
        cases cA : inB a (kLo i) (kHi i)
        case false =>
          have hv : (!abB i a b) = true := by unfold abB; rw [if_pos hA]; simp [cA]
          have HV := Lib.hid hv
          clear hv
          have k0_0 := bk0.cell 0 rfl
          have k0_1 := bk0.cell 1 rfl
          have k0_2 := bk0.cell 2 rfl
          have k0_3 := bk0.cell 3 rfl
          have k0_4 := bk0.cell 4 rfl
          have k0_5 := bk0.cell 5 rfl
          have n0_0 := bn0.cell 0 rfl
          have n0_1 := bn0.cell 1 rfl
          have n0_2 := bn0.cell 2 rfl
          have n0_3 := bn0.cell 3 rfl
          go_wp2_with fail
          refine (hasA_any _ _ _ _ _ _ _).mono ?_
          rintro e F1 ⟨rfl, hb1⟩
          have bk1 := bk0.below hb1
          have bn1 := bn0.below hb1
          have hR1 := hbR.trans hb1
          clear k0_0 k0_1 k0_2 k0_3 k0_4 k0_5 n0_0 n0_1 n0_2 n0_3 hb1
          have k1_0 := bk1.cell 0 rfl
          have k1_1 := bk1.cell 1 rfl
          have k1_2 := bk1.cell 2 rfl
          have k1_3 := bk1.cell 3 rfl
          have k1_4 := bk1.cell 4 rfl
          have k1_5 := bk1.cell 5 rfl
          have n1_0 := bn1.cell 0 rfl
          have n1_1 := bn1.cell 1 rfl
          have n1_2 := bn1.cell 2 rfl
          have n1_3 := bn1.cell 3 rfl
          go_wp2_with (go_at_call 43; refine (within_any _ _ _ _).mono ?_; rintro e w' ⟨rfl, rfl⟩)
          go_meet
          exact ⟨by rw [HV.out], hR1⟩
        cases hBb : kBb i
        case true =>
          cases cB : inB b 1 16
          case false =>
            have hv : (!abB i a b) = true := by unfold abB; rw [if_pos hA]; simp [cA, hBb, cB]
            have HV := Lib.hid hv
            clear hv
            have k0_0 := bk0.cell 0 rfl
            have k0_1 := bk0.cell 1 rfl
            have k0_2 := bk0.cell 2 rfl
            have k0_3 := bk0.cell 3 rfl
            have k0_4 := bk0.cell 4 rfl
            have k0_5 := bk0.cell 5 rfl
            have n0_0 := bn0.cell 0 rfl
            have n0_1 := bn0.cell 1 rfl
            have n0_2 := bn0.cell 2 rfl
            have n0_3 := bn0.cell 3 rfl
            go_wp2_with fail
            refine (hasA_any _ _ _ _ _ _ _).mono ?_
            rintro e F1 ⟨rfl, hb1⟩
            have bk1 := bk0.below hb1
            have bn1 := bn0.below hb1
            have hR1 := hbR.trans hb1
            clear k0_0 k0_1 k0_2 k0_3 k0_4 k0_5 n0_0 n0_1 n0_2 n0_3 hb1
            have k1_0 := bk1.cell 0 rfl
            have k1_1 := bk1.cell 1 rfl
            have k1_2 := bk1.cell 2 rfl
            have k1_3 := bk1.cell 3 rfl
            have k1_4 := bk1.cell 4 rfl
            have k1_5 := bk1.cell 5 rfl
            have n1_0 := bn1.cell 0 rfl
            have n1_1 := bn1.cell 1 rfl
            have n1_2 := bn1.cell 2 rfl
            have n1_3 := bn1.cell 3 rfl
            go_wp2_with (go_at_call 43; refine (within_any _ _ _ _).mono ?_; rintro e w' ⟨rfl, rfl⟩)
            refine (hasA_any _ _ _ _ _ _ _).mono ?_
            rintro e F2 ⟨rfl, hb2⟩
            have bk2 := bk1.below hb2
            have bn2 := bn1.below hb2
            have hR2 := hR1.trans (hb2.mono hR1.size)
            clear k1_0 k1_1 k1_2 k1_3 k1_4 k1_5 n1_0 n1_1 n1_2 n1_3 hb2
            have k2_0 := bk2.cell 0 rfl
            have k2_1 := bk2.cell 1 rfl
            have k2_2 := bk2.cell 2 rfl
            have k2_3 := bk2.cell 3 rfl
            have k2_4 := bk2.cell 4 rfl
            have k2_5 := bk2.cell 5 rfl
            have n2_0 := bn2.cell 0 rfl
            have n2_1 := bn2.cell 1 rfl
            have n2_2 := bn2.cell 2 rfl
            have n2_3 := bn2.cell 3 rfl
            go_wp2_with (go_at_call 43; refine (within_any _ _ _ _).mono ?_; rintro e w' ⟨rfl, rfl⟩)
            go_meet
            exact ⟨by rw [HV.out], hR2⟩
          have hv : (!abB i a b) = false := by unfold abB; rw [if_pos hA]; simp [cA, hBb, cB]
          have HV := Lib.hid hv
          clear hv
          have k0_0 := bk0.cell 0 rfl
          have k0_1 := bk0.cell 1 rfl
          have k0_2 := bk0.cell 2 rfl
          have k0_3 := bk0.cell 3 rfl
          have k0_4 := bk0.cell 4 rfl
          have k0_5 := bk0.cell 5 rfl
          have n0_0 := bn0.cell 0 rfl
          have n0_1 := bn0.cell 1 rfl
          have n0_2 := bn0.cell 2 rfl
          have n0_3 := bn0.cell 3 rfl
          go_wp2_with fail
          refine (hasA_any _ _ _ _ _ _ _).mono ?_
          rintro e F1 ⟨rfl, hb1⟩
          have bk1 := bk0.below hb1
          have bn1 := bn0.below hb1
          have hR1 := hbR.trans hb1
          clear k0_0 k0_1 k0_2 k0_3 k0_4 k0_5 n0_0 n0_1 n0_2 n0_3 hb1
          have k1_0 := bk1.cell 0 rfl
          have k1_1 := bk1.cell 1 rfl
          have k1_2 := bk1.cell 2 rfl
          have k1_3 := bk1.cell 3 rfl
          have k1_4 := bk1.cell 4 rfl
          have k1_5 := bk1.cell 5 rfl
          have n1_0 := bn1.cell 0 rfl
          have n1_1 := bn1.cell 1 rfl
          have n1_2 := bn1.cell 2 rfl
          have n1_3 := bn1.cell 3 rfl
          go_wp2_with (go_at_call 43; refine (within_any _ _ _ _).mono ?_; rintro e w' ⟨rfl, rfl⟩)
          refine (hasA_any _ _ _ _ _ _ _).mono ?_
          rintro e F2 ⟨rfl, hb2⟩
          have bk2 := bk1.below hb2
          have bn2 := bn1.below hb2
          have hR2 := hR1.trans (hb2.mono hR1.size)
          clear k1_0 k1_1 k1_2 k1_3 k1_4 k1_5 n1_0 n1_1 n1_2 n1_3 hb2
          have k2_0 := bk2.cell 0 rfl
          have k2_1 := bk2.cell 1 rfl
          have k2_2 := bk2.cell 2 rfl
          have k2_3 := bk2.cell 3 rfl
          have k2_4 := bk2.cell 4 rfl
          have k2_5 := bk2.cell 5 rfl
          have n2_0 := bn2.cell 0 rfl
          have n2_1 := bn2.cell 1 rfl
          have n2_2 := bn2.cell 2 rfl
          have n2_3 := bn2.cell 3 rfl
          go_wp2_with (go_at_call 43; refine (within_any _ _ _ _).mono ?_; rintro e w' ⟨rfl, rfl⟩)
          go_meet
          exact ⟨by rw [HV.out], hR2⟩
        cases cB : (b == 0)
        case false =>
          have cB' : (b != 0) = true := by rw [bne, cB]; rfl
          have hv : (!abB i a b) = true := by unfold abB; rw [if_pos hA]; simp [cA, hBb, cB]
          have HV := Lib.hid hv
          clear hv
          have k0_0 := bk0.cell 0 rfl
          have k0_1 := bk0.cell 1 rfl
          have k0_2 := bk0.cell 2 rfl
          have k0_3 := bk0.cell 3 rfl
          have k0_4 := bk0.cell 4 rfl
          have k0_5 := bk0.cell 5 rfl
          have n0_0 := bn0.cell 0 rfl
          have n0_1 := bn0.cell 1 rfl
          have n0_2 := bn0.cell 2 rfl
          have n0_3 := bn0.cell 3 rfl
          go_wp2_with fail
          refine (hasA_any _ _ _ _ _ _ _).mono ?_
          rintro e F1 ⟨rfl, hb1⟩
          have bk1 := bk0.below hb1
          have bn1 := bn0.below hb1
          have hR1 := hbR.trans hb1
          clear k0_0 k0_1 k0_2 k0_3 k0_4 k0_5 n0_0 n0_1 n0_2 n0_3 hb1
          have k1_0 := bk1.cell 0 rfl
          have k1_1 := bk1.cell 1 rfl
          have k1_2 := bk1.cell 2 rfl
          have k1_3 := bk1.cell 3 rfl
          have k1_4 := bk1.cell 4 rfl
          have k1_5 := bk1.cell 5 rfl
          have n1_0 := bn1.cell 0 rfl
          have n1_1 := bn1.cell 1 rfl
          have n1_2 := bn1.cell 2 rfl
          have n1_3 := bn1.cell 3 rfl
          go_wp2_with (go_at_call 43; refine (within_any _ _ _ _).mono ?_; rintro e w' ⟨rfl, rfl⟩)
          refine (hasA_any _ _ _ _ _ _ _).mono ?_
          rintro e F2 ⟨rfl, hb2⟩
          have bk2 := bk1.below hb2
          have bn2 := bn1.below hb2
          have hR2 := hR1.trans (hb2.mono hR1.size)
          clear k1_0 k1_1 k1_2 k1_3 k1_4 k1_5 n1_0 n1_1 n1_2 n1_3 hb2
          have k2_0 := bk2.cell 0 rfl
          have k2_1 := bk2.cell 1 rfl
          have k2_2 := bk2.cell 2 rfl
          have k2_3 := bk2.cell 3 rfl
          have k2_4 := bk2.cell 4 rfl
          have k2_5 := bk2.cell 5 rfl
          have n2_0 := bn2.cell 0 rfl
          have n2_1 := bn2.cell 1 rfl
          have n2_2 := bn2.cell 2 rfl
          have n2_3 := bn2.cell 3 rfl
          go_wp2_with (go_at_call 43; refine (within_any _ _ _ _).mono ?_; rintro e w' ⟨rfl, rfl⟩)
          go_meet
          exact ⟨by rw [HV.out], hR2⟩
        have cB' : (b != 0) = false := by rw [bne, cB]; rfl
        have hv : (!abB i a b) = false := by unfold abB; rw [if_pos hA]; simp [cA, hBb, cB]
        have HV := Lib.hid hv
        clear hv
        have k0_0 := bk0.cell 0 rfl
        have k0_1 := bk0.cell 1 rfl
        have k0_2 := bk0.cell 2 rfl
        have k0_3 := bk0.cell 3 rfl
        have k0_4 := bk0.cell 4 rfl
        have k0_5 := bk0.cell 5 rfl
        have n0_0 := bn0.cell 0 rfl
        have n0_1 := bn0.cell 1 rfl
        have n0_2 := bn0.cell 2 rfl
        have n0_3 := bn0.cell 3 rfl
        go_wp2_with fail
        refine (hasA_any _ _ _ _ _ _ _).mono ?_
        rintro e F1 ⟨rfl, hb1⟩
        have bk1 := bk0.below hb1
        have bn1 := bn0.below hb1
        have hR1 := hbR.trans hb1
        clear k0_0 k0_1 k0_2 k0_3 k0_4 k0_5 n0_0 n0_1 n0_2 n0_3 hb1
        have k1_0 := bk1.cell 0 rfl
        have k1_1 := bk1.cell 1 rfl
        have k1_2 := bk1.cell 2 rfl
        have k1_3 := bk1.cell 3 rfl
        have k1_4 := bk1.cell 4 rfl
        have k1_5 := bk1.cell 5 rfl
        have n1_0 := bn1.cell 0 rfl
        have n1_1 := bn1.cell 1 rfl
        have n1_2 := bn1.cell 2 rfl
        have n1_3 := bn1.cell 3 rfl
        go_wp2_with (go_at_call 43; refine (within_any _ _ _ _).mono ?_; rintro e w' ⟨rfl, rfl⟩)
        refine (hasA_any _ _ _ _ _ _ _).mono ?_
        rintro e F2 ⟨rfl, hb2⟩
        have bk2 := bk1.below hb2
        have bn2 := bn1.below hb2
        have hR2 := hR1.trans (hb2.mono hR1.size)
        clear k1_0 k1_1 k1_2 k1_3 k1_4 k1_5 n1_0 n1_1 n1_2 n1_3 hb2
        have k2_0 := bk2.cell 0 rfl
        have k2_1 := bk2.cell 1 rfl
        have k2_2 := bk2.cell 2 rfl
        have k2_3 := bk2.cell 3 rfl
        have k2_4 := bk2.cell 4 rfl
        have k2_5 := bk2.cell 5 rfl
        have n2_0 := bn2.cell 0 rfl
        have n2_1 := bn2.cell 1 rfl
        have n2_2 := bn2.cell 2 rfl
        have n2_3 := bn2.cell 3 rfl
        go_wp2_with (go_at_call 43; refine (within_any _ _ _ _).mono ?_; rintro e w' ⟨rfl, rfl⟩)
        go_meet
        exact ⟨by rw [HV.out], hR2⟩
      have hAd : decide (kLo i ≤ kHi i) = false := decide_eq_false hA
      cases cA : (a == 0)
      case false =>
        have cA' : (a != 0) = true := by rw [bne, cA]; rfl
        have hv : (!abB i a b) = true := by unfold abB; rw [if_neg hA]; simp [cA]
        have HV := Lib.hid hv
        clear hv
        have k0_0 := bk0.cell 0 rfl
        have k0_1 := bk0.cell 1 rfl
        have k0_2 := bk0.cell 2 rfl
        have k0_3 := bk0.cell 3 rfl
        have k0_4 := bk0.cell 4 rfl
        have k0_5 := bk0.cell 5 rfl
        have n0_0 := bn0.cell 0 rfl
        have n0_1 := bn0.cell 1 rfl
        have n0_2 := bn0.cell 2 rfl
        have n0_3 := bn0.cell 3 rfl
        go_wp2_with fail
        refine (hasA_any _ _ _ _ _ _ _).mono ?_
        rintro e F1 ⟨rfl, hb1⟩
        have bk1 := bk0.below hb1
        have bn1 := bn0.below hb1
        have hR1 := hbR.trans hb1
        clear k0_0 k0_1 k0_2 k0_3 k0_4 k0_5 n0_0 n0_1 n0_2 n0_3 hb1
        have k1_0 := bk1.cell 0 rfl
        have k1_1 := bk1.cell 1 rfl
        have k1_2 := bk1.cell 2 rfl
        have k1_3 := bk1.cell 3 rfl
        have k1_4 := bk1.cell 4 rfl
        have k1_5 := bk1.cell 5 rfl
        have n1_0 := bn1.cell 0 rfl
        have n1_1 := bn1.cell 1 rfl
        have n1_2 := bn1.cell 2 rfl
        have n1_3 := bn1.cell 3 rfl
        go_wp2_with (go_at_call 43; refine (within_any _ _ _ _).mono ?_; rintro e w' ⟨rfl, rfl⟩)
        refine (hasA_any _ _ _ _ _ _ _).mono ?_
        rintro e F2 ⟨rfl, hb2⟩
        have bk2 := bk1.below hb2
        have bn2 := bn1.below hb2
        have hR2 := hR1.trans (hb2.mono hR1.size)
        clear k1_0 k1_1 k1_2 k1_3 k1_4 k1_5 n1_0 n1_1 n1_2 n1_3 hb2
        have k2_0 := bk2.cell 0 rfl
        have k2_1 := bk2.cell 1 rfl
        have k2_2 := bk2.cell 2 rfl
        have k2_3 := bk2.cell 3 rfl
        have k2_4 := bk2.cell 4 rfl
        have k2_5 := bk2.cell 5 rfl
        have n2_0 := bn2.cell 0 rfl
        have n2_1 := bn2.cell 1 rfl
        have n2_2 := bn2.cell 2 rfl
        have n2_3 := bn2.cell 3 rfl
        go_wp2_with (go_at_call 43; refine (within_any _ _ _ _).mono ?_; rintro e w' ⟨rfl, rfl⟩)
        go_meet
        exact ⟨by rw [HV.out], hR2⟩
      have cA' : (a != 0) = false := by rw [bne, cA]; rfl
      cases hBb : kBb i
      case true =>
        cases cB : inB b 1 16
        case false =>
          have hv : (!abB i a b) = true := by unfold abB; rw [if_neg hA]; simp [cA, hBb, cB]
          have HV := Lib.hid hv
          clear hv
          have k0_0 := bk0.cell 0 rfl
          have k0_1 := bk0.cell 1 rfl
          have k0_2 := bk0.cell 2 rfl
          have k0_3 := bk0.cell 3 rfl
          have k0_4 := bk0.cell 4 rfl
          have k0_5 := bk0.cell 5 rfl
          have n0_0 := bn0.cell 0 rfl
          have n0_1 := bn0.cell 1 rfl
          have n0_2 := bn0.cell 2 rfl
          have n0_3 := bn0.cell 3 rfl
          go_wp2_with fail
          refine (hasA_any _ _ _ _ _ _ _).mono ?_
          rintro e F1 ⟨rfl, hb1⟩
          have bk1 := bk0.below hb1
          have bn1 := bn0.below hb1
          have hR1 := hbR.trans hb1
          clear k0_0 k0_1 k0_2 k0_3 k0_4 k0_5 n0_0 n0_1 n0_2 n0_3 hb1
          have k1_0 := bk1.cell 0 rfl
          have k1_1 := bk1.cell 1 rfl
          have k1_2 := bk1.cell 2 rfl
          have k1_3 := bk1.cell 3 rfl
          have k1_4 := bk1.cell 4 rfl
          have k1_5 := bk1.cell 5 rfl
          have n1_0 := bn1.cell 0 rfl
          have n1_1 := bn1.cell 1 rfl
          have n1_2 := bn1.cell 2 rfl
          have n1_3 := bn1.cell 3 rfl
          go_wp2_with (go_at_call 43; refine (within_any _ _ _ _).mono ?_; rintro e w' ⟨rfl, rfl⟩)
          refine (hasA_any _ _ _ _ _ _ _).mono ?_
          rintro e F2 ⟨rfl, hb2⟩
          have bk2 := bk1.below hb2
          have bn2 := bn1.below hb2
          have hR2 := hR1.trans (hb2.mono hR1.size)
          clear k1_0 k1_1 k1_2 k1_3 k1_4 k1_5 n1_0 n1_1 n1_2 n1_3 hb2
          have k2_0 := bk2.cell 0 rfl
          have k2_1 := bk2.cell 1 rfl
          have k2_2 := bk2.cell 2 rfl
          have k2_3 := bk2.cell 3 rfl
          have k2_4 := bk2.cell 4 rfl
          have k2_5 := bk2.cell 5 rfl
          have n2_0 := bn2.cell 0 rfl
          have n2_1 := bn2.cell 1 rfl
          have n2_2 := bn2.cell 2 rfl
          have n2_3 := bn2.cell 3 rfl
          go_wp2_with (go_at_call 43; refine (within_any _ _ _ _).mono ?_; rintro e w' ⟨rfl, rfl⟩)
          go_meet
          exact ⟨by rw [HV.out], hR2⟩
        have hv : (!abB i a b) = false := by unfold abB; rw [if_neg hA]; simp [cA, hBb, cB]
        have HV := Lib.hid hv
        clear hv
        have k0_0 := bk0.cell 0 rfl
        have k0_1 := bk0.cell 1 rfl
        have k0_2 := bk0.cell 2 rfl
        have k0_3 := bk0.cell 3 rfl
        have k0_4 := bk0.cell 4 rfl
        have k0_5 := bk0.cell 5 rfl
        have n0_0 := bn0.cell 0 rfl
        have n0_1 := bn0.cell 1 rfl
        have n0_2 := bn0.cell 2 rfl
        have n0_3 := bn0.cell 3 rfl
        go_wp2_with fail
        refine (hasA_any _ _ _ _ _ _ _).mono ?_
        rintro e F1 ⟨rfl, hb1⟩
        have bk1 := bk0.below hb1
        have bn1 := bn0.below hb1
        have hR1 := hbR.trans hb1
        clear k0_0 k0_1 k0_2 k0_3 k0_4 k0_5 n0_0 n0_1 n0_2 n0_3 hb1
        have k1_0 := bk1.cell 0 rfl
        have k1_1 := bk1.cell 1 rfl
        have k1_2 := bk1.cell 2 rfl
        have k1_3 := bk1.cell 3 rfl
        have k1_4 := bk1.cell 4 rfl
        have k1_5 := bk1.cell 5 rfl
        have n1_0 := bn1.cell 0 rfl
        have n1_1 := bn1.cell 1 rfl
        have n1_2 := bn1.cell 2 rfl
        have n1_3 := bn1.cell 3 rfl
        go_wp2_with (go_at_call 43; refine (within_any _ _ _ _).mono ?_; rintro e w' ⟨rfl, rfl⟩)
        refine (hasA_any _ _ _ _ _ _ _).mono ?_
        rintro e F2 ⟨rfl, hb2⟩
        have bk2 := bk1.below hb2
        have bn2 := bn1.below hb2
        have hR2 := hR1.trans (hb2.mono hR1.size)
        clear k1_0 k1_1 k1_2 k1_3 k1_4 k1_5 n1_0 n1_1 n1_2 n1_3 hb2
        have k2_0 := bk2.cell 0 rfl
        have k2_1 := bk2.cell 1 rfl
        have k2_2 := bk2.cell 2 rfl
        have k2_3 := bk2.cell 3 rfl
        have k2_4 := bk2.cell 4 rfl
        have k2_5 := bk2.cell 5 rfl
        have n2_0 := bn2.cell 0 rfl
        have n2_1 := bn2.cell 1 rfl
        have n2_2 := bn2.cell 2 rfl
        have n2_3 := bn2.cell 3 rfl
        go_wp2_with (go_at_call 43; refine (within_any _ _ _ _).mono ?_; rintro e w' ⟨rfl, rfl⟩)
        go_meet
        exact ⟨by rw [HV.out], hR2⟩
      cases cB : (b == 0)
      case false =>
        have cB' : (b != 0) = true := by rw [bne, cB]; rfl
        have hv : (!abB i a b) = true := by unfold abB; rw [if_neg hA]; simp [cA, hBb, cB]
        have HV := Lib.hid hv
        clear hv
        have k0_0 := bk0.cell 0 rfl
        have k0_1 := bk0.cell 1 rfl
        have k0_2 := bk0.cell 2 rfl
        have k0_3 := bk0.cell 3 rfl
        have k0_4 := bk0.cell 4 rfl
        have k0_5 := bk0.cell 5 rfl
        have n0_0 := bn0.cell 0 rfl
        have n0_1 := bn0.cell 1 rfl
        have n0_2 := bn0.cell 2 rfl
        have n0_3 := bn0.cell 3 rfl
        go_wp2_with fail
        refine (hasA_any _ _ _ _ _ _ _).mono ?_
        rintro e F1 ⟨rfl, hb1⟩
        have bk1 := bk0.below hb1
        have bn1 := bn0.below hb1
        have hR1 := hbR.trans hb1
        clear k0_0 k0_1 k0_2 k0_3 k0_4 k0_5 n0_0 n0_1 n0_2 n0_3 hb1
        have k1_0 := bk1.cell 0 rfl
        have k1_1 := bk1.cell 1 rfl
        have k1_2 := bk1.cell 2 rfl
        have k1_3 := bk1.cell 3 rfl
        have k1_4 := bk1.cell 4 rfl
        have k1_5 := bk1.cell 5 rfl
        have n1_0 := bn1.cell 0 rfl
        have n1_1 := bn1.cell 1 rfl
        have n1_2 := bn1.cell 2 rfl
        have n1_3 := bn1.cell 3 rfl
        go_wp2_with (go_at_call 43; refine (within_any _ _ _ _).mono ?_; rintro e w' ⟨rfl, rfl⟩)
        refine (hasA_any _ _ _ _ _ _ _).mono ?_
        rintro e F2 ⟨rfl, hb2⟩
        have bk2 := bk1.below hb2
        have bn2 := bn1.below hb2
        have hR2 := hR1.trans (hb2.mono hR1.size)
        clear k1_0 k1_1 k1_2 k1_3 k1_4 k1_5 n1_0 n1_1 n1_2 n1_3 hb2
        have k2_0 := bk2.cell 0 rfl
        have k2_1 := bk2.cell 1 rfl
        have k2_2 := bk2.cell 2 rfl
        have k2_3 := bk2.cell 3 rfl
        have k2_4 := bk2.cell 4 rfl
        have k2_5 := bk2.cell 5 rfl
        have n2_0 := bn2.cell 0 rfl
        have n2_1 := bn2.cell 1 rfl
        have n2_2 := bn2.cell 2 rfl
        have n2_3 := bn2.cell 3 rfl
        go_wp2_with (go_at_call 43; refine (within_any _ _ _ _).mono ?_; rintro e w' ⟨rfl, rfl⟩)
        go_meet
        exact ⟨by rw [HV.out], hR2⟩
      have cB' : (b != 0) = false := by rw [bne, cB]; rfl
      have hv : (!abB i a b) = false := by unfold abB; rw [if_neg hA]; simp [cA, hBb, cB]
      have HV := Lib.hid hv
      clear hv
      have k0_0 := bk0.cell 0 rfl
      have k0_1 := bk0.cell 1 rfl
      have k0_2 := bk0.cell 2 rfl
      have k0_3 := bk0.cell 3 rfl
      have k0_4 := bk0.cell 4 rfl
      have k0_5 := bk0.cell 5 rfl
      have n0_0 := bn0.cell 0 rfl
      have n0_1 := bn0.cell 1 rfl
      have n0_2 := bn0.cell 2 rfl
      have n0_3 := bn0.cell 3 rfl
      go_wp2_with fail
      refine (hasA_any _ _ _ _ _ _ _).mono ?_
      rintro e F1 ⟨rfl, hb1⟩
      have bk1 := bk0.below hb1
      have bn1 := bn0.below hb1
      have hR1 := hbR.trans hb1
      clear k0_0 k0_1 k0_2 k0_3 k0_4 k0_5 n0_0 n0_1 n0_2 n0_3 hb1
      have k1_0 := bk1.cell 0 rfl
      have k1_1 := bk1.cell 1 rfl
      have k1_2 := bk1.cell 2 rfl
      have k1_3 := bk1.cell 3 rfl
      have k1_4 := bk1.cell 4 rfl
      have k1_5 := bk1.cell 5 rfl
      have n1_0 := bn1.cell 0 rfl
      have n1_1 := bn1.cell 1 rfl
      have n1_2 := bn1.cell 2 rfl
      have n1_3 := bn1.cell 3 rfl
      go_wp2_with (go_at_call 43; refine (within_any _ _ _ _).mono ?_; rintro e w' ⟨rfl, rfl⟩)
      refine (hasA_any _ _ _ _ _ _ _).mono ?_
      rintro e F2 ⟨rfl, hb2⟩
      have bk2 := bk1.below hb2
      have bn2 := bn1.below hb2
      have hR2 := hR1.trans (hb2.mono hR1.size)
      clear k1_0 k1_1 k1_2 k1_3 k1_4 k1_5 n1_0 n1_1 n1_2 n1_3 hb2
      have k2_0 := bk2.cell 0 rfl
      have k2_1 := bk2.cell 1 rfl
      have k2_2 := bk2.cell 2 rfl
      have k2_3 := bk2.cell 3 rfl
      have k2_4 := bk2.cell 4 rfl
      have k2_5 := bk2.cell 5 rfl
      have n2_0 := bn2.cell 0 rfl
      have n2_1 := bn2.cell 1 rfl
      have n2_2 := bn2.cell 2 rfl
      have n2_3 := bn2.cell 3 rfl
      go_wp2_with (go_at_call 43; refine (within_any _ _ _ _).mono ?_; rintro e w' ⟨rfl, rfl⟩)
      go_meet
      exact ⟨by rw [HV.out], hR2⟩
    case rest =>
      obtain ⟨rfl, hb⟩ := hcut
      obtain ⟨E2, rfl⟩ : ∃ E, E = wc := ⟨_, rfl⟩
      have ba2 := ba1.below hb
      have bk2 := bk.below hb
      have hB2 := hB1.trans (hb.mono hB1.size)
      have r2 := r.below hB2
      clear hb ba1 bk hB1 r
      cases hab' : (!abB i a b)
      case true =>
        have hab : abB i a b = false := by simpa using hab'
        go_wp2_with fail
        go_ret
        exact ⟨ret_bool (by rw [hN.out, hab]; simp), hB2⟩
      have hab : abB i a b = true := by simpa using hab'
      clear hab'
      have z3 := ba2.cell 3 rfl
      go_wp2_with fail
      clear z3
      go_loop [63] (fun j => ∃ k : Nat, k ≤ src.length ∧ j = .int .i64 k ∧ (src.take k).all (fun f => inB f 0 23) = true) (fun j => src.length - (intOf j).toNat)
      case atStart => exact ⟨0, Nat.zero_le _, rfl, by simp⟩
      case round =>
        obtain ⟨k, hk2, rfl, hall⟩ := hrel
        have HA := Lib.hid hall; clear hall
        by_cases hlt : k < src.length
        · obtain ⟨b1, o1, rfl, hb1, hc1⟩ := r2.pos hlt
          have hck := hc1 k hlt
          clear hc1
          generalize hx : src[k] = f at hck
          have HX := Lib.hid hx; clear hx
          cases hs : inB f 0 23
          · go_wp2_with (go_at_call 43; refine (within_any _ _ _ _).mono ?_; rintro e w' ⟨rfl, rfl⟩)
            go_ret
            exact ⟨ret_bool (by rw [hN.out, all_false hlt (by rw [HX.out]; exact hs)]; simp), hB2⟩
          · go_wp2_with (go_at_call 43; refine (within_any _ _ _ _).mono ?_; rintro e w' ⟨rfl, rfl⟩)
            go_round
            case rel => exact ⟨k + 1, by omega, by go_num, all_step hlt HA.out (by rw [HX.out]; exact hs)⟩
            case measure => simp [intOf] <;> omega
        · obtain rfl : k = src.length := by omega
          have hd := all_done HA.out
          have z0 := ba2.cell 0 rfl
          have z1 := ba2.cell 1 rfl
          have z3 := ba2.cell 3 rfl
          have q1 := bk2.cell 1 rfl
          have S1 : Hid (∀ m, Calls Tryz.prog 45 #[.slice p src.length c] (E2.drewN m) fun e w' => e = .returned (.int .i64 src.length) ∧ w' = E2.drewN m) := fun m => (sizeI_any _ _ _ _ hl0).mono fun e w' h => ⟨h.1, h.2.symm⟩
          by_cases c1 : (src.length : Int) = kAr i
          · have d1 : ((src.length : Int) == kAr i) = true := by rw [beq_iff_eq]; exact c1
            by_cases c2 : ((i : Int) + 1) = 13
            · have d2 : (((i : Int) + 1) != 13) = false := by rw [bne_eq_false_iff_eq]; exact c2
              have HR : Hid (nodeB ⟨(i : Int) + 1, a, b, src⟩ t = decide (a < t)) := by rw [hN.out, hab, hd, decide_eq_true c1, d2]; simp [Hid]
              clear c1 c2 hd hab
              go_wp2_with fail
              go_quiet ((go_at_call 45; exact Calls.quiet_of_same (S1.out _)))
              go_wp2_with fail
              go_ret
              exact ⟨ret_bool HR.out.symm, below_drewN hB2 _⟩
            · have d2 : (((i : Int) + 1) != 13) = true := by rw [bne_iff_ne]; exact c2
              have HR : Hid (nodeB ⟨(i : Int) + 1, a, b, src⟩ t = true) := by rw [hN.out, hab, hd, decide_eq_true c1, d2]; simp [Hid]
              clear c1 c2 hd hab
              go_wp2_with fail
              go_quiet ((go_at_call 45; exact Calls.quiet_of_same (S1.out _)))
              go_wp2_with fail
              go_ret
              exact ⟨ret_bool HR.out.symm, below_drewN hB2 _⟩
          · have d1 : ((src.length : Int) == kAr i) = false := by rw [beq_eq_false_iff_ne]; exact c1
            have HR : Hid (nodeB ⟨(i : Int) + 1, a, b, src⟩ t = false) := by rw [hN.out, decide_eq_false c1]; simp [Hid]
            clear c1 hd hab
            go_wp2_with fail
            go_quiet ((go_at_call 45; exact Calls.quiet_of_same (S1.out _)))
            go_wp2_with fail
            go_ret
            exact ⟨ret_bool HR.out.symm, below_drewN hB2 _⟩

end Go.Proofs.YtaapkpjokmoekaaGreatDoor

namespace Go.Proofs.YtaapkpjokmoekaaGreatDoor
open Go.ChangeShapes Go.WideShapes Go.ChangeAt Go.RowKit
set_option linter.unusedVariables false

/-- a node lies at a place of memory -/
structure PNode (w : World) (b o : Nat) (x : NodeD) : Prop where
  c0 : w.cell? ⟨b, o, none⟩ = some (.int .i64 x.kind)
  c1 : w.cell? ⟨b, o + 1, none⟩ = some (.int .i64 x.a)
  c2 : w.cell? ⟨b, o + 2, none⟩ = some (.int .i64 x.b)
  c3 : ∃ p c, w.cell? ⟨b, o + 3, none⟩ = some (.slice p x.src.length c) ∧ RdI w p x.src
theorem PNode.lt {w : World} {b o : Nat} {x : NodeD} (h : PNode w b o x) : b < w.heap.size := World.block_lt_of_cell? w _ h.c0
theorem PNode.below {w w' : World} {b o : Nat} {x : NodeD} (h : PNode w b o x) (hb : Below w.heap.size w w') : PNode w' b o x := by
  obtain ⟨p, c, h3, hr⟩ := h.c3
  exact ⟨(hb.cell (p := ⟨b, o, none⟩) h.lt).trans h.c0, (hb.cell (p := ⟨b, o + 1, none⟩) h.lt).trans h.c1, (hb.cell (p := ⟨b, o + 2, none⟩) h.lt).trans h.c2, p, c, (hb.cell (p := ⟨b, o + 3, none⟩) h.lt).trans h3, hr.below hb⟩
theorem PNode.box {w : World} {g : Nat} {x : NodeD} {p : Option Addr} {c : Nat} (h : Box w g [.int .i64 x.kind, .int .i64 x.a, .int .i64 x.b, .slice p x.src.length c] 35) (hr : RdI w p x.src) : PNode w g 0 x :=
  ⟨h.cell 0 rfl, h.cell 1 rfl, h.cell 2 rfl, p, c, h.cell 3 rfl, hr⟩
end Go.Proofs.YtaapkpjokmoekaaGreatDoor

namespace Go.Proofs.YtaapkpjokmoekaaGreatDoor
open Go.ChangeShapes Go.WideShapes Go.ChangeAt Go.RowKit Go.Sort
set_option linter.unusedVariables false

theorem Calls.same_below {P : Program} {f : FuncId} {args : Array Value} {w : World} {v : Value} (h : Calls P f args w fun e w' => e = .returned v ∧ w = w') : Calls P f args w fun e w' => e = .returned v ∧ Below w.heap.size w w' :=
  h.mono fun _ _ ⟨a, b⟩ => ⟨a, by rw [← b]; exact Below.refl _ _⟩
/-- A of a node of a kind is valid -/
def aB (k a t : Int) : Bool := if k = 13 then inB a 0 (min (max t 0) 4 - 1) else if kLo (k - 1).toNat ≤ kHi (k - 1).toNat then inB a (kLo (k - 1).toNat) (kHi (k - 1).toNat) else a == 0
theorem kinds_of {k : Int} (h : inB k 1 17 = true) : k = 1 ∨ k = 2 ∨ k = 3 ∨ k = 4 ∨ k = 5 ∨ k = 6 ∨ k = 7 ∨ k = 8 ∨ k = 9 ∨ k = 10 ∨ k = 11 ∨ k = 12 ∨ k = 13 ∨ k = 14 ∨ k = 15 ∨ k = 16 ∨ k = 17 := by
  rw [inB_iff] at h; omega
theorem nodeB_split (x : NodeD) (t : Int) : nodeB x t = (inB x.kind 1 17 && (aB x.kind x.a t && (((x.src.length : Int) == kAr (x.kind - 1).toNat) && (x.src.all (fun f => inB f 0 23) && (if x.kind = 17 then inB x.b 1 16 else x.b == 0))))) := by
  unfold nodeB
  cases hk : inB x.kind 1 17
  · simp
  · simp only [Bool.true_and]
    have hlen : decide ((x.src.length : Int) = kAr (x.kind - 1).toNat) = ((x.src.length : Int) == kAr (x.kind - 1).toNat) := by
      rw [Bool.eq_iff_iff, decide_eq_true_iff, beq_iff_eq]
    have hab : (abB (x.kind - 1).toNat x.a x.b && (x.kind != 13 || decide (x.a < t))) = (aB x.kind x.a t && (if x.kind = 17 then inB x.b 1 16 else x.b == 0)) := by
      rcases kinds_of hk with h | h | h | h | h | h | h | h | h | h | h | h | h | h | h | h | h <;> rw [h] <;> simp [abB, aB, kLo, kHi, kBb, Int.toNat]
      have hm : (inB x.a 0 (min (max t 0) 4 - 1)) = (inB x.a 0 3 && decide (x.a < t)) := by
        rw [Bool.eq_iff_iff]; simp only [Bool.and_eq_true, inB_iff, decide_eq_true_iff]; omega
      rw [hm]
      cases inB x.a 0 3 <;> cases (x.b == 0) <;> cases decide (x.a < t) <;> rfl
    rw [hlen]
    generalize abB (x.kind - 1).toNat x.a x.b = p at *
    generalize (x.kind != 13 || decide (x.a < t)) = q at *
    generalize aB x.kind x.a t = r at *
    generalize (if x.kind = 17 then inB x.b 1 16 else x.b == 0) = s at *
    generalize (x.src.all fun f => inB f 0 23) = u
    generalize ((x.src.length : Int) == kAr (x.kind - 1).toNat) = v
    revert hab
    cases p <;> cases q <;> cases r <;> cases s <;> cases u <;> cases v <;> simp
def hasAB (k : Int) : Bool := ([1, 2, 5, 6, 10, 11, 12, 13, 14, 17] : List Int).any (· == k)
theorem l06HasA_any (k : Int) (w : World) :
    Calls Tryz.prog 117 #[.int .i64 k] w fun e w' => e = .returned (.bool (hasAB k)) ∧ Below w.heap.size w w' := by
  have ho := OwnI.lit (B := w.heap.size) w [1, 2, 5, 6, 10, 11, 12, 13, 14, 17] (Nat.le_refl _) (by simp [maxLen])
  rcases ho.cases with ⟨h, _⟩ | ⟨g, cap, hv, _, _, _, hr⟩
  · simp at h
  · simp only [Value.slice.injEq, Option.some.injEq, Addr.mk.injEq, and_true] at hv
    obtain ⟨rfl, -, rfl⟩ := hv
    go_enter Tryz.func117, Tryz.ntmps117
    go_wp2_with fail
    refine (l00Has_any (xs := [1, 2, 5, 6, 10, 11, 12, 13, 14, 17]) _ _ hr).mono ?_
    rintro e w' ⟨rfl, rfl⟩
    rw [show ([1, 2, 5, 6, 10, 11, 12, 13, 14, 17] : List Int).any (· == k) = hasAB k from rfl]
    go_wp2_with fail
    go_ret
    exact ⟨rfl, (Below.refl _ _).alloc (Nat.le_refl _) _⟩
set_option maxHeartbeats 8000000 in
theorem l06A_any {b o : Nat} {x : NodeD} (t : Int) (w : World) (h : PNode w b o x) (hk : inB x.kind 1 17 = true) :
    Calls Tryz.prog 104 #[.pointer (some ⟨b, o, none⟩), .int .i64 t] w fun e w' => e = .returned (.bool (aB x.kind x.a t)) ∧ Below w.heap.size w w' := by
  have hlt := h.lt
  obtain ⟨c0, c1, c2, -⟩ := h
  have hres := Lib.hid (rfl : aB x.kind x.a t = aB x.kind x.a t)
  rcases kinds_of hk with e | e | e | e | e | e | e | e | e | e | e | e | e | e | e | e | e <;> rw [e] at c0 hk ⊢ <;> clear e
  case inr.inr.inr.inr.inr.inr.inr.inr.inr.inr.inr.inr.inl =>
    have e : aB 13 x.a t = inB x.a 0 (min (max t 0) 4 - 1) := by simp [aB]
    rw [e]
    clear e
    have hw : IntKind.i64.wrap (min (max t 0) 4 - 1) = min (max t 0) 4 - 1 := IntWalk.i64_in _ (by omega)
    have M1 : Hid (∀ n, Calls Tryz.prog 72 #[.int .i64 t, .int .i64 0] (w.drewN n) fun e w' => e = .returned (.int .i64 (max t 0)) ∧ w' = w.drewN n) := fun n => Calls.turn (l00Max_any _ _ _)
    generalize max t 0 = m1 at M1 hw ⊢
    have M2 : Hid (∀ n, Calls Tryz.prog 39 #[.int .i64 m1, .int .i64 4] (w.drewN n) fun e w' => e = .returned (.int .i64 (min m1 4)) ∧ w' = w.drewN n) := fun n => Calls.turn (l00Min_any _ _ _)
    generalize min m1 4 = m2 at M2 hw ⊢
    have M3 : Hid (∀ n, Calls Tryz.prog 31 #[.int .i64 x.a, .int .i64 0, .int .i64 (m2 - 1)] (w.drewN n) fun e w' => e = .returned (.bool (inB x.a 0 (m2 - 1))) ∧ w' = w.drewN n) := fun n => Calls.turn (l00In_any _ _ _ _)
    go_enter Tryz.func104, Tryz.ntmps104
    go_wp2_with fail
    go_quiet ((first | (go_at_call 72; exact Calls.quiet_of_same (M1.out _)) | (go_at_call 39; exact Calls.quiet_of_same (M2.out _)) | (go_at_call 31; exact Calls.quiet_of_same (M3.out _))))
    go_wp2_with fail
    go_ret
    exact ⟨rfl, below_drewN (Below.refl _ _) _⟩
  all_goals
    go_enter Tryz.func104, Tryz.ntmps104
    go_wp2_with (first | (go_at_call 31; refine (l00In_any _ _ _ _).mono ?_; rintro e w' ⟨rfl, rfl⟩) | (go_at_call 117; refine (l06HasA_any _ _).mono ?_; rintro e w1 ⟨rfl, hb⟩; have z1 := (hb.cell (p := ⟨b, o + 1, none⟩) hlt).trans c1; simp only [hasAB, List.any_cons, List.any_nil]) | (go_at_call 95; refine (l01Sample_any _ _).mono ?_; rintro e w' ⟨rfl, rfl⟩))
    go_ret
    first
      | exact ⟨rfl, Below.refl _ _⟩
      | exact ⟨rfl, hb⟩
/-- what is asked of a node beside its kind, A and the number of inputs -/
def restB (x : NodeD) : Bool := x.src.all (fun f => inB f 0 23) && (if x.kind = 17 then inB x.b 1 16 else x.b == 0)
set_option maxHeartbeats 8000000 in
theorem l06Ok_any {b o : Nat} {x : NodeD} (t : Int) (w : World) (h : PNode w b o x) :
    Calls Tryz.prog 81 #[.pointer (some ⟨b, o, none⟩), .int .i64 t] w fun e w' => e = .returned (.bool (nodeB x t)) ∧ Below w.heap.size w w' := by
  have HN : Hid (∀ b1 b2 b3 : Bool, inB x.kind 1 17 = b1 → aB x.kind x.a t = b2 → ((x.src.length : Int) == kAr (x.kind - 1).toNat) = b3 → nodeB x t = (b1 && (b2 && (b3 && restB x)))) := by
    intro b1 b2 b3 e1 e2 e3
    rw [nodeB_split, e1, e2, e3]; rfl
  generalize hres : nodeB x t = R at HN ⊢
  clear hres
  have HP := Lib.hid h
  have hlt := h.lt
  obtain ⟨c0, c1, c2, p, c, c3, hr⟩ := h
  have hl := hr.len
  unfold maxLen at hl
  have r0 := cell_regrown c0
  have r3 := cell_regrown c3
  have K1 : Hid (∀ (b1 : Bool), inB x.kind 1 17 = b1 → ∀ d os, Calls Tryz.prog 103 #[.int .i64 x.kind] (grow (redrawn w d) os) fun e w'' => e = .returned (.bool b1) ∧ ∃ p : Regrown, w'' = grow (redrawn w p.d) p.os) := fun b1 h1 d os => Calls.regrown_of (Calls.same_below (by rw [← h1]; exact l06Kind_any _ _))
  go_enter Tryz.func81, Tryz.ntmps81
  go_wp2_with fail
  cases e1 : inB x.kind 1 17
  case false =>
    obtain rfl := HN.out _ _ _ e1 rfl rfl
    refine wp_region_quiet_below (by kernel_rfl) (by kernel_rfl) ?_
    repeat (first | go_big_quiet_step ((go_at_call 103; exact K1.out _ e1 _ _)) | quiet_step ((go_at_call 103; exact K1.out _ e1 _ _)))
    refine wpQuiet_nil ?_
    intro _ hw'
    obtain ⟨⟨dq, osq⟩, hw''⟩ := hw'
    subst hw''
    have hq := below_regrown w dq osq
    go_wp2_with fail
    go_ret
    exact ⟨rfl, hq⟩
  have hk := e1
  have K2 : Hid (∀ (b2 : Bool), aB x.kind x.a t = b2 → ∀ d os, Calls Tryz.prog 104 #[.pointer (some ⟨b, o, none⟩), .int .i64 t] (grow (redrawn w d) os) fun e w'' => e = .returned (.bool b2) ∧ ∃ p : Regrown, w'' = grow (redrawn w p.d) p.os) := fun b2 h2 d os => Calls.regrown_of (by rw [← h2]; exact l06A_any t _ (HP.out.below (below_regrown w d os)) e1)
  cases e2 : aB x.kind x.a t
  case false =>
    obtain rfl := HN.out _ _ _ e1 e2 rfl
    refine wp_region_quiet_below (by kernel_rfl) (by kernel_rfl) ?_
    repeat (first | go_big_quiet_step ((first | (go_at_call 103; exact K1.out _ e1 _ _) | (go_at_call 104; exact K2.out _ e2 _ _))) | quiet_step ((first | (go_at_call 103; exact K1.out _ e1 _ _) | (go_at_call 104; exact K2.out _ e2 _ _))))
    refine wpQuiet_nil ?_
    intro _ hw'
    obtain ⟨⟨dq, osq⟩, hw''⟩ := hw'
    subst hw''
    have hq := below_regrown w dq osq
    go_wp2_with fail
    go_ret
    exact ⟨rfl, hq⟩
  have K3 : Hid (∀ d os, Calls Tryz.prog 70 #[.int .i64 x.kind] (grow (redrawn w d) os) fun e w'' => e = .returned (.int .i64 (kAr (x.kind - 1).toNat)) ∧ ∃ p : Regrown, w'' = grow (redrawn w p.d) p.os) := fun d os => Calls.regrown_of (by
    obtain ⟨i, hi, he⟩ := kind_of_in hk
    rw [he, show ((i : Int) + 1 - 1).toNat = i by omega]
    exact l06Arity_any i hi _)
  generalize kAr (x.kind - 1).toNat = A at K3 HN
  by_cases e3 : (x.src.length : Int) = A
  case neg =>
    have n3 : ((x.src.length : Int) != A) = true := by rw [bne_iff_ne]; exact e3
    have n4 : decide ((x.src.length : Int) = A) = false := decide_eq_false e3
    obtain rfl := HN.out _ _ _ e1 e2 (by rw [beq_eq_false_iff_ne]; exact e3)
    refine wp_region_quiet_below (by kernel_rfl) (by kernel_rfl) ?_
    repeat (first | go_big_quiet_step ((first | (go_at_call 103; exact K1.out _ e1 _ _) | (go_at_call 104; exact K2.out _ e2 _ _) | (go_at_call 70; exact K3.out _ _))) | quiet_step ((first | (go_at_call 103; exact K1.out _ e1 _ _) | (go_at_call 104; exact K2.out _ e2 _ _) | (go_at_call 70; exact K3.out _ _))))
    refine wpQuiet_nil ?_
    intro _ hw'
    obtain ⟨⟨dq, osq⟩, hw''⟩ := hw'
    subst hw''
    have hq := below_regrown w dq osq
    go_wp2_with fail
    go_ret
    exact ⟨rfl, hq⟩
  have n3 : ((x.src.length : Int) != A) = false := by rw [bne_eq_false_iff_eq]; exact e3
  have n4 : decide ((x.src.length : Int) = A) = true := decide_eq_true e3
  obtain rfl := HN.out _ _ _ e1 e2 (by rw [beq_iff_eq]; exact e3)
  clear e3
  refine wp_region_quiet_below (by kernel_rfl) (by kernel_rfl) ?_
  repeat (first | go_big_quiet_step ((first | (go_at_call 103; exact K1.out _ e1 _ _) | (go_at_call 104; exact K2.out _ e2 _ _) | (go_at_call 70; exact K3.out _ _))) | quiet_step ((first | (go_at_call 103; exact K1.out _ e1 _ _) | (go_at_call 104; exact K2.out _ e2 _ _) | (go_at_call 70; exact K3.out _ _))))
  refine wpQuiet_nil ?_
  intro _ hw'
  obtain ⟨⟨dq, osq⟩, hw''⟩ := hw'
  subst hw''
  have hq := below_regrown w dq osq
  generalize grow (redrawn w dq) osq = F at hq ⊢
  have hf := HP.out.below hq
  obtain ⟨f0, -, f2, -⟩ := hf
  have f3 := (hq.cell (p := ⟨b, o + 3, none⟩) hlt).trans c3
  have hrF := hr.below hq
  clear r0 r3 c0 c1 c2 c3 K1 K2 K3 n3 n4 e1 e2 hk HN
  go_wp2_with fail
  go_loop [5] (fun j => ∃ k : Nat, k ≤ x.src.length ∧ j = .int .i64 k ∧ (x.src.take k).all (fun f => inB f 0 23) = true) (fun j => x.src.length - (intOf j).toNat)
  case atStart => exact ⟨0, Nat.zero_le _, rfl, by simp⟩
  case round =>
    obtain ⟨k, hk2, rfl, hall⟩ := hrel
    have HA := Lib.hid hall; clear hall
    by_cases hlt2 : k < x.src.length
    · obtain ⟨b1, o1, rfl, hb1, hc1⟩ := hrF.pos hlt2
      have hck := hc1 k hlt2
      clear hc1
      generalize hx : x.src[k] = f at hck
      have HX := Lib.hid hx; clear hx
      cases hs : inB f 0 23
      · go_wp2_with (go_at_call 31; refine (l00In_any _ _ _ _).mono ?_; rintro e w' ⟨rfl, rfl⟩)
        go_ret
        exact ⟨ret_bool (by rw [restB, all_false hlt2 (by rw [HX.out]; exact hs)]; rfl), hq⟩
      · go_wp2_with (go_at_call 31; refine (l00In_any _ _ _ _).mono ?_; rintro e w' ⟨rfl, rfl⟩)
        go_round
        case rel => exact ⟨k + 1, by omega, by go_num, all_step hlt2 HA.out (by rw [HX.out]; exact hs)⟩
        case measure => simp [intOf] <;> omega
    · obtain rfl : k = x.src.length := by omega
      have hd := Lib.hid (all_done HA.out)
      by_cases h17 : x.kind = 17
      · have e17 : (x.kind == 17) = true := by rw [beq_iff_eq]; exact h17
        have HR : Hid (restB x = inB x.b 1 16) := by unfold Hid restB; rw [hd.out, if_pos h17]; rfl
        clear h17
        go_wp2_with (go_at_call 31; refine (l00In_any _ _ _ _).mono ?_; rintro e w' ⟨rfl, rfl⟩)
        go_ret
        exact ⟨ret_bool HR.out.symm, hq⟩
      · have e17 : (x.kind == 17) = false := by rw [beq_eq_false_iff_ne]; exact h17
        have HR : Hid (restB x = (x.b == 0)) := by unfold Hid restB; rw [hd.out, if_neg h17]; rfl
        clear h17
        go_wp2_with fail
        go_ret
        exact ⟨ret_bool HR.out.symm, hq⟩
end Go.Proofs.YtaapkpjokmoekaaGreatDoor

namespace Go.Proofs.YtaapkpjokmoekaaGreatDoor
open Go.ChangeShapes Go.WideShapes Go.ChangeAt Go.RowKit Go.Sort
set_option linter.unusedVariables false

set_option maxHeartbeats 4000000 in
theorem l06Out_1 {b o : Nat} {vt vs : Value} {ba oa na ca : Nat} {x0 : Int} (w : World) (c0 : w.cell? ⟨b, o, none⟩ = some (.int .i64 1)) (hx0 : w.cell? ⟨ba, oa, none⟩ = some (.int .i64 x0)) (la : 1 ≤ na) :
    Calls Tryz.prog 114 #[.pointer (some ⟨b, o, none⟩), vt, .slice (some ⟨ba, oa, none⟩) na ca, vs] w fun e w' => e = .returned (.int .i64 (x0)) ∧ Below w.heap.size w w' := by
  go_enter Tryz.func114, Tryz.ntmps114
  go_wp2_with fail
  go_ret
  exact ⟨rfl, Below.refl _ _⟩
set_option maxHeartbeats 4000000 in
theorem l06Out_2 {b o : Nat} {vt va vs : Value} {A : Int} (w : World) (c0 : w.cell? ⟨b, o, none⟩ = some (.int .i64 2)) (c1 : w.cell? ⟨b, o + 1, none⟩ = some (.int .i64 A)) :
    Calls Tryz.prog 114 #[.pointer (some ⟨b, o, none⟩), vt, va, vs] w fun e w' => e = .returned (.int .i64 (A)) ∧ Below w.heap.size w w' := by
  go_enter Tryz.func114, Tryz.ntmps114
  go_wp2_with fail
  go_ret
  exact ⟨rfl, Below.refl _ _⟩
set_option maxHeartbeats 4000000 in
theorem l06Out_3 {b o : Nat} {vt vs : Value} {ba oa na ca : Nat} {x0 x1 : Int} (w : World) (c0 : w.cell? ⟨b, o, none⟩ = some (.int .i64 3)) (hx0 : w.cell? ⟨ba, oa, none⟩ = some (.int .i64 x0)) (hx1 : w.cell? ⟨ba, oa + 1, none⟩ = some (.int .i64 x1)) (la : 2 ≤ na) :
    Calls Tryz.prog 114 #[.pointer (some ⟨b, o, none⟩), vt, .slice (some ⟨ba, oa, none⟩) na ca, vs] w fun e w' => e = .returned (.int .i64 (smp (x0 + x1))) ∧ Below w.heap.size w w' := by
  go_enter Tryz.func114, Tryz.ntmps114
  go_wp2_with fail
  go_quiet ((go_at_call 131; exact Calls.quiet_of_same (Calls.turn (l01Add_any _ _ _))))
  go_wp2_with fail
  go_ret
  exact ⟨rfl, below_drewN (Below.refl _ _) _⟩
set_option maxHeartbeats 4000000 in
theorem l06Out_4 {b o : Nat} {vt vs : Value} {ba oa na ca : Nat} {x0 x1 : Int} (w : World) (c0 : w.cell? ⟨b, o, none⟩ = some (.int .i64 4)) (hx0 : w.cell? ⟨ba, oa, none⟩ = some (.int .i64 x0)) (hx1 : w.cell? ⟨ba, oa + 1, none⟩ = some (.int .i64 x1)) (la : 2 ≤ na) :
    Calls Tryz.prog 114 #[.pointer (some ⟨b, o, none⟩), vt, .slice (some ⟨ba, oa, none⟩) na ca, vs] w fun e w' => e = .returned (.int .i64 (smp (x0 - x1))) ∧ Below w.heap.size w w' := by
  go_enter Tryz.func114, Tryz.ntmps114
  go_wp2_with fail
  go_quiet ((go_at_call 132; exact Calls.quiet_of_same (Calls.turn (l01Sub_any _ _ _))))
  go_wp2_with fail
  go_ret
  exact ⟨rfl, below_drewN (Below.refl _ _) _⟩
set_option maxHeartbeats 4000000 in
theorem l06Out_5 {b o : Nat} {vt vs : Value} {ba oa na ca : Nat} {A x0 : Int} (w : World) (c0 : w.cell? ⟨b, o, none⟩ = some (.int .i64 5)) (c1 : w.cell? ⟨b, o + 1, none⟩ = some (.int .i64 A)) (hx0 : w.cell? ⟨ba, oa, none⟩ = some (.int .i64 x0)) (la : 1 ≤ na) :
    Calls Tryz.prog 114 #[.pointer (some ⟨b, o, none⟩), vt, .slice (some ⟨ba, oa, none⟩) na ca, vs] w fun e w' => e = .returned (.int .i64 (smp (A * x0))) ∧ Below w.heap.size w w' := by
  go_enter Tryz.func114, Tryz.ntmps114
  go_wp2_with fail
  go_quiet ((go_at_call 133; exact Calls.quiet_of_same (Calls.turn (l01Mul_any _ _ _))))
  go_wp2_with fail
  go_ret
  exact ⟨rfl, below_drewN (Below.refl _ _) _⟩
set_option maxHeartbeats 4000000 in
theorem l06Out_6 {b o : Nat} {vt va : Value} {bs os ns cs : Nat} {s0 : Int} (w : World) (c0 : w.cell? ⟨b, o, none⟩ = some (.int .i64 6)) (hs0 : w.cell? ⟨bs, os, none⟩ = some (.int .i64 s0)) (ls : 1 ≤ ns) :
    Calls Tryz.prog 114 #[.pointer (some ⟨b, o, none⟩), vt, va, .slice (some ⟨bs, os, none⟩) ns cs] w fun e w' => e = .returned (.int .i64 (s0)) ∧ Below w.heap.size w w' := by
  go_enter Tryz.func114, Tryz.ntmps114
  go_wp2_with fail
  go_ret
  exact ⟨rfl, Below.refl _ _⟩
set_option maxHeartbeats 4000000 in
theorem l06Out_12 {b o : Nat} {vt va : Value} {bs os ns cs : Nat} {s0 : Int} (w : World) (c0 : w.cell? ⟨b, o, none⟩ = some (.int .i64 12)) (hs0 : w.cell? ⟨bs, os, none⟩ = some (.int .i64 s0)) (ls : 1 ≤ ns) :
    Calls Tryz.prog 114 #[.pointer (some ⟨b, o, none⟩), vt, va, .slice (some ⟨bs, os, none⟩) ns cs] w fun e w' => e = .returned (.int .i64 (s0)) ∧ Below w.heap.size w w' := by
  go_enter Tryz.func114, Tryz.ntmps114
  go_wp2_with fail
  go_ret
  exact ⟨rfl, Below.refl _ _⟩
set_option maxHeartbeats 4000000 in
theorem l06Out_14 {b o : Nat} {vt va : Value} {bs os ns cs : Nat} {s0 : Int} (w : World) (c0 : w.cell? ⟨b, o, none⟩ = some (.int .i64 14)) (hs0 : w.cell? ⟨bs, os, none⟩ = some (.int .i64 s0)) (ls : 1 ≤ ns) :
    Calls Tryz.prog 114 #[.pointer (some ⟨b, o, none⟩), vt, va, .slice (some ⟨bs, os, none⟩) ns cs] w fun e w' => e = .returned (.int .i64 (s0)) ∧ Below w.heap.size w w' := by
  go_enter Tryz.func114, Tryz.ntmps114
  go_wp2_with fail
  go_ret
  exact ⟨rfl, Below.refl _ _⟩
set_option maxHeartbeats 4000000 in
theorem l06Out_7 {b o : Nat} {vt : Value} {ba oa na ca : Nat} {bs os ns cs : Nat} {x0 s0 : Int} (w : World) (c0 : w.cell? ⟨b, o, none⟩ = some (.int .i64 7)) (hx0 : w.cell? ⟨ba, oa, none⟩ = some (.int .i64 x0)) (hs0 : w.cell? ⟨bs, os, none⟩ = some (.int .i64 s0)) (la : 1 ≤ na) (ls : 1 ≤ ns) :
    Calls Tryz.prog 114 #[.pointer (some ⟨b, o, none⟩), vt, .slice (some ⟨ba, oa, none⟩) na ca, .slice (some ⟨bs, os, none⟩) ns cs] w fun e w' => e = .returned (.int .i64 (smp (s0 + x0))) ∧ Below w.heap.size w w' := by
  go_enter Tryz.func114, Tryz.ntmps114
  go_wp2_with fail
  go_quiet ((go_at_call 131; exact Calls.quiet_of_same (Calls.turn (l01Add_any _ _ _))))
  go_wp2_with fail
  go_ret
  exact ⟨rfl, below_drewN (Below.refl _ _) _⟩
set_option maxHeartbeats 4000000 in
theorem l06Out_8 {b o : Nat} {vt : Value} {ba oa na ca : Nat} {bs os ns cs : Nat} {x0 s0 : Int} (w : World) (c0 : w.cell? ⟨b, o, none⟩ = some (.int .i64 8)) (hx0 : w.cell? ⟨ba, oa, none⟩ = some (.int .i64 x0)) (hs0 : w.cell? ⟨bs, os, none⟩ = some (.int .i64 s0)) (la : 1 ≤ na) (ls : 1 ≤ ns) :
    Calls Tryz.prog 114 #[.pointer (some ⟨b, o, none⟩), vt, .slice (some ⟨ba, oa, none⟩) na ca, .slice (some ⟨bs, os, none⟩) ns cs] w fun e w' => e = .returned (.int .i64 (smp (x0 - s0))) ∧ Below w.heap.size w w' := by
  go_enter Tryz.func114, Tryz.ntmps114
  go_wp2_with fail
  go_quiet ((go_at_call 132; exact Calls.quiet_of_same (Calls.turn (l01Sub_any _ _ _))))
  go_wp2_with fail
  go_ret
  exact ⟨rfl, below_drewN (Below.refl _ _) _⟩
set_option maxHeartbeats 4000000 in
theorem l06Out_9 {b o : Nat} {vt vs : Value} {ba oa na ca : Nat} {x0 x1 : Int} (w : World) (c0 : w.cell? ⟨b, o, none⟩ = some (.int .i64 9)) (hx0 : w.cell? ⟨ba, oa, none⟩ = some (.int .i64 x0)) (hx1 : w.cell? ⟨ba, oa + 1, none⟩ = some (.int .i64 x1)) (la : 2 ≤ na) :
    Calls Tryz.prog 114 #[.pointer (some ⟨b, o, none⟩), vt, .slice (some ⟨ba, oa, none⟩) na ca, vs] w fun e w' => e = .returned (.int .i64 (smp (x0 * x1))) ∧ Below w.heap.size w w' := by
  go_enter Tryz.func114, Tryz.ntmps114
  go_wp2_with fail
  go_quiet ((go_at_call 133; exact Calls.quiet_of_same (Calls.turn (l01Mul_any _ _ _))))
  go_wp2_with fail
  go_ret
  exact ⟨rfl, below_drewN (Below.refl _ _) _⟩
set_option maxHeartbeats 4000000 in
theorem l06Out_15_pos {b o : Nat} {vt vs : Value} {ba oa na ca : Nat} {x0 x1 : Int} (w : World) (c0 : w.cell? ⟨b, o, none⟩ = some (.int .i64 15)) (hx0 : w.cell? ⟨ba, oa, none⟩ = some (.int .i64 x0)) (hx1 : w.cell? ⟨ba, oa + 1, none⟩ = some (.int .i64 x1)) (la : 2 ≤ na) (hx : 0 ≤ x0) :
    Calls Tryz.prog 114 #[.pointer (some ⟨b, o, none⟩), vt, .slice (some ⟨ba, oa, none⟩) na ca, vs] w fun e w' => e = .returned (.int .i64 (x1)) ∧ Below w.heap.size w w' := by
  go_enter Tryz.func114, Tryz.ntmps114
  go_wp2_with fail
  go_ret
  exact ⟨rfl, Below.refl _ _⟩
set_option maxHeartbeats 4000000 in
theorem l06Out_15_neg {b o : Nat} {vt vs : Value} {ba oa na ca : Nat} {x0 x2 : Int} (w : World) (c0 : w.cell? ⟨b, o, none⟩ = some (.int .i64 15)) (hx0 : w.cell? ⟨ba, oa, none⟩ = some (.int .i64 x0)) (hx2 : w.cell? ⟨ba, oa + 2, none⟩ = some (.int .i64 x2)) (la : 3 ≤ na) (hx : ¬ 0 ≤ x0) :
    Calls Tryz.prog 114 #[.pointer (some ⟨b, o, none⟩), vt, .slice (some ⟨ba, oa, none⟩) na ca, vs] w fun e w' => e = .returned (.int .i64 (x2)) ∧ Below w.heap.size w w' := by
  go_enter Tryz.func114, Tryz.ntmps114
  go_wp2_with fail
  go_ret
  exact ⟨rfl, Below.refl _ _⟩
set_option maxHeartbeats 4000000 in
theorem l06Out_16_pos {b o : Nat} {vt vs : Value} {ba oa na ca : Nat} {x0 x1 : Int} (w : World) (c0 : w.cell? ⟨b, o, none⟩ = some (.int .i64 16)) (hx0 : w.cell? ⟨ba, oa, none⟩ = some (.int .i64 x0)) (hx1 : w.cell? ⟨ba, oa + 1, none⟩ = some (.int .i64 x1)) (la : 2 ≤ na) (hx : 0 < x1) :
    Calls Tryz.prog 114 #[.pointer (some ⟨b, o, none⟩), vt, .slice (some ⟨ba, oa, none⟩) na ca, vs] w fun e w' => e = .returned (.int .i64 (x0)) ∧ Below w.heap.size w w' := by
  go_enter Tryz.func114, Tryz.ntmps114
  go_wp2_with fail
  go_ret
  exact ⟨rfl, Below.refl _ _⟩
set_option maxHeartbeats 4000000 in
theorem l06Out_16_neg {b o : Nat} {vt : Value} {ba oa na ca : Nat} {bs os ns cs : Nat} {x1 s0 : Int} (w : World) (c0 : w.cell? ⟨b, o, none⟩ = some (.int .i64 16)) (hx1 : w.cell? ⟨ba, oa + 1, none⟩ = some (.int .i64 x1)) (hs0 : w.cell? ⟨bs, os, none⟩ = some (.int .i64 s0)) (la : 2 ≤ na) (ls : 1 ≤ ns) (hx : ¬ 0 < x1) :
    Calls Tryz.prog 114 #[.pointer (some ⟨b, o, none⟩), vt, .slice (some ⟨ba, oa, none⟩) na ca, .slice (some ⟨bs, os, none⟩) ns cs] w fun e w' => e = .returned (.int .i64 (s0)) ∧ Below w.heap.size w w' := by
  go_enter Tryz.func114, Tryz.ntmps114
  go_wp2_with fail
  go_ret
  exact ⟨rfl, Below.refl _ _⟩
set_option maxHeartbeats 4000000 in
theorem l06Out_17 {b o : Nat} {vt : Value} {ba oa na ca : Nat} {bs os ns cs : Nat} {A x0 s0 : Int} (w : World) (c0 : w.cell? ⟨b, o, none⟩ = some (.int .i64 17)) (c1 : w.cell? ⟨b, o + 1, none⟩ = some (.int .i64 A)) (hx0 : w.cell? ⟨ba, oa, none⟩ = some (.int .i64 x0)) (hs0 : w.cell? ⟨bs, os, none⟩ = some (.int .i64 s0)) (la : 1 ≤ na) (ls : 1 ≤ ns) :
    Calls Tryz.prog 114 #[.pointer (some ⟨b, o, none⟩), vt, .slice (some ⟨ba, oa, none⟩) na ca, .slice (some ⟨bs, os, none⟩) ns cs] w fun e w' => e = .returned (.int .i64 (smp (x0 + smp (A * s0)))) ∧ Below w.heap.size w w' := by
  go_enter Tryz.func114, Tryz.ntmps114
  go_wp2_with fail
  go_quiet ((first | (go_at_call 133; exact Calls.quiet_of_same (Calls.turn (l01Mul_any _ _ _))) | (go_at_call 131; exact Calls.quiet_of_same (Calls.turn (l01Add_any _ _ _)))))
  go_wp2_with fail
  go_ret
  exact ⟨rfl, below_drewN (Below.refl _ _) _⟩
set_option maxHeartbeats 4000000 in
theorem l06Out_11 {b o : Nat} {vt vs : Value} {ba oa na ca : Nat} {A x0 : Int} (w : World) (c0 : w.cell? ⟨b, o, none⟩ = some (.int .i64 11)) (c1 : w.cell? ⟨b, o + 1, none⟩ = some (.int .i64 A)) (hx0 : w.cell? ⟨ba, oa, none⟩ = some (.int .i64 x0)) (la : 1 ≤ na) (hA : 0 ≤ A ∧ A ≤ 2147483647) :
    Calls Tryz.prog 114 #[.pointer (some ⟨b, o, none⟩), vt, .slice (some ⟨ba, oa, none⟩) na ca, vs] w fun e w' => e = .returned (.int .i64 (max (-A) (min x0 A))) ∧ Below w.heap.size w w' := by
  have hw : IntKind.i64.wrap (-A) = -A := IntWalk.i64_in _ (by omega)
  go_enter Tryz.func114, Tryz.ntmps114
  go_wp2_with fail
  go_quiet ((first | (go_at_call 39; exact Calls.quiet_of_same (Calls.turn (l00Min_any _ _ _))) | (go_at_call 72; exact Calls.quiet_of_same (Calls.turn (l00Max_any _ _ _)))))
  go_wp2_with fail
  go_ret
  exact ⟨rfl, below_drewN (Below.refl _ _) _⟩
set_option maxHeartbeats 4000000 in
theorem l06Out_10 {b o : Nat} {vt vs : Value} {ba oa na ca : Nat} {A x0 : Int} (w : World) (c0 : w.cell? ⟨b, o, none⟩ = some (.int .i64 10)) (c1 : w.cell? ⟨b, o + 1, none⟩ = some (.int .i64 A)) (hx0 : w.cell? ⟨ba, oa, none⟩ = some (.int .i64 x0)) (la : 1 ≤ na) (hA : 0 ≤ A ∧ A ≤ 31) (i0 : -2147483648 ≤ x0 ∧ x0 ≤ 2147483647) :
    Calls Tryz.prog 114 #[.pointer (some ⟨b, o, none⟩), vt, .slice (some ⟨ba, oa, none⟩) na ca, vs] w fun e w' => e = .returned (.int .i64 (x0 / 2 ^ A.toNat)) ∧ Below w.heap.size w w' := by
  go_enter Tryz.func114, Tryz.ntmps114
  go_wp2_with fail
  go_quiet (fail)
  go_wp2_with fail
  go_ret
  exact ⟨rfl, below_drewN (Below.refl _ _) _⟩
end Go.Proofs.YtaapkpjokmoekaaGreatDoor

namespace Go.Proofs.YtaapkpjokmoekaaGreatDoor
open Go.ChangeShapes Go.WideShapes Go.ChangeAt Go.RowKit Go.Sort
set_option linter.unusedVariables false

theorem isNode_v {v : Value} {x : NodeD} (t : Int) (w : World) (h : VNode w v x) :
    Calls Tryz.prog 47 #[v, .int .i64 t] w fun e w' => e = .returned (.bool (nodeB x t)) ∧ Below w.heap.size w w' := by
  obtain ⟨p, c, rfl, hr⟩ := h
  cases hk : inB x.kind 1 17
  case true =>
    obtain ⟨k, a, b, src⟩ := x
    obtain ⟨i, hi, rfl⟩ := kind_of_in hk
    exact isNode_in i hi a b t w hr
  have e : nodeB x t = false := by rw [nodeB, hk]; rfl
  rw [e]
  clear e
  go_enter Tryz.func47, Tryz.ntmps47
  go_wp2_with (go_at_call 77; refine (isKind_any _ _).mono ?_; rintro e w' ⟨rfl, rfl⟩)
  go_ret
  exact ⟨rfl, (Below.refl _ _).alloc (Nat.le_refl _) _⟩
theorem zeros_any (n : Nat) (w : World) (hn : n ≤ 1048576) :
    Calls Tryz.prog 61 #[.int .i64 n] w fun e w' => ∃ v, e = .returned v ∧ OwnI w.heap.size w' v (List.replicate n 0) ∧ Below w.heap.size w w' := by
  have hmk := fun w => run_make_row' (P := Tryz.prog) 26 2 (.int .i64 0) 8 Tryz.underlying26 infoI rfl .i64 .i64 n (by omega) (by omega) w
  have h0 := OwnI.made (B := w.heap.size) w n (Nat.le_refl _) (by unfold maxLen; omega)
  go_enter Tryz.func61, Tryz.ntmps61
  go_wp2_with fail
  go_ret
  exact ⟨_, rfl, h0, (Below.refl _ _).alloc (Nat.le_refl _) _⟩
theorem zerosI_any (n : Int) (w : World) (h0 : 0 ≤ n) (hn : n ≤ 1048576) :
    Calls Tryz.prog 61 #[.int .i64 n] w fun e w' => ∃ v, e = .returned v ∧ OwnI w.heap.size w' v (List.replicate n.toNat 0) ∧ Below w.heap.size w w' := by
  obtain ⟨m, rfl⟩ : ∃ m : Nat, n = m := ⟨n.toNat, by omega⟩
  exact zeros_any m w (by omega)
set_option maxHeartbeats 800000 in
theorem l03Zeros_any (n : Int) (w : World) (h0 : 0 ≤ n) (hn : n ≤ 1048576) :
    Calls Tryz.prog 75 #[.int .i64 n] w fun e w' => ∃ v, e = .returned v ∧ OwnI w.heap.size w' v (List.replicate n.toNat 0) ∧ Below w.heap.size w w' := by
  obtain ⟨m, rfl⟩ : ∃ m : Nat, n = m := ⟨n.toNat, by omega⟩
  have hl := OwnI.lit (B := w.heap.size) w [] (Nat.le_refl _) (by simp [maxLen])
  go_enter Tryz.func75, Tryz.ntmps75
  go_wp2_with fail
  go_loopw [0, 3] (fun i v wr => ∃ k : Nat, k ≤ m ∧ i = .int .i64 k ∧ OwnI w.heap.size wr v (List.replicate (m - k) 0) ∧ Below w.heap.size w wr) (fun i _ _ => (intOf i).toNat)
  case atStart => exact ⟨m, Nat.le_refl _, rfl, by simpa using hl, (Below.refl _ _).alloc (Nat.le_refl _) _⟩
  case round =>
    obtain ⟨k, hk, rfl, hown, hbel⟩ := hrel
    clear hl
    by_cases hlt : 0 < k
    · obtain ⟨j, rfl⟩ : ∃ j, k = j + 1 := ⟨k - 1, by omega⟩
      have hst : Hid (List.replicate (m - j) (0 : Int) = List.replicate (m - (j + 1)) 0 ++ [0]) := by
        unfold Hid
        rw [show m - j = (m - (j + 1)) + 1 by omega, List.replicate_succ']
      have hlen : (List.replicate (m - (j + 1)) (0 : Int)).length < 17592186044415 := by simp; omega
      have hsz := hbel.size
      have hj : ((j : Int) + 1 - 1) = j := by omega
      go_wp2_with (at_builtin; refine wpList_append_one rfl _ _ rfl rfl hown rfl hbel hlen hsz (Nat.le_refl _) ?_; intro v' w1 hown1 hbel1 _ _)
      go_roundw
      case rel => exact ⟨j, by omega, by first | rfl | go_num, by rw [hst.out]; exact hown1, hbel1⟩
      case measure => simp [intOf] <;> omega
    · obtain rfl : k = 0 := by omega
      go_wp2_with fail
      go_ret
      exact ⟨_, rfl, by simpa using hown, hbel⟩
/-- the state of a node at the beginning -/
def startL (x : NodeD) : List Int :=
  if x.kind = 6 then List.replicate x.a.toNat 0 else if x.kind = 17 then List.replicate x.b.toNat 0 else if x.kind = 7 ∨ x.kind = 8 ∨ x.kind = 16 then [0] else if x.kind = 12 ∨ x.kind = 14 then [x.a] else []
structure StartOk (x : NodeD) : Prop where
  a : x.kind = 6 → 0 ≤ x.a ∧ x.a ≤ 16
  b : x.kind = 17 → 0 ≤ x.b ∧ x.b ≤ 16
theorem startOk_of {x : NodeD} {t : Int} (h : nodeB x t = true) : StartOk x := by
  rw [nodeB_split] at h
  simp only [Bool.and_eq_true] at h
  obtain ⟨_, h2, _, _, h5⟩ := h
  constructor
  · intro e
    rw [e] at h2
    have : inB x.a 1 16 = true := h2
    rw [inB_iff] at this
    omega
  · intro e
    rw [if_pos e] at h5
    rw [inB_iff] at h5
    omega
theorem startL_length {x : NodeD} (h : StartOk x) : (startL x).length ≤ 16 := by
  unfold startL
  split
  · rename_i e; have := h.a e; rw [List.length_replicate]; omega
  split
  · rename_i e; have := h.b e; rw [List.length_replicate]; omega
  split
  · simp
  split <;> simp
set_option maxHeartbeats 4000000 in
theorem l06Start_any {b o : Nat} {x : NodeD} (w : World) (h : PNode w b o x) (ok : StartOk x) :
    Calls Tryz.prog 96 #[.pointer (some ⟨b, o, none⟩)] w fun e w' => ∃ u, e = .returned u ∧ OwnI w.heap.size w' u (startL x) ∧ Below w.heap.size w w' := by
  obtain ⟨c0, c1, c2, -⟩ := h
  have fin : Hid (∀ (n : Int), 0 ≤ n → n ≤ 16 → startL x = List.replicate n.toNat 0 → Calls Tryz.prog 75 #[.int .i64 n] w fun e w' => ∃ u, e = .returned u ∧ OwnI w.heap.size w' u (startL x) ∧ Below w.heap.size w w') := fun n h0 h1 he =>
    (l03Zeros_any n w h0 (by omega)).mono fun e w' ⟨u, h2, h3, h4⟩ => ⟨u, h2, by rw [he]; exact h3, h4⟩
  have OK := Lib.hid ok
  clear ok
  by_cases k6 : x.kind = 6
  · have hs : startL x = List.replicate x.a.toNat 0 := by unfold startL; rw [if_pos k6]
    have F := Lib.hid (fin.out x.a (OK.out.a k6).1 (OK.out.a k6).2 hs)
    rw [k6] at c0
    clear hs k6
    go_enter Tryz.func96, Tryz.ntmps96
    go_wp2_with (go_at_call 75; refine F.out.mono ?_; rintro e w1 ⟨u, rfl, ho, hb⟩)
    go_ret
    exact ⟨_, rfl, ho, hb⟩
  have q6 : (x.kind == 6) = false := by rw [beq_eq_false_iff_ne]; exact k6
  by_cases k17 : x.kind = 17
  · have hs : startL x = List.replicate x.b.toNat 0 := by unfold startL; rw [if_neg k6, if_pos k17]
    have F := Lib.hid (fin.out x.b (OK.out.b k17).1 (OK.out.b k17).2 hs)
    rw [k17] at c0
    clear hs k17 k6 q6
    go_enter Tryz.func96, Tryz.ntmps96
    go_wp2_with (go_at_call 75; refine F.out.mono ?_; rintro e w1 ⟨u, rfl, ho, hb⟩)
    go_ret
    exact ⟨_, rfl, ho, hb⟩
  have q17 : (x.kind == 17) = false := by rw [beq_eq_false_iff_ne]; exact k17
  by_cases k1 : x.kind = 7 ∨ x.kind = 8 ∨ x.kind = 16
  · have hs : Hid (startL x = [0]) := by unfold Hid startL; rw [if_neg k6, if_neg k17, if_pos k1]
    have ho := Lib.hid (OwnI.lit (B := w.heap.size) w [0] (Nat.le_refl _) (by simp [maxLen]))
    clear k17 k6
    rcases k1 with k | k | k
    all_goals
      rw [k] at c0
      clear q6 q17 k
      go_enter Tryz.func96, Tryz.ntmps96
      go_wp2_with fail
      go_ret
      exact ⟨_, rfl, by rw [hs.out]; exact ho.out, (Below.refl _ _).alloc (Nat.le_refl _) _⟩
  by_cases k2 : x.kind = 12 ∨ x.kind = 14
  · have hs : Hid (startL x = [x.a]) := by unfold Hid startL; rw [if_neg k6, if_neg k17, if_neg k1, if_pos k2]
    have ho := Lib.hid (OwnI.lit (B := w.heap.size) w [x.a] (Nat.le_refl _) (by simp [maxLen]))
    clear k17 k6 k1
    rcases k2 with k | k
    all_goals
      rw [k] at c0
      clear q6 q17 k
      go_enter Tryz.func96, Tryz.ntmps96
      go_wp2_with fail
      go_ret
      exact ⟨_, rfl, by rw [hs.out]; exact ho.out, (Below.refl _ _).alloc (Nat.le_refl _) _⟩
  have hs : Hid (startL x = []) := by unfold Hid startL; rw [if_neg k6, if_neg k17, if_neg k1, if_neg k2]
  have ho := Lib.hid (OwnI.lit (B := w.heap.size) w [] (Nat.le_refl _) (by simp [maxLen]))
  have q7 : (x.kind == 7) = false := by rw [beq_eq_false_iff_ne]; omega
  have q8 : (x.kind == 8) = false := by rw [beq_eq_false_iff_ne]; omega
  have q16 : (x.kind == 16) = false := by rw [beq_eq_false_iff_ne]; omega
  have q12 : (x.kind == 12) = false := by rw [beq_eq_false_iff_ne]; omega
  have q14 : (x.kind == 14) = false := by rw [beq_eq_false_iff_ne]; omega
  clear k17 k6 k1 k2
  go_enter Tryz.func96, Tryz.ntmps96
  go_wp2_with fail
  go_ret
  exact ⟨_, rfl, by rw [hs.out]; exact ho.out, (Below.refl _ _).alloc (Nat.le_refl _) _⟩
def startRes (x : NodeD) : List Int := if nodeB x 4 then startL x else []
def startSize (x : NodeD) : Int := if nodeB x 4 then ((startL x).length : Int) else -1
theorem startRes_small (x : NodeD) : cntI (startRes x) ≤ 1048576 := by
  unfold cntI startRes
  split
  · rename_i h
    have := startL_length (startOk_of h)
    omega
  · simp
/-- a list of the call's own -/
def RetL (w : World) (xs : List Int) (e : Ending) (w' : World) : Prop := ∃ u L, e = .returned u ∧ OwnLI w.heap.size w' u xs L ∧ Dis L ∧ Below w.heap.size w w'
theorem OwnLI.nilu (B : Nat) (w : World) : OwnLI B w (.slice none 0 0) [] [.slice none 0 0] := ⟨OwnI.nil _ _, rfl⟩
end Go.Proofs.YtaapkpjokmoekaaGreatDoor

namespace Go.Proofs.YtaapkpjokmoekaaGreatDoor
open Go.ChangeShapes Go.WideShapes Go.ChangeAt Go.RowKit Go.Sort
set_option linter.unusedVariables false

/-- the slice of nodes at p reads xs -/
structure RdNodeS (w : World) (p : Option Addr) (xs : List NodeD) : Prop where
  len : xs.length ≤ maxLen
  cells : xs = [] ∨ ∃ b o, p = some ⟨b, o, none⟩ ∧ ∀ i, (h : i < xs.length) → PNode w b (o + i * 4) xs[i]
theorem RdNodeS.pos {w : World} {p : Option Addr} {xs : List NodeD} (h : RdNodeS w p xs) {k : Nat} (hk : k < xs.length) :
    ∃ b o, p = some ⟨b, o, none⟩ ∧ b < w.heap.size ∧ ∀ i, (h : i < xs.length) → PNode w b (o + i * 4) xs[i] := by
  rcases h.cells with rfl | ⟨b, o, e, hc⟩
  · simp at hk
  · exact ⟨b, o, e, (hc k hk).lt, hc⟩
theorem RdNodeS.nil (w : World) (p : Option Addr) : RdNodeS w p [] := ⟨by simp [maxLen], .inl rfl⟩
theorem RdNodeS.below {w w' : World} {p : Option Addr} {xs : List NodeD} (h : RdNodeS w p xs) (hb : Below w.heap.size w w') : RdNodeS w' p xs := by
  refine ⟨h.len, ?_⟩
  rcases h.cells with rfl | ⟨b, o, e, hc⟩
  · exact .inl rfl
  · exact .inr ⟨b, o, e, fun i hi => (hc i hi).below hb⟩
def VNodeS (w : World) (v : Value) (xs : List NodeD) : Prop := ∃ p c, v = .slice p xs.length c ∧ RdNodeS w p xs
theorem VNodeS.below {w w' : World} {v : Value} {xs : List NodeD} (h : VNodeS w v xs) (hb : Below w.heap.size w w') : VNodeS w' v xs := by
  obtain ⟨p, c, rfl, hr⟩ := h
  exact ⟨p, c, rfl, hr.below hb⟩
/-- the cells of nodes, the values L in the place of their slices -/
def nodeCells : List NodeD → List Value → List Value
  | x :: xs, u :: us => .int .i64 x.kind :: .int .i64 x.a :: .int .i64 x.b :: u :: nodeCells xs us
  | _, _ => []
theorem nodeCells_length : ∀ (xs : List NodeD) (L : List Value), L.length = xs.length → (nodeCells xs L).length = xs.length * 4
  | [], L, h => by rw [nodeCells]; simp; intros; simp_all
  | x :: xs, [], h => by simp at h
  | x :: xs, u :: us, h => by
    rw [nodeCells]
    simp only [List.length_cons] at h ⊢
    rw [nodeCells_length xs us (by omega)]
    omega
theorem nodeCells_get : ∀ (xs : List NodeD) (L : List Value) (i : Nat) (h : i < xs.length) (hL : i < L.length),
    (nodeCells xs L)[i * 4]? = some (.int .i64 xs[i].kind) ∧ (nodeCells xs L)[i * 4 + 1]? = some (.int .i64 xs[i].a) ∧ (nodeCells xs L)[i * 4 + 2]? = some (.int .i64 xs[i].b) ∧ (nodeCells xs L)[i * 4 + 3]? = some L[i]
  | [], _, i, h, _ => by simp at h
  | _ :: _, [], i, _, h => by simp at h
  | x :: xs, u :: us, 0, _, _ => ⟨rfl, rfl, rfl, rfl⟩
  | x :: xs, u :: us, i + 1, h, hL => by
    have := nodeCells_get xs us i (by simpa using h) (by simpa using hL)
    rw [nodeCells, show (i + 1) * 4 = i * 4 + 1 + 1 + 1 + 1 by omega]
    simpa using this
theorem nodeCells_append : ∀ (xs ys : List NodeD) (L M : List Value), L.length = xs.length → nodeCells (xs ++ ys) (L ++ M) = nodeCells xs L ++ nodeCells ys M
  | [], ys, L, M, h => by
    have : L = [] := List.eq_nil_of_length_eq_zero h
    subst this
    simp [nodeCells]
  | x :: xs, ys, [], M, h => by simp at h
  | x :: xs, ys, u :: us, M, h => by
    rw [List.cons_append, List.cons_append, nodeCells, nodeCells, nodeCells_append xs ys us M (by simpa using h)]
    rfl
/-- an outer row of nodes of its own, the values L in the place of their slices -/
def OwnN (B : Nat) (w : World) (v : Value) (xs : List NodeD) (L : List Value) : Prop := L.length = xs.length ∧ w.ownsRow B 35 4 v xs.length (nodeCells xs L)
theorem OwnN.lt {B : Nat} {w : World} {v : Value} {xs : List NodeD} {L : List Value} (h : OwnN B w v xs L) {k : Nat} (hk : v.ownBlock = some k) : B ≤ k ∧ k < w.heap.size := World.ownsRow.lt h.2 k hk
theorem OwnN.keep {B : Nat} {w w' : World} {v : Value} {xs : List NodeD} {L : List Value} (h : OwnN B w v xs L) (hk : ∀ k, v.ownBlock = some k → w'.heap[k]? = w.heap[k]?) : OwnN B w' v xs L := by
  refine ⟨h.1, h.2.1, ?_⟩
  rcases h.2.2 with hn | ⟨g, cap, cur, rfl, hb, hgg, rest⟩
  · exact .inl hn
  · exact .inr ⟨g, cap, cur, rfl, hb, (hk g rfl).trans hgg, rest⟩
theorem OwnN.below {B : Nat} {w w' : World} {v : Value} {xs : List NodeD} {L : List Value} (h : OwnN B w v xs L) (hb : Below w.heap.size w w') : OwnN B w' v xs L := h.keep fun k hk => hb.block k (h.lt hk).2
theorem OwnN.mono {B B' : Nat} {w : World} {v : Value} {xs : List NodeD} {L : List Value} (h : OwnN B w v xs L) (hB : B' ≤ B) : OwnN B' w v xs L := by
  refine ⟨h.1, h.2.1, ?_⟩
  rcases h.2.2 with h2 | ⟨g, cap, cur, hv, hb, r⟩
  · exact .inl h2
  · exact .inr ⟨g, cap, cur, hv, Nat.le_trans hB hb, r⟩
theorem OwnN.node {B : Nat} {w : World} {v : Value} {xs : List NodeD} {L : List Value} (h : OwnN B w v xs L) {k : Nat} (hk : v.ownBlock = some k) : ∃ cur, w.heap[k]? = some (.cells cur 35 (0, 0)) := by
  rcases h.2.2 with ⟨hn, _⟩ | ⟨g, cap, cur, hv, _, hg, _⟩
  · rw [hn] at hk; simp [Value.ownBlock] at hk
  · rw [hv] at hk
    simp only [Value.ownBlock, Option.some.injEq] at hk
    subst hk
    exact ⟨cur, hg⟩
theorem OwnN.cases {B : Nat} {w : World} {v : Value} {xs : List NodeD} {L : List Value} (h : OwnN B w v xs L) :
    (v = .slice none 0 0 ∧ xs = [] ∧ L = []) ∨ ∃ g cap, v = .slice (some ⟨g, 0, none⟩) xs.length cap ∧ B ≤ g ∧ g < w.heap.size ∧ xs.length ≤ maxLen ∧
      (∀ i, (hi : i < xs.length) → (hL : i < L.length) → w.cell? ⟨g, i * 4, none⟩ = some (.int .i64 xs[i].kind) ∧ w.cell? ⟨g, i * 4 + 1, none⟩ = some (.int .i64 xs[i].a) ∧ w.cell? ⟨g, i * 4 + 2, none⟩ = some (.int .i64 xs[i].b) ∧ w.cell? ⟨g, i * 4 + 3, none⟩ = some L[i]) := by
  obtain ⟨hl, h⟩ := h
  rcases h.2 with ⟨h1, h2⟩ | ⟨g, cap, cur, hv, hB, hg, hn, hm, hs, ht⟩
  · have e : xs = [] := List.eq_nil_of_length_eq_zero h2
    subst e
    exact .inl ⟨h1, rfl, List.eq_nil_of_length_eq_zero hl⟩
  · refine .inr ⟨g, cap, hv, hB, (Array.getElem?_eq_some_iff.1 hg).1, by omega, fun i hi hL => ?_⟩
    have hh : w.ownsRow B 35 4 (.slice (some ⟨g, 0, none⟩) xs.length cap) xs.length (nodeCells xs L) := by rw [← hv]; exact h
    obtain ⟨c0, c1, c2, c3⟩ := nodeCells_get xs L i hi hL
    exact ⟨(hh.cellAt _ (by omega)).trans c0, (hh.cellAt _ (by omega)).trans c1, (hh.cellAt _ (by omega)).trans c2, (hh.cellAt _ (by omega)).trans c3⟩
theorem OwnN.nil (B : Nat) (w : World) : OwnN B w (.slice none 0 0) [] [] := ⟨rfl, World.ownsRow_nil w B _ 4⟩
/-- a slice of nodes of its own; M: the row itself, and the slices of its nodes -/
def OwnNodeS (B : Nat) (w : World) (v : Value) (xs : List NodeD) (M : List Value) : Prop := ∃ L, M = v :: L ∧ OwnN B w v xs L ∧ OwnIs B w L (xs.map NodeD.src) ∧ Dis L
theorem OwnNodeS.blk {B : Nat} {w : World} {v : Value} {xs : List NodeD} {M : List Value} (h : OwnNodeS B w v xs M) {b : Nat} (hb : Blk M b) : B ≤ b ∧ b < w.heap.size := by
  obtain ⟨L, rfl, ho, hs, hd⟩ := h
  obtain ⟨u, hu, hb⟩ := hb
  rcases List.mem_cons.1 hu with rfl | hu
  · exact ho.lt hb
  · exact ⟨(hs.blk ⟨u, hu, hb⟩).1, (hs.blk ⟨u, hu, hb⟩).2.1⟩
theorem OwnN.off {B B' : Nat} {w : World} {v : Value} {xs : List NodeD} {L M : List Value} {xss : List (List Int)} (h : OwnN B w v xs L) (hs : OwnIs B' w M xss) {k : Nat} (hk : v.ownBlock = some k) : ¬ Blk M k := by
  intro hb
  obtain ⟨_, _, cur, hg⟩ := hs.blk hb
  obtain ⟨cur', hg'⟩ := h.node hk
  rw [hg] at hg'
  simp only [Option.some.injEq, Obj.cells.injEq] at hg'
  exact absurd hg'.2.1 (by decide)
theorem OwnNodeS.dis {B : Nat} {w : World} {v : Value} {xs : List NodeD} {M : List Value} (h : OwnNodeS B w v xs M) : Dis M := by
  obtain ⟨L, rfl, ho, hs, hd⟩ := h
  refine List.pairwise_cons.2 ⟨fun u hu b hb hb' => ho.off hs hb ⟨u, hu, hb'⟩, hd⟩
theorem OwnNodeS.rd {B : Nat} {w : World} {v : Value} {xs : List NodeD} {M : List Value} (h : OwnNodeS B w v xs M) : VNodeS w v xs := by
  obtain ⟨L, rfl, ho, hs, hd⟩ := h
  rcases ho.cases with ⟨rfl, rfl, rfl⟩ | ⟨g, cap, rfl, hB, hg, hm, hc⟩
  · exact ⟨none, 0, rfl, RdNodeS.nil _ _⟩
  · refine ⟨_, cap, rfl, hm, .inr ⟨g, 0, rfl, fun i hi => ?_⟩⟩
    have hL : i < L.length := by rw [ho.1]; exact hi
    obtain ⟨c0, c1, c2, c3⟩ := hc i hi hL
    obtain ⟨hL', hu⟩ := hs.at_ (i := i) (by simpa using hi)
    obtain ⟨q, d, e, hr⟩ := hu.rd
    rw [List.getElem_map] at e hr
    rw [Nat.zero_add]
    exact ⟨c0, c1, c2, q, d, by rw [c3, e], hr⟩
theorem OwnNodeS.mono {B B' : Nat} {w : World} {v : Value} {xs : List NodeD} {M : List Value} (h : OwnNodeS B w v xs M) (hB : B' ≤ B) : OwnNodeS B' w v xs M := by
  obtain ⟨L, rfl, ho, hs, hd⟩ := h
  exact ⟨L, rfl, ho.mono hB, hs.mono hB, hd⟩
theorem OwnNodeS.keeps {B : Nat} {w w' : World} {v : Value} {xs : List NodeD} {M : List Value} (h : OwnNodeS B w v xs M) (hk : ∀ k, B ≤ k → k < w.heap.size → w'.heap[k]? = w.heap[k]?) : OwnNodeS B w' v xs M := by
  obtain ⟨L, rfl, ho, hs, hd⟩ := h
  exact ⟨L, rfl, ho.keep fun k hb => hk k (ho.lt hb).1 (ho.lt hb).2, hs.keep fun k hb => hk k (hs.blk hb).1 (hs.blk hb).2.1, hd⟩
theorem OwnNodeS.below {B : Nat} {w w' : World} {v : Value} {xs : List NodeD} {M : List Value} (h : OwnNodeS B w v xs M) (hb : Below w.heap.size w w') : OwnNodeS B w' v xs M := h.keeps fun k _ hk => hb.block k hk
theorem OwnNodeS.offBlk {B : Nat} {w w' : World} {v : Value} {xs : List NodeD} {M M' : List Value} (h : OwnNodeS B w v xs M) (_hi : IntBlks w M') (hd : ∀ b, Blk M b → ¬ Blk M' b) (hf : Off (Blk M') w w') : OwnNodeS B w' v xs M := by
  have hb := fun b (hb : Blk M b) => h.blk hb
  obtain ⟨L, rfl, ho, hs, hds⟩ := h
  exact ⟨L, rfl, ho.keep fun k hk => hf.block k (ho.lt hk).2 (hd k ⟨v, List.mem_cons_self .., hk⟩),
    hs.keep fun k hk => hf.block k (hs.blk hk).2.1 (hd k (by obtain ⟨u, hu, hb⟩ := hk; exact ⟨u, List.mem_cons_of_mem _ hu, hb⟩)), hds⟩
/-- sizes and marks -/
def wtNodeS (xs : List NodeD) : Nat := xs.length + lens (xs.map NodeD.src)
def cntNodeS (xs : List NodeD) : Nat := 3 * xs.length + lens (xs.map NodeD.src)
theorem cntNodeS_le (xs : List NodeD) : cntNodeS xs ≤ 6 * wtNodeS xs := by unfold cntNodeS wtNodeS; omega
def markNodeS (m : Int) : List NodeD → List NodeD
  | [] => []
  | x :: xs => ⟨m, m + 1, m + 1 + 1, markI (m + 1 + 1 + 1) x.src⟩ :: markNodeS (m + 1 + 1 + 1 + x.src.length) xs
theorem markNodeS_length : ∀ (xs : List NodeD) (m : Int), (markNodeS m xs).length = xs.length
  | [], _ => rfl
  | x :: xs, m => by rw [markNodeS, List.length_cons, List.length_cons, markNodeS_length xs]
theorem lens_nodes (xs : List NodeD) {k : Nat} (h : k < xs.length) : lens ((xs.take (k + 1)).map NodeD.src) = lens ((xs.take k).map NodeD.src) + xs[k].src.length := by
  have := lens_take_succ (xs.map NodeD.src) k (by simpa using h)
  rw [← List.map_take, ← List.map_take, List.getElem_map] at this
  exact this
theorem lens_nodes_le (xs : List NodeD) (k : Nat) : lens ((xs.take k).map NodeD.src) ≤ lens (xs.map NodeD.src) := by
  have := lens_take_le (xs.map NodeD.src) k
  rwa [← List.map_take] at this
theorem infoN : (Tryz.prog.info? 35).map (fun i => (i.zero, i.size, i.bytes)) = some (some (.agg #[.int .i64 0, .int .i64 0, .int .i64 0, .slice none 0 0]), 4, 48) := by kernel_rfl
def zNode : NodeD := ⟨0, 0, 0, []⟩
theorem nodeCells_put : ∀ (xs : List NodeD) (L : List Value) (k : Nat) (y : NodeD) (u : Value), k < xs.length → L.length = xs.length →
    ((((nodeCells xs L).set (k * 4) (.int .i64 y.kind)).set (k * 4 + 1) (.int .i64 y.a)).set (k * 4 + 2) (.int .i64 y.b)).set (k * 4 + 3) u = nodeCells (xs.set k y) (L.set k u)
  | [], _, k, _, _, h, _ => by simp at h
  | _ :: _, [], _, _, _, _, h => by simp at h
  | x :: xs, v :: us, 0, y, u, _, _ => rfl
  | x :: xs, v :: us, k + 1, y, u, h, hL => by
    have := nodeCells_put xs us k y u (by simpa using h) (by simpa using hL)
    rw [nodeCells, show (k + 1) * 4 = k * 4 + 1 + 1 + 1 + 1 by omega]
    simp only [List.set_cons_succ, nodeCells]
    rw [this]
theorem madeNodes : ∀ n : Nat, (madeCells #[.int .i64 0, .int .i64 0, .int .i64 0, .slice none 0 0] (n * 4)).toList = nodeCells (List.replicate n zNode) (List.replicate n (.slice none 0 0)) := by
  intro n
  refine List.ext_getElem (by rw [nodeCells_length _ _ (by simp)]; simp [madeCells]) fun i h1 h2 => ?_
  have hi : i < n * 4 := by simpa [madeCells] using h1
  obtain ⟨q, r, hr, rfl⟩ : ∃ q r, r < 4 ∧ i = q * 4 + r := ⟨i / 4, i % 4, Nat.mod_lt _ (by omega), by omega⟩
  have hq : q < n := by omega
  obtain ⟨c0, c1, c2, c3⟩ := nodeCells_get (List.replicate n zNode) (List.replicate n (.slice none 0 0)) q (by simpa using hq) (by simpa using hq)
  have hm : (q * 4 + r) % 4 = r := by omega
  rw [← Option.some_inj, ← List.getElem?_eq_getElem h2]
  rcases (show r = 0 ∨ r = 1 ∨ r = 2 ∨ r = 3 by omega) with rfl | rfl | rfl | rfl
  · refine Eq.trans ?_ c0.symm; simp [madeCells, zNode]
  · refine Eq.trans ?_ c1.symm; simp [madeCells, zNode, hm]
  · refine Eq.trans ?_ c2.symm; simp [madeCells, zNode, hm]
  · refine Eq.trans ?_ c3.symm; simp [madeCells, hm]
theorem run_make_nodes (n : Nat) (hn : n ≤ 1048576) (w : World) :
    (Instr.makeSlice 25 (.int .i64 (n : Int)) (.int .i64 (n : Int))).run Tryz.prog w = .ok (.slice (some ⟨w.heap.size, 0, none⟩) n n) (w.alloc (.cells (madeCells #[.int .i64 0, .int .i64 0, .int .i64 0, .slice none 0 0] (n * 4)) 35)) := by
  obtain ⟨i, hi, hz0, hz1, hz2⟩ := info_parts infoN
  have hr := run_make (P := Tryz.prog) w 25 35 i _ Tryz.underlying25 hi hz0 .i64 .i64 n n (by omega) (Int.le_refl _) (by rw [hz2]; omega) (by omega)
  simp only [Int.toNat_natCast, hz1] at hr
  exact hr
theorem OwnN.made {B : Nat} (w : World) (n : Nat) (hB : B ≤ w.heap.size) (hn : n ≤ 1048576) : OwnN B (w.alloc (.cells (madeCells #[.int .i64 0, .int .i64 0, .int .i64 0, .slice none 0 0] (n * 4)) 35)) (.slice (some ⟨w.heap.size, 0, none⟩) n n) (List.replicate n zNode) (List.replicate n (.slice none 0 0)) := by
  have h := World.ownsRow_lit (base := B) (e := 35) (size := 4) w (madeCells #[.int .i64 0, .int .i64 0, .int .i64 0, .slice none 0 0] (n * 4)) n hB (by unfold maxLen; omega) (by rw [size_madeCells])
  rw [madeNodes] at h
  exact ⟨by simp, by simpa using h⟩
theorem OwnN.storing {B : Nat} {w : World} {g n cap : Nat} {xs : List NodeD} {L : List Value} (h : OwnN B w (.slice (some ⟨g, 0, none⟩) n cap) xs L) {k : Nat} (hk : k < xs.length) :
    n = xs.length ∧ B ≤ g ∧ g < w.heap.size ∧ (∃ u0 u1 u2 u3, w.cell? ⟨g, k * 4, none⟩ = some u0 ∧ w.cell? ⟨g, k * 4 + 1, none⟩ = some u1 ∧ w.cell? ⟨g, k * 4 + 2, none⟩ = some u2 ∧ w.cell? ⟨g, k * 4 + 3, none⟩ = some u3) ∧ (∀ j, w.frozen? ⟨g, j, none⟩ = false) ∧
      ∀ (y : NodeD) u, OwnN B ((((w.setCell ⟨g, k * 4, none⟩ (.int .i64 y.kind)).setCell ⟨g, k * 4 + 1, none⟩ (.int .i64 y.a)).setCell ⟨g, k * 4 + 2, none⟩ (.int .i64 y.b)).setCell ⟨g, k * 4 + 3, none⟩ u) (.slice (some ⟨g, 0, none⟩) n cap) (xs.set k y) (L.set k u) := by
  have hl := h.lt (k := g) rfl
  rcases h.cases with ⟨h1, _⟩ | ⟨g', cap', h1, hB, hlt, _, hc⟩
  · simp at h1
  · simp only [Value.slice.injEq, Option.some.injEq, Addr.mk.injEq, and_true] at h1
    obtain ⟨rfl, rfl, rfl⟩ := h1
    obtain ⟨c0, c1, c2, c3⟩ := hc k hk (by rw [h.1]; exact hk)
    refine ⟨rfl, hl.1, hl.2, ⟨_, _, _, _, c0, c1, c2, c3⟩, fun j => World.ownsRow.frozenAt h.2 j, fun y u => ⟨by simp [h.1], ?_⟩⟩
    have h0 := (World.ownsRow.stored h.2 (k * 4) (.int .i64 y.kind)).1
    have h1 := (World.ownsRow.stored h0 (k * 4 + 1) (.int .i64 y.a)).1
    have h2 := (World.ownsRow.stored h1 (k * 4 + 2) (.int .i64 y.b)).1
    have h3 := (World.ownsRow.stored h2 (k * 4 + 3) u).1
    rw [nodeCells_put _ _ _ _ _ hk h.1] at h3
    simpa using h3
end Go.Proofs.YtaapkpjokmoekaaGreatDoor
