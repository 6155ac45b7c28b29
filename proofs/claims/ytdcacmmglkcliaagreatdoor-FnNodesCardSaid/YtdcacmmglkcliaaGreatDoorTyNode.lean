/-
  The type Node: how it lies in memory; contracts of the laws' helpers for it.
-/
import Derived.Test.YtdcacmmglkcliaaGreatDoorTyBase
namespace Go.Proofs.YtdcacmmglkcliaaGreatDoor
open Go.ChangeShapes Go.WideShapes Go.ChangeAt Go.RowKit
set_option linter.unusedVariables false

structure NodeD where
  kind : Int
  a : Int
  b : Int
  src : List Int

/-- the value v is a Node that reads x -/
def VNode (w : World) (v : Value) (x : NodeD) : Prop := ∃ p3 c3, v = .agg #[.int .i64 x.kind, .int .i64 x.a, .int .i64 x.b, .slice p3 x.src.length c3] ∧ RdI w p3 x.src
theorem VNode.below {w w' : World} {v : Value} {x : NodeD} (h : VNode w v x) (hb : Below w.heap.size w w') : VNode w' v x := by
  obtain ⟨p3, c3, rfl, r3⟩ := h
  exact ⟨p3, c3, rfl, r3.below hb⟩
/-- a Node of the call's own; L: its slices of integers -/
def OwnNode (B : Nat) (w : World) (v : Value) (x : NodeD) (L : List Value) : Prop := ∃ u3 L3, v = .agg #[.int .i64 x.kind, .int .i64 x.a, .int .i64 x.b, u3] ∧ L3 = L ∧ OwnLI B w u3 x.src L3
theorem OwnNode.rd {B : Nat} {w : World} {v : Value} {x : NodeD} {L : List Value} (h : OwnNode B w v x L) : VNode w v x := by
  obtain ⟨u3, L3, rfl, rfl, o3⟩ := h
  obtain ⟨p3, c3, rfl, r3⟩ := OwnLI.rd o3
  exact ⟨p3, c3, rfl, r3⟩
theorem OwnNode.mono {B B' : Nat} {w : World} {v : Value} {x : NodeD} {L : List Value} (h : OwnNode B w v x L) (hB : B' ≤ B) : OwnNode B' w v x L := by
  obtain ⟨u3, L3, rfl, rfl, o3⟩ := h
  exact ⟨u3, L3, rfl, rfl, o3.mono hB⟩
theorem OwnNode.keeps {B : Nat} {w w' : World} {v : Value} {x : NodeD} {L : List Value} (h : OwnNode B w v x L) (hk : ∀ k, B ≤ k → k < w.heap.size → w'.heap[k]? = w.heap[k]?) : OwnNode B w' v x L := by
  obtain ⟨u3, L3, rfl, rfl, o3⟩ := h
  exact ⟨u3, L3, rfl, rfl, o3.keeps hk⟩
theorem OwnNode.below {B : Nat} {w w' : World} {v : Value} {x : NodeD} {L : List Value} (h : OwnNode B w v x L) (hb : Below w.heap.size w w') : OwnNode B w' v x L := h.keeps fun k _ hk => hb.block k hk
theorem OwnNode.blk {B : Nat} {w : World} {v : Value} {x : NodeD} {L : List Value} (h : OwnNode B w v x L) {b : Nat} (hb : Blk L b) : B ≤ b ∧ b < w.heap.size := by
  obtain ⟨u3, L3, rfl, rfl, o3⟩ := h
  obtain ⟨u, hu, hb⟩ := hb
  exact o3.blk ⟨u, hu, hb⟩
theorem OwnNode.ints {B : Nat} {w : World} {v : Value} {x : NodeD} {L : List Value} (h : OwnNode B w v x L) : IntBlks w L := by
  obtain ⟨u3, L3, rfl, rfl, o3⟩ := h
  exact o3.ints
def wtNode (x : NodeD) : Nat := wtI x.src
def cntNode (x : NodeD) : Nat := cntI x.src
theorem cntNode_le (x : NodeD) : cntNode x ≤ wtNode x := by
  have e3 := cntI_le x.src
  unfold cntNode wtNode; omega
def markNode (m : Int) (x : NodeD) : NodeD := { x with src := markI (m) x.src }
set_option maxHeartbeats 1600000 in
theorem eqNode_v {v v' : Value} {x : NodeD} (w : World) (h : VNode w v x) (h' : VNode w v' x) :
    Calls Tryz.prog 100 #[v, v'] w fun e w' => e = .returned (.bool true) ∧ Below w.heap.size w w' := by
  obtain ⟨p3, c3, rfl, r3⟩ := h
  obtain ⟨q3, d3, rfl, s3⟩ := h'
  have hB0 : Below w.heap.size w ((w.alloc (.cells #[.int .i64 x.kind, .int .i64 x.a, .int .i64 x.b, .slice p3 x.src.length c3] 26)).alloc (.cells #[.int .i64 x.kind, .int .i64 x.a, .int .i64 x.b, .slice q3 x.src.length d3] 26)) := ((Below.refl _ _).alloc (Nat.le_refl _) _).alloc (by simp) _
  have ba0 : Box ((w.alloc (.cells #[.int .i64 x.kind, .int .i64 x.a, .int .i64 x.b, .slice p3 x.src.length c3] 26)).alloc (.cells #[.int .i64 x.kind, .int .i64 x.a, .int .i64 x.b, .slice q3 x.src.length d3] 26)) w.heap.size [.int .i64 x.kind, .int .i64 x.a, .int .i64 x.b, .slice p3 x.src.length c3] 26 := (Box.newAt w [.int .i64 x.kind, .int .i64 x.a, .int .i64 x.b, .slice p3 x.src.length c3] _ rfl).alloc _
  have bb0 : Box ((w.alloc (.cells #[.int .i64 x.kind, .int .i64 x.a, .int .i64 x.b, .slice p3 x.src.length c3] 26)).alloc (.cells #[.int .i64 x.kind, .int .i64 x.a, .int .i64 x.b, .slice q3 x.src.length d3] 26)) (w.heap.size + 1) [.int .i64 x.kind, .int .i64 x.a, .int .i64 x.b, .slice q3 x.src.length d3] 26 := Box.newAt (w.alloc _) [.int .i64 x.kind, .int .i64 x.a, .int .i64 x.b, .slice q3 x.src.length d3] _ (by simp)
  go_enter Tryz.func100, Tryz.ntmps100
  go_wp2_with fail
  refine (eqI_v _ ⟨p3, c3, rfl, r3.below hB0⟩ ⟨q3, d3, rfl, s3.below hB0⟩).mono ?_
  rintro e F1 ⟨rfl, hb1⟩
  have hB1 := hB0.trans (hb1.mono hB0.size)
  go_wp2_with fail
  go_ret
  exact ⟨rfl, hB1⟩
end Go.Proofs.YtdcacmmglkcliaaGreatDoor
