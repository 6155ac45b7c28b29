/-
  The type Node: how it lies in memory; contracts of the laws' helpers for it.
-/
import Derived.Test.YtnhhghilejeegaaDoorTyBase
namespace Go.Proofs.YtnhhghilejeegaaDoor
open Go.ChangeShapes Go.WideShapes Go.ChangeAt Go.RowKit
set_option linter.unusedVariables false

structure NodeD where
  kind : Int
  a : Int
  b : Int
  src : List Int

/-- the value v is a Node that reads x -/
def VNode (w : World) (v : Value) (x : NodeD) : Prop := ∃ p3 c3, v = .agg #[.int .i64 x.kind, .int .i64 x.a, .int .i64 x.b, .slice p3 x.src.length c3] ∧ RdI w p3 x.src
theorem VNode.below {w w' : World} {v : Value} {x : NodeD} (h : VNode w v x) (hb : Below w.heap.size w w') : VNode w' v x := by
  obtain ⟨p3, c3, rfl, r3⟩ := h
  exact ⟨p3, c3, rfl, r3.below hb⟩
/-- a Node of the call's own; L: its slices of integers -/
def OwnNode (B : Nat) (w : World) (v : Value) (x : NodeD) (L : List Value) : Prop := ∃ u3 L3, v = .agg #[.int .i64 x.kind, .int .i64 x.a, .int .i64 x.b, u3] ∧ L3 = L ∧ OwnLI B w u3 x.src L3
theorem OwnNode.rd {B : Nat} {w : World} {v : Value} {x : NodeD} {L : List Value} (h : OwnNode B w v x L) : VNode w v x := by
  obtain ⟨u3, L3, rfl, rfl, o3⟩ := h
  obtain ⟨p3, c3, rfl, r3⟩ := OwnLI.rd o3
  exact ⟨p3, c3, rfl, r3⟩
theorem OwnNode.mono {B B' : Nat} {w : World} {v : Value} {x : NodeD} {L : List Value} (h : OwnNode B w v x L) (hB : B' ≤ B) : OwnNode B' w v x L := by
  obtain ⟨u3, L3, rfl, rfl, o3⟩ := h
  exact ⟨u3, L3, rfl, rfl, o3.mono hB⟩
theorem OwnNode.keeps {B : Nat} {w w' : World} {v : Value} {x : NodeD} {L : List Value} (h : OwnNode B w v x L) (hk : ∀ k, B ≤ k → k < w.heap.size → w'.heap[k]? = w.heap[k]?) : OwnNode B w' v x L := by
  obtain ⟨u3, L3, rfl, rfl, o3⟩ := h
  exact ⟨u3, L3, rfl, rfl, o3.keeps hk⟩
theorem OwnNode.below {B : Nat} {w w' : World} {v : Value} {x : NodeD} {L : List Value} (h : OwnNode B w v x L) (hb : Below w.heap.size w w') : OwnNode B w' v x L := h.keeps fun k _ hk => hb.block k hk
theorem OwnNode.blk {B : Nat} {w : World} {v : Value} {x : NodeD} {L : List Value} (h : OwnNode B w v x L) {b : Nat} (hb : Blk L b) : B ≤ b ∧ b < w.heap.size := by
  obtain ⟨u3, L3, rfl, rfl, o3⟩ := h
  obtain ⟨u, hu, hb⟩ := hb
  exact o3.blk ⟨u, hu, hb⟩
theorem OwnNode.ints {B : Nat} {w : World} {v : Value} {x : NodeD} {L : List Value} (h : OwnNode B w v x L) : IntBlks w L := by
  obtain ⟨u3, L3, rfl, rfl, o3⟩ := h
  exact o3.ints
def wtNode (x : NodeD) : Nat := wtI x.src
def cntNode (x : NodeD) : Nat := cntI x.src
theorem cntNode_le (x : NodeD) : cntNode x ≤ wtNode x := by
  have e3 := cntI_le x.src
  unfold cntNode wtNode; omega
def markNode (m : Int) (x : NodeD) : NodeD := { x with src := markI (m) x.src }
section
variable {H : Type} {enc : TypeId × Value → H} {W : World}
set_option maxRecDepth 100000 in
theorem open_Node {r : Reach} {b0 : Nat} {v : Value} {d : DataW H} {ps : List MemPlace} (hval : Value.okWide Tryd.prog W r b0 47 v) (h : DataW.Trod enc Tryd.prog W 0 (fun _ => true) true 47 v d ps) : ∃ x, VNode W v x := by
  obtain ⟨l, rfl, hl, hf⟩ := open_fields Tryd.underlying47 (by kernel_rfl) (by kernel_rfl) hval h
  obtain ⟨a0, n0, y0, e0, t0⟩ := hf 0 _ rfl
  obtain ⟨a1, n1, y1, e1, t1⟩ := hf 1 _ rfl
  obtain ⟨a2, n2, y2, e2, t2⟩ := hf 2 _ rfl
  obtain ⟨a3, n3, y3, e3, t3⟩ := hf 3 _ rfl
  match l, hl with
  | [g0, g1, g2, g3], _ =>
    simp only [List.getElem?_cons_zero, List.getElem?_cons_succ, Option.some.injEq] at e0 e1 e2 e3
    subst e0 e1 e2 e3
    obtain ⟨m0, h0, -, -⟩ := DataW.trod_int Tryd.underlying2 t0
    obtain ⟨m1, h1, -, -⟩ := DataW.trod_int Tryd.underlying2 t1
    obtain ⟨m2, h2, -, -⟩ := DataW.trod_int Tryd.underlying2 t2
    obtain ⟨p3, c3, m3, h3, r3, -⟩ := rdI_trod Tryd.underlying45 Tryd.underlying2 (by kernel_rfl) t3
    simp only [List.cons.injEq, and_true] at h0 h1 h2 h3
    subst h0 h1 h2 h3
    exact ⟨⟨m0, m1, m2, m3⟩, p3, c3, rfl, r3⟩
end
set_option maxHeartbeats 1600000 in
theorem szNode_v {v : Value} {x : NodeD} (left : Int) (w : World) (h : VNode w v x) (h0 : 0 ≤ left) (h1 : left ≤ 1048576) :
    Calls Tryd.prog 29 #[v, .int .i64 left] w fun e w' => e = .returned (.int .i64 (szF left (wtNode x))) ∧ Below w.heap.size w w' := by
  obtain ⟨p3, c3, rfl, r3⟩ := h
  have hB0 : Below w.heap.size w (w.alloc (.cells #[.int .i64 x.kind, .int .i64 x.a, .int .i64 x.b, .slice p3 x.src.length c3] 47)) := (Below.refl _ _).alloc (Nat.le_refl _) _
  have ba0 := Box.new w [.int .i64 x.kind, .int .i64 x.a, .int .i64 x.b, .slice p3 x.src.length c3] 47
  go_enter Tryd.func29, Tryd.ntmps29
  go_wp2_with fail
  refine (szI_v _ _ ⟨p3, c3, rfl, r3.below hB0⟩ h0 h1).mono ?_
  rintro e w1 ⟨rfl, hb1⟩
  have hB1 := hB0.trans (hb1.mono hB0.size)
  by_cases k1 : szF left (wtI x.src) < 0
  · have s1 := szF_neg k1 (by omega)
    have S1 := Lib.hid s1
    have T1 : Hid (szF left (wtNode x) = -1) := by unfold wtNode; exact szF_lt (by omega)
    clear s1
    go_wp2_with fail
    go_ret
    exact ⟨ret_int (by rw [T1.out]), hB1⟩
  · have s1 := szF_pos k1
    have l1 : 0 ≤ szF left (wtI x.src) := by omega
    have g1 : szF left (wtI x.src) ≤ 1048576 := by omega
    generalize hz1 : szF left (wtI x.src) = b1 at *
    obtain ⟨s1a, s1b⟩ := s1
    have E1 := Lib.hid s1a
    have e1a : b1 ≤ left - wtI x.src := by omega
    have e1b : left - wtI x.src ≤ b1 := by omega
    clear s1a hz1
    go_wp2_with fail
    go_ret
    exact ⟨ret_int (by rw [szF_ge (by unfold wtNode; omega)]; unfold wtNode; omega), hB1⟩
set_option maxHeartbeats 3200000 in
theorem toNode_v {v : Value} {x : NodeD} (w : World) (h : VNode w v x) (hn : wtNode x ≤ 1048576) :
    Calls Tryd.prog 31 #[v] w fun e w' => ∃ u L, e = .returned u ∧ OwnNode w.heap.size w' u x L ∧ Dis L ∧ Below w.heap.size w w' := by
  obtain ⟨p3, c3, rfl, r3⟩ := h
  unfold wtNode at hn
  go_enter Tryd.func31, Tryd.ntmps31
  go_wp2_with fail
  obtain ⟨E0, hE0⟩ : ∃ E, E = ((w.alloc (.cells #[.int .i64 x.kind, .int .i64 x.a, .int .i64 x.b, .slice p3 x.src.length c3] 47)).alloc (.cells #[.int .i64 0, .int .i64 0, .int .i64 0, .slice none 0 0] 50)).alloc (.cells #[.int .i64 x.kind, .int .i64 x.a, .int .i64 x.b, .slice none 0 0] 50) := ⟨_, rfl⟩
  have hB0 : Below w.heap.size w E0 := by rw [hE0]; exact (((Below.refl _ _).alloc (Nat.le_refl _) _).alloc (by simp) _).alloc (by simp; omega) _
  have hS0 : w.heap.size + 1 + 1 < E0.heap.size := by rw [hE0]; simp
  have ba0 : Box E0 w.heap.size [.int .i64 x.kind, .int .i64 x.a, .int .i64 x.b, .slice p3 x.src.length c3] 47 := by rw [hE0]; exact ((Box.newAt w _ _ rfl).alloc _).alloc _
  have br0 : Box E0 (w.heap.size + 1) [.int .i64 0, .int .i64 0, .int .i64 0, .slice none 0 0] 50 := by rw [hE0]; exact (Box.newAt (w.alloc _) [.int .i64 0, .int .i64 0, .int .i64 0, .slice none 0 0] _ (by simp)).alloc _
  have bo0 : Box E0 (w.heap.size + 1 + 1) [.int .i64 x.kind, .int .i64 x.a, .int .i64 x.b, .slice none 0 0] 50 := by rw [hE0]; exact Box.newAt ((w.alloc _).alloc _) [.int .i64 x.kind, .int .i64 x.a, .int .i64 x.b, .slice none 0 0] _ (by simp)
  rw [← hE0]
  clear hE0
  refine (toI_v _ ⟨p3, c3, rfl, r3.below hB0⟩ (by omega)).mono ?_
  rintro e F3 ⟨u3, L3, rfl, o3, D3, hb3⟩
  have hG3 := hB0.trans (hb3.mono hB0.size)
  have ba1 := ba0.below hb3
  have br1 := br0.below hb3
  have bo1 := bo0.below hb3
  have hT3 : w.heap.size + 1 + 1 < F3.heap.size := Nat.lt_of_lt_of_le hS0 hb3.size
  have DA0 : Dis L3 := D3
  have HA0 : Hid (∀ b, Blk L3 b → b < F3.heap.size) := fun b hb => (o3.blk hb).2
  replace o3 := o3.mono (B' := w.heap.size + 1 + 1 + 1) (by omega)
  obtain ⟨q3, d3, rfl, -⟩ := OwnLI.rd o3
  have z3_0 := bo1.cell 0 rfl
  have z3_1 := br1.cell 0 rfl
  have z3_2 := br1.frozen 0
  have z3_3 := bo1.cell 1 rfl
  have z3_4 := br1.cell 1 rfl
  have z3_5 := br1.frozen 1
  have z3_6 := bo1.cell 2 rfl
  have z3_7 := br1.cell 2 rfl
  have z3_8 := br1.frozen 2
  have z3_9 := bo1.cell 3 rfl
  have z3_10 := br1.cell 3 rfl
  have z3_11 := br1.frozen 3
  have z3_12 := bo1.frozen 3
  go_wp2_with fail
  refine bodyPost_ret (v := .agg #[.int .i64 x.kind, .int .i64 x.a, .int .i64 x.b, .slice q3 x.src.length d3]) (by simp [results, Tryd.results31, go_sem, *]) rfl ?_
  refine ⟨_, _, rfl, ⟨_, L3, rfl, rfl, (o3.keeps fun k hk _ => (Below.heap_setCell _ _ _ _ (show k ≠ w.heap.size + 1 by omega)).trans ((Below.heap_setCell _ _ _ _ (show k ≠ w.heap.size + 1 by omega)).trans ((Below.heap_setCell _ _ _ _ (show k ≠ w.heap.size + 1 by omega)).trans ((Below.heap_setCell _ _ _ _ (show k ≠ w.heap.size + 1 by omega)).trans (Below.heap_setCell _ _ _ _ (show k ≠ w.heap.size + 1 + 1 by omega)))))).mono (by omega)⟩, DA0, (((((hG3).setCell (show w.heap.size ≤ w.heap.size + 1 + 1 by omega) _).setCell (show w.heap.size ≤ w.heap.size + 1 by omega) _).setCell (show w.heap.size ≤ w.heap.size + 1 by omega) _).setCell (show w.heap.size ≤ w.heap.size + 1 by omega) _).setCell (show w.heap.size ≤ w.heap.size + 1 by omega) _⟩
set_option maxHeartbeats 1600000 in
theorem eqNode_v {v v' : Value} {x : NodeD} (w : World) (h : VNode w v x) (h' : VNode w v' x) :
    Calls Tryd.prog 33 #[v, v'] w fun e w' => e = .returned (.bool true) ∧ Below w.heap.size w w' := by
  obtain ⟨p3, c3, rfl, r3⟩ := h
  obtain ⟨q3, d3, rfl, s3⟩ := h'
  have hB0 : Below w.heap.size w ((w.alloc (.cells #[.int .i64 x.kind, .int .i64 x.a, .int .i64 x.b, .slice p3 x.src.length c3] 50)).alloc (.cells #[.int .i64 x.kind, .int .i64 x.a, .int .i64 x.b, .slice q3 x.src.length d3] 50)) := ((Below.refl _ _).alloc (Nat.le_refl _) _).alloc (by simp) _
  have ba0 : Box ((w.alloc (.cells #[.int .i64 x.kind, .int .i64 x.a, .int .i64 x.b, .slice p3 x.src.length c3] 50)).alloc (.cells #[.int .i64 x.kind, .int .i64 x.a, .int .i64 x.b, .slice q3 x.src.length d3] 50)) w.heap.size [.int .i64 x.kind, .int .i64 x.a, .int .i64 x.b, .slice p3 x.src.length c3] 50 := (Box.newAt w [.int .i64 x.kind, .int .i64 x.a, .int .i64 x.b, .slice p3 x.src.length c3] _ rfl).alloc _
  have bb0 : Box ((w.alloc (.cells #[.int .i64 x.kind, .int .i64 x.a, .int .i64 x.b, .slice p3 x.src.length c3] 50)).alloc (.cells #[.int .i64 x.kind, .int .i64 x.a, .int .i64 x.b, .slice q3 x.src.length d3] 50)) (w.heap.size + 1) [.int .i64 x.kind, .int .i64 x.a, .int .i64 x.b, .slice q3 x.src.length d3] 50 := Box.newAt (w.alloc _) [.int .i64 x.kind, .int .i64 x.a, .int .i64 x.b, .slice q3 x.src.length d3] _ (by simp)
  go_enter Tryd.func33, Tryd.ntmps33
  go_wp2_with fail
  refine (eqI_v _ ⟨p3, c3, rfl, r3.below hB0⟩ ⟨q3, d3, rfl, s3.below hB0⟩).mono ?_
  rintro e F1 ⟨rfl, hb1⟩
  have hB1 := hB0.trans (hb1.mono hB0.size)
  go_wp2_with fail
  go_ret
  exact ⟨rfl, hB1⟩
set_option maxHeartbeats 1600000 in
theorem markNode_v {B : Nat} {v : Value} {x : NodeD} {L : List Value} (m : Int) (w : World) (h : OwnNode B w v x L) (hd : Dis L) (hm0 : 0 ≤ m) (hm : m + cntNode x ≤ 1099511627776) :
    Calls Tryd.prog 46 #[v, .int .i64 m] w fun e w' => e = .returned (.int .i64 (m + cntNode x)) ∧ OwnNode B w' v (markNode m x) L ∧ Off (Blk L) w w' := by
  obtain ⟨u3, L3, rfl, rfl, o3⟩ := h
  unfold cntNode at hm ⊢
  obtain ⟨p3, c3, rfl, -⟩ := OwnLI.rd o3
  have D3 := hd
  have HD := Lib.hid hd
  have HS3 : Hid (∀ b, Blk L3 b → b < w.heap.size) := fun b hb => (o3.blk hb).2
  have HI3 : Hid (∀ b, Blk L3 b → Blk (L3) b) := fun b hbk => hbk
  have hB0 : Below w.heap.size w (w.alloc (.cells #[.int .i64 x.kind, .int .i64 x.a, .int .i64 x.b, .slice p3 x.src.length c3] 50)) := (Below.refl _ _).alloc (Nat.le_refl _) _
  have hO0 := Off.of_below (Blk (L3)) hB0
  have ba0 := Box.new w [.int .i64 x.kind, .int .i64 x.a, .int .i64 x.b, .slice p3 x.src.length c3] 50
  replace o3 := o3.keeps fun k _ hk => hB0.block k hk
  go_enter Tryd.func46, Tryd.ntmps46
  go_wp2_with fail
  refine (markI_v _ _ o3 D3 (by omega) (by omega)).mono ?_
  rintro e F1 ⟨rfl, n3, f1⟩
  replace o3 := n3
  have hO1 := hO0.trans (f1.mono HI3.out)
  go_wp2_with fail
  go_ret
  exact ⟨ret_int (by first | rfl | (simp only [Int.natCast_add]; omega)), ⟨_, L3, rfl, rfl, o3⟩, hO1⟩
theorem OwnNode.offBlk {B : Nat} {w w' : World} {v : Value} {x : NodeD} {L M : List Value} (h : OwnNode B w v x L) (hi : IntBlks w M) (hd : ∀ b, Blk L b → ¬ Blk M b) (hf : Off (Blk M) w w') : OwnNode B w' v x L := by
  obtain ⟨u3, L3, rfl, rfl, o3⟩ := h
  exact ⟨u3, L3, rfl, rfl, o3.offBlk hi (fun b hbk => hd b hbk) hf⟩
set_option maxHeartbeats 1600000 in
theorem heldNode_v {v : Value} {x : NodeD} (m : Int) (w : World) (h : VNode w v (markNode m x)) (hm0 : 0 ≤ m) (hm : m + cntNode x ≤ 1099511627776) :
    Calls Tryd.prog 47 #[v, .int .i64 m] w fun e w' => e = .returned (.int .i64 (m + cntNode x)) ∧ Below w.heap.size w w' := by
  unfold cntNode at hm ⊢
  obtain ⟨y, hy⟩ : ∃ y, y = markNode m x := ⟨_, rfl⟩
  rw [← hy] at h
  have HY3 : Hid (y.src = markI (m) x.src) := by rw [hy]; rfl
  clear hy
  obtain ⟨p3, c3, rfl, r3⟩ := h
  have hB0 : Below w.heap.size w (w.alloc (.cells #[.int .i64 y.kind, .int .i64 y.a, .int .i64 y.b, .slice p3 y.src.length c3] 50)) := (Below.refl _ _).alloc (Nat.le_refl _) _
  have ba0 := Box.new w [.int .i64 y.kind, .int .i64 y.a, .int .i64 y.b, .slice p3 y.src.length c3] 50
  go_enter Tryd.func47, Tryd.ntmps47
  go_wp2_with fail
  refine (heldI_v (xs := x.src) _ _ (by rw [← HY3.out]; exact ⟨p3, c3, rfl, r3.below hB0⟩) (by omega) (by omega)).mono ?_
  rintro e F1 ⟨rfl, hb1⟩
  have hB1 := hB0.trans (hb1.mono hB0.size)
  go_wp2_with fail
  go_ret
  exact ⟨ret_int (by first | rfl | (simp only [Int.natCast_add]; omega)), hB1⟩
end Go.Proofs.YtnhhghilejeegaaDoor
