/-
  The type Patch: how it lies in memory; contracts of the laws' helpers for it.
-/
import Derived.Test.YtdcacmmglkcliaaGreatDoorTyNodeS
namespace Go.Proofs.YtdcacmmglkcliaaGreatDoor
open Go.ChangeShapes Go.WideShapes Go.ChangeAt Go.RowKit
set_option linter.unusedVariables false

structure PatchD where
  inputs : Int
  tables : List (List Int)
  nodes : List NodeD
  outputs : List Int

/-- the value v is a Patch that reads x -/
def VPatch (w : World) (v : Value) (x : PatchD) : Prop := ∃ p1 c1 p2 c2 p3 c3, v = .agg #[.int .i64 x.inputs, .slice p1 x.tables.length c1, .slice p2 x.nodes.length c2, .slice p3 x.outputs.length c3] ∧ RdII w p1 x.tables ∧ RdNodeS w p2 x.nodes ∧ RdI w p3 x.outputs
theorem VPatch.below {w w' : World} {v : Value} {x : PatchD} (h : VPatch w v x) (hb : Below w.heap.size w w') : VPatch w' v x := by
  obtain ⟨p1, c1, p2, c2, p3, c3, rfl, r1, r2, r3⟩ := h
  exact ⟨p1, c1, p2, c2, p3, c3, rfl, r1.below hb, r2.below hb, r3.below hb⟩
/-- a Patch of the call's own; L: its slices of integers -/
def OwnPatch (B : Nat) (w : World) (v : Value) (x : PatchD) (L : List Value) : Prop := ∃ u1 u2 u3 L1 L2 L3, v = .agg #[.int .i64 x.inputs, u1, u2, u3] ∧ L1 ++ L2 ++ L3 = L ∧ OwnII B w u1 x.tables L1 ∧ OwnNodeS B w u2 x.nodes L2 ∧ OwnLI B w u3 x.outputs L3
theorem OwnPatch.rd {B : Nat} {w : World} {v : Value} {x : PatchD} {L : List Value} (h : OwnPatch B w v x L) : VPatch w v x := by
  obtain ⟨u1, u2, u3, L1, L2, L3, rfl, rfl, o1, o2, o3⟩ := h
  obtain ⟨p1, c1, rfl, r1⟩ := OwnII.rdv o1
  obtain ⟨p2, c2, rfl, r2⟩ := OwnNodeS.rd o2
  obtain ⟨p3, c3, rfl, r3⟩ := OwnLI.rd o3
  exact ⟨p1, c1, p2, c2, p3, c3, rfl, r1, r2, r3⟩
theorem OwnPatch.mono {B B' : Nat} {w : World} {v : Value} {x : PatchD} {L : List Value} (h : OwnPatch B w v x L) (hB : B' ≤ B) : OwnPatch B' w v x L := by
  obtain ⟨u1, u2, u3, L1, L2, L3, rfl, rfl, o1, o2, o3⟩ := h
  exact ⟨u1, u2, u3, L1, L2, L3, rfl, rfl, o1.mono hB, o2.mono hB, o3.mono hB⟩
theorem OwnPatch.keeps {B : Nat} {w w' : World} {v : Value} {x : PatchD} {L : List Value} (h : OwnPatch B w v x L) (hk : ∀ k, B ≤ k → k < w.heap.size → w'.heap[k]? = w.heap[k]?) : OwnPatch B w' v x L := by
  obtain ⟨u1, u2, u3, L1, L2, L3, rfl, rfl, o1, o2, o3⟩ := h
  exact ⟨u1, u2, u3, L1, L2, L3, rfl, rfl, o1.keeps hk, o2.keeps hk, o3.keeps hk⟩
theorem OwnPatch.below {B : Nat} {w w' : World} {v : Value} {x : PatchD} {L : List Value} (h : OwnPatch B w v x L) (hb : Below w.heap.size w w') : OwnPatch B w' v x L := h.keeps fun k _ hk => hb.block k hk
theorem OwnPatch.blk {B : Nat} {w : World} {v : Value} {x : PatchD} {L : List Value} (h : OwnPatch B w v x L) {b : Nat} (hb : Blk L b) : B ≤ b ∧ b < w.heap.size := by
  obtain ⟨u1, u2, u3, L1, L2, L3, rfl, rfl, o1, o2, o3⟩ := h
  obtain ⟨u, hu, hb⟩ := hb
  simp only [List.mem_append] at hu
  rcases hu with (hu | hu) | hu
  · exact o1.blk ⟨u, hu, hb⟩
  · exact o2.blk ⟨u, hu, hb⟩
  · exact o3.blk ⟨u, hu, hb⟩
theorem OwnPatch.ints {B : Nat} {w : World} {v : Value} {x : PatchD} {L : List Value} (h : OwnPatch B w v x L) : IntBlks w L := by
  obtain ⟨u1, u2, u3, L1, L2, L3, rfl, rfl, o1, o2, o3⟩ := h
  exact ((o1.ints).append o2.ints).append o3.ints
def wtPatch (x : PatchD) : Nat := wtII x.tables + wtNodeS x.nodes + wtI x.outputs
def cntPatch (x : PatchD) : Nat := cntII x.tables + cntNodeS x.nodes + cntI x.outputs
theorem cntPatch_le (x : PatchD) : cntPatch x ≤ 6 * wtPatch x := by
  have e1 := cntII_le x.tables
  have e2 := cntNodeS_le x.nodes
  have e3 := cntI_le x.outputs
  unfold cntPatch wtPatch; omega
def markPatch (m : Int) (x : PatchD) : PatchD := { x with tables := markII (m) x.tables, nodes := markNodeS (m + cntII x.tables) x.nodes, outputs := markI (m + cntII x.tables + cntNodeS x.nodes) x.outputs }
set_option maxHeartbeats 1600000 in
theorem eqPatch_v {v v' : Value} {x : PatchD} (w : World) (h : VPatch w v x) (h' : VPatch w v' x) :
    Calls Tryz.prog 19 #[v, v'] w fun e w' => e = .returned (.bool true) ∧ Below w.heap.size w w' := by
  obtain ⟨p1, c1, p2, c2, p3, c3, rfl, r1, r2, r3⟩ := h
  obtain ⟨q1, d1, q2, d2, q3, d3, rfl, s1, s2, s3⟩ := h'
  have hB0 : Below w.heap.size w ((w.alloc (.cells #[.int .i64 x.inputs, .slice p1 x.tables.length c1, .slice p2 x.nodes.length c2, .slice p3 x.outputs.length c3] 46)).alloc (.cells #[.int .i64 x.inputs, .slice q1 x.tables.length d1, .slice q2 x.nodes.length d2, .slice q3 x.outputs.length d3] 46)) := ((Below.refl _ _).alloc (Nat.le_refl _) _).alloc (by simp) _
  have ba0 : Box ((w.alloc (.cells #[.int .i64 x.inputs, .slice p1 x.tables.length c1, .slice p2 x.nodes.length c2, .slice p3 x.outputs.length c3] 46)).alloc (.cells #[.int .i64 x.inputs, .slice q1 x.tables.length d1, .slice q2 x.nodes.length d2, .slice q3 x.outputs.length d3] 46)) w.heap.size [.int .i64 x.inputs, .slice p1 x.tables.length c1, .slice p2 x.nodes.length c2, .slice p3 x.outputs.length c3] 46 := (Box.newAt w [.int .i64 x.inputs, .slice p1 x.tables.length c1, .slice p2 x.nodes.length c2, .slice p3 x.outputs.length c3] _ rfl).alloc _
  have bb0 : Box ((w.alloc (.cells #[.int .i64 x.inputs, .slice p1 x.tables.length c1, .slice p2 x.nodes.length c2, .slice p3 x.outputs.length c3] 46)).alloc (.cells #[.int .i64 x.inputs, .slice q1 x.tables.length d1, .slice q2 x.nodes.length d2, .slice q3 x.outputs.length d3] 46)) (w.heap.size + 1) [.int .i64 x.inputs, .slice q1 x.tables.length d1, .slice q2 x.nodes.length d2, .slice q3 x.outputs.length d3] 46 := Box.newAt (w.alloc _) [.int .i64 x.inputs, .slice q1 x.tables.length d1, .slice q2 x.nodes.length d2, .slice q3 x.outputs.length d3] _ (by simp)
  go_enter Tryz.func19, Tryz.ntmps19
  go_wp2_with fail
  refine (eqII_v _ ⟨p1, c1, rfl, r1.below hB0⟩ ⟨q1, d1, rfl, s1.below hB0⟩).mono ?_
  rintro e F1 ⟨rfl, hb1⟩
  have hB1 := hB0.trans (hb1.mono hB0.size)
  have ba1 := ba0.below hb1
  have bb1 := bb0.below hb1
  have za2 := ba1.cell 2 rfl
  have zb2 := bb1.cell 2 rfl
  go_wp2_with fail
  refine (eqNodeS_v _ ⟨p2, c2, rfl, r2.below hB1⟩ ⟨q2, d2, rfl, s2.below hB1⟩).mono ?_
  rintro e F2 ⟨rfl, hb2⟩
  have hB2 := hB1.trans (hb2.mono hB1.size)
  have ba2 := ba1.below hb2
  have bb2 := bb1.below hb2
  have za3 := ba2.cell 3 rfl
  have zb3 := bb2.cell 3 rfl
  go_wp2_with fail
  refine (eqI_v _ ⟨p3, c3, rfl, r3.below hB2⟩ ⟨q3, d3, rfl, s3.below hB2⟩).mono ?_
  rintro e F3 ⟨rfl, hb3⟩
  have hB3 := hB2.trans (hb3.mono hB2.size)
  go_wp2_with fail
  go_ret
  exact ⟨rfl, hB3⟩
set_option maxHeartbeats 1600000 in
theorem markPatch_v {B : Nat} {v : Value} {x : PatchD} {L : List Value} (m : Int) (w : World) (h : OwnPatch B w v x L) (hd : Dis L) (hm0 : 0 ≤ m) (hm : m + cntPatch x ≤ 1099511627776) :
    Calls Tryz.prog 20 #[v, .int .i64 m] w fun e w' => e = .returned (.int .i64 (m + cntPatch x)) ∧ OwnPatch B w' v (markPatch m x) L ∧ Off (Blk L) w w' := by
  obtain ⟨u1, u2, u3, L1, L2, L3, rfl, rfl, o1, o2, o3⟩ := h
  unfold cntPatch at hm ⊢
  obtain ⟨p1, c1, rfl, -⟩ := OwnII.rdv o1
  obtain ⟨p2, c2, rfl, -⟩ := OwnNodeS.rd o2
  obtain ⟨p3, c3, rfl, -⟩ := OwnLI.rd o3
  have X3 := Lib.hid (hd).sep
  have D3 := (hd).right
  have hd2 := (hd).left
  have X2 := Lib.hid (hd2).sep
  have D2 := (hd2).right
  have hd1 := (hd2).left
  have D1 := hd1
  have HD := Lib.hid hd
  clear hd
  have HS1 : Hid (∀ b, Blk L1 b → b < w.heap.size) := fun b hb => (o1.blk hb).2
  have HS2 : Hid (∀ b, Blk L2 b → b < w.heap.size) := fun b hb => (o2.blk hb).2
  have HS3 : Hid (∀ b, Blk L3 b → b < w.heap.size) := fun b hb => (o3.blk hb).2
  have HI1 : Hid (∀ b, Blk L1 b → Blk (L1 ++ L2 ++ L3) b) := fun b hbk => (blk_append.2 (.inl (blk_append.2 (.inl hbk))))
  have HI2 : Hid (∀ b, Blk L2 b → Blk (L1 ++ L2 ++ L3) b) := fun b hbk => (blk_append.2 (.inl (blk_append.2 (.inr hbk))))
  have HI3 : Hid (∀ b, Blk L3 b → Blk (L1 ++ L2 ++ L3) b) := fun b hbk => (blk_append.2 (.inr hbk))
  have hB0 : Below w.heap.size w (w.alloc (.cells #[.int .i64 x.inputs, .slice p1 x.tables.length c1, .slice p2 x.nodes.length c2, .slice p3 x.outputs.length c3] 46)) := (Below.refl _ _).alloc (Nat.le_refl _) _
  have hO0 := Off.of_below (Blk (L1 ++ L2 ++ L3)) hB0
  have ba0 := Box.new w [.int .i64 x.inputs, .slice p1 x.tables.length c1, .slice p2 x.nodes.length c2, .slice p3 x.outputs.length c3] 46
  replace o1 := o1.keeps fun k _ hk => hB0.block k hk
  replace o2 := o2.keeps fun k _ hk => hB0.block k hk
  replace o3 := o3.keeps fun k _ hk => hB0.block k hk
  go_enter Tryz.func20, Tryz.ntmps20
  go_wp2_with fail
  refine (markII_v _ _ o1 D1 (by omega) (by omega)).mono ?_
  rintro e F1 ⟨rfl, n1, f1⟩
  replace o2 := o2.offBlk o1.ints (fun b hbk hbk' => X2.out b hbk' hbk) f1
  replace o3 := o3.offBlk o1.ints (fun b hbk hbk' => X3.out b (blk_append.2 (.inl hbk')) hbk) f1
  replace o1 := n1
  have hO1 := hO0.trans (f1.mono HI1.out)
  have ba1 := ba0.keep (f1.block _ ba0.lt (fun hb => by have := HS1.out _ hb; omega))
  have z1 := ba1.cell 2 rfl
  go_wp2_with fail
  refine (markNodeS_v _ _ o2 D2 (by omega) (by omega)).mono ?_
  rintro e F2 ⟨rfl, n2, f2⟩
  replace o1 := o1.offBlk o2.ints (fun b hbk hbk' => X2.out b hbk hbk') f2
  replace o3 := o3.offBlk o2.ints (fun b hbk hbk' => X3.out b (blk_append.2 (.inr hbk')) hbk) f2
  replace o2 := n2
  have hO2 := hO1.trans (f2.mono HI2.out)
  have ba2 := ba1.keep (f2.block _ ba1.lt (fun hb => by have := HS2.out _ hb; omega))
  have z2 := ba2.cell 3 rfl
  go_wp2_with fail
  refine (markI_v _ _ o3 D3 (by omega) (by omega)).mono ?_
  rintro e F3 ⟨rfl, n3, f3⟩
  replace o1 := o1.offBlk o3.ints (fun b hbk hbk' => X3.out b (blk_append.2 (.inl hbk)) hbk') f3
  replace o2 := o2.offBlk o3.ints (fun b hbk hbk' => X3.out b (blk_append.2 (.inr hbk)) hbk') f3
  replace o3 := n3
  have hO3 := hO2.trans (f3.mono HI3.out)
  go_wp2_with fail
  go_ret
  exact ⟨ret_int (by first | rfl | (simp only [Int.natCast_add]; omega)), ⟨_, _, _, L1, L2, L3, rfl, rfl, o1, o2, o3⟩, hO3⟩
theorem OwnPatch.offBlk {B : Nat} {w w' : World} {v : Value} {x : PatchD} {L M : List Value} (h : OwnPatch B w v x L) (hi : IntBlks w M) (hd : ∀ b, Blk L b → ¬ Blk M b) (hf : Off (Blk M) w w') : OwnPatch B w' v x L := by
  obtain ⟨u1, u2, u3, L1, L2, L3, rfl, rfl, o1, o2, o3⟩ := h
  exact ⟨u1, u2, u3, L1, L2, L3, rfl, rfl, o1.offBlk hi (fun b hbk => hd b (blk_append.2 (.inl (blk_append.2 (.inl hbk))))) hf, o2.offBlk hi (fun b hbk => hd b (blk_append.2 (.inl (blk_append.2 (.inr hbk))))) hf, o3.offBlk hi (fun b hbk => hd b (blk_append.2 (.inr hbk))) hf⟩
set_option maxHeartbeats 1600000 in
theorem heldPatch_v {v : Value} {x : PatchD} (m : Int) (w : World) (h : VPatch w v (markPatch m x)) (hm0 : 0 ≤ m) (hm : m + cntPatch x ≤ 1099511627776) :
    Calls Tryz.prog 21 #[v, .int .i64 m] w fun e w' => e = .returned (.int .i64 (m + cntPatch x)) ∧ Below w.heap.size w w' := by
  unfold cntPatch at hm ⊢
  obtain ⟨y, hy⟩ : ∃ y, y = markPatch m x := ⟨_, rfl⟩
  rw [← hy] at h
  have HY1 : Hid (y.tables = markII (m) x.tables) := by rw [hy]; rfl
  have HY2 : Hid (y.nodes = markNodeS (m + cntII x.tables) x.nodes) := by rw [hy]; rfl
  have HY3 : Hid (y.outputs = markI (m + cntII x.tables + cntNodeS x.nodes) x.outputs) := by rw [hy]; rfl
  clear hy
  obtain ⟨p1, c1, p2, c2, p3, c3, rfl, r1, r2, r3⟩ := h
  have hB0 : Below w.heap.size w (w.alloc (.cells #[.int .i64 y.inputs, .slice p1 y.tables.length c1, .slice p2 y.nodes.length c2, .slice p3 y.outputs.length c3] 46)) := (Below.refl _ _).alloc (Nat.le_refl _) _
  have ba0 := Box.new w [.int .i64 y.inputs, .slice p1 y.tables.length c1, .slice p2 y.nodes.length c2, .slice p3 y.outputs.length c3] 46
  go_enter Tryz.func21, Tryz.ntmps21
  go_wp2_with fail
  refine (heldII_v (xs := x.tables) _ _ (by rw [← HY1.out]; exact ⟨p1, c1, rfl, r1.below hB0⟩) (by omega) (by omega)).mono ?_
  rintro e F1 ⟨rfl, hb1⟩
  have hB1 := hB0.trans (hb1.mono hB0.size)
  have ba1 := ba0.below hb1
  have z1 := ba1.cell 2 rfl
  go_wp2_with fail
  refine (heldNodeS_v (xs := x.nodes) _ _ (by rw [← HY2.out]; exact ⟨p2, c2, rfl, r2.below hB1⟩) (by omega) (by omega)).mono ?_
  rintro e F2 ⟨rfl, hb2⟩
  have hB2 := hB1.trans (hb2.mono hB1.size)
  have ba2 := ba1.below hb2
  have z2 := ba2.cell 3 rfl
  go_wp2_with fail
  refine (heldI_v (xs := x.outputs) _ _ (by rw [← HY3.out]; exact ⟨p3, c3, rfl, r3.below hB2⟩) (by omega) (by omega)).mono ?_
  rintro e F3 ⟨rfl, hb3⟩
  have hB3 := hB2.trans (hb3.mono hB2.size)
  go_wp2_with fail
  go_ret
  exact ⟨ret_int (by first | rfl | (simp only [Int.natCast_add]; omega)), hB3⟩
end Go.Proofs.YtdcacmmglkcliaaGreatDoor
