/-
  The type Patch: how it lies in memory; contracts of the laws' helpers for it.
-/
import Derived.Test.YtnhhghilejeegaaDoorTyNodeS
namespace Go.Proofs.YtnhhghilejeegaaDoor
open Go.ChangeShapes Go.WideShapes Go.ChangeAt Go.RowKit
set_option linter.unusedVariables false

structure PatchD where
  inputs : Int
  tables : List (List Int)
  nodes : List NodeD
  outputs : List Int

/-- the value v is a Patch that reads x -/
def VPatch (w : World) (v : Value) (x : PatchD) : Prop := ∃ p1 c1 p2 c2 p3 c3, v = .agg #[.int .i64 x.inputs, .slice p1 x.tables.length c1, .slice p2 x.nodes.length c2, .slice p3 x.outputs.length c3] ∧ RdII w p1 x.tables ∧ RdNodeS w p2 x.nodes ∧ RdI w p3 x.outputs
theorem VPatch.below {w w' : World} {v : Value} {x : PatchD} (h : VPatch w v x) (hb : Below w.heap.size w w') : VPatch w' v x := by
  obtain ⟨p1, c1, p2, c2, p3, c3, rfl, r1, r2, r3⟩ := h
  exact ⟨p1, c1, p2, c2, p3, c3, rfl, r1.below hb, r2.below hb, r3.below hb⟩
/-- a Patch of the call's own; L: its slices of integers -/
def OwnPatch (B : Nat) (w : World) (v : Value) (x : PatchD) (L : List Value) : Prop := ∃ u1 u2 u3 L1 L2 L3, v = .agg #[.int .i64 x.inputs, u1, u2, u3] ∧ L1 ++ L2 ++ L3 = L ∧ OwnII B w u1 x.tables L1 ∧ OwnNodeS B w u2 x.nodes L2 ∧ OwnLI B w u3 x.outputs L3
theorem OwnPatch.rd {B : Nat} {w : World} {v : Value} {x : PatchD} {L : List Value} (h : OwnPatch B w v x L) : VPatch w v x := by
  obtain ⟨u1, u2, u3, L1, L2, L3, rfl, rfl, o1, o2, o3⟩ := h
  obtain ⟨p1, c1, rfl, r1⟩ := OwnII.rdv o1
  obtain ⟨p2, c2, rfl, r2⟩ := OwnNodeS.rd o2
  obtain ⟨p3, c3, rfl, r3⟩ := OwnLI.rd o3
  exact ⟨p1, c1, p2, c2, p3, c3, rfl, r1, r2, r3⟩
theorem OwnPatch.mono {B B' : Nat} {w : World} {v : Value} {x : PatchD} {L : List Value} (h : OwnPatch B w v x L) (hB : B' ≤ B) : OwnPatch B' w v x L := by
  obtain ⟨u1, u2, u3, L1, L2, L3, rfl, rfl, o1, o2, o3⟩ := h
  exact ⟨u1, u2, u3, L1, L2, L3, rfl, rfl, o1.mono hB, o2.mono hB, o3.mono hB⟩
theorem OwnPatch.keeps {B : Nat} {w w' : World} {v : Value} {x : PatchD} {L : List Value} (h : OwnPatch B w v x L) (hk : ∀ k, B ≤ k → k < w.heap.size → w'.heap[k]? = w.heap[k]?) : OwnPatch B w' v x L := by
  obtain ⟨u1, u2, u3, L1, L2, L3, rfl, rfl, o1, o2, o3⟩ := h
  exact ⟨u1, u2, u3, L1, L2, L3, rfl, rfl, o1.keeps hk, o2.keeps hk, o3.keeps hk⟩
theorem OwnPatch.below {B : Nat} {w w' : World} {v : Value} {x : PatchD} {L : List Value} (h : OwnPatch B w v x L) (hb : Below w.heap.size w w') : OwnPatch B w' v x L := h.keeps fun k _ hk => hb.block k hk
theorem OwnPatch.blk {B : Nat} {w : World} {v : Value} {x : PatchD} {L : List Value} (h : OwnPatch B w v x L) {b : Nat} (hb : Blk L b) : B ≤ b ∧ b < w.heap.size := by
  obtain ⟨u1, u2, u3, L1, L2, L3, rfl, rfl, o1, o2, o3⟩ := h
  obtain ⟨u, hu, hb⟩ := hb
  simp only [List.mem_append] at hu
  rcases hu with (hu | hu) | hu
  · exact o1.blk ⟨u, hu, hb⟩
  · exact o2.blk ⟨u, hu, hb⟩
  · exact o3.blk ⟨u, hu, hb⟩
def wtPatch (x : PatchD) : Nat := wtII x.tables + wtNodeS x.nodes + wtI x.outputs
def cntPatch (x : PatchD) : Nat := cntII x.tables + cntNodeS x.nodes + cntI x.outputs
theorem cntPatch_le (x : PatchD) : cntPatch x ≤ 6 * wtPatch x := by
  have e1 := cntII_le x.tables
  have e2 := cntNodeS_le x.nodes
  have e3 := cntI_le x.outputs
  unfold cntPatch wtPatch; omega
def markPatch (m : Int) (x : PatchD) : PatchD := { x with tables := markII (m) x.tables, nodes := markNodeS (m + cntII x.tables) x.nodes, outputs := markI (m + cntII x.tables + cntNodeS x.nodes) x.outputs }
section
variable {H : Type} {enc : TypeId × Value → H} {W : World}
set_option maxRecDepth 100000 in
theorem open_Patch {r : Reach} {b0 : Nat} {v : Value} {d : DataW H} {ps : List MemPlace} (hval : Value.okWide Tryd.prog W r b0 65 v) (h : DataW.Trod enc Tryd.prog W 0 (fun _ => true) true 65 v d ps) : ∃ x, VPatch W v x := by
  obtain ⟨l, rfl, hl, hf⟩ := open_fields Tryd.underlying65 (by kernel_rfl) (by kernel_rfl) hval h
  obtain ⟨a0, n0, y0, e0, t0⟩ := hf 0 _ rfl
  obtain ⟨a1, n1, y1, e1, t1⟩ := hf 1 _ rfl
  obtain ⟨a2, n2, y2, e2, t2⟩ := hf 2 _ rfl
  obtain ⟨a3, n3, y3, e3, t3⟩ := hf 3 _ rfl
  match l, hl with
  | [g0, g1, g2, g3], _ =>
    simp only [List.getElem?_cons_zero, List.getElem?_cons_succ, Option.some.injEq] at e0 e1 e2 e3
    subst e0 e1 e2 e3
    obtain ⟨m0, h0, -, -⟩ := DataW.trod_int Tryd.underlying2 t0
    obtain ⟨p1, c1, m1, h1, r1, -⟩ := rdII_trod Tryd.underlying62 Tryd.underlying45 Tryd.underlying2 (by kernel_rfl) (by kernel_rfl) t1
    obtain ⟨p2, c2, m2, h2, r2⟩ := rdNodeS_trod t2
    obtain ⟨p3, c3, m3, h3, r3, -⟩ := rdI_trod Tryd.underlying45 Tryd.underlying2 (by kernel_rfl) t3
    simp only [List.cons.injEq, and_true] at h0 h1 h2 h3
    subst h0 h1 h2 h3
    exact ⟨⟨m0, m1, m2, m3⟩, p1, c1, p2, c2, p3, c3, rfl, r1, r2, r3⟩
end
set_option maxHeartbeats 1600000 in
theorem szPatch_v {v : Value} {x : PatchD} (left : Int) (w : World) (h : VPatch w v x) (h0 : 0 ≤ left) (h1 : left ≤ 1048576) :
    Calls Tryd.prog 39 #[v, .int .i64 left] w fun e w' => e = .returned (.int .i64 (szF left (wtPatch x))) ∧ Below w.heap.size w w' := by
  obtain ⟨p1, c1, p2, c2, p3, c3, rfl, r1, r2, r3⟩ := h
  have hB0 : Below w.heap.size w (w.alloc (.cells #[.int .i64 x.inputs, .slice p1 x.tables.length c1, .slice p2 x.nodes.length c2, .slice p3 x.outputs.length c3] 65)) := (Below.refl _ _).alloc (Nat.le_refl _) _
  have ba0 := Box.new w [.int .i64 x.inputs, .slice p1 x.tables.length c1, .slice p2 x.nodes.length c2, .slice p3 x.outputs.length c3] 65
  go_enter Tryd.func39, Tryd.ntmps39
  go_wp2_with fail
  refine (szII_v _ _ ⟨p1, c1, rfl, r1.below hB0⟩ h0 h1).mono ?_
  rintro e w1 ⟨rfl, hb1⟩
  have hB1 := hB0.trans (hb1.mono hB0.size)
  have ba1 := ba0.below hb1
  have z1 := ba1.cell 2 rfl
  by_cases k1 : szF left (wtII x.tables) < 0
  · have s1 := szF_neg k1 (by omega)
    have S1 := Lib.hid s1
    have T1 : Hid (szF left (wtPatch x) = -1) := by unfold wtPatch; exact szF_lt (by omega)
    clear s1
    go_wp2_with fail
    go_ret
    exact ⟨ret_int (by rw [T1.out]), hB1⟩
  · have s1 := szF_pos k1
    have l1 : 0 ≤ szF left (wtII x.tables) := by omega
    have g1 : szF left (wtII x.tables) ≤ 1048576 := by omega
    generalize hz1 : szF left (wtII x.tables) = b1 at *
    obtain ⟨s1a, s1b⟩ := s1
    have E1 := Lib.hid s1a
    have e1a : b1 ≤ left - wtII x.tables := by omega
    have e1b : left - wtII x.tables ≤ b1 := by omega
    clear s1a hz1
    go_wp2_with fail
    refine (szNodeS_v _ _ ⟨p2, c2, rfl, r2.below hB1⟩ l1 g1).mono ?_
    rintro e w2 ⟨rfl, hb2⟩
    have hB2 := hB1.trans (hb2.mono hB1.size)
    have ba2 := ba1.below hb2
    have z2 := ba2.cell 3 rfl
    by_cases k2 : szF b1 (wtNodeS x.nodes) < 0
    · have s2 := szF_neg k2 (by omega)
      have S2 := Lib.hid s2
      have T2 : Hid (szF left (wtPatch x) = -1) := by unfold wtPatch; exact szF_lt (by omega)
      clear s2
      go_wp2_with fail
      go_ret
      exact ⟨ret_int (by rw [T2.out]), hB2⟩
    · have s2 := szF_pos k2
      have l2 : 0 ≤ szF b1 (wtNodeS x.nodes) := by omega
      have g2 : szF b1 (wtNodeS x.nodes) ≤ 1048576 := by omega
      generalize hz2 : szF b1 (wtNodeS x.nodes) = b2 at *
      obtain ⟨s2a, s2b⟩ := s2
      have E2 := Lib.hid s2a
      have e2a : b2 ≤ b1 - wtNodeS x.nodes := by omega
      have e2b : b1 - wtNodeS x.nodes ≤ b2 := by omega
      clear s2a hz2
      go_wp2_with fail
      refine (szI_v _ _ ⟨p3, c3, rfl, r3.below hB2⟩ l2 g2).mono ?_
      rintro e w3 ⟨rfl, hb3⟩
      have hB3 := hB2.trans (hb3.mono hB2.size)
      by_cases k3 : szF b2 (wtI x.outputs) < 0
      · have s3 := szF_neg k3 (by omega)
        have S3 := Lib.hid s3
        have T3 : Hid (szF left (wtPatch x) = -1) := by unfold wtPatch; exact szF_lt (by omega)
        clear s3
        go_wp2_with fail
        go_ret
        exact ⟨ret_int (by rw [T3.out]), hB3⟩
      · have s3 := szF_pos k3
        have l3 : 0 ≤ szF b2 (wtI x.outputs) := by omega
        have g3 : szF b2 (wtI x.outputs) ≤ 1048576 := by omega
        generalize hz3 : szF b2 (wtI x.outputs) = b3 at *
        obtain ⟨s3a, s3b⟩ := s3
        have E3 := Lib.hid s3a
        have e3a : b3 ≤ b2 - wtI x.outputs := by omega
        have e3b : b2 - wtI x.outputs ≤ b3 := by omega
        clear s3a hz3
        go_wp2_with fail
        go_ret
        exact ⟨ret_int (by rw [szF_ge (by unfold wtPatch; omega)]; unfold wtPatch; omega), hB3⟩
set_option maxHeartbeats 3200000 in
theorem toPatch_v {v : Value} {x : PatchD} (w : World) (h : VPatch w v x) (hn : wtPatch x ≤ 1048576) :
    Calls Tryd.prog 41 #[v] w fun e w' => ∃ u L, e = .returned u ∧ OwnPatch w.heap.size w' u x L ∧ Dis L ∧ Below w.heap.size w w' := by
  obtain ⟨p1, c1, p2, c2, p3, c3, rfl, r1, r2, r3⟩ := h
  unfold wtPatch at hn
  go_enter Tryd.func41, Tryd.ntmps41
  go_wp2_with fail
  obtain ⟨E0, hE0⟩ : ∃ E, E = ((w.alloc (.cells #[.int .i64 x.inputs, .slice p1 x.tables.length c1, .slice p2 x.nodes.length c2, .slice p3 x.outputs.length c3] 65)).alloc (.cells #[.int .i64 0, .slice none 0 0, .slice none 0 0, .slice none 0 0] 70)).alloc (.cells #[.int .i64 x.inputs, .slice none 0 0, .slice none 0 0, .slice none 0 0] 70) := ⟨_, rfl⟩
  have hB0 : Below w.heap.size w E0 := by rw [hE0]; exact (((Below.refl _ _).alloc (Nat.le_refl _) _).alloc (by simp) _).alloc (by simp; omega) _
  have hS0 : w.heap.size + 1 + 1 < E0.heap.size := by rw [hE0]; simp
  have ba0 : Box E0 w.heap.size [.int .i64 x.inputs, .slice p1 x.tables.length c1, .slice p2 x.nodes.length c2, .slice p3 x.outputs.length c3] 65 := by rw [hE0]; exact ((Box.newAt w _ _ rfl).alloc _).alloc _
  have br0 : Box E0 (w.heap.size + 1) [.int .i64 0, .slice none 0 0, .slice none 0 0, .slice none 0 0] 70 := by rw [hE0]; exact (Box.newAt (w.alloc _) [.int .i64 0, .slice none 0 0, .slice none 0 0, .slice none 0 0] _ (by simp)).alloc _
  have bo0 : Box E0 (w.heap.size + 1 + 1) [.int .i64 x.inputs, .slice none 0 0, .slice none 0 0, .slice none 0 0] 70 := by rw [hE0]; exact Box.newAt ((w.alloc _).alloc _) [.int .i64 x.inputs, .slice none 0 0, .slice none 0 0, .slice none 0 0] _ (by simp)
  rw [← hE0]
  clear hE0
  refine (toII_v _ ⟨p1, c1, rfl, r1.below hB0⟩ (by omega)).mono ?_
  rintro e F1 ⟨u1, L1, rfl, o1, D1, hb1⟩
  have hG1 := hB0.trans (hb1.mono hB0.size)
  have ba1 := ba0.below hb1
  have br1 := br0.below hb1
  have bo1 := bo0.below hb1
  have hT1 : w.heap.size + 1 + 1 < F1.heap.size := Nat.lt_of_lt_of_le hS0 hb1.size
  have DA0 : Dis L1 := D1
  have HA0 : Hid (∀ b, Blk L1 b → b < F1.heap.size) := fun b hb => (o1.blk hb).2
  replace o1 := o1.mono (B' := w.heap.size + 1 + 1 + 1) (by omega)
  obtain ⟨q1, d1, rfl, -⟩ := OwnII.rdv o1
  have z1_0 := bo1.cell 1 rfl
  have z1_1 := bo1.frozen 1
  have z1_2 := ba1.cell 2 rfl
  go_wp2_with fail
  obtain ⟨E1, hE1⟩ : ∃ E, E = F1.setCell ⟨w.heap.size + 1 + 1, 1, none⟩ (.slice q1 x.tables.length d1) := ⟨_, rfl⟩
  have hB1 : Below w.heap.size w E1 := by rw [hE1]; exact (hG1).setCell (by show w.heap.size ≤ w.heap.size + 1 + 1; omega) _
  have hS1 : w.heap.size + 1 + 1 < E1.heap.size := by rw [hE1]; simpa using hT1
  have hZ1 : F1.heap.size ≤ E1.heap.size := by rw [hE1]; simp
  replace ba1 : Box E1 w.heap.size [.int .i64 x.inputs, .slice p1 x.tables.length c1, .slice p2 x.nodes.length c2, .slice p3 x.outputs.length c3] 65 := by rw [hE1]; exact (ba1).other (by show w.heap.size ≠ w.heap.size + 1 + 1; omega) _
  replace br1 : Box E1 (w.heap.size + 1) [.int .i64 0, .slice none 0 0, .slice none 0 0, .slice none 0 0] 70 := by rw [hE1]; exact (br1).other (by show w.heap.size + 1 ≠ w.heap.size + 1 + 1; omega) _
  replace bo1 : Box E1 (w.heap.size + 1 + 1) [.int .i64 x.inputs, .slice q1 x.tables.length d1, .slice none 0 0, .slice none 0 0] 70 := by rw [hE1]; exact (bo1).set 1 _
  replace o1 : OwnII (w.heap.size + 1 + 1 + 1) E1 (.slice q1 x.tables.length d1) x.tables L1 := by rw [hE1]; exact o1.keeps fun k hk _ => (Below.heap_setCell _ _ _ _ (show k ≠ w.heap.size + 1 + 1 by omega))
  rw [← hE1]
  clear hE1 z1_0 z1_1 z1_2
  refine (toNodeS_v _ ⟨p2, c2, rfl, r2.below hB1⟩ (by omega)).mono ?_
  rintro e F2 ⟨u2, L2, rfl, o2, D2, hb2⟩
  have hG2 := hB1.trans (hb2.mono hB1.size)
  have ba2 := ba1.below hb2
  have br2 := br1.below hb2
  have bo2 := bo1.below hb2
  have hT2 : w.heap.size + 1 + 1 < F2.heap.size := Nat.lt_of_lt_of_le hS1 hb2.size
  have DA1 : Dis (L1 ++ L2) := DA0.append D2 (fun b hb hb' => by have a1 := HA0.out b hb; have a2 := (o2.blk hb').1; omega)
  have HA1 : Hid (∀ b, Blk (L1 ++ L2) b → b < F2.heap.size) := fun b hb => by
    rcases blk_append.1 hb with hb | hb
    · have a1 := HA0.out b hb; have a2 := hb2.size; omega
    · exact (o2.blk hb).2
  replace o2 := o2.mono (B' := w.heap.size + 1 + 1 + 1) (by omega)
  replace o1 := o1.keeps (w' := F2) fun k _ hk => hb2.block k hk
  obtain ⟨q2, d2, rfl, -⟩ := OwnNodeS.rd o2
  have z2_0 := bo2.cell 2 rfl
  have z2_1 := bo2.frozen 2
  have z2_2 := ba2.cell 3 rfl
  go_wp2_with fail
  obtain ⟨E2, hE2⟩ : ∃ E, E = F2.setCell ⟨w.heap.size + 1 + 1, 2, none⟩ (.slice q2 x.nodes.length d2) := ⟨_, rfl⟩
  have hB2 : Below w.heap.size w E2 := by rw [hE2]; exact (hG2).setCell (by show w.heap.size ≤ w.heap.size + 1 + 1; omega) _
  have hS2 : w.heap.size + 1 + 1 < E2.heap.size := by rw [hE2]; simpa using hT2
  have hZ2 : F2.heap.size ≤ E2.heap.size := by rw [hE2]; simp
  replace ba2 : Box E2 w.heap.size [.int .i64 x.inputs, .slice p1 x.tables.length c1, .slice p2 x.nodes.length c2, .slice p3 x.outputs.length c3] 65 := by rw [hE2]; exact (ba2).other (by show w.heap.size ≠ w.heap.size + 1 + 1; omega) _
  replace br2 : Box E2 (w.heap.size + 1) [.int .i64 0, .slice none 0 0, .slice none 0 0, .slice none 0 0] 70 := by rw [hE2]; exact (br2).other (by show w.heap.size + 1 ≠ w.heap.size + 1 + 1; omega) _
  replace bo2 : Box E2 (w.heap.size + 1 + 1) [.int .i64 x.inputs, .slice q1 x.tables.length d1, .slice q2 x.nodes.length d2, .slice none 0 0] 70 := by rw [hE2]; exact (bo2).set 2 _
  replace o1 : OwnII (w.heap.size + 1 + 1 + 1) E2 (.slice q1 x.tables.length d1) x.tables L1 := by rw [hE2]; exact o1.keeps fun k hk _ => (Below.heap_setCell _ _ _ _ (show k ≠ w.heap.size + 1 + 1 by omega))
  replace o2 : OwnNodeS (w.heap.size + 1 + 1 + 1) E2 (.slice q2 x.nodes.length d2) x.nodes L2 := by rw [hE2]; exact o2.keeps fun k hk _ => (Below.heap_setCell _ _ _ _ (show k ≠ w.heap.size + 1 + 1 by omega))
  rw [← hE2]
  clear hE2 z2_0 z2_1 z2_2
  refine (toI_v _ ⟨p3, c3, rfl, r3.below hB2⟩ (by omega)).mono ?_
  rintro e F3 ⟨u3, L3, rfl, o3, D3, hb3⟩
  have hG3 := hB2.trans (hb3.mono hB2.size)
  have ba3 := ba2.below hb3
  have br3 := br2.below hb3
  have bo3 := bo2.below hb3
  have hT3 : w.heap.size + 1 + 1 < F3.heap.size := Nat.lt_of_lt_of_le hS2 hb3.size
  have DA2 : Dis (L1 ++ L2 ++ L3) := DA1.append D3 (fun b hb hb' => by have a1 := HA1.out b hb; have a2 := (o3.blk hb').1; omega)
  have HA2 : Hid (∀ b, Blk (L1 ++ L2 ++ L3) b → b < F3.heap.size) := fun b hb => by
    rcases blk_append.1 hb with hb | hb
    · have a1 := HA1.out b hb; have a2 := hb3.size; omega
    · exact (o3.blk hb).2
  replace o3 := o3.mono (B' := w.heap.size + 1 + 1 + 1) (by omega)
  replace o1 := o1.keeps (w' := F3) fun k _ hk => hb3.block k hk
  replace o2 := o2.keeps (w' := F3) fun k _ hk => hb3.block k hk
  obtain ⟨q3, d3, rfl, -⟩ := OwnLI.rd o3
  have z3_0 := bo3.cell 0 rfl
  have z3_1 := br3.cell 0 rfl
  have z3_2 := br3.frozen 0
  have z3_3 := bo3.cell 1 rfl
  have z3_4 := br3.cell 1 rfl
  have z3_5 := br3.frozen 1
  have z3_6 := bo3.cell 2 rfl
  have z3_7 := br3.cell 2 rfl
  have z3_8 := br3.frozen 2
  have z3_9 := bo3.cell 3 rfl
  have z3_10 := br3.cell 3 rfl
  have z3_11 := br3.frozen 3
  have z3_12 := bo3.frozen 3
  go_wp2_with fail
  refine bodyPost_ret (v := .agg #[.int .i64 x.inputs, .slice q1 x.tables.length d1, .slice q2 x.nodes.length d2, .slice q3 x.outputs.length d3]) (by simp [results, Tryd.results41, go_sem, *]) rfl ?_
  refine ⟨_, _, rfl, ⟨_, _, _, L1, L2, L3, rfl, rfl, (o1.keeps fun k hk _ => (Below.heap_setCell _ _ _ _ (show k ≠ w.heap.size + 1 by omega)).trans ((Below.heap_setCell _ _ _ _ (show k ≠ w.heap.size + 1 by omega)).trans ((Below.heap_setCell _ _ _ _ (show k ≠ w.heap.size + 1 by omega)).trans ((Below.heap_setCell _ _ _ _ (show k ≠ w.heap.size + 1 by omega)).trans (Below.heap_setCell _ _ _ _ (show k ≠ w.heap.size + 1 + 1 by omega)))))).mono (by omega), (o2.keeps fun k hk _ => (Below.heap_setCell _ _ _ _ (show k ≠ w.heap.size + 1 by omega)).trans ((Below.heap_setCell _ _ _ _ (show k ≠ w.heap.size + 1 by omega)).trans ((Below.heap_setCell _ _ _ _ (show k ≠ w.heap.size + 1 by omega)).trans ((Below.heap_setCell _ _ _ _ (show k ≠ w.heap.size + 1 by omega)).trans (Below.heap_setCell _ _ _ _ (show k ≠ w.heap.size + 1 + 1 by omega)))))).mono (by omega), (o3.keeps fun k hk _ => (Below.heap_setCell _ _ _ _ (show k ≠ w.heap.size + 1 by omega)).trans ((Below.heap_setCell _ _ _ _ (show k ≠ w.heap.size + 1 by omega)).trans ((Below.heap_setCell _ _ _ _ (show k ≠ w.heap.size + 1 by omega)).trans ((Below.heap_setCell _ _ _ _ (show k ≠ w.heap.size + 1 by omega)).trans (Below.heap_setCell _ _ _ _ (show k ≠ w.heap.size + 1 + 1 by omega)))))).mono (by omega)⟩, DA2, (((((hG3).setCell (show w.heap.size ≤ w.heap.size + 1 + 1 by omega) _).setCell (show w.heap.size ≤ w.heap.size + 1 by omega) _).setCell (show w.heap.size ≤ w.heap.size + 1 by omega) _).setCell (show w.heap.size ≤ w.heap.size + 1 by omega) _).setCell (show w.heap.size ≤ w.heap.size + 1 by omega) _⟩
set_option maxHeartbeats 1600000 in
theorem eqPatch_v {v v' : Value} {x : PatchD} (w : World) (h : VPatch w v x) (h' : VPatch w v' x) :
    Calls Tryd.prog 43 #[v, v'] w fun e w' => e = .returned (.bool true) ∧ Below w.heap.size w w' := by
  obtain ⟨p1, c1, p2, c2, p3, c3, rfl, r1, r2, r3⟩ := h
  obtain ⟨q1, d1, q2, d2, q3, d3, rfl, s1, s2, s3⟩ := h'
  have hB0 : Below w.heap.size w ((w.alloc (.cells #[.int .i64 x.inputs, .slice p1 x.tables.length c1, .slice p2 x.nodes.length c2, .slice p3 x.outputs.length c3] 70)).alloc (.cells #[.int .i64 x.inputs, .slice q1 x.tables.length d1, .slice q2 x.nodes.length d2, .slice q3 x.outputs.length d3] 70)) := ((Below.refl _ _).alloc (Nat.le_refl _) _).alloc (by simp) _
  have ba0 : Box ((w.alloc (.cells #[.int .i64 x.inputs, .slice p1 x.tables.length c1, .slice p2 x.nodes.length c2, .slice p3 x.outputs.length c3] 70)).alloc (.cells #[.int .i64 x.inputs, .slice q1 x.tables.length d1, .slice q2 x.nodes.length d2, .slice q3 x.outputs.length d3] 70)) w.heap.size [.int .i64 x.inputs, .slice p1 x.tables.length c1, .slice p2 x.nodes.length c2, .slice p3 x.outputs.length c3] 70 := (Box.newAt w [.int .i64 x.inputs, .slice p1 x.tables.length c1, .slice p2 x.nodes.length c2, .slice p3 x.outputs.length c3] _ rfl).alloc _
  have bb0 : Box ((w.alloc (.cells #[.int .i64 x.inputs, .slice p1 x.tables.length c1, .slice p2 x.nodes.length c2, .slice p3 x.outputs.length c3] 70)).alloc (.cells #[.int .i64 x.inputs, .slice q1 x.tables.length d1, .slice q2 x.nodes.length d2, .slice q3 x.outputs.length d3] 70)) (w.heap.size + 1) [.int .i64 x.inputs, .slice q1 x.tables.length d1, .slice q2 x.nodes.length d2, .slice q3 x.outputs.length d3] 70 := Box.newAt (w.alloc _) [.int .i64 x.inputs, .slice q1 x.tables.length d1, .slice q2 x.nodes.length d2, .slice q3 x.outputs.length d3] _ (by simp)
  go_enter Tryd.func43, Tryd.ntmps43
  go_wp2_with fail
  refine (eqII_v _ ⟨p1, c1, rfl, r1.below hB0⟩ ⟨q1, d1, rfl, s1.below hB0⟩).mono ?_
  rintro e F1 ⟨rfl, hb1⟩
  have hB1 := hB0.trans (hb1.mono hB0.size)
  have ba1 := ba0.below hb1
  have bb1 := bb0.below hb1
  have za2 := ba1.cell 2 rfl
  have zb2 := bb1.cell 2 rfl
  go_wp2_with fail
  refine (eqNodeS_v _ ⟨p2, c2, rfl, r2.below hB1⟩ ⟨q2, d2, rfl, s2.below hB1⟩).mono ?_
  rintro e F2 ⟨rfl, hb2⟩
  have hB2 := hB1.trans (hb2.mono hB1.size)
  have ba2 := ba1.below hb2
  have bb2 := bb1.below hb2
  have za3 := ba2.cell 3 rfl
  have zb3 := bb2.cell 3 rfl
  go_wp2_with fail
  refine (eqI_v _ ⟨p3, c3, rfl, r3.below hB2⟩ ⟨q3, d3, rfl, s3.below hB2⟩).mono ?_
  rintro e F3 ⟨rfl, hb3⟩
  have hB3 := hB2.trans (hb3.mono hB2.size)
  go_wp2_with fail
  go_ret
  exact ⟨rfl, hB3⟩
end Go.Proofs.YtnhhghilejeegaaDoor
