/-
  The type Program: how it lies in memory; contracts of the laws' helpers for it.
-/
import Derived.Test.YtabfdnkomhjlkaaTyInstrS
namespace Go.Proofs.Ytabfdnkomhjlkaa
open Go.ChangeShapes Go.WideShapes Go.ChangeAt Go.RowKit
set_option linter.unusedVariables false

structure ProgramD where
  inputs : Int
  registers : Int
  tables : List (List Int)
  code : List InstrD
  outputs : List Int

/-- the value v is a Program that reads x -/
def VProgram (w : World) (v : Value) (x : ProgramD) : Prop := ∃ p2 c2 p3 c3 p4 c4, v = .agg #[.int .i64 x.inputs, .int .i64 x.registers, .slice p2 x.tables.length c2, .slice p3 x.code.length c3, .slice p4 x.outputs.length c4] ∧ RdII w p2 x.tables ∧ RdInstrS w p3 x.code ∧ RdI w p4 x.outputs
theorem VProgram.below {w w' : World} {v : Value} {x : ProgramD} (h : VProgram w v x) (hb : Below w.heap.size w w') : VProgram w' v x := by
  obtain ⟨p2, c2, p3, c3, p4, c4, rfl, r2, r3, r4⟩ := h
  exact ⟨p2, c2, p3, c3, p4, c4, rfl, r2.below hb, r3.below hb, r4.below hb⟩
/-- a Program of the call's own; L: its slices of integers -/
def OwnProgram (B : Nat) (w : World) (v : Value) (x : ProgramD) (L : List Value) : Prop := ∃ u2 u3 u4 L2 L3 L4, v = .agg #[.int .i64 x.inputs, .int .i64 x.registers, u2, u3, u4] ∧ L2 ++ L3 ++ L4 = L ∧ OwnII B w u2 x.tables L2 ∧ OwnInstrS B w u3 x.code L3 ∧ OwnLI B w u4 x.outputs L4
theorem OwnProgram.rd {B : Nat} {w : World} {v : Value} {x : ProgramD} {L : List Value} (h : OwnProgram B w v x L) : VProgram w v x := by
  obtain ⟨u2, u3, u4, L2, L3, L4, rfl, rfl, o2, o3, o4⟩ := h
  obtain ⟨p2, c2, rfl, r2⟩ := OwnII.rdv o2
  obtain ⟨p3, c3, rfl, r3⟩ := OwnInstrS.rd o3
  obtain ⟨p4, c4, rfl, r4⟩ := OwnLI.rd o4
  exact ⟨p2, c2, p3, c3, p4, c4, rfl, r2, r3, r4⟩
theorem OwnProgram.mono {B B' : Nat} {w : World} {v : Value} {x : ProgramD} {L : List Value} (h : OwnProgram B w v x L) (hB : B' ≤ B) : OwnProgram B' w v x L := by
  obtain ⟨u2, u3, u4, L2, L3, L4, rfl, rfl, o2, o3, o4⟩ := h
  exact ⟨u2, u3, u4, L2, L3, L4, rfl, rfl, o2.mono hB, o3.mono hB, o4.mono hB⟩
theorem OwnProgram.keeps {B : Nat} {w w' : World} {v : Value} {x : ProgramD} {L : List Value} (h : OwnProgram B w v x L) (hk : ∀ k, B ≤ k → k < w.heap.size → w'.heap[k]? = w.heap[k]?) : OwnProgram B w' v x L := by
  obtain ⟨u2, u3, u4, L2, L3, L4, rfl, rfl, o2, o3, o4⟩ := h
  exact ⟨u2, u3, u4, L2, L3, L4, rfl, rfl, o2.keeps hk, o3.keeps hk, o4.keeps hk⟩
theorem OwnProgram.below {B : Nat} {w w' : World} {v : Value} {x : ProgramD} {L : List Value} (h : OwnProgram B w v x L) (hb : Below w.heap.size w w') : OwnProgram B w' v x L := h.keeps fun k _ hk => hb.block k hk
theorem OwnProgram.blk {B : Nat} {w : World} {v : Value} {x : ProgramD} {L : List Value} (h : OwnProgram B w v x L) {b : Nat} (hb : Blk L b) : B ≤ b ∧ b < w.heap.size := by
  obtain ⟨u2, u3, u4, L2, L3, L4, rfl, rfl, o2, o3, o4⟩ := h
  obtain ⟨u, hu, hb⟩ := hb
  simp only [List.mem_append] at hu
  rcases hu with (hu | hu) | hu
  · exact o2.blk ⟨u, hu, hb⟩
  · exact o3.blk ⟨u, hu, hb⟩
  · exact o4.blk ⟨u, hu, hb⟩
theorem OwnProgram.ints {B : Nat} {w : World} {v : Value} {x : ProgramD} {L : List Value} (h : OwnProgram B w v x L) : IntBlks w L := by
  obtain ⟨u2, u3, u4, L2, L3, L4, rfl, rfl, o2, o3, o4⟩ := h
  exact ((o2.ints).append o3.ints).append o4.ints
def wtProgram (x : ProgramD) : Nat := wtII x.tables + wtInstrS x.code + wtI x.outputs
def cntProgram (x : ProgramD) : Nat := cntII x.tables + cntInstrS x.code + cntI x.outputs
theorem cntProgram_le (x : ProgramD) : cntProgram x ≤ 6 * wtProgram x := by
  have e2 := cntII_le x.tables
  have e3 := cntInstrS_le x.code
  have e4 := cntI_le x.outputs
  unfold cntProgram wtProgram; omega
def markProgram (m : Int) (x : ProgramD) : ProgramD := { x with tables := markII (m) x.tables, code := markInstrS (m + cntII x.tables) x.code, outputs := markI (m + cntII x.tables + cntInstrS x.code) x.outputs }
section
variable {H : Type} {enc : TypeId × Value → H} {W : World}
set_option maxRecDepth 100000 in
theorem open_Program {r : Reach} {b0 : Nat} {v : Value} {d : DataW H} {ps : List MemPlace} (hval : Value.okWide Try.prog W r b0 26 v) (h : DataW.Trod enc Try.prog W 0 (fun _ => true) true 26 v d ps) : ∃ x, VProgram W v x := by
  obtain ⟨l, rfl, hl, hf⟩ := open_fields Try.underlying26 (by kernel_rfl) (by kernel_rfl) hval h
  obtain ⟨a0, n0, y0, e0, t0⟩ := hf 0 _ rfl
  obtain ⟨a1, n1, y1, e1, t1⟩ := hf 1 _ rfl
  obtain ⟨a2, n2, y2, e2, t2⟩ := hf 2 _ rfl
  obtain ⟨a3, n3, y3, e3, t3⟩ := hf 3 _ rfl
  obtain ⟨a4, n4, y4, e4, t4⟩ := hf 4 _ rfl
  match l, hl with
  | [g0, g1, g2, g3, g4], _ =>
    simp only [List.getElem?_cons_zero, List.getElem?_cons_succ, Option.some.injEq] at e0 e1 e2 e3 e4
    subst e0 e1 e2 e3 e4
    obtain ⟨m0, h0, -, -⟩ := DataW.trod_int Try.underlying2 t0
    obtain ⟨m1, h1, -, -⟩ := DataW.trod_int Try.underlying2 t1
    obtain ⟨p2, c2, m2, h2, r2, -⟩ := rdII_trod Try.underlying22 Try.underlying24 Try.underlying2 (by kernel_rfl) (by kernel_rfl) t2
    obtain ⟨p3, c3, m3, h3, r3⟩ := rdInstrS_trod t3
    obtain ⟨p4, c4, m4, h4, r4, -⟩ := rdI_trod Try.underlying24 Try.underlying2 (by kernel_rfl) t4
    simp only [List.cons.injEq, and_true] at h0 h1 h2 h3 h4
    subst h0 h1 h2 h3 h4
    exact ⟨⟨m0, m1, m2, m3, m4⟩, p2, c2, p3, c3, p4, c4, rfl, r2, r3, r4⟩
end
set_option maxHeartbeats 1600000 in
theorem szProgram_v {v : Value} {x : ProgramD} (left : Int) (w : World) (h : VProgram w v x) (h0 : 0 ≤ left) (h1 : left ≤ 1048576) :
    Calls Try.prog 5 #[v, .int .i64 left] w fun e w' => e = .returned (.int .i64 (szF left (wtProgram x))) ∧ Below w.heap.size w w' := by
  obtain ⟨p2, c2, p3, c3, p4, c4, rfl, r2, r3, r4⟩ := h
  have hB0 : Below w.heap.size w (w.alloc (.cells #[.int .i64 x.inputs, .int .i64 x.registers, .slice p2 x.tables.length c2, .slice p3 x.code.length c3, .slice p4 x.outputs.length c4] 26)) := (Below.refl _ _).alloc (Nat.le_refl _) _
  have ba0 := Box.new w [.int .i64 x.inputs, .int .i64 x.registers, .slice p2 x.tables.length c2, .slice p3 x.code.length c3, .slice p4 x.outputs.length c4] 26
  go_enter Try.func5, Try.ntmps5
  go_wp2_with fail
  refine (szII_v _ _ ⟨p2, c2, rfl, r2.below hB0⟩ h0 h1).mono ?_
  rintro e w1 ⟨rfl, hb1⟩
  have hB1 := hB0.trans (hb1.mono hB0.size)
  have ba1 := ba0.below hb1
  have z1 := ba1.cell 3 rfl
  by_cases k1 : szF left (wtII x.tables) < 0
  · have s1 := szF_neg k1 (by omega)
    have S1 := Lib.hid s1
    have T1 : Hid (szF left (wtProgram x) = -1) := by unfold wtProgram; exact szF_lt (by omega)
    clear s1
    go_wp2_with fail
    go_ret
    exact ⟨ret_int (by rw [T1.out]), hB1⟩
  · have s1 := szF_pos k1
    have l1 : 0 ≤ szF left (wtII x.tables) := by omega
    have g1 : szF left (wtII x.tables) ≤ 1048576 := by omega
    generalize hz1 : szF left (wtII x.tables) = b1 at *
    obtain ⟨s1a, s1b⟩ := s1
    have E1 := Lib.hid s1a
    have e1a : b1 ≤ left - wtII x.tables := by omega
    have e1b : left - wtII x.tables ≤ b1 := by omega
    clear s1a hz1
    go_wp2_with fail
    refine (szInstrS_v _ _ ⟨p3, c3, rfl, r3.below hB1⟩ l1 g1).mono ?_
    rintro e w2 ⟨rfl, hb2⟩
    have hB2 := hB1.trans (hb2.mono hB1.size)
    have ba2 := ba1.below hb2
    have z2 := ba2.cell 4 rfl
    by_cases k2 : szF b1 (wtInstrS x.code) < 0
    · have s2 := szF_neg k2 (by omega)
      have S2 := Lib.hid s2
      have T2 : Hid (szF left (wtProgram x) = -1) := by unfold wtProgram; exact szF_lt (by omega)
      clear s2
      go_wp2_with fail
      go_ret
      exact ⟨ret_int (by rw [T2.out]), hB2⟩
    · have s2 := szF_pos k2
      have l2 : 0 ≤ szF b1 (wtInstrS x.code) := by omega
      have g2 : szF b1 (wtInstrS x.code) ≤ 1048576 := by omega
      generalize hz2 : szF b1 (wtInstrS x.code) = b2 at *
      obtain ⟨s2a, s2b⟩ := s2
      have E2 := Lib.hid s2a
      have e2a : b2 ≤ b1 - wtInstrS x.code := by omega
      have e2b : b1 - wtInstrS x.code ≤ b2 := by omega
      clear s2a hz2
      go_wp2_with fail
      refine (szI_v _ _ ⟨p4, c4, rfl, r4.below hB2⟩ l2 g2).mono ?_
      rintro e w3 ⟨rfl, hb3⟩
      have hB3 := hB2.trans (hb3.mono hB2.size)
      by_cases k3 : szF b2 (wtI x.outputs) < 0
      · have s3 := szF_neg k3 (by omega)
        have S3 := Lib.hid s3
        have T3 : Hid (szF left (wtProgram x) = -1) := by unfold wtProgram; exact szF_lt (by omega)
        clear s3
        go_wp2_with fail
        go_ret
        exact ⟨ret_int (by rw [T3.out]), hB3⟩
      · have s3 := szF_pos k3
        have l3 : 0 ≤ szF b2 (wtI x.outputs) := by omega
        have g3 : szF b2 (wtI x.outputs) ≤ 1048576 := by omega
        generalize hz3 : szF b2 (wtI x.outputs) = b3 at *
        obtain ⟨s3a, s3b⟩ := s3
        have E3 := Lib.hid s3a
        have e3a : b3 ≤ b2 - wtI x.outputs := by omega
        have e3b : b2 - wtI x.outputs ≤ b3 := by omega
        clear s3a hz3
        go_wp2_with fail
        go_ret
        exact ⟨ret_int (by rw [szF_ge (by unfold wtProgram; omega)]; unfold wtProgram; omega), hB3⟩
set_option maxHeartbeats 3200000 in
theorem toProgram_v {v : Value} {x : ProgramD} (w : World) (h : VProgram w v x) (hn : wtProgram x ≤ 1048576) :
    Calls Try.prog 7 #[v] w fun e w' => ∃ u L, e = .returned u ∧ OwnProgram w.heap.size w' u x L ∧ Dis L ∧ Below w.heap.size w w' := by
  obtain ⟨p2, c2, p3, c3, p4, c4, rfl, r2, r3, r4⟩ := h
  unfold wtProgram at hn
  go_enter Try.func7, Try.ntmps7
  go_wp2_with fail
  obtain ⟨E0, hE0⟩ : ∃ E, E = ((w.alloc (.cells #[.int .i64 x.inputs, .int .i64 x.registers, .slice p2 x.tables.length c2, .slice p3 x.code.length c3, .slice p4 x.outputs.length c4] 26)).alloc (.cells #[.int .i64 0, .int .i64 0, .slice none 0 0, .slice none 0 0, .slice none 0 0] 31)).alloc (.cells #[.int .i64 x.inputs, .int .i64 x.registers, .slice none 0 0, .slice none 0 0, .slice none 0 0] 31) := ⟨_, rfl⟩
  have hB0 : Below w.heap.size w E0 := by rw [hE0]; exact (((Below.refl _ _).alloc (Nat.le_refl _) _).alloc (by simp) _).alloc (by simp; omega) _
  have hS0 : w.heap.size + 1 + 1 < E0.heap.size := by rw [hE0]; simp
  have ba0 : Box E0 w.heap.size [.int .i64 x.inputs, .int .i64 x.registers, .slice p2 x.tables.length c2, .slice p3 x.code.length c3, .slice p4 x.outputs.length c4] 26 := by rw [hE0]; exact ((Box.newAt w _ _ rfl).alloc _).alloc _
  have br0 : Box E0 (w.heap.size + 1) [.int .i64 0, .int .i64 0, .slice none 0 0, .slice none 0 0, .slice none 0 0] 31 := by rw [hE0]; exact (Box.newAt (w.alloc _) [.int .i64 0, .int .i64 0, .slice none 0 0, .slice none 0 0, .slice none 0 0] _ (by simp)).alloc _
  have bo0 : Box E0 (w.heap.size + 1 + 1) [.int .i64 x.inputs, .int .i64 x.registers, .slice none 0 0, .slice none 0 0, .slice none 0 0] 31 := by rw [hE0]; exact Box.newAt ((w.alloc _).alloc _) [.int .i64 x.inputs, .int .i64 x.registers, .slice none 0 0, .slice none 0 0, .slice none 0 0] _ (by simp)
  rw [← hE0]
  clear hE0
  refine (toII_v _ ⟨p2, c2, rfl, r2.below hB0⟩ (by omega)).mono ?_
  rintro e F2 ⟨u2, L2, rfl, o2, D2, hb2⟩
  have hG2 := hB0.trans (hb2.mono hB0.size)
  have ba1 := ba0.below hb2
  have br1 := br0.below hb2
  have bo1 := bo0.below hb2
  have hT2 : w.heap.size + 1 + 1 < F2.heap.size := Nat.lt_of_lt_of_le hS0 hb2.size
  have DA0 : Dis L2 := D2
  have HA0 : Hid (∀ b, Blk L2 b → b < F2.heap.size) := fun b hb => (o2.blk hb).2
  replace o2 := o2.mono (B' := w.heap.size + 1 + 1 + 1) (by omega)
  obtain ⟨q2, d2, rfl, -⟩ := OwnII.rdv o2
  have z2_0 := bo1.cell 2 rfl
  have z2_1 := bo1.frozen 2
  have z2_2 := ba1.cell 3 rfl
  go_wp2_with fail
  obtain ⟨E1, hE1⟩ : ∃ E, E = F2.setCell ⟨w.heap.size + 1 + 1, 2, none⟩ (.slice q2 x.tables.length d2) := ⟨_, rfl⟩
  have hB1 : Below w.heap.size w E1 := by rw [hE1]; exact (hG2).setCell (by show w.heap.size ≤ w.heap.size + 1 + 1; omega) _
  have hS1 : w.heap.size + 1 + 1 < E1.heap.size := by rw [hE1]; simpa using hT2
  have hZ1 : F2.heap.size ≤ E1.heap.size := by rw [hE1]; simp
  replace ba1 : Box E1 w.heap.size [.int .i64 x.inputs, .int .i64 x.registers, .slice p2 x.tables.length c2, .slice p3 x.code.length c3, .slice p4 x.outputs.length c4] 26 := by rw [hE1]; exact (ba1).other (by show w.heap.size ≠ w.heap.size + 1 + 1; omega) _
  replace br1 : Box E1 (w.heap.size + 1) [.int .i64 0, .int .i64 0, .slice none 0 0, .slice none 0 0, .slice none 0 0] 31 := by rw [hE1]; exact (br1).other (by show w.heap.size + 1 ≠ w.heap.size + 1 + 1; omega) _
  replace bo1 : Box E1 (w.heap.size + 1 + 1) [.int .i64 x.inputs, .int .i64 x.registers, .slice q2 x.tables.length d2, .slice none 0 0, .slice none 0 0] 31 := by rw [hE1]; exact (bo1).set 2 _
  replace o2 : OwnII (w.heap.size + 1 + 1 + 1) E1 (.slice q2 x.tables.length d2) x.tables L2 := by rw [hE1]; exact o2.keeps fun k hk _ => (Below.heap_setCell _ _ _ _ (show k ≠ w.heap.size + 1 + 1 by omega))
  rw [← hE1]
  clear hE1 z2_0 z2_1 z2_2
  refine (toInstrS_v _ ⟨p3, c3, rfl, r3.below hB1⟩ (by omega)).mono ?_
  rintro e F3 ⟨u3, L3, rfl, o3, D3, hb3⟩
  have hG3 := hB1.trans (hb3.mono hB1.size)
  have ba2 := ba1.below hb3
  have br2 := br1.below hb3
  have bo2 := bo1.below hb3
  have hT3 : w.heap.size + 1 + 1 < F3.heap.size := Nat.lt_of_lt_of_le hS1 hb3.size
  have DA1 : Dis (L2 ++ L3) := DA0.append D3 (fun b hb hb' => by have a1 := HA0.out b hb; have a2 := (o3.blk hb').1; omega)
  have HA1 : Hid (∀ b, Blk (L2 ++ L3) b → b < F3.heap.size) := fun b hb => by
    rcases blk_append.1 hb with hb | hb
    · have a1 := HA0.out b hb; have a2 := hb3.size; omega
    · exact (o3.blk hb).2
  replace o3 := o3.mono (B' := w.heap.size + 1 + 1 + 1) (by omega)
  replace o2 := o2.keeps (w' := F3) fun k _ hk => hb3.block k hk
  obtain ⟨q3, d3, rfl, -⟩ := OwnInstrS.rd o3
  have z3_0 := bo2.cell 3 rfl
  have z3_1 := bo2.frozen 3
  have z3_2 := ba2.cell 4 rfl
  go_wp2_with fail
  obtain ⟨E2, hE2⟩ : ∃ E, E = F3.setCell ⟨w.heap.size + 1 + 1, 3, none⟩ (.slice q3 x.code.length d3) := ⟨_, rfl⟩
  have hB2 : Below w.heap.size w E2 := by rw [hE2]; exact (hG3).setCell (by show w.heap.size ≤ w.heap.size + 1 + 1; omega) _
  have hS2 : w.heap.size + 1 + 1 < E2.heap.size := by rw [hE2]; simpa using hT3
  have hZ2 : F3.heap.size ≤ E2.heap.size := by rw [hE2]; simp
  replace ba2 : Box E2 w.heap.size [.int .i64 x.inputs, .int .i64 x.registers, .slice p2 x.tables.length c2, .slice p3 x.code.length c3, .slice p4 x.outputs.length c4] 26 := by rw [hE2]; exact (ba2).other (by show w.heap.size ≠ w.heap.size + 1 + 1; omega) _
  replace br2 : Box E2 (w.heap.size + 1) [.int .i64 0, .int .i64 0, .slice none 0 0, .slice none 0 0, .slice none 0 0] 31 := by rw [hE2]; exact (br2).other (by show w.heap.size + 1 ≠ w.heap.size + 1 + 1; omega) _
  replace bo2 : Box E2 (w.heap.size + 1 + 1) [.int .i64 x.inputs, .int .i64 x.registers, .slice q2 x.tables.length d2, .slice q3 x.code.length d3, .slice none 0 0] 31 := by rw [hE2]; exact (bo2).set 3 _
  replace o2 : OwnII (w.heap.size + 1 + 1 + 1) E2 (.slice q2 x.tables.length d2) x.tables L2 := by rw [hE2]; exact o2.keeps fun k hk _ => (Below.heap_setCell _ _ _ _ (show k ≠ w.heap.size + 1 + 1 by omega))
  replace o3 : OwnInstrS (w.heap.size + 1 + 1 + 1) E2 (.slice q3 x.code.length d3) x.code L3 := by rw [hE2]; exact o3.keeps fun k hk _ => (Below.heap_setCell _ _ _ _ (show k ≠ w.heap.size + 1 + 1 by omega))
  rw [← hE2]
  clear hE2 z3_0 z3_1 z3_2
  refine (toI_v _ ⟨p4, c4, rfl, r4.below hB2⟩ (by omega)).mono ?_
  rintro e F4 ⟨u4, L4, rfl, o4, D4, hb4⟩
  have hG4 := hB2.trans (hb4.mono hB2.size)
  have ba3 := ba2.below hb4
  have br3 := br2.below hb4
  have bo3 := bo2.below hb4
  have hT4 : w.heap.size + 1 + 1 < F4.heap.size := Nat.lt_of_lt_of_le hS2 hb4.size
  have DA2 : Dis (L2 ++ L3 ++ L4) := DA1.append D4 (fun b hb hb' => by have a1 := HA1.out b hb; have a2 := (o4.blk hb').1; omega)
  have HA2 : Hid (∀ b, Blk (L2 ++ L3 ++ L4) b → b < F4.heap.size) := fun b hb => by
    rcases blk_append.1 hb with hb | hb
    · have a1 := HA1.out b hb; have a2 := hb4.size; omega
    · exact (o4.blk hb).2
  replace o4 := o4.mono (B' := w.heap.size + 1 + 1 + 1) (by omega)
  replace o2 := o2.keeps (w' := F4) fun k _ hk => hb4.block k hk
  replace o3 := o3.keeps (w' := F4) fun k _ hk => hb4.block k hk
  obtain ⟨q4, d4, rfl, -⟩ := OwnLI.rd o4
  have z4_0 := bo3.cell 0 rfl
  have z4_1 := br3.cell 0 rfl
  have z4_2 := br3.frozen 0
  have z4_3 := bo3.cell 1 rfl
  have z4_4 := br3.cell 1 rfl
  have z4_5 := br3.frozen 1
  have z4_6 := bo3.cell 2 rfl
  have z4_7 := br3.cell 2 rfl
  have z4_8 := br3.frozen 2
  have z4_9 := bo3.cell 3 rfl
  have z4_10 := br3.cell 3 rfl
  have z4_11 := br3.frozen 3
  have z4_12 := bo3.cell 4 rfl
  have z4_13 := br3.cell 4 rfl
  have z4_14 := br3.frozen 4
  have z4_15 := bo3.frozen 4
  go_wp2_with fail
  refine bodyPost_ret (v := .agg #[.int .i64 x.inputs, .int .i64 x.registers, .slice q2 x.tables.length d2, .slice q3 x.code.length d3, .slice q4 x.outputs.length d4]) (by simp [results, Try.results7, go_sem, *]) rfl ?_
  refine ⟨_, _, rfl, ⟨_, _, _, L2, L3, L4, rfl, rfl, (o2.keeps fun k hk _ => (Below.heap_setCell _ _ _ _ (show k ≠ w.heap.size + 1 by omega)).trans ((Below.heap_setCell _ _ _ _ (show k ≠ w.heap.size + 1 by omega)).trans ((Below.heap_setCell _ _ _ _ (show k ≠ w.heap.size + 1 by omega)).trans ((Below.heap_setCell _ _ _ _ (show k ≠ w.heap.size + 1 by omega)).trans ((Below.heap_setCell _ _ _ _ (show k ≠ w.heap.size + 1 by omega)).trans (Below.heap_setCell _ _ _ _ (show k ≠ w.heap.size + 1 + 1 by omega))))))).mono (by omega), (o3.keeps fun k hk _ => (Below.heap_setCell _ _ _ _ (show k ≠ w.heap.size + 1 by omega)).trans ((Below.heap_setCell _ _ _ _ (show k ≠ w.heap.size + 1 by omega)).trans ((Below.heap_setCell _ _ _ _ (show k ≠ w.heap.size + 1 by omega)).trans ((Below.heap_setCell _ _ _ _ (show k ≠ w.heap.size + 1 by omega)).trans ((Below.heap_setCell _ _ _ _ (show k ≠ w.heap.size + 1 by omega)).trans (Below.heap_setCell _ _ _ _ (show k ≠ w.heap.size + 1 + 1 by omega))))))).mono (by omega), (o4.keeps fun k hk _ => (Below.heap_setCell _ _ _ _ (show k ≠ w.heap.size + 1 by omega)).trans ((Below.heap_setCell _ _ _ _ (show k ≠ w.heap.size + 1 by omega)).trans ((Below.heap_setCell _ _ _ _ (show k ≠ w.heap.size + 1 by omega)).trans ((Below.heap_setCell _ _ _ _ (show k ≠ w.heap.size + 1 by omega)).trans ((Below.heap_setCell _ _ _ _ (show k ≠ w.heap.size + 1 by omega)).trans (Below.heap_setCell _ _ _ _ (show k ≠ w.heap.size + 1 + 1 by omega))))))).mono (by omega)⟩, DA2, ((((((hG4).setCell (show w.heap.size ≤ w.heap.size + 1 + 1 by omega) _).setCell (show w.heap.size ≤ w.heap.size + 1 by omega) _).setCell (show w.heap.size ≤ w.heap.size + 1 by omega) _).setCell (show w.heap.size ≤ w.heap.size + 1 by omega) _).setCell (show w.heap.size ≤ w.heap.size + 1 by omega) _).setCell (show w.heap.size ≤ w.heap.size + 1 by omega) _⟩
set_option maxHeartbeats 1600000 in
theorem eqProgram_v {v v' : Value} {x : ProgramD} (w : World) (h : VProgram w v x) (h' : VProgram w v' x) :
    Calls Try.prog 9 #[v, v'] w fun e w' => e = .returned (.bool true) ∧ Below w.heap.size w w' := by
  obtain ⟨p2, c2, p3, c3, p4, c4, rfl, r2, r3, r4⟩ := h
  obtain ⟨q2, d2, q3, d3, q4, d4, rfl, s2, s3, s4⟩ := h'
  have hB0 : Below w.heap.size w ((w.alloc (.cells #[.int .i64 x.inputs, .int .i64 x.registers, .slice p2 x.tables.length c2, .slice p3 x.code.length c3, .slice p4 x.outputs.length c4] 31)).alloc (.cells #[.int .i64 x.inputs, .int .i64 x.registers, .slice q2 x.tables.length d2, .slice q3 x.code.length d3, .slice q4 x.outputs.length d4] 31)) := ((Below.refl _ _).alloc (Nat.le_refl _) _).alloc (by simp) _
  have ba0 : Box ((w.alloc (.cells #[.int .i64 x.inputs, .int .i64 x.registers, .slice p2 x.tables.length c2, .slice p3 x.code.length c3, .slice p4 x.outputs.length c4] 31)).alloc (.cells #[.int .i64 x.inputs, .int .i64 x.registers, .slice q2 x.tables.length d2, .slice q3 x.code.length d3, .slice q4 x.outputs.length d4] 31)) w.heap.size [.int .i64 x.inputs, .int .i64 x.registers, .slice p2 x.tables.length c2, .slice p3 x.code.length c3, .slice p4 x.outputs.length c4] 31 := (Box.newAt w [.int .i64 x.inputs, .int .i64 x.registers, .slice p2 x.tables.length c2, .slice p3 x.code.length c3, .slice p4 x.outputs.length c4] _ rfl).alloc _
  have bb0 : Box ((w.alloc (.cells #[.int .i64 x.inputs, .int .i64 x.registers, .slice p2 x.tables.length c2, .slice p3 x.code.length c3, .slice p4 x.outputs.length c4] 31)).alloc (.cells #[.int .i64 x.inputs, .int .i64 x.registers, .slice q2 x.tables.length d2, .slice q3 x.code.length d3, .slice q4 x.outputs.length d4] 31)) (w.heap.size + 1) [.int .i64 x.inputs, .int .i64 x.registers, .slice q2 x.tables.length d2, .slice q3 x.code.length d3, .slice q4 x.outputs.length d4] 31 := Box.newAt (w.alloc _) [.int .i64 x.inputs, .int .i64 x.registers, .slice q2 x.tables.length d2, .slice q3 x.code.length d3, .slice q4 x.outputs.length d4] _ (by simp)
  go_enter Try.func9, Try.ntmps9
  go_wp2_with fail
  refine (eqII_v _ ⟨p2, c2, rfl, r2.below hB0⟩ ⟨q2, d2, rfl, s2.below hB0⟩).mono ?_
  rintro e F1 ⟨rfl, hb1⟩
  have hB1 := hB0.trans (hb1.mono hB0.size)
  have ba1 := ba0.below hb1
  have bb1 := bb0.below hb1
  have za3 := ba1.cell 3 rfl
  have zb3 := bb1.cell 3 rfl
  go_wp2_with fail
  refine (eqInstrS_v _ ⟨p3, c3, rfl, r3.below hB1⟩ ⟨q3, d3, rfl, s3.below hB1⟩).mono ?_
  rintro e F2 ⟨rfl, hb2⟩
  have hB2 := hB1.trans (hb2.mono hB1.size)
  have ba2 := ba1.below hb2
  have bb2 := bb1.below hb2
  have za4 := ba2.cell 4 rfl
  have zb4 := bb2.cell 4 rfl
  go_wp2_with fail
  refine (eqI_v _ ⟨p4, c4, rfl, r4.below hB2⟩ ⟨q4, d4, rfl, s4.below hB2⟩).mono ?_
  rintro e F3 ⟨rfl, hb3⟩
  have hB3 := hB2.trans (hb3.mono hB2.size)
  go_wp2_with fail
  go_ret
  exact ⟨rfl, hB3⟩
set_option maxHeartbeats 1600000 in
theorem markProgram_v {B : Nat} {v : Value} {x : ProgramD} {L : List Value} (m : Int) (w : World) (h : OwnProgram B w v x L) (hd : Dis L) (hm0 : 0 ≤ m) (hm : m + cntProgram x ≤ 1099511627776) :
    Calls Try.prog 13 #[v, .int .i64 m] w fun e w' => e = .returned (.int .i64 (m + cntProgram x)) ∧ OwnProgram B w' v (markProgram m x) L ∧ Off (Blk L) w w' := by
  obtain ⟨u2, u3, u4, L2, L3, L4, rfl, rfl, o2, o3, o4⟩ := h
  unfold cntProgram at hm ⊢
  obtain ⟨p2, c2, rfl, -⟩ := OwnII.rdv o2
  obtain ⟨p3, c3, rfl, -⟩ := OwnInstrS.rd o3
  obtain ⟨p4, c4, rfl, -⟩ := OwnLI.rd o4
  have X4 := Lib.hid (hd).sep
  have D4 := (hd).right
  have hd2 := (hd).left
  have X3 := Lib.hid (hd2).sep
  have D3 := (hd2).right
  have hd1 := (hd2).left
  have D2 := hd1
  have HD := Lib.hid hd
  clear hd
  have HS2 : Hid (∀ b, Blk L2 b → b < w.heap.size) := fun b hb => (o2.blk hb).2
  have HS3 : Hid (∀ b, Blk L3 b → b < w.heap.size) := fun b hb => (o3.blk hb).2
  have HS4 : Hid (∀ b, Blk L4 b → b < w.heap.size) := fun b hb => (o4.blk hb).2
  have HI2 : Hid (∀ b, Blk L2 b → Blk (L2 ++ L3 ++ L4) b) := fun b hbk => (blk_append.2 (.inl (blk_append.2 (.inl hbk))))
  have HI3 : Hid (∀ b, Blk L3 b → Blk (L2 ++ L3 ++ L4) b) := fun b hbk => (blk_append.2 (.inl (blk_append.2 (.inr hbk))))
  have HI4 : Hid (∀ b, Blk L4 b → Blk (L2 ++ L3 ++ L4) b) := fun b hbk => (blk_append.2 (.inr hbk))
  have hB0 : Below w.heap.size w (w.alloc (.cells #[.int .i64 x.inputs, .int .i64 x.registers, .slice p2 x.tables.length c2, .slice p3 x.code.length c3, .slice p4 x.outputs.length c4] 31)) := (Below.refl _ _).alloc (Nat.le_refl _) _
  have hO0 := Off.of_below (Blk (L2 ++ L3 ++ L4)) hB0
  have ba0 := Box.new w [.int .i64 x.inputs, .int .i64 x.registers, .slice p2 x.tables.length c2, .slice p3 x.code.length c3, .slice p4 x.outputs.length c4] 31
  replace o2 := o2.keeps fun k _ hk => hB0.block k hk
  replace o3 := o3.keeps fun k _ hk => hB0.block k hk
  replace o4 := o4.keeps fun k _ hk => hB0.block k hk
  go_enter Try.func13, Try.ntmps13
  go_wp2_with fail
  refine (markII_v _ _ o2 D2 (by omega) (by omega)).mono ?_
  rintro e F1 ⟨rfl, n2, f1⟩
  replace o3 := o3.offBlk o2.ints (fun b hbk hbk' => X3.out b hbk' hbk) f1
  replace o4 := o4.offBlk o2.ints (fun b hbk hbk' => X4.out b (blk_append.2 (.inl hbk')) hbk) f1
  replace o2 := n2
  have hO1 := hO0.trans (f1.mono HI2.out)
  have ba1 := ba0.keep (f1.block _ ba0.lt (fun hb => by have := HS2.out _ hb; omega))
  have z1 := ba1.cell 3 rfl
  go_wp2_with fail
  refine (markInstrS_v _ _ o3 D3 (by omega) (by omega)).mono ?_
  rintro e F2 ⟨rfl, n3, f2⟩
  replace o2 := o2.offBlk o3.ints (fun b hbk hbk' => X3.out b hbk hbk') f2
  replace o4 := o4.offBlk o3.ints (fun b hbk hbk' => X4.out b (blk_append.2 (.inr hbk')) hbk) f2
  replace o3 := n3
  have hO2 := hO1.trans (f2.mono HI3.out)
  have ba2 := ba1.keep (f2.block _ ba1.lt (fun hb => by have := HS3.out _ hb; omega))
  have z2 := ba2.cell 4 rfl
  go_wp2_with fail
  refine (markI_v _ _ o4 D4 (by omega) (by omega)).mono ?_
  rintro e F3 ⟨rfl, n4, f3⟩
  replace o2 := o2.offBlk o4.ints (fun b hbk hbk' => X4.out b (blk_append.2 (.inl hbk)) hbk') f3
  replace o3 := o3.offBlk o4.ints (fun b hbk hbk' => X4.out b (blk_append.2 (.inr hbk)) hbk') f3
  replace o4 := n4
  have hO3 := hO2.trans (f3.mono HI4.out)
  go_wp2_with fail
  go_ret
  exact ⟨ret_int (by first | rfl | (simp only [Int.natCast_add]; omega)), ⟨_, _, _, L2, L3, L4, rfl, rfl, o2, o3, o4⟩, hO3⟩
theorem OwnProgram.offBlk {B : Nat} {w w' : World} {v : Value} {x : ProgramD} {L M : List Value} (h : OwnProgram B w v x L) (hi : IntBlks w M) (hd : ∀ b, Blk L b → ¬ Blk M b) (hf : Off (Blk M) w w') : OwnProgram B w' v x L := by
  obtain ⟨u2, u3, u4, L2, L3, L4, rfl, rfl, o2, o3, o4⟩ := h
  exact ⟨u2, u3, u4, L2, L3, L4, rfl, rfl, o2.offBlk hi (fun b hbk => hd b (blk_append.2 (.inl (blk_append.2 (.inl hbk))))) hf, o3.offBlk hi (fun b hbk => hd b (blk_append.2 (.inl (blk_append.2 (.inr hbk))))) hf, o4.offBlk hi (fun b hbk => hd b (blk_append.2 (.inr hbk))) hf⟩
end Go.Proofs.Ytabfdnkomhjlkaa
