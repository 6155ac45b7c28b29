/-
  The type Instr: how it lies in memory; contracts of the laws' helpers for it.
-/
import Derived.Test.YtabfdnkomhjlkaaTyBase
namespace Go.Proofs.Ytabfdnkomhjlkaa
open Go.ChangeShapes Go.WideShapes Go.ChangeAt Go.RowKit
set_option linter.unusedVariables false

structure InstrD where
  kind : Int
  a : Int
  b : Int
  node : Int
  src : List Int
  dest : Int

/-- the value v is a Instr that reads x -/
def VInstr (w : World) (v : Value) (x : InstrD) : Prop := ∃ p4 c4, v = .agg #[.int .i64 x.kind, .int .i64 x.a, .int .i64 x.b, .int .i64 x.node, .slice p4 x.src.length c4, .int .i64 x.dest] ∧ RdI w p4 x.src
theorem VInstr.below {w w' : World} {v : Value} {x : InstrD} (h : VInstr w v x) (hb : Below w.heap.size w w') : VInstr w' v x := by
  obtain ⟨p4, c4, rfl, r4⟩ := h
  exact ⟨p4, c4, rfl, r4.below hb⟩
/-- a Instr of the call's own; L: its slices of integers -/
def OwnInstr (B : Nat) (w : World) (v : Value) (x : InstrD) (L : List Value) : Prop := ∃ u4 L4, v = .agg #[.int .i64 x.kind, .int .i64 x.a, .int .i64 x.b, .int .i64 x.node, u4, .int .i64 x.dest] ∧ L4 = L ∧ OwnLI B w u4 x.src L4
theorem OwnInstr.rd {B : Nat} {w : World} {v : Value} {x : InstrD} {L : List Value} (h : OwnInstr B w v x L) : VInstr w v x := by
  obtain ⟨u4, L4, rfl, rfl, o4⟩ := h
  obtain ⟨p4, c4, rfl, r4⟩ := OwnLI.rd o4
  exact ⟨p4, c4, rfl, r4⟩
theorem OwnInstr.mono {B B' : Nat} {w : World} {v : Value} {x : InstrD} {L : List Value} (h : OwnInstr B w v x L) (hB : B' ≤ B) : OwnInstr B' w v x L := by
  obtain ⟨u4, L4, rfl, rfl, o4⟩ := h
  exact ⟨u4, L4, rfl, rfl, o4.mono hB⟩
theorem OwnInstr.keeps {B : Nat} {w w' : World} {v : Value} {x : InstrD} {L : List Value} (h : OwnInstr B w v x L) (hk : ∀ k, B ≤ k → k < w.heap.size → w'.heap[k]? = w.heap[k]?) : OwnInstr B w' v x L := by
  obtain ⟨u4, L4, rfl, rfl, o4⟩ := h
  exact ⟨u4, L4, rfl, rfl, o4.keeps hk⟩
theorem OwnInstr.below {B : Nat} {w w' : World} {v : Value} {x : InstrD} {L : List Value} (h : OwnInstr B w v x L) (hb : Below w.heap.size w w') : OwnInstr B w' v x L := h.keeps fun k _ hk => hb.block k hk
theorem OwnInstr.blk {B : Nat} {w : World} {v : Value} {x : InstrD} {L : List Value} (h : OwnInstr B w v x L) {b : Nat} (hb : Blk L b) : B ≤ b ∧ b < w.heap.size := by
  obtain ⟨u4, L4, rfl, rfl, o4⟩ := h
  obtain ⟨u, hu, hb⟩ := hb
  exact o4.blk ⟨u, hu, hb⟩
theorem OwnInstr.ints {B : Nat} {w : World} {v : Value} {x : InstrD} {L : List Value} (h : OwnInstr B w v x L) : IntBlks w L := by
  obtain ⟨u4, L4, rfl, rfl, o4⟩ := h
  exact o4.ints
def wtInstr (x : InstrD) : Nat := wtI x.src
def cntInstr (x : InstrD) : Nat := cntI x.src
theorem cntInstr_le (x : InstrD) : cntInstr x ≤ wtInstr x := by
  have e4 := cntI_le x.src
  unfold cntInstr wtInstr; omega
def markInstr (m : Int) (x : InstrD) : InstrD := { x with src := markI (m) x.src }
section
variable {H : Type} {enc : TypeId × Value → H} {W : World}
set_option maxRecDepth 100000 in
theorem open_Instr {r : Reach} {b0 : Nat} {v : Value} {d : DataW H} {ps : List MemPlace} (hval : Value.okWide Try.prog W r b0 58 v) (h : DataW.Trod enc Try.prog W 0 (fun _ => true) true 58 v d ps) : ∃ x, VInstr W v x := by
  obtain ⟨l, rfl, hl, hf⟩ := open_fields Try.underlying58 (by kernel_rfl) (by kernel_rfl) hval h
  obtain ⟨a0, n0, y0, e0, t0⟩ := hf 0 _ rfl
  obtain ⟨a1, n1, y1, e1, t1⟩ := hf 1 _ rfl
  obtain ⟨a2, n2, y2, e2, t2⟩ := hf 2 _ rfl
  obtain ⟨a3, n3, y3, e3, t3⟩ := hf 3 _ rfl
  obtain ⟨a4, n4, y4, e4, t4⟩ := hf 4 _ rfl
  obtain ⟨a5, n5, y5, e5, t5⟩ := hf 5 _ rfl
  match l, hl with
  | [g0, g1, g2, g3, g4, g5], _ =>
    simp only [List.getElem?_cons_zero, List.getElem?_cons_succ, Option.some.injEq] at e0 e1 e2 e3 e4 e5
    subst e0 e1 e2 e3 e4 e5
    obtain ⟨m0, h0, -, -⟩ := DataW.trod_int Try.underlying2 t0
    obtain ⟨m1, h1, -, -⟩ := DataW.trod_int Try.underlying2 t1
    obtain ⟨m2, h2, -, -⟩ := DataW.trod_int Try.underlying2 t2
    obtain ⟨m3, h3, -, -⟩ := DataW.trod_int Try.underlying2 t3
    obtain ⟨p4, c4, m4, h4, r4, -⟩ := rdI_trod Try.underlying24 Try.underlying2 (by kernel_rfl) t4
    obtain ⟨m5, h5, -, -⟩ := DataW.trod_int Try.underlying2 t5
    simp only [List.cons.injEq, and_true] at h0 h1 h2 h3 h4 h5
    subst h0 h1 h2 h3 h4 h5
    exact ⟨⟨m0, m1, m2, m3, m4, m5⟩, p4, c4, rfl, r4⟩
end
set_option maxHeartbeats 1600000 in
theorem szInstr_v {v : Value} {x : InstrD} (left : Int) (w : World) (h : VInstr w v x) (h0 : 0 ≤ left) (h1 : left ≤ 1048576) :
    Calls Try.prog 32 #[v, .int .i64 left] w fun e w' => e = .returned (.int .i64 (szF left (wtInstr x))) ∧ Below w.heap.size w w' := by
  obtain ⟨p4, c4, rfl, r4⟩ := h
  have hB0 : Below w.heap.size w (w.alloc (.cells #[.int .i64 x.kind, .int .i64 x.a, .int .i64 x.b, .int .i64 x.node, .slice p4 x.src.length c4, .int .i64 x.dest] 58)) := (Below.refl _ _).alloc (Nat.le_refl _) _
  have ba0 := Box.new w [.int .i64 x.kind, .int .i64 x.a, .int .i64 x.b, .int .i64 x.node, .slice p4 x.src.length c4, .int .i64 x.dest] 58
  go_enter Try.func32, Try.ntmps32
  go_wp2_with fail
  refine (szI_v _ _ ⟨p4, c4, rfl, r4.below hB0⟩ h0 h1).mono ?_
  rintro e w1 ⟨rfl, hb1⟩
  have hB1 := hB0.trans (hb1.mono hB0.size)
  by_cases k1 : szF left (wtI x.src) < 0
  · have s1 := szF_neg k1 (by omega)
    have S1 := Lib.hid s1
    have T1 : Hid (szF left (wtInstr x) = -1) := by unfold wtInstr; exact szF_lt (by omega)
    clear s1
    go_wp2_with fail
    go_ret
    exact ⟨ret_int (by rw [T1.out]), hB1⟩
  · have s1 := szF_pos k1
    have l1 : 0 ≤ szF left (wtI x.src) := by omega
    have g1 : szF left (wtI x.src) ≤ 1048576 := by omega
    generalize hz1 : szF left (wtI x.src) = b1 at *
    obtain ⟨s1a, s1b⟩ := s1
    have E1 := Lib.hid s1a
    have e1a : b1 ≤ left - wtI x.src := by omega
    have e1b : left - wtI x.src ≤ b1 := by omega
    clear s1a hz1
    go_wp2_with fail
    go_ret
    exact ⟨ret_int (by rw [szF_ge (by unfold wtInstr; omega)]; unfold wtInstr; omega), hB1⟩
set_option maxHeartbeats 3200000 in
theorem toInstr_v {v : Value} {x : InstrD} (w : World) (h : VInstr w v x) (hn : wtInstr x ≤ 1048576) :
    Calls Try.prog 37 #[v] w fun e w' => ∃ u L, e = .returned u ∧ OwnInstr w.heap.size w' u x L ∧ Dis L ∧ Below w.heap.size w w' := by
  obtain ⟨p4, c4, rfl, r4⟩ := h
  unfold wtInstr at hn
  go_enter Try.func37, Try.ntmps37
  go_wp2_with fail
  obtain ⟨E0, hE0⟩ : ∃ E, E = ((w.alloc (.cells #[.int .i64 x.kind, .int .i64 x.a, .int .i64 x.b, .int .i64 x.node, .slice p4 x.src.length c4, .int .i64 x.dest] 58)).alloc (.cells #[.int .i64 0, .int .i64 0, .int .i64 0, .int .i64 0, .slice none 0 0, .int .i64 0] 54)).alloc (.cells #[.int .i64 x.kind, .int .i64 x.a, .int .i64 x.b, .int .i64 x.node, .slice none 0 0, .int .i64 0] 54) := ⟨_, rfl⟩
  have hB0 : Below w.heap.size w E0 := by rw [hE0]; exact (((Below.refl _ _).alloc (Nat.le_refl _) _).alloc (by simp) _).alloc (by simp; omega) _
  have hS0 : w.heap.size + 1 + 1 < E0.heap.size := by rw [hE0]; simp
  have ba0 : Box E0 w.heap.size [.int .i64 x.kind, .int .i64 x.a, .int .i64 x.b, .int .i64 x.node, .slice p4 x.src.length c4, .int .i64 x.dest] 58 := by rw [hE0]; exact ((Box.newAt w _ _ rfl).alloc _).alloc _
  have br0 : Box E0 (w.heap.size + 1) [.int .i64 0, .int .i64 0, .int .i64 0, .int .i64 0, .slice none 0 0, .int .i64 0] 54 := by rw [hE0]; exact (Box.newAt (w.alloc _) [.int .i64 0, .int .i64 0, .int .i64 0, .int .i64 0, .slice none 0 0, .int .i64 0] _ (by simp)).alloc _
  have bo0 : Box E0 (w.heap.size + 1 + 1) [.int .i64 x.kind, .int .i64 x.a, .int .i64 x.b, .int .i64 x.node, .slice none 0 0, .int .i64 0] 54 := by rw [hE0]; exact Box.newAt ((w.alloc _).alloc _) [.int .i64 x.kind, .int .i64 x.a, .int .i64 x.b, .int .i64 x.node, .slice none 0 0, .int .i64 0] _ (by simp)
  rw [← hE0]
  clear hE0
  refine (toI_v _ ⟨p4, c4, rfl, r4.below hB0⟩ (by omega)).mono ?_
  rintro e F4 ⟨u4, L4, rfl, o4, D4, hb4⟩
  have hG4 := hB0.trans (hb4.mono hB0.size)
  have ba1 := ba0.below hb4
  have br1 := br0.below hb4
  have bo1 := bo0.below hb4
  have hT4 : w.heap.size + 1 + 1 < F4.heap.size := Nat.lt_of_lt_of_le hS0 hb4.size
  have DA0 : Dis L4 := D4
  have HA0 : Hid (∀ b, Blk L4 b → b < F4.heap.size) := fun b hb => (o4.blk hb).2
  replace o4 := o4.mono (B' := w.heap.size + 1 + 1 + 1) (by omega)
  obtain ⟨q4, d4, rfl, -⟩ := OwnLI.rd o4
  have z4_0 := ba1.cell 5 rfl
  have z4_1 := bo1.cell 0 rfl
  have z4_2 := br1.cell 0 rfl
  have z4_3 := br1.frozen 0
  have z4_4 := bo1.cell 1 rfl
  have z4_5 := br1.cell 1 rfl
  have z4_6 := br1.frozen 1
  have z4_7 := bo1.cell 2 rfl
  have z4_8 := br1.cell 2 rfl
  have z4_9 := br1.frozen 2
  have z4_10 := bo1.cell 3 rfl
  have z4_11 := br1.cell 3 rfl
  have z4_12 := br1.frozen 3
  have z4_13 := bo1.cell 4 rfl
  have z4_14 := br1.cell 4 rfl
  have z4_15 := br1.frozen 4
  have z4_16 := bo1.cell 5 rfl
  have z4_17 := br1.cell 5 rfl
  have z4_18 := br1.frozen 5
  have z4_19 := bo1.frozen 4
  have z4_20 := bo1.frozen 5
  go_wp2_with fail
  refine bodyPost_ret (v := .agg #[.int .i64 x.kind, .int .i64 x.a, .int .i64 x.b, .int .i64 x.node, .slice q4 x.src.length d4, .int .i64 x.dest]) (by simp [results, Try.results37, go_sem, *]) rfl ?_
  refine ⟨_, _, rfl, ⟨_, L4, rfl, rfl, (o4.keeps fun k hk _ => (Below.heap_setCell _ _ _ _ (show k ≠ w.heap.size + 1 by omega)).trans ((Below.heap_setCell _ _ _ _ (show k ≠ w.heap.size + 1 by omega)).trans ((Below.heap_setCell _ _ _ _ (show k ≠ w.heap.size + 1 by omega)).trans ((Below.heap_setCell _ _ _ _ (show k ≠ w.heap.size + 1 by omega)).trans ((Below.heap_setCell _ _ _ _ (show k ≠ w.heap.size + 1 by omega)).trans ((Below.heap_setCell _ _ _ _ (show k ≠ w.heap.size + 1 by omega)).trans ((Below.heap_setCell _ _ _ _ (show k ≠ w.heap.size + 1 + 1 by omega)).trans (Below.heap_setCell _ _ _ _ (show k ≠ w.heap.size + 1 + 1 by omega))))))))).mono (by omega)⟩, DA0, ((((((((hG4).setCell (show w.heap.size ≤ w.heap.size + 1 + 1 by omega) _).setCell (show w.heap.size ≤ w.heap.size + 1 + 1 by omega) _).setCell (show w.heap.size ≤ w.heap.size + 1 by omega) _).setCell (show w.heap.size ≤ w.heap.size + 1 by omega) _).setCell (show w.heap.size ≤ w.heap.size + 1 by omega) _).setCell (show w.heap.size ≤ w.heap.size + 1 by omega) _).setCell (show w.heap.size ≤ w.heap.size + 1 by omega) _).setCell (show w.heap.size ≤ w.heap.size + 1 by omega) _⟩
set_option maxHeartbeats 1600000 in
theorem eqInstr_v {v v' : Value} {x : InstrD} (w : World) (h : VInstr w v x) (h' : VInstr w v' x) :
    Calls Try.prog 44 #[v, v'] w fun e w' => e = .returned (.bool true) ∧ Below w.heap.size w w' := by
  obtain ⟨p4, c4, rfl, r4⟩ := h
  obtain ⟨q4, d4, rfl, s4⟩ := h'
  have hB0 : Below w.heap.size w ((w.alloc (.cells #[.int .i64 x.kind, .int .i64 x.a, .int .i64 x.b, .int .i64 x.node, .slice p4 x.src.length c4, .int .i64 x.dest] 54)).alloc (.cells #[.int .i64 x.kind, .int .i64 x.a, .int .i64 x.b, .int .i64 x.node, .slice q4 x.src.length d4, .int .i64 x.dest] 54)) := ((Below.refl _ _).alloc (Nat.le_refl _) _).alloc (by simp) _
  have ba0 : Box ((w.alloc (.cells #[.int .i64 x.kind, .int .i64 x.a, .int .i64 x.b, .int .i64 x.node, .slice p4 x.src.length c4, .int .i64 x.dest] 54)).alloc (.cells #[.int .i64 x.kind, .int .i64 x.a, .int .i64 x.b, .int .i64 x.node, .slice q4 x.src.length d4, .int .i64 x.dest] 54)) w.heap.size [.int .i64 x.kind, .int .i64 x.a, .int .i64 x.b, .int .i64 x.node, .slice p4 x.src.length c4, .int .i64 x.dest] 54 := (Box.newAt w [.int .i64 x.kind, .int .i64 x.a, .int .i64 x.b, .int .i64 x.node, .slice p4 x.src.length c4, .int .i64 x.dest] _ rfl).alloc _
  have bb0 : Box ((w.alloc (.cells #[.int .i64 x.kind, .int .i64 x.a, .int .i64 x.b, .int .i64 x.node, .slice p4 x.src.length c4, .int .i64 x.dest] 54)).alloc (.cells #[.int .i64 x.kind, .int .i64 x.a, .int .i64 x.b, .int .i64 x.node, .slice q4 x.src.length d4, .int .i64 x.dest] 54)) (w.heap.size + 1) [.int .i64 x.kind, .int .i64 x.a, .int .i64 x.b, .int .i64 x.node, .slice q4 x.src.length d4, .int .i64 x.dest] 54 := Box.newAt (w.alloc _) [.int .i64 x.kind, .int .i64 x.a, .int .i64 x.b, .int .i64 x.node, .slice q4 x.src.length d4, .int .i64 x.dest] _ (by simp)
  go_enter Try.func44, Try.ntmps44
  go_wp2_with fail
  refine (eqI_v _ ⟨p4, c4, rfl, r4.below hB0⟩ ⟨q4, d4, rfl, s4.below hB0⟩).mono ?_
  rintro e F1 ⟨rfl, hb1⟩
  have hB1 := hB0.trans (hb1.mono hB0.size)
  have ba1 := ba0.below hb1
  have bb1 := bb0.below hb1
  have za5 := ba1.cell 5 rfl
  have zb5 := bb1.cell 5 rfl
  go_wp2_with fail
  go_ret
  exact ⟨rfl, hB1⟩
end Go.Proofs.Ytabfdnkomhjlkaa
