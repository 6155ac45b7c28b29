/-
  The type State: how it lies in memory; contracts of the laws' helpers for it.
-/
import Derived.Test.YtbjpianbeebmeabTyBase
namespace Go.Proofs.Ytbjpianbeebmeab
open Go.ChangeShapes Go.WideShapes Go.ChangeAt Go.RowKit
set_option linter.unusedVariables false

structure StateD where
  rows : List (List Int)

/-- the value v is a State that reads x -/
def VState (w : World) (v : Value) (x : StateD) : Prop := ∃ p0 c0, v = .agg #[.slice p0 x.rows.length c0] ∧ RdII w p0 x.rows
theorem VState.below {w w' : World} {v : Value} {x : StateD} (h : VState w v x) (hb : Below w.heap.size w w') : VState w' v x := by
  obtain ⟨p0, c0, rfl, r0⟩ := h
  exact ⟨p0, c0, rfl, r0.below hb⟩
/-- a State of the call's own; L: its slices of integers -/
def OwnState (B : Nat) (w : World) (v : Value) (x : StateD) (L : List Value) : Prop := ∃ u0 L0, v = .agg #[u0] ∧ L0 = L ∧ OwnII B w u0 x.rows L0
theorem OwnState.rd {B : Nat} {w : World} {v : Value} {x : StateD} {L : List Value} (h : OwnState B w v x L) : VState w v x := by
  obtain ⟨u0, L0, rfl, rfl, o0⟩ := h
  obtain ⟨p0, c0, rfl, r0⟩ := OwnII.rdv o0
  exact ⟨p0, c0, rfl, r0⟩
theorem OwnState.mono {B B' : Nat} {w : World} {v : Value} {x : StateD} {L : List Value} (h : OwnState B w v x L) (hB : B' ≤ B) : OwnState B' w v x L := by
  obtain ⟨u0, L0, rfl, rfl, o0⟩ := h
  exact ⟨u0, L0, rfl, rfl, o0.mono hB⟩
theorem OwnState.keeps {B : Nat} {w w' : World} {v : Value} {x : StateD} {L : List Value} (h : OwnState B w v x L) (hk : ∀ k, B ≤ k → k < w.heap.size → w'.heap[k]? = w.heap[k]?) : OwnState B w' v x L := by
  obtain ⟨u0, L0, rfl, rfl, o0⟩ := h
  exact ⟨u0, L0, rfl, rfl, o0.keeps hk⟩
theorem OwnState.below {B : Nat} {w w' : World} {v : Value} {x : StateD} {L : List Value} (h : OwnState B w v x L) (hb : Below w.heap.size w w') : OwnState B w' v x L := h.keeps fun k _ hk => hb.block k hk
theorem OwnState.blk {B : Nat} {w : World} {v : Value} {x : StateD} {L : List Value} (h : OwnState B w v x L) {b : Nat} (hb : Blk L b) : B ≤ b ∧ b < w.heap.size := by
  obtain ⟨u0, L0, rfl, rfl, o0⟩ := h
  obtain ⟨u, hu, hb⟩ := hb
  exact o0.blk ⟨u, hu, hb⟩
theorem OwnState.ints {B : Nat} {w : World} {v : Value} {x : StateD} {L : List Value} (h : OwnState B w v x L) : IntBlks w L := by
  obtain ⟨u0, L0, rfl, rfl, o0⟩ := h
  exact o0.ints
def wtState (x : StateD) : Nat := wtII x.rows
def cntState (x : StateD) : Nat := cntII x.rows
theorem cntState_le (x : StateD) : cntState x ≤ wtState x := by
  have e0 := cntII_le x.rows
  unfold cntState wtState; omega
def markState (m : Int) (x : StateD) : StateD := { x with rows := markII (m) x.rows }
section
variable {H : Type} {enc : TypeId × Value → H} {W : World}
set_option maxRecDepth 100000 in
theorem open_State {r : Reach} {b0 : Nat} {v : Value} {d : DataW H} {ps : List MemPlace} (hval : Value.okWide Try.prog W r b0 28 v) (h : DataW.Trod enc Try.prog W 0 (fun _ => true) true 28 v d ps) : ∃ x, VState W v x := by
  obtain ⟨l, rfl, hl, hf⟩ := open_fields Try.underlying28 (by kernel_rfl) (by kernel_rfl) hval h
  obtain ⟨a0, n0, y0, e0, t0⟩ := hf 0 _ rfl
  match l, hl with
  | [g0], _ =>
    simp only [List.getElem?_cons_zero, Option.some.injEq] at e0
    subst e0
    obtain ⟨p0, c0, m0, h0, r0, -⟩ := rdII_trod Try.underlying22 Try.underlying24 Try.underlying2 (by kernel_rfl) (by kernel_rfl) t0
    simp only [List.cons.injEq, and_true] at h0
    subst h0
    exact ⟨⟨m0⟩, p0, c0, rfl, r0⟩
end
set_option maxHeartbeats 1600000 in
theorem szState_v {v : Value} {x : StateD} (left : Int) (w : World) (h : VState w v x) (h0 : 0 ≤ left) (h1 : left ≤ 1048576) :
    Calls Try.prog 5 #[v, .int .i64 left] w fun e w' => e = .returned (.int .i64 (szF left (wtState x))) ∧ Below w.heap.size w w' := by
  obtain ⟨p0, c0, rfl, r0⟩ := h
  have hB0 : Below w.heap.size w (w.alloc (.cells #[.slice p0 x.rows.length c0] 28)) := (Below.refl _ _).alloc (Nat.le_refl _) _
  have ba0 := Box.new w [.slice p0 x.rows.length c0] 28
  go_enter Try.func5, Try.ntmps5
  go_wp2_with fail
  refine (szII_v _ _ ⟨p0, c0, rfl, r0.below hB0⟩ h0 h1).mono ?_
  rintro e w1 ⟨rfl, hb1⟩
  have hB1 := hB0.trans (hb1.mono hB0.size)
  by_cases k1 : szF left (wtII x.rows) < 0
  · have s1 := szF_neg k1 (by omega)
    have S1 := Lib.hid s1
    have T1 : Hid (szF left (wtState x) = -1) := by unfold wtState; exact szF_lt (by omega)
    clear s1
    go_wp2_with fail
    go_ret
    exact ⟨ret_int (by rw [T1.out]), hB1⟩
  · have s1 := szF_pos k1
    have l1 : 0 ≤ szF left (wtII x.rows) := by omega
    have g1 : szF left (wtII x.rows) ≤ 1048576 := by omega
    generalize hz1 : szF left (wtII x.rows) = b1 at *
    obtain ⟨s1a, s1b⟩ := s1
    have E1 := Lib.hid s1a
    have e1a : b1 ≤ left - wtII x.rows := by omega
    have e1b : left - wtII x.rows ≤ b1 := by omega
    clear s1a hz1
    go_wp2_with fail
    go_ret
    exact ⟨ret_int (by rw [szF_ge (by unfold wtState; omega)]; unfold wtState; omega), hB1⟩
set_option maxHeartbeats 3200000 in
theorem toState_v {v : Value} {x : StateD} (w : World) (h : VState w v x) (hn : wtState x ≤ 1048576) :
    Calls Try.prog 8 #[v] w fun e w' => ∃ u L, e = .returned u ∧ OwnState w.heap.size w' u x L ∧ Dis L ∧ Below w.heap.size w w' := by
  obtain ⟨p0, c0, rfl, r0⟩ := h
  unfold wtState at hn
  go_enter Try.func8, Try.ntmps8
  go_wp2_with fail
  obtain ⟨E0, hE0⟩ : ∃ E, E = ((w.alloc (.cells #[.slice p0 x.rows.length c0] 28)).alloc (.cells #[.slice none 0 0] 37)).alloc (.cells #[.slice none 0 0] 37) := ⟨_, rfl⟩
  have hB0 : Below w.heap.size w E0 := by rw [hE0]; exact (((Below.refl _ _).alloc (Nat.le_refl _) _).alloc (by simp) _).alloc (by simp; omega) _
  have hS0 : w.heap.size + 1 + 1 < E0.heap.size := by rw [hE0]; simp
  have ba0 : Box E0 w.heap.size [.slice p0 x.rows.length c0] 28 := by rw [hE0]; exact ((Box.newAt w _ _ rfl).alloc _).alloc _
  have br0 : Box E0 (w.heap.size + 1) [.slice none 0 0] 37 := by rw [hE0]; exact (Box.newAt (w.alloc _) [.slice none 0 0] _ (by simp)).alloc _
  have bo0 : Box E0 (w.heap.size + 1 + 1) [.slice none 0 0] 37 := by rw [hE0]; exact Box.newAt ((w.alloc _).alloc _) [.slice none 0 0] _ (by simp)
  rw [← hE0]
  clear hE0
  refine (toII_v _ ⟨p0, c0, rfl, r0.below hB0⟩ (by omega)).mono ?_
  rintro e F0 ⟨u0, L0, rfl, o0, D0, hb0⟩
  have hG0 := hB0.trans (hb0.mono hB0.size)
  have ba1 := ba0.below hb0
  have br1 := br0.below hb0
  have bo1 := bo0.below hb0
  have hT0 : w.heap.size + 1 + 1 < F0.heap.size := Nat.lt_of_lt_of_le hS0 hb0.size
  have DA0 : Dis L0 := D0
  have HA0 : Hid (∀ b, Blk L0 b → b < F0.heap.size) := fun b hb => (o0.blk hb).2
  replace o0 := o0.mono (B' := w.heap.size + 1 + 1 + 1) (by omega)
  obtain ⟨q0, d0, rfl, -⟩ := OwnII.rdv o0
  have z0_0 := bo1.cell 0 rfl
  have z0_1 := br1.cell 0 rfl
  have z0_2 := br1.frozen 0
  have z0_3 := bo1.frozen 0
  go_wp2_with fail
  refine bodyPost_ret (v := .agg #[.slice q0 x.rows.length d0]) (by simp [results, Try.results8, go_sem, *]) rfl ?_
  refine ⟨_, _, rfl, ⟨_, L0, rfl, rfl, (o0.keeps fun k hk _ => (Below.heap_setCell _ _ _ _ (show k ≠ w.heap.size + 1 by omega)).trans (Below.heap_setCell _ _ _ _ (show k ≠ w.heap.size + 1 + 1 by omega))).mono (by omega)⟩, DA0, ((hG0).setCell (show w.heap.size ≤ w.heap.size + 1 + 1 by omega) _).setCell (show w.heap.size ≤ w.heap.size + 1 by omega) _⟩
set_option maxHeartbeats 1600000 in
theorem eqState_v {v v' : Value} {x : StateD} (w : World) (h : VState w v x) (h' : VState w v' x) :
    Calls Try.prog 13 #[v, v'] w fun e w' => e = .returned (.bool true) ∧ Below w.heap.size w w' := by
  obtain ⟨p0, c0, rfl, r0⟩ := h
  obtain ⟨q0, d0, rfl, s0⟩ := h'
  have hB0 : Below w.heap.size w ((w.alloc (.cells #[.slice p0 x.rows.length c0] 37)).alloc (.cells #[.slice q0 x.rows.length d0] 37)) := ((Below.refl _ _).alloc (Nat.le_refl _) _).alloc (by simp) _
  have ba0 : Box ((w.alloc (.cells #[.slice p0 x.rows.length c0] 37)).alloc (.cells #[.slice q0 x.rows.length d0] 37)) w.heap.size [.slice p0 x.rows.length c0] 37 := (Box.newAt w [.slice p0 x.rows.length c0] _ rfl).alloc _
  have bb0 : Box ((w.alloc (.cells #[.slice p0 x.rows.length c0] 37)).alloc (.cells #[.slice q0 x.rows.length d0] 37)) (w.heap.size + 1) [.slice q0 x.rows.length d0] 37 := Box.newAt (w.alloc _) [.slice q0 x.rows.length d0] _ (by simp)
  go_enter Try.func13, Try.ntmps13
  go_wp2_with fail
  refine (eqII_v _ ⟨p0, c0, rfl, r0.below hB0⟩ ⟨q0, d0, rfl, s0.below hB0⟩).mono ?_
  rintro e F1 ⟨rfl, hb1⟩
  have hB1 := hB0.trans (hb1.mono hB0.size)
  go_wp2_with fail
  go_ret
  exact ⟨rfl, hB1⟩
set_option maxHeartbeats 1600000 in
theorem markState_v {B : Nat} {v : Value} {x : StateD} {L : List Value} (m : Int) (w : World) (h : OwnState B w v x L) (hd : Dis L) (hm0 : 0 ≤ m) (hm : m + cntState x ≤ 1099511627776) :
    Calls Try.prog 15 #[v, .int .i64 m] w fun e w' => e = .returned (.int .i64 (m + cntState x)) ∧ OwnState B w' v (markState m x) L ∧ Off (Blk L) w w' := by
  obtain ⟨u0, L0, rfl, rfl, o0⟩ := h
  unfold cntState at hm ⊢
  obtain ⟨p0, c0, rfl, -⟩ := OwnII.rdv o0
  have D0 := hd
  have HD := Lib.hid hd
  have HS0 : Hid (∀ b, Blk L0 b → b < w.heap.size) := fun b hb => (o0.blk hb).2
  have HI0 : Hid (∀ b, Blk L0 b → Blk (L0) b) := fun b hbk => hbk
  have hB0 : Below w.heap.size w (w.alloc (.cells #[.slice p0 x.rows.length c0] 37)) := (Below.refl _ _).alloc (Nat.le_refl _) _
  have hO0 := Off.of_below (Blk (L0)) hB0
  have ba0 := Box.new w [.slice p0 x.rows.length c0] 37
  replace o0 := o0.keeps fun k _ hk => hB0.block k hk
  go_enter Try.func15, Try.ntmps15
  go_wp2_with fail
  refine (markII_v _ _ o0 D0 (by omega) (by omega)).mono ?_
  rintro e F1 ⟨rfl, n0, f1⟩
  replace o0 := n0
  have hO1 := hO0.trans (f1.mono HI0.out)
  go_wp2_with fail
  go_ret
  exact ⟨ret_int (by first | rfl | (simp only [Int.natCast_add]; omega)), ⟨_, L0, rfl, rfl, o0⟩, hO1⟩
theorem OwnState.offBlk {B : Nat} {w w' : World} {v : Value} {x : StateD} {L M : List Value} (h : OwnState B w v x L) (hi : IntBlks w M) (hd : ∀ b, Blk L b → ¬ Blk M b) (hf : Off (Blk M) w w') : OwnState B w' v x L := by
  obtain ⟨u0, L0, rfl, rfl, o0⟩ := h
  exact ⟨u0, L0, rfl, rfl, o0.offBlk hi (fun b hbk => hd b hbk) hf⟩
end Go.Proofs.Ytbjpianbeebmeab
