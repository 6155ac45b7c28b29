/-
  The source of choices: bytes that are read, a state behind them. What a draw gives is bounded; of all else of memory nothing turns.
-/
import Derived.Test.YtljlcbichimhaaaGreatDoorOwn
import Derived.Test.YtljlcbichimhaaaGreatDoorScal
import Derived.Deep.DeepCutAuto
import Derived.BigRegion
namespace Go.Proofs.YtljlcbichimhaaaGreatDoor
open Go.ChangeShapes Go.WideShapes Go.ChangeAt Go.RowKit
set_option linter.unusedVariables false

/-- the slice of bytes at p reads xs -/
structure RdB (w : World) (p : Option Addr) (xs : List Int) : Prop where
  cells : xs = [] ∨ ∃ b o, p = some ⟨b, o, none⟩ ∧ ∀ i, (h : i < xs.length) → w.cell? ⟨b, o + i, none⟩ = some (.int .u8 xs[i])
  bytes : ∀ x ∈ xs, 0 ≤ x ∧ x ≤ 255
theorem RdB.pos {w : World} {p : Option Addr} {xs : List Int} (h : RdB w p xs) {k : Nat} (hk : k < xs.length) :
    ∃ b o, p = some ⟨b, o, none⟩ ∧ b < w.heap.size ∧ ∀ i, (h : i < xs.length) → w.cell? ⟨b, o + i, none⟩ = some (.int .u8 xs[i]) := by
  rcases h.cells with rfl | ⟨b, o, e, hc⟩
  · simp at hk
  · exact ⟨b, o, e, World.block_lt_of_cell? w _ (hc k hk), hc⟩
theorem RdB.keep {w w' : World} {p : Option Addr} {xs : List Int} (h : RdB w p xs) (hk : ∀ b o, p = some ⟨b, o, none⟩ → b < w.heap.size → w'.heap[b]? = w.heap[b]?) : RdB w' p xs := by
  refine ⟨?_, h.bytes⟩
  rcases h.cells with rfl | ⟨b, o, e, hc⟩
  · exact .inl rfl
  · by_cases h0 : xs = []
    · exact .inl h0
    · have hpos : 0 < xs.length := List.length_pos_iff.2 h0
      have hb := World.block_lt_of_cell? w _ (hc 0 hpos)
      exact .inr ⟨b, o, e, fun i hi => (World.cell?_of_block (w := w) (a := ⟨b, o + i, none⟩) (hk b o e hb)).trans (hc i hi)⟩
theorem RdB.below {w w' : World} {p : Option Addr} {xs : List Int} (h : RdB w p xs) (hb : Below w.heap.size w w') : RdB w' p xs := h.keep fun b _ _ hlt => hb.block b hlt

section
variable {H : Type} {enc : TypeId × Value → H} {P : Program} {W : World}
/-- the value v is a slice of bytes that reads xs -/
def VB (w : World) (v : Value) (xs : List Int) : Prop := ∃ p c, v = .slice p xs.length c ∧ RdB w p xs
theorem VB.below {w w' : World} {v : Value} {xs : List Int} (h : VB w v xs) (hb : Below w.heap.size w w') : VB w' v xs := by
  obtain ⟨p, c, rfl, hr⟩ := h
  exact ⟨p, c, rfl, hr.below hb⟩
theorem rdB_trod {t e : TypeId} {fuel : Nat} {cs : List Value} {x : DataW H × List MemPlace} (ht : P.underlying t = some (.slice e)) (he : P.underlying e = some (.int .u8)) (hc : P.cellsOf e = 1)
    (h : DataW.trod enc P W 0 (fun _ => true) true fuel t cs = some x) : ∃ p c, ∃ xs : List Int, cs = [.slice p xs.length c] ∧ RdB W p xs ∧ xs.length ≤ maxLen := by
  rcases open_ints ht he hc h with ⟨rfl, rfl⟩ | ⟨a, len, cap, zs, rfl, hb, hl, hm, hz, rfl, hcell, hwf⟩
  · exact ⟨none, 0, [], rfl, ⟨.inl rfl, by simp⟩, by simp [maxLen]⟩
  · simp only [if_true] at hz
    have hlen : (zs.take len).length = len := by rw [List.length_take]; omega
    refine ⟨some a, cap, zs.take len, by rw [hlen], ⟨?_, fun x hx => ?_⟩, by rw [hlen]; omega⟩
    · by_cases h0 : len = 0
      · left; subst h0; simp
      · right
        have h00 := hcell 0 (by omega)
        have hs : a = ⟨a.block, a.off, none⟩ := by
          simp only [Addr.add] at h00
          obtain ⟨b, o, s⟩ := a
          cases s with
          | none => rfl
          | some s => simp [World.cell?] at h00; split at h00 <;> simp at h00
        refine ⟨a.block, a.off, by rw [← hs], fun i hi => ?_⟩
        have := hcell i (by omega)
        rw [hs, Addr.add_lit] at this
        rw [this, List.getElem_take, List.getD_eq_getElem?_getD, List.getElem?_eq_getElem (by omega)]
        rfl
    · have := hwf x (List.mem_of_mem_take hx)
      simpa [Lit.wf, IntKind.min, IntKind.max, IntKind.signed, IntKind.bits] using this
theorem open_VB {r : Reach} {b0 : Nat} {t e : TypeId} {v : Value} {d : DataW H} {ps : List MemPlace} (ht : P.underlying t = some (.slice e)) (he : P.underlying e = some (.int .u8)) (hc : P.cellsOf e = 1)
    (hval : Value.okWide P W r b0 t v) (h : DataW.Trod enc P W 0 (fun _ => true) true t v d ps) : ∃ xs, VB W v xs ∧ xs.length ≤ maxLen := by
  obtain ⟨a, l, c, rfl⟩ := okWide_slice ht hval
  obtain ⟨fuel, h⟩ := h
  obtain ⟨p, c', xs, e1, h1, h2⟩ := rdB_trod ht he hc h
  exact ⟨xs, ⟨p, c', by simpa [Value.cells] using e1, h1⟩, h2⟩
end
/-- a source lies at block g; m bounds how far it has been read -/
def SrcAt (w : World) (g m : Nat) : Prop := ∃ p c k seed, ∃ bs : List Int, w.heap[g]? = some (.cells #[.slice p bs.length c, .int .i64 ((k : Nat) : Int), .int .u64 seed] 65 (0, 0)) ∧ k ≤ m ∧ bs.length ≤ 1048576 ∧ RdB w p bs ∧ (bs = [] ∨ ∀ b o, p = some ⟨b, o, none⟩ → b < g)
theorem SrcAt.lt {w : World} {g m : Nat} (h : SrcAt w g m) : g < w.heap.size := by
  obtain ⟨p, c, k, seed, bs, hb, _⟩ := h
  exact (Array.getElem?_eq_some_iff.1 hb).1
theorem SrcAt.mono {w : World} {g m m' : Nat} (h : SrcAt w g m) (hm : m ≤ m') : SrcAt w g m' := by
  obtain ⟨p, c, k, seed, bs, hb, hk, r⟩ := h
  exact ⟨p, c, k, seed, bs, hb, Nat.le_trans hk hm, r⟩
theorem SrcAt.stay {w w' : World} {g m B : Nat} (h : SrcAt w g m) (hB : g < B) (hk : ∀ k, k < B → k < w.heap.size → w'.heap[k]? = w.heap[k]?) : SrcAt w' g m := by
  have hl := h.lt
  obtain ⟨p, c, k, seed, bs, h1, hk1, h2, h3, h4⟩ := h
  refine ⟨p, c, k, seed, bs, (hk g hB hl).trans h1, hk1, h2, ?_, h4⟩
  rcases h4 with rfl | h4
  · exact ⟨.inl rfl, h3.bytes⟩
  · exact h3.keep fun b o e hb => hk b (by have := h4 b o e; omega) hb
theorem SrcAt.below {w w' : World} {g m : Nat} (h : SrcAt w g m) (hb : Below w.heap.size w w') : SrcAt w' g m := by
  have hl := h.lt
  obtain ⟨p, c, k, seed, bs, h1, hk, h2, h3, h4⟩ := h
  exact ⟨p, c, k, seed, bs, (hb.block g hl).trans h1, hk, h2, h3.below hb, h4⟩
/-- a number was drawn: P holds of it -/
def Draws (w : World) (g m : Nat) (P : Int → Prop) (e : Ending) (w' : World) : Prop := ∃ x, P x ∧ e = .returned (.int .i64 x) ∧ SrcAt w' g m ∧ Off (· = g) w w'
theorem and255 (z : Int) : 0 ≤ bits .and .u64 z 255 ∧ bits .and .u64 z 255 ≤ 255 := by
  have h1 : bits .and .u64 z 255 = ((BitVec.ofInt 64 z &&& BitVec.ofInt 64 255).toNat : Int) % 18446744073709551616 := by
    show IntKind.u64.wrap ((BitVec.ofInt 64 z &&& BitVec.ofInt 64 255).toNat : Int) = _
    simp [IntKind.wrap, IntKind.bits, IntKind.signed]
  have h2 : (BitVec.ofInt 64 255).toNat = 2 ^ 8 - 1 := by rfl
  rw [h1, BitVec.toNat_and, h2, Nat.and_two_pow_sub_one_eq_mod]
  omega
theorem src_after {g m k c : Nat} {p : Option Addr} {bs : List Int} {seed s' : Int} {w : World} (a b' : Nat) (hb : w.heap[g]? = some (.cells #[.slice p bs.length c, .int .i64 ((k : Nat) : Int), .int .u64 seed] 65 (0, 0))) (hk : k ≤ m) (hl : bs.length ≤ 1048576) (hr : RdB w p bs) (hp : bs = [] ∨ ∀ b o, p = some ⟨b, o, none⟩ → b < g) :
    SrcAt ((((w.drewN a).setCell ⟨g, 1, none⟩ (.int .i64 ((k : Int) + 1))).setCell ⟨g, 2, none⟩ (.int .u64 s')).drewN b') g (m + 1) ∧ Off (· = g) w ((((w.drewN a).setCell ⟨g, 1, none⟩ (.int .i64 ((k : Int) + 1))).setCell ⟨g, 2, none⟩ (.int .u64 s')).drewN b') := by
  have h1 := heap_setCell_same (w.drewN a) g 1 _ _ (.int .i64 ((k : Int) + 1)) hb
  have h2 := heap_setCell_same _ g 2 _ _ (.int .u64 s') h1
  have hblk : ∀ j, j ≠ g → ((((w.drewN a).setCell ⟨g, 1, none⟩ (.int .i64 ((k : Int) + 1))).setCell ⟨g, 2, none⟩ (.int .u64 s')).drewN b').heap[j]? = w.heap[j]? := fun j hj =>
    (Below.heap_setCell ((w.drewN a).setCell ⟨g, 1, none⟩ (.int .i64 ((k : Int) + 1))) _ _ _ hj).trans (Below.heap_setCell (w.drewN a) _ _ _ hj)
  refine ⟨⟨p, c, k + 1, s', bs, h2.trans (by simp), by omega, hl, ?_, hp⟩, rfl, rfl, rfl, by simp [World.setCell, World.drewN], fun j _ hj => hblk j hj⟩
  rcases hp with rfl | hp
  · exact ⟨.inl rfl, hr.bytes⟩
  · exact hr.keep fun b o e _ => hblk b (by have := hp b o e; omega)
set_option maxHeartbeats 2000000 in
theorem next_any {g m : Nat} (w : World) (h : SrcAt w g m) (hm : m ≤ 1099511627776) :
    Calls Tryz.prog 67 #[.pointer (some ⟨g, 0, none⟩)] w (Draws w g (m + 1) fun x => 0 ≤ x ∧ x ≤ 255) := by
  obtain ⟨p, c, k, seed, bs, hb, hk, hl, hr, hp⟩ := h
  have z0 : w.cell? ⟨g, 0, none⟩ = _ := cell_of_row w g 0 _ _ _ hb
  have z1 : w.cell? ⟨g, 1, none⟩ = _ := cell_of_row w g 1 _ _ _ hb
  have z2 : w.cell? ⟨g, 2, none⟩ = _ := cell_of_row w g 2 _ _ _ hb
  have f1 := frozen_of_row w g 1 _ _ hb
  have f2 := frozen_of_row w g 2 _ _ hb
  simp only [List.getElem?_toArray, List.getElem?_cons_zero, List.getElem?_cons_succ] at z0 z1 z2
  by_cases hlt : k < bs.length
  · obtain ⟨b, o, rfl, hb1, hc⟩ := hr.pos hlt
    have hck := hc k hlt
    have hby := hr.bytes _ (List.getElem_mem hlt)
    generalize bs[k] = x at hck hby
    have hx0 := hby.1
    have hx1 := hby.2
    clear hc hby
    go_enter Tryz.func67, Tryz.ntmps67
    have hk1 : (k : Int) ≤ 1099511627776 := by omega
    go_wp2_with fail
    go_quiet (fail)
    go_wp2_with fail
    go_quiet (fail)
    go_wp2_with fail
    go_quiet (fail)
    go_wp2_with fail
    go_ret
    obtain ⟨h1, h2⟩ := src_after (s' := _) _ _ hb hk hl hr hp
    exact ⟨x, ⟨hx0, hx1⟩, rfl, h1, h2⟩
  · have hk1 : (k : Int) ≤ 1099511627776 := by omega
    go_enter Tryz.func67, Tryz.ntmps67
    go_wp2_with fail
    go_quiet (fail)
    go_wp2_with fail
    go_quiet (fail)
    go_wp2_with fail
    go_ret
    obtain ⟨h1, h2⟩ := src_after (s' := _) _ _ hb hk hl hr hp
    refine ⟨_, ?_, rfl, h1, h2⟩
    have h3 := and255 (IntKind.u64.wrap (IntKind.u64.wrap (IntKind.u64.wrap (seed * 6364136223846793005)) + 1442695040888963407) / 1099511627776)
    rw [IntWalk.wrap64_in _ (by omega)]
    exact h3
def pickP (n : Int) (x : Int) : Prop := if n ≤ 1 then x = 0 else 0 ≤ x ∧ x < n
theorem pickP_pos {n x : Int} (h : pickP n x) (hn : 1 ≤ n) : 0 ≤ x ∧ x < n := by
  unfold pickP at h
  split at h <;> omega
theorem pickP_nonneg {n x : Int} (h : pickP n x) : 0 ≤ x := by
  unfold pickP at h
  split at h <;> omega
set_option maxHeartbeats 1000000 in
theorem pick_any {g m : Nat} (n : Int) (w : World) (h : SrcAt w g m) (hm : m + 1 ≤ 1099511627776) (hn : n ≤ 1048576) :
    Calls Tryz.prog 44 #[.pointer (some ⟨g, 0, none⟩), .int .i64 n] w (Draws w g (m + 2) (pickP n)) := by
  by_cases h1 : n ≤ 1
  · have hP : Hid (pickP n 0) := by unfold Hid pickP; rw [if_pos h1]
    go_enter Tryz.func44, Tryz.ntmps44
    go_wp2_with fail
    go_ret
    exact ⟨0, hP.out, rfl, h.mono (by omega), Off.refl _ _⟩
  · have hP : Hid (∀ y : Int, 0 ≤ y → pickP n (y % n)) := by
      intro y hy
      unfold pickP
      rw [if_neg h1]
      exact ⟨Int.emod_nonneg _ (by omega), Int.emod_lt_of_pos _ (by omega)⟩
    by_cases h2 : n ≤ 200
    · go_enter Tryz.func44, Tryz.ntmps44
      go_wp2_with fail
      refine (next_any w h (by omega)).mono ?_
      rintro e w1 ⟨x, ⟨hx0, hx1⟩, rfl, hs1, ho1⟩
      go_wp2_with fail
      go_ret
      exact ⟨_, hP.out x hx0, rfl, hs1.mono (by omega), ho1⟩
    · go_enter Tryz.func44, Tryz.ntmps44
      go_wp2_with fail
      refine (next_any w h (by omega)).mono ?_
      rintro e w1 ⟨x, ⟨hx0, hx1⟩, rfl, hs1, ho1⟩
      go_wp2_with fail
      refine (next_any w1 hs1 (by omega)).mono ?_
      rintro e w2 ⟨y, ⟨hy0, hy1⟩, rfl, hs2, ho2⟩
      go_wp2_with fail
      go_ret
      exact ⟨_, hP.out (x * 256 + y) (by omega), rfl, hs2.mono (by omega), ho1.trans ho2⟩
def DrawsB (w : World) (g m : Nat) (e : Ending) (w' : World) : Prop := ∃ b, e = .returned (.bool b) ∧ SrcAt w' g m ∧ Off (· = g) w w'
theorem one_any {g m : Nat} (n : Int) (w : World) (h : SrcAt w g m) (hm : m + 1 ≤ 1099511627776) (hn : n ≤ 1048576) :
    Calls Tryz.prog 64 #[.pointer (some ⟨g, 0, none⟩), .int .i64 n] w (DrawsB w g (m + 2)) := by
  go_enter Tryz.func64, Tryz.ntmps64
  go_wp2_with fail
  refine (pick_any n w h hm hn).mono ?_
  rintro e w1 ⟨x, hx, rfl, hs1, ho1⟩
  go_wp2_with fail
  go_ret
  exact ⟨_, rfl, hs1, ho1⟩
set_option maxHeartbeats 1000000 in
theorem among_any {g m : Nat} {p : Option Addr} {c : Nat} {xs : List Int} (w : World) (h : SrcAt w g m) (hr : RdI w p xs) (hp : ∀ b o, p = some ⟨b, o, none⟩ → b ≠ g) (hl0 : 0 < xs.length) (hl : xs.length ≤ 1024) (hm : m + 1 ≤ 1099511627776) :
    Calls Tryz.prog 66 #[.pointer (some ⟨g, 0, none⟩), .slice p xs.length c] w (Draws w g (m + 2) (fun x => x ∈ xs)) := by
  go_enter Tryz.func66, Tryz.ntmps66
  go_wp2_with fail
  refine (pick_any _ w h hm (by omega)).mono ?_
  rintro e w1 ⟨x, hx, rfl, hs1, ho1⟩
  have hx' := pickP_pos hx (by omega)
  obtain ⟨k, rfl⟩ : ∃ k : Nat, x = k := ⟨x.toNat, by omega⟩
  have hk : k < xs.length := by omega
  have hr1 : RdI w1 p xs := hr.keep fun b o e hb => ho1.block b hb (hp b o e)
  obtain ⟨b, o, rfl, hb, hc⟩ := hr1.pos hk
  have hck := hc k hk
  have hmem : Hid (xs[k] ∈ xs) := List.getElem_mem hk
  generalize xs[k] = y at hck hmem
  clear hc hx hx'
  go_wp2_with fail
  go_ret
  exact ⟨_, hmem.out, rfl, hs1, ho1⟩
theorem l00From_any {p : Option Addr} {c : Nat} {bs : List Int} (w : World) (hr : RdB w p bs) (hl : bs.length ≤ 1048576) :
    Calls Tryz.prog 19 #[.slice p bs.length c] w fun e w' => e = .returned (.pointer (some ⟨w.heap.size, 0, none⟩)) ∧ SrcAt w' w.heap.size 0 ∧ Below w.heap.size w w' := by
  have hb : Below w.heap.size w (w.alloc (.cells #[.slice p bs.length c, .int .i64 0, .int .u64 0] 65)) := (Below.refl _ _).alloc (Nat.le_refl _) _
  have hs : SrcAt (w.alloc (.cells #[.slice p bs.length c, .int .i64 0, .int .u64 0] 65)) w.heap.size 0 :=
    ⟨p, c, 0, 0, bs, heap_alloc_new w _, Nat.le_refl _, hl, hr.below hb, by
      rcases hr.cells with h | ⟨b, o, e, hc⟩
      · exact .inl h
      · by_cases h0 : bs = []
        · exact .inl h0
        · right
          intro b' o' e'
          have hlt := World.block_lt_of_cell? w _ (hc 0 (List.length_pos_iff.2 h0))
          rw [e] at e'
          simp only [Option.some.injEq, Addr.mk.injEq, and_true] at e'
          have : b < w.heap.size := hlt
          omega⟩
  go_enter Tryz.func19, Tryz.ntmps19
  go_wp2_with fail
  go_ret
  exact ⟨rfl, hs, hb⟩
end Go.Proofs.YtljlcbichimhaaaGreatDoor
