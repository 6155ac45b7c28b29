/-
  Readings of memory: a slice of integers, a slice of such slices; what the call itself made.
-/
import Derived.Test.YtljlcbichimhaaaGreatDoorBase
import Derived.Deep.Slices
import Derived.Deep.Matrix
import Derived.Deep.Fields
import Derived.Deep.OwnRows
import Derived.Deep.QuietTactic
import Derived.BigQuiet
namespace Go.Proofs.YtljlcbichimhaaaGreatDoor
open Go.ChangeShapes Go.WideShapes Go.ChangeAt Go.RowKit
set_option linter.unusedVariables false

def I64 (x : Int) : Prop := -9223372036854775808 ≤ x ∧ x ≤ 9223372036854775807
def AllI (xs : List Int) : Prop := ∀ x ∈ xs, I64 x
theorem I64.of_wf {x : Int} (h : (Lit.int .i64 x).wf = true) : I64 x := by
  simpa [Lit.wf, IntKind.min, IntKind.max, IntKind.signed, IntKind.bits, I64] using h

/-- the slice at p reads xs -/
structure RdI (w : World) (p : Option Addr) (xs : List Int) : Prop where
  len : xs.length ≤ maxLen
  cells : xs = [] ∨ ∃ b o, p = some ⟨b, o, none⟩ ∧ ∀ i, (h : i < xs.length) → w.cell? ⟨b, o + i, none⟩ = some (.int .i64 xs[i])

theorem RdI.pos {w : World} {p : Option Addr} {xs : List Int} (h : RdI w p xs) {k : Nat} (hk : k < xs.length) :
    ∃ b o, p = some ⟨b, o, none⟩ ∧ b < w.heap.size ∧ ∀ i, (h : i < xs.length) → w.cell? ⟨b, o + i, none⟩ = some (.int .i64 xs[i]) := by
  rcases h.cells with rfl | ⟨b, o, e, hc⟩
  · simp at hk
  · exact ⟨b, o, e, World.block_lt_of_cell? w _ (hc k hk), hc⟩

theorem RdI.nil (w : World) (p : Option Addr) : RdI w p [] := ⟨by simp [maxLen], .inl rfl⟩

theorem RdI.keep {w w' : World} {p : Option Addr} {xs : List Int} (h : RdI w p xs) (hk : ∀ b o, p = some ⟨b, o, none⟩ → b < w.heap.size → w'.heap[b]? = w.heap[b]?) : RdI w' p xs := by
  refine ⟨h.len, ?_⟩
  rcases h.cells with rfl | ⟨b, o, e, hc⟩
  · exact .inl rfl
  · by_cases h0 : xs = []
    · exact .inl h0
    · have hpos : 0 < xs.length := List.length_pos_iff.2 h0
      have hb := World.block_lt_of_cell? w _ (hc 0 hpos)
      exact .inr ⟨b, o, e, fun i hi => (World.cell?_of_block (w := w) (a := ⟨b, o + i, none⟩) (hk b o e hb)).trans (hc i hi)⟩

theorem RdI.below {w w' : World} {p : Option Addr} {xs : List Int} (h : RdI w p xs) (hb : Below w.heap.size w w') : RdI w' p xs :=
  h.keep fun b o _ hlt => hb.block b hlt

/-- the slice of slices at p reads xss -/
structure RdII (w : World) (p : Option Addr) (xss : List (List Int)) : Prop where
  len : xss.length ≤ maxLen
  cells : xss = [] ∨ ∃ b o, p = some ⟨b, o, none⟩ ∧ ∀ i, (h : i < xss.length) → ∃ q c, w.cell? ⟨b, o + i, none⟩ = some (.slice q xss[i].length c) ∧ RdI w q xss[i]
  caps : ∀ b o i q l c, p = some ⟨b, o, none⟩ → i < xss.length → w.cell? ⟨b, o + i, none⟩ = some (.slice q l c) → l ≤ c

theorem RdII.pos {w : World} {p : Option Addr} {xss : List (List Int)} (h : RdII w p xss) {k : Nat} (hk : k < xss.length) :
    ∃ b o, p = some ⟨b, o, none⟩ ∧ b < w.heap.size ∧ ∀ i, (h : i < xss.length) → ∃ q c, w.cell? ⟨b, o + i, none⟩ = some (.slice q xss[i].length c) ∧ RdI w q xss[i] := by
  rcases h.cells with rfl | ⟨b, o, e, hc⟩
  · simp at hk
  · obtain ⟨q, c, hq, _⟩ := hc k hk
    exact ⟨b, o, e, World.block_lt_of_cell? w _ hq, hc⟩

theorem RdII.nil (w : World) (p : Option Addr) : RdII w p [] := ⟨by simp [maxLen], .inl rfl, fun _ _ i _ _ _ _ h => by simp at h⟩

theorem RdII.keep {w w' : World} {p : Option Addr} {xss : List (List Int)} (h : RdII w p xss) (hk : ∀ b, b < w.heap.size → w'.heap[b]? = w.heap[b]?) : RdII w' p xss := by
  refine ⟨h.len, ?_, fun b o i q l c hp hi hc => ?_⟩
  rotate_left
  · obtain ⟨b', o', e', _, hc'⟩ := h.pos hi
    rw [hp] at e'
    simp only [Option.some.injEq, Addr.mk.injEq, and_true] at e'
    obtain ⟨rfl, rfl⟩ := e'
    obtain ⟨q', c', hq', _⟩ := hc' i hi
    refine h.caps b o i q l c hp hi ?_
    rw [← hc]
    exact (World.cell?_of_block (w := w) (a := ⟨b, o + i, none⟩) (hk b (World.block_lt_of_cell? w _ hq'))).symm
  rcases h.cells with rfl | ⟨b, o, e, hc⟩
  · exact .inl rfl
  · refine .inr ⟨b, o, e, fun i hi => ?_⟩
    obtain ⟨q, c, hq, hr⟩ := hc i hi
    exact ⟨q, c, (World.cell?_of_block (w := w) (a := ⟨b, o + i, none⟩) (hk b (World.block_lt_of_cell? w _ hq))).trans hq, hr.keep fun b _ _ hlt => hk b hlt⟩

theorem RdII.below {w w' : World} {p : Option Addr} {xss : List (List Int)} (h : RdII w p xss) (hb : Below w.heap.size w w') : RdII w' p xss :=
  h.keep fun b hlt => hb.block b hlt

theorem RdI.drewN {w : World} {p : Option Addr} {xs : List Int} (h : RdI w p xs) (n : Nat) : RdI (w.drewN n) p xs := ⟨h.len, h.cells⟩
theorem RdII.drewN {w : World} {p : Option Addr} {xss : List (List Int)} (h : RdII w p xss) (n : Nat) : RdII (w.drewN n) p xss := h.keep fun _ _ => rfl
theorem below_drewN {B : Nat} {a w : World} (h : Below B a w) (n : Nat) : Below B a (w.drewN n) := ⟨h.os, h.tape, h.output, h.size, h.block⟩

/-- draws alone lie between the two worlds -/
def Drawn (w w' : World) : Prop := ∃ n, w' = w.drewN n
theorem Drawn.refl (w : World) : Drawn w w := ⟨0, rfl⟩
theorem Drawn.on {w w' : World} (h : Drawn w w') (m : Nat) : Drawn w (w'.drewN m) := by
  obtain ⟨n, rfl⟩ := h
  exact ⟨n + m, by rw [World.drewN_drewN]⟩
theorem Drawn.trans {w w' w'' : World} (h : Drawn w w') (h' : Drawn w' w'') : Drawn w w'' := by
  obtain ⟨m, rfl⟩ := h'
  exact h.on m
theorem Drawn.rdI {w w' : World} (h : Drawn w w') {p : Option Addr} {xs : List Int} (hr : RdI w p xs) : RdI w' p xs := by
  obtain ⟨n, rfl⟩ := h
  exact hr.drewN n
theorem Drawn.rdII {w w' : World} (h : Drawn w w') {p : Option Addr} {xs : List (List Int)} (hr : RdII w p xs) : RdII w' p xs := by
  obtain ⟨n, rfl⟩ := h
  exact hr.drewN n
theorem Drawn.below {w w' : World} (h : Drawn w w') (B : Nat) : Below B w w' := by
  obtain ⟨n, rfl⟩ := h
  exact below_drewN (Below.refl B w) n

/-- outside the blocks of S the world is as it was -/
structure Off (S : Nat → Prop) (w w' : World) : Prop where
  os : w'.os = w.os
  tape : w'.tape = w.tape
  output : w'.output = w.output
  size : w.heap.size ≤ w'.heap.size
  block : ∀ k, k < w.heap.size → ¬ S k → w'.heap[k]? = w.heap[k]?
theorem Off.refl (S : Nat → Prop) (w : World) : Off S w w := ⟨rfl, rfl, rfl, Nat.le_refl _, fun _ _ _ => rfl⟩
theorem Off.trans {S : Nat → Prop} {a b c : World} (h : Off S a b) (k : Off S b c) : Off S a c :=
  ⟨k.os.trans h.os, k.tape.trans h.tape, k.output.trans h.output, Nat.le_trans h.size k.size, fun i hi hs => (k.block i (Nat.lt_of_lt_of_le hi h.size) hs).trans (h.block i hi hs)⟩
theorem Off.mono {S S' : Nat → Prop} {a b : World} (h : Off S a b) (hS : ∀ k, S k → S' k) : Off S' a b :=
  ⟨h.os, h.tape, h.output, h.size, fun i hi hs => h.block i hi fun hk => hs (hS i hk)⟩
theorem Off.drewN {S : Nat → Prop} {a b : World} (h : Off S a b) (n : Nat) : Off S a (b.drewN n) := ⟨h.os, h.tape, h.output, h.size, h.block⟩
theorem Off.below {S : Nat → Prop} {a b : World} {B : Nat} (h : Off S a b) (hS : ∀ k, S k → B ≤ k) (hB : B ≤ a.heap.size) : Below B a b :=
  ⟨h.os, h.tape, h.output, h.size, fun k hk => h.block k (by omega) fun hs => by have := hS k hs; omega⟩
theorem Off.of_below {a b : World} (S : Nat → Prop) (h : Below a.heap.size a b) : Off S a b := ⟨h.os, h.tape, h.output, h.size, fun k hk _ => h.block k hk⟩

section
variable {H : Type} {enc : TypeId × Value → H} {P : Program} {W : World}

theorem rdI_trod {t e : TypeId} {fuel : Nat} {cs : List Value} {x : DataW H × List MemPlace} (ht : P.underlying t = some (.slice e)) (he : P.underlying e = some (.int .i64)) (hc : P.cellsOf e = 1)
    (h : DataW.trod enc P W 0 (fun _ => true) true fuel t cs = some x) : ∃ p c xs, cs = [.slice p xs.length c] ∧ RdI W p xs ∧ AllI xs ∧ xs.length ≤ c := by
  rcases open_ints ht he hc h with ⟨rfl, rfl⟩ | ⟨a, len, cap, zs, rfl, hb, hl, hm, hz, rfl, hcell, hwf⟩
  · exact ⟨none, 0, [], rfl, RdI.nil _ _, (by intro x hx; cases hx), Nat.le_refl _⟩
  · simp only [if_true] at hz
    have hlen : (zs.take len).length = len := by rw [List.length_take]; omega
    refine ⟨some a, cap, zs.take len, by rw [hlen], ⟨by omega, ?_⟩, fun x hx => I64.of_wf (hwf x (List.mem_of_mem_take hx)), by omega⟩
    by_cases h0 : len = 0
    · left; subst h0; simp
    · right
      have h00 := hcell 0 (by omega)
      have hs : a = ⟨a.block, a.off, none⟩ := by
        simp only [Addr.add, if_true] at h00
        obtain ⟨b, o, s⟩ := a
        cases s with
        | none => rfl
        | some s => simp [World.cell?] at h00; split at h00 <;> simp at h00
      refine ⟨a.block, a.off, by rw [← hs], fun i hi => ?_⟩
      have := hcell i (by omega)
      rw [hs, Addr.add_lit] at this
      rw [this, List.getElem_take, List.getD_eq_getElem?_getD, List.getElem?_eq_getElem (by omega)]
      rfl

theorem rdII_trod {t e q : TypeId} {fuel : Nat} {cs : List Value} {x : DataW H × List MemPlace} (ht : P.underlying t = some (.slice e)) (he : P.underlying e = some (.slice q)) (hq : P.underlying q = some (.int .i64))
    (ce : P.cellsOf e = 1) (cq : P.cellsOf q = 1) (h : DataW.trod enc P W 0 (fun _ => true) true fuel t cs = some x) : ∃ p c xss, cs = [.slice p (List.length xss) c] ∧ RdII W p xss ∧ ∀ xs ∈ xss, AllI xs := by
  rcases Deep.open_slice1 ht ce h with ⟨rfl, rfl⟩ | ⟨a, len, cap, m, n, V, D, Pl, rfl, hb, hl, hm, hmm, rfl, hx⟩
  · exact ⟨none, 0, [], rfl, RdII.nil _ _, by intro x hx; cases hx⟩
  · simp only [if_true] at hmm
    subst hmm
    have each : ∀ i, i < m → ∃ xs, ∃ p c, V i = .slice p (List.length xs) c ∧ RdI W p xs ∧ AllI xs ∧ List.length xs ≤ c := by
      intro i hi
      obtain ⟨p, c, xs, e1, h1, h2, h3⟩ := rdI_trod he hq cq (hx i hi).2
      exact ⟨xs, p, c, by simpa using e1, h1, h2, h3⟩
    obtain ⟨F, hF⟩ := Deep.choose_lt each
    refine ⟨some a, m, (List.range len).map F, by simp, ⟨by simp; omega, ?_, fun b o i q l c hp hi hc => ?_⟩, ?_⟩
    rotate_left
    · simp only [List.length_map, List.length_range] at hi
      obtain ⟨p, c', e1, h1, h2, h3⟩ := hF i (by omega)
      have := (hx i (by omega)).1
      simp only [Option.some.injEq] at hp
      subst hp
      rw [Addr.add_lit, hc, e1] at this
      simp only [Option.some.injEq, Value.slice.injEq] at this
      obtain ⟨-, rfl, rfl⟩ := this
      exact h3
    rotate_left
    · by_cases h0 : len = 0
      · left; subst h0; simp
      · right
        have h00 := (hx 0 (by omega)).1
        have hs : a = ⟨a.block, a.off, none⟩ := by
          simp only [Addr.add, if_true] at h00
          obtain ⟨b, o, s⟩ := a
          cases s with
          | none => rfl
          | some s => simp [World.cell?] at h00; split at h00 <;> simp at h00
        refine ⟨a.block, a.off, by rw [← hs], fun i hi => ?_⟩
        simp only [List.length_map, List.length_range] at hi
        obtain ⟨p, c, e1, h1, h2, -⟩ := hF i (by omega)
        have := (hx i (by omega)).1
        rw [hs, Addr.add_lit, e1] at this
        exact ⟨p, c, by simpa using this, by simpa using h1⟩
    · intro xs hxs
      simp only [List.mem_map, List.mem_range] at hxs
      obtain ⟨i, hi, rfl⟩ := hxs
      obtain ⟨p, c, e1, h1, h2, -⟩ := hF i (by omega)
      exact h2

theorem open_rdI {r : Reach} {b0 : Nat} {t e : TypeId} {v : Value} {d : DataW H} {ps : List MemPlace} (ht : P.underlying t = some (.slice e)) (he : P.underlying e = some (.int .i64)) (hc : P.cellsOf e = 1)
    (hval : Value.okWide P W r b0 t v) (h : DataW.Trod enc P W 0 (fun _ => true) true t v d ps) : ∃ p c xs, v = .slice p (List.length xs) c ∧ RdI W p xs ∧ AllI xs := by
  obtain ⟨a, l, c, rfl⟩ := okWide_slice ht hval
  obtain ⟨fuel, h⟩ := h
  obtain ⟨p, c', xs, e1, h1, h2, -⟩ := rdI_trod ht he hc h
  exact ⟨p, c', xs, by simpa [Value.cells] using e1, h1, h2⟩

theorem open_rdII {r : Reach} {b0 : Nat} {t e q : TypeId} {v : Value} {d : DataW H} {ps : List MemPlace} (ht : P.underlying t = some (.slice e)) (he : P.underlying e = some (.slice q)) (hq : P.underlying q = some (.int .i64))
    (ce : P.cellsOf e = 1) (cq : P.cellsOf q = 1) (hval : Value.okWide P W r b0 t v) (h : DataW.Trod enc P W 0 (fun _ => true) true t v d ps) :
    ∃ p c xss, v = .slice p (List.length xss) c ∧ RdII W p xss ∧ ∀ xs ∈ xss, AllI xs := by
  obtain ⟨a, l, c, rfl⟩ := okWide_slice ht hval
  obtain ⟨fuel, h⟩ := h
  obtain ⟨p, c', xs, e1, h1, h2⟩ := rdII_trod ht he hq ce cq h
  exact ⟨p, c', xs, by simpa [Value.cells] using e1, h1, h2⟩

/-- a struct of one-cell fields: each field's cell and its reading -/
theorem fields_trod {t : TypeId} {fs : Array Field} {fuel : Nat} {cs : List Value} {x : DataW H × List MemPlace} (ht : P.underlying t = some (.struct fs)) (hone : Deep.oneCellFields P fs = true) (hC : P.cellsOf t = fs.size)
    (h : DataW.trod enc P W 0 (fun _ => true) true fuel t cs = some x) :
    cs.length = fs.size ∧ ∀ (j : Nat) (f : Field), fs[j]? = some f → ∃ u n y, cs[j]? = some u ∧ DataW.trod enc P W 0 (fun _ => true) true n f.type [u] = some y := by
  obtain ⟨xs, n, _, _, hl, hlen, hf⟩ := DataW.trod_struct ht h
  refine ⟨hl.trans hC, fun j f hj => ?_⟩
  obtain ⟨ho, hk⟩ := Deep.hone_of hone j f hj
  have hjl : j < fs.size := (Array.getElem?_eq_some_iff.1 hj).1
  have h1 := hf j f hj
  rw [ho, hk] at h1
  have hjc : j < cs.length := by omega
  have hd : (cs.drop j).take 1 = [cs[j]] := by
    rw [List.drop_eq_getElem_cons hjc]
    rfl
  rw [hd] at h1
  have hx : xs[j]? = some (xs[j]'(by omega)) := List.getElem?_eq_getElem (by omega)
  exact ⟨cs[j], n, _, List.getElem?_eq_getElem hjc, h1.trans hx⟩

theorem open_fields {r : Reach} {b0 : Nat} {t : TypeId} {fs : Array Field} {v : Value} {d : DataW H} {ps : List MemPlace} (ht : P.underlying t = some (.struct fs)) (hone : Deep.oneCellFields P fs = true) (hC : P.cellsOf t = fs.size)
    (hval : Value.okWide P W r b0 t v) (h : DataW.Trod enc P W 0 (fun _ => true) true t v d ps) :
    ∃ l : List Value, v = .agg l.toArray ∧ l.length = fs.size ∧ ∀ (j : Nat) (f : Field), fs[j]? = some f → ∃ u n y, l[j]? = some u ∧ DataW.trod enc P W 0 (fun _ => true) true n f.type [u] = some y := by
  obtain ⟨cs, rfl, hsz⟩ := okWide_struct ht hval
  obtain ⟨fuel, hf⟩ := h
  obtain ⟨h1, h2⟩ := fields_trod ht hone hC hf
  exact ⟨cs.toList, by simp, by simpa [Value.cells] using h1, by simpa [Value.cells] using h2⟩

/-- a slice of structs of one-cell fields: each cell of each element -/
theorem slice_fields_trod {t e : TypeId} {fs : Array Field} {fuel : Nat} {cs : List Value} {x : DataW H × List MemPlace} (ht : P.underlying t = some (.slice e)) (he : P.underlying e = some (.struct fs)) (hone : Deep.oneCellFields P fs = true) (hC : P.cellsOf e = fs.size)
    (h : DataW.trod enc P W 0 (fun _ => true) true fuel t cs = some x) :
    ∃ p n c, cs = [.slice p n c] ∧ n ≤ maxLen ∧ (n = 0 ∨ ∃ a : Addr, p = some a ∧ ∀ i, i < n → ∀ (j : Nat) (f : Field), fs[j]? = some f → ∃ u m y, W.cell? (a.add (i * fs.size + j)) = some u ∧ DataW.trod enc P W 0 (fun _ => true) true m f.type [u] = some y) := by
  rcases Deep.open_slice ht h with ⟨rfl, rfl⟩ | ⟨a, len, cap, m, n, D, Pl, rfl, hb, hl, hm, hmm, _, hx⟩
  · exact ⟨none, 0, 0, rfl, by simp [maxLen], .inl rfl⟩
  · simp only [if_true] at hmm
    subst hmm
    refine ⟨some a, len, m, rfl, by omega, .inr ⟨a, rfl, fun i hi j f hj => ?_⟩⟩
    obtain ⟨cs', hc, ht'⟩ := hx i (by omega)
    rw [hC] at hc
    obtain ⟨_, hcl, hat⟩ := World.cells?_some hc
    obtain ⟨hl', hf⟩ := fields_trod he hone hC ht'
    obtain ⟨u, n', y, hu, hy⟩ := hf j f hj
    have hjl : j < fs.size := (Array.getElem?_eq_some_iff.1 hj).1
    refine ⟨u, n', y, ?_, hy⟩
    rw [← Go.Deep.add_add, hat j hjl, hu]
end

/-! ### a whole block of a few cells -/
def Box (w : World) (g : Nat) (L : List Value) (T : TypeId) : Prop := w.heap[g]? = some (.cells L.toArray T (0, 0))
theorem Box.lt {w : World} {g : Nat} {L : List Value} {T : TypeId} (h : Box w g L T) : g < w.heap.size := (Array.getElem?_eq_some_iff.1 h).1
theorem Box.cell {w : World} {g : Nat} {L : List Value} {T : TypeId} (h : Box w g L T) (i : Nat) {u : Value} (hu : L[i]? = some u) : w.cell? ⟨g, i, none⟩ = some u := by
  rw [cell_of_row w g i L.toArray T (0, 0) h]; simpa using hu
theorem Box.frozen {w : World} {g : Nat} {L : List Value} {T : TypeId} (h : Box w g L T) (i : Nat) : w.frozen? ⟨g, i, none⟩ = false := frozen_of_row w g i L.toArray T h
theorem Box.new (w : World) (L : List Value) (T : TypeId) : Box (w.alloc (.cells L.toArray T)) w.heap.size L T := heap_alloc_new w _
theorem Box.newAt (w : World) (L : List Value) (T : TypeId) {g : Nat} (hg : g = w.heap.size) : Box (w.alloc (.cells L.toArray T)) g L T := by rw [hg]; exact Box.new w L T
theorem Box.keep {w w' : World} {g : Nat} {L : List Value} {T : TypeId} (h : Box w g L T) (hk : w'.heap[g]? = w.heap[g]?) : Box w' g L T := hk.trans h
theorem Box.below {w w' : World} {g : Nat} {L : List Value} {T : TypeId} (h : Box w g L T) (hb : Below w.heap.size w w') : Box w' g L T := h.keep (hb.block g h.lt)
theorem Box.alloc {w : World} {g : Nat} {L : List Value} {T : TypeId} (h : Box w g L T) (o : Obj) : Box (w.alloc o) g L T := h.keep (Below.heap_alloc _ _ _ h.lt)
theorem Box.other {w : World} {g : Nat} {L : List Value} {T : TypeId} (h : Box w g L T) {a : Addr} (ha : g ≠ a.block) (u : Value) : Box (w.setCell a u) g L T := h.keep (Below.heap_setCell _ _ _ _ ha)
theorem Box.set {w : World} {g : Nat} {L : List Value} {T : TypeId} (h : Box w g L T) (i : Nat) (u : Value) : Box (w.setCell ⟨g, i, none⟩ u) g (L.set i u) T := by
  have := heap_setCell_same w g i L.toArray T u h
  rw [Box, this]; simp

theorem Box.off {w w' : World} {g : Nat} {L : List Value} {T : TypeId} {S : Nat → Prop} (h : Box w g L T) (ho : Off S w w') (hS : ¬ S g) : Box w' g L T := h.keep (ho.block g h.lt hS)
theorem Box.drewN {w : World} {g : Nat} {L : List Value} {T : TypeId} (h : Box w g L T) (n : Nat) : Box (w.drewN n) g L T := h
end Go.Proofs.YtljlcbichimhaaaGreatDoor
