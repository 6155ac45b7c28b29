/-
  Several texts in one: Base, Mem, Own, Scal, Src, PolyM, Drw, Noise, Seq, LawsInt, TyBase, TyNode.
-/
import Derived.Test.YtcfhcmgmkhfjjaaGreatRows
import Derived.WalkKit
import Derived.ProofKit
import Derived.OpenShut
import Derived.Lib.Hide
import Derived.Deep.Slices
import Derived.Deep.Matrix
import Derived.Deep.Fields
import Derived.Deep.OwnRows
import Derived.Deep.QuietTactic
import Derived.BigQuiet
import Derived.IntWalk
import Derived.Deep.DeepCutAuto
import Derived.BigRegion
import Derived.Deep.RegionWith
namespace Go.Proofs.YtcfhcmgmkhfjjaaGreat
open Go.ChangeShapes Go.WideShapes Go.ChangeAt Go.RowKit
set_option linter.unusedVariables false

theorem own : ownKnob Tryz.prog.godebug = none := by kernel_rfl
theorem laidOut : laidOutB Tryz.prog = true := by kernel_rfl

section
variable {H : Type} {enc : TypeId × Value → H} {P : Program}

/-- every argument reads behind the call as it did, through the same places -/
theorem trodAll_stays {ts : List TypeId} (hl : laidOutB P = true) {W W' : World} {sp' : Nat → Bool} (hs : Below W.heap.size W W') :
    ∀ {vs : List Value} {ds : List (DataW H)} {ps : List MemPlace}, (∀ t ∈ ts, P.readableRec t = true ∧ t < P.types.size) →
      DataW.TrodAll enc P W 0 (fun _ => true) true ts vs ds ps → (∀ p ∈ ps, p.block < W.heap.size) → (∀ p ∈ ps, sp' p.block = true) → DataW.TrodAll enc P W' 0 sp' true ts vs ds ps := by
  induction ts with
  | nil =>
    intro vs ds ps _ h _ _
    obtain ⟨rfl, rfl, rfl⟩ := trodAll_nil h
    exact trodAll_mk0
  | cons t ts ih =>
    intro vs ds ps hr h hlt hsp
    obtain ⟨v, vs', d, ds', p, q, rfl, rfl, rfl, hd, hrest⟩ := trodAll_cons h
    refine trodAll_cons_mk ?_ (ih (fun x hx => hr x (List.mem_cons_of_mem _ hx)) hrest (fun x hx => hlt x (List.mem_append_right _ hx)) (fun x hx => hsp x (List.mem_append_right _ hx)))
    exact WideElems.Trod_stays hl (hr t (List.mem_cons_self ..)).1 (hr t (List.mem_cons_self ..)).2 hd (fun x hx => hs.same (hlt x (List.mem_append_left _ hx))) (fun x hx => hsp x (List.mem_append_left _ hx))

theorem post_of_law {f : Func} {s : ChangeSpec} {tb : TypeId} {W W' : World} {args : Array Value} {ds : List (DataW H)} {gs : List (DataW H)} {before : List MemPlace} (hl : laidOutB P = true)
    (hW : DataW.Whole enc P f.params.toList s.vars false W args.toList ds gs before) (hb : Below W.heap.size W W')
    (hv : s.vars = []) (hr : f.resultTypes = #[tb]) (hbool : P.underlying tb = some .bool) (hts : ∀ t ∈ f.params.toList, P.readableRec t = true ∧ t < P.types.size)
    (hfn : s.fn H ds = { results := [.lit (.bool true)], args := ds }) :
    s.post enc P f false true false false W args (.bool true) W' := by
  have hlt : ∀ p ∈ before, p.block < W.heap.size := fun p hp => hW.lt p hp
  have hold : ∀ p ∈ before, (fun b => decide (b < W.heap.size)) p.block = true := fun p hp => by simpa using hlt p hp
  have hW' := hW
  obtain ⟨p, q, hA, hV, rfl, _, _⟩ := hW'
  rw [hv] at hV
  obtain ⟨rfl, rfl⟩ := trodVars_none hV
  simp only [List.append_nil] at hW hlt hold ⊢
  have hargs : ∀ sp : Nat → Bool, (∀ x ∈ p, sp x.block = true) → DataW.TrodAll enc P W' 0 sp true f.params.toList args.toList ds p := fun sp hsp => trodAll_stays hl hb hts hA hlt hsp
  refine ⟨ds, [], p, [], p, [], hW, ?_, ?_, ?_, World.keptBut_mono (fun x hx => ⟨hx, Or.inr (Or.inl hx)⟩) (hb.frame (· ∈ p)), fun h => by cases h⟩
  · rw [List.append_nil, hfn, hr]
    exact trodAll_cons_mk (shut_bool hbool _) trodAll_mk0
  · rw [List.append_nil, hfn]
    exact hargs _ hold
  · rw [List.append_nil, hfn, hv]
    rfl
end

def inB (n lo hi : Int) : Bool := decide (lo ≤ n) && decide (n ≤ hi)
theorem inB_true {n lo hi : Int} (h : lo ≤ n ∧ n ≤ hi) : inB n lo hi = true := by simp [inB, h]
theorem inB_false {n lo hi : Int} (h : ¬ (lo ≤ n ∧ n ≤ hi)) : inB n lo hi = false := by
  simp only [inB, Bool.and_eq_false_iff, decide_eq_false_iff_not]; omega
theorem inB_of_le {n lo hi : Int} (h : lo ≤ n) : inB n lo hi = decide (n ≤ hi) := by simp [inB, h]
theorem inB_of_lt {n lo hi : Int} (h : n < lo) : inB n lo hi = false := inB_false (by omega)
theorem inB_iff {n lo hi : Int} : inB n lo hi = true ↔ lo ≤ n ∧ n ≤ hi := by simp [inB]
theorem ret_bool {a b : Bool} (h : a = b) : Ending.returned (.bool a) = Ending.returned (.bool b) := by rw [h]
theorem ret_int {k : IntKind} {a b : Int} (h : a = b) : Ending.returned (.int k a) = Ending.returned (.int k b) := by rw [h]
theorem str_ext {a b : ByteArray} (h : a.toList = b.toList) : a = b := by
  rw [ByteArray.toList_eq, ByteArray.toList_eq] at h
  exact WideShapes.bytes_inj h
theorem str_beq_true {a b : ByteArray} (h : a = b) : (a.toList == b.toList) = true := by rw [h]; simp
theorem str_beq_false {a b : ByteArray} (h : a ≠ b) : (a.toList == b.toList) = false := by
  rw [beq_eq_false_iff_ne]
  exact fun e => h (str_ext e)
end Go.Proofs.YtcfhcmgmkhfjjaaGreat

namespace Go.Proofs.YtcfhcmgmkhfjjaaGreat
open Go.ChangeShapes Go.WideShapes Go.ChangeAt Go.RowKit
set_option linter.unusedVariables false

def I64 (x : Int) : Prop := -9223372036854775808 ≤ x ∧ x ≤ 9223372036854775807
def AllI (xs : List Int) : Prop := ∀ x ∈ xs, I64 x
theorem I64.of_wf {x : Int} (h : (Lit.int .i64 x).wf = true) : I64 x := by
  simpa [Lit.wf, IntKind.min, IntKind.max, IntKind.signed, IntKind.bits, I64] using h

/-- the slice at p reads xs -/
structure RdI (w : World) (p : Option Addr) (xs : List Int) : Prop where
  len : xs.length ≤ maxLen
  cells : xs = [] ∨ ∃ b o, p = some ⟨b, o, none⟩ ∧ ∀ i, (h : i < xs.length) → w.cell? ⟨b, o + i, none⟩ = some (.int .i64 xs[i])

theorem RdI.pos {w : World} {p : Option Addr} {xs : List Int} (h : RdI w p xs) {k : Nat} (hk : k < xs.length) :
    ∃ b o, p = some ⟨b, o, none⟩ ∧ b < w.heap.size ∧ ∀ i, (h : i < xs.length) → w.cell? ⟨b, o + i, none⟩ = some (.int .i64 xs[i]) := by
  rcases h.cells with rfl | ⟨b, o, e, hc⟩
  · simp at hk
  · exact ⟨b, o, e, World.block_lt_of_cell? w _ (hc k hk), hc⟩

theorem RdI.nil (w : World) (p : Option Addr) : RdI w p [] := ⟨by simp [maxLen], .inl rfl⟩

theorem RdI.keep {w w' : World} {p : Option Addr} {xs : List Int} (h : RdI w p xs) (hk : ∀ b o, p = some ⟨b, o, none⟩ → b < w.heap.size → w'.heap[b]? = w.heap[b]?) : RdI w' p xs := by
  refine ⟨h.len, ?_⟩
  rcases h.cells with rfl | ⟨b, o, e, hc⟩
  · exact .inl rfl
  · by_cases h0 : xs = []
    · exact .inl h0
    · have hpos : 0 < xs.length := List.length_pos_iff.2 h0
      have hb := World.block_lt_of_cell? w _ (hc 0 hpos)
      exact .inr ⟨b, o, e, fun i hi => (World.cell?_of_block (w := w) (a := ⟨b, o + i, none⟩) (hk b o e hb)).trans (hc i hi)⟩

theorem RdI.below {w w' : World} {p : Option Addr} {xs : List Int} (h : RdI w p xs) (hb : Below w.heap.size w w') : RdI w' p xs :=
  h.keep fun b o _ hlt => hb.block b hlt

/-- the slice of slices at p reads xss -/
structure RdII (w : World) (p : Option Addr) (xss : List (List Int)) : Prop where
  len : xss.length ≤ maxLen
  cells : xss = [] ∨ ∃ b o, p = some ⟨b, o, none⟩ ∧ ∀ i, (h : i < xss.length) → ∃ q c, w.cell? ⟨b, o + i, none⟩ = some (.slice q xss[i].length c) ∧ RdI w q xss[i]
  caps : ∀ b o i q l c, p = some ⟨b, o, none⟩ → i < xss.length → w.cell? ⟨b, o + i, none⟩ = some (.slice q l c) → l ≤ c

theorem RdII.pos {w : World} {p : Option Addr} {xss : List (List Int)} (h : RdII w p xss) {k : Nat} (hk : k < xss.length) :
    ∃ b o, p = some ⟨b, o, none⟩ ∧ b < w.heap.size ∧ ∀ i, (h : i < xss.length) → ∃ q c, w.cell? ⟨b, o + i, none⟩ = some (.slice q xss[i].length c) ∧ RdI w q xss[i] := by
  rcases h.cells with rfl | ⟨b, o, e, hc⟩
  · simp at hk
  · obtain ⟨q, c, hq, _⟩ := hc k hk
    exact ⟨b, o, e, World.block_lt_of_cell? w _ hq, hc⟩

theorem RdII.nil (w : World) (p : Option Addr) : RdII w p [] := ⟨by simp [maxLen], .inl rfl, fun _ _ i _ _ _ _ h => by simp at h⟩

theorem RdII.keep {w w' : World} {p : Option Addr} {xss : List (List Int)} (h : RdII w p xss) (hk : ∀ b, b < w.heap.size → w'.heap[b]? = w.heap[b]?) : RdII w' p xss := by
  refine ⟨h.len, ?_, fun b o i q l c hp hi hc => ?_⟩
  rotate_left
  · obtain ⟨b', o', e', _, hc'⟩ := h.pos hi
    rw [hp] at e'
    simp only [Option.some.injEq, Addr.mk.injEq, and_true] at e'
    obtain ⟨rfl, rfl⟩ := e'
    obtain ⟨q', c', hq', _⟩ := hc' i hi
    refine h.caps b o i q l c hp hi ?_
    rw [← hc]
    exact (World.cell?_of_block (w := w) (a := ⟨b, o + i, none⟩) (hk b (World.block_lt_of_cell? w _ hq'))).symm
  rcases h.cells with rfl | ⟨b, o, e, hc⟩
  · exact .inl rfl
  · refine .inr ⟨b, o, e, fun i hi => ?_⟩
    obtain ⟨q, c, hq, hr⟩ := hc i hi
    exact ⟨q, c, (World.cell?_of_block (w := w) (a := ⟨b, o + i, none⟩) (hk b (World.block_lt_of_cell? w _ hq))).trans hq, hr.keep fun b _ _ hlt => hk b hlt⟩

theorem RdII.below {w w' : World} {p : Option Addr} {xss : List (List Int)} (h : RdII w p xss) (hb : Below w.heap.size w w') : RdII w' p xss :=
  h.keep fun b hlt => hb.block b hlt

theorem RdI.drewN {w : World} {p : Option Addr} {xs : List Int} (h : RdI w p xs) (n : Nat) : RdI (w.drewN n) p xs := ⟨h.len, h.cells⟩
theorem RdII.drewN {w : World} {p : Option Addr} {xss : List (List Int)} (h : RdII w p xss) (n : Nat) : RdII (w.drewN n) p xss := h.keep fun _ _ => rfl
theorem below_drewN {B : Nat} {a w : World} (h : Below B a w) (n : Nat) : Below B a (w.drewN n) := ⟨h.os, h.tape, h.output, h.size, h.block⟩

/-- draws alone lie between the two worlds -/
def Drawn (w w' : World) : Prop := ∃ n, w' = w.drewN n
theorem Drawn.refl (w : World) : Drawn w w := ⟨0, rfl⟩
theorem Drawn.on {w w' : World} (h : Drawn w w') (m : Nat) : Drawn w (w'.drewN m) := by
  obtain ⟨n, rfl⟩ := h
  exact ⟨n + m, by rw [World.drewN_drewN]⟩
theorem Drawn.trans {w w' w'' : World} (h : Drawn w w') (h' : Drawn w' w'') : Drawn w w'' := by
  obtain ⟨m, rfl⟩ := h'
  exact h.on m
theorem Drawn.rdI {w w' : World} (h : Drawn w w') {p : Option Addr} {xs : List Int} (hr : RdI w p xs) : RdI w' p xs := by
  obtain ⟨n, rfl⟩ := h
  exact hr.drewN n
theorem Drawn.rdII {w w' : World} (h : Drawn w w') {p : Option Addr} {xs : List (List Int)} (hr : RdII w p xs) : RdII w' p xs := by
  obtain ⟨n, rfl⟩ := h
  exact hr.drewN n
theorem Drawn.below {w w' : World} (h : Drawn w w') (B : Nat) : Below B w w' := by
  obtain ⟨n, rfl⟩ := h
  exact below_drewN (Below.refl B w) n

/-- outside the blocks of S the world is as it was -/
structure Off (S : Nat → Prop) (w w' : World) : Prop where
  os : w'.os = w.os
  tape : w'.tape = w.tape
  output : w'.output = w.output
  size : w.heap.size ≤ w'.heap.size
  block : ∀ k, k < w.heap.size → ¬ S k → w'.heap[k]? = w.heap[k]?
theorem Off.refl (S : Nat → Prop) (w : World) : Off S w w := ⟨rfl, rfl, rfl, Nat.le_refl _, fun _ _ _ => rfl⟩
theorem Off.trans {S : Nat → Prop} {a b c : World} (h : Off S a b) (k : Off S b c) : Off S a c :=
  ⟨k.os.trans h.os, k.tape.trans h.tape, k.output.trans h.output, Nat.le_trans h.size k.size, fun i hi hs => (k.block i (Nat.lt_of_lt_of_le hi h.size) hs).trans (h.block i hi hs)⟩
theorem Off.mono {S S' : Nat → Prop} {a b : World} (h : Off S a b) (hS : ∀ k, S k → S' k) : Off S' a b :=
  ⟨h.os, h.tape, h.output, h.size, fun i hi hs => h.block i hi fun hk => hs (hS i hk)⟩
theorem Off.drewN {S : Nat → Prop} {a b : World} (h : Off S a b) (n : Nat) : Off S a (b.drewN n) := ⟨h.os, h.tape, h.output, h.size, h.block⟩
theorem Off.below {S : Nat → Prop} {a b : World} {B : Nat} (h : Off S a b) (hS : ∀ k, S k → B ≤ k) (hB : B ≤ a.heap.size) : Below B a b :=
  ⟨h.os, h.tape, h.output, h.size, fun k hk => h.block k (by omega) fun hs => by have := hS k hs; omega⟩
theorem Off.of_below {a b : World} (S : Nat → Prop) (h : Below a.heap.size a b) : Off S a b := ⟨h.os, h.tape, h.output, h.size, fun k hk _ => h.block k hk⟩

section
variable {H : Type} {enc : TypeId × Value → H} {P : Program} {W : World}

theorem rdI_trod {t e : TypeId} {fuel : Nat} {cs : List Value} {x : DataW H × List MemPlace} (ht : P.underlying t = some (.slice e)) (he : P.underlying e = some (.int .i64)) (hc : P.cellsOf e = 1)
    (h : DataW.trod enc P W 0 (fun _ => true) true fuel t cs = some x) : ∃ p c xs, cs = [.slice p xs.length c] ∧ RdI W p xs ∧ AllI xs ∧ xs.length ≤ c := by
  rcases open_ints ht he hc h with ⟨rfl, rfl⟩ | ⟨a, len, cap, zs, rfl, hb, hl, hm, hz, rfl, hcell, hwf⟩
  · exact ⟨none, 0, [], rfl, RdI.nil _ _, (by intro x hx; cases hx), Nat.le_refl _⟩
  · simp only [if_true] at hz
    have hlen : (zs.take len).length = len := by rw [List.length_take]; omega
    refine ⟨some a, cap, zs.take len, by rw [hlen], ⟨by omega, ?_⟩, fun x hx => I64.of_wf (hwf x (List.mem_of_mem_take hx)), by omega⟩
    by_cases h0 : len = 0
    · left; subst h0; simp
    · right
      have h00 := hcell 0 (by omega)
      have hs : a = ⟨a.block, a.off, none⟩ := by
        simp only [Addr.add, if_true] at h00
        obtain ⟨b, o, s⟩ := a
        cases s with
        | none => rfl
        | some s => simp [World.cell?] at h00; split at h00 <;> simp at h00
      refine ⟨a.block, a.off, by rw [← hs], fun i hi => ?_⟩
      have := hcell i (by omega)
      rw [hs, Addr.add_lit] at this
      rw [this, List.getElem_take, List.getD_eq_getElem?_getD, List.getElem?_eq_getElem (by omega)]
      rfl

theorem rdII_trod {t e q : TypeId} {fuel : Nat} {cs : List Value} {x : DataW H × List MemPlace} (ht : P.underlying t = some (.slice e)) (he : P.underlying e = some (.slice q)) (hq : P.underlying q = some (.int .i64))
    (ce : P.cellsOf e = 1) (cq : P.cellsOf q = 1) (h : DataW.trod enc P W 0 (fun _ => true) true fuel t cs = some x) : ∃ p c xss, cs = [.slice p (List.length xss) c] ∧ RdII W p xss ∧ ∀ xs ∈ xss, AllI xs := by
  rcases Deep.open_slice1 ht ce h with ⟨rfl, rfl⟩ | ⟨a, len, cap, m, n, V, D, Pl, rfl, hb, hl, hm, hmm, rfl, hx⟩
  · exact ⟨none, 0, [], rfl, RdII.nil _ _, by intro x hx; cases hx⟩
  · simp only [if_true] at hmm
    subst hmm
    have each : ∀ i, i < m → ∃ xs, ∃ p c, V i = .slice p (List.length xs) c ∧ RdI W p xs ∧ AllI xs ∧ List.length xs ≤ c := by
      intro i hi
      obtain ⟨p, c, xs, e1, h1, h2, h3⟩ := rdI_trod he hq cq (hx i hi).2
      exact ⟨xs, p, c, by simpa using e1, h1, h2, h3⟩
    obtain ⟨F, hF⟩ := Deep.choose_lt each
    refine ⟨some a, m, (List.range len).map F, by simp, ⟨by simp; omega, ?_, fun b o i q l c hp hi hc => ?_⟩, ?_⟩
    rotate_left
    · simp only [List.length_map, List.length_range] at hi
      obtain ⟨p, c', e1, h1, h2, h3⟩ := hF i (by omega)
      have := (hx i (by omega)).1
      simp only [Option.some.injEq] at hp
      subst hp
      rw [Addr.add_lit, hc, e1] at this
      simp only [Option.some.injEq, Value.slice.injEq] at this
      obtain ⟨-, rfl, rfl⟩ := this
      exact h3
    rotate_left
    · by_cases h0 : len = 0
      · left; subst h0; simp
      · right
        have h00 := (hx 0 (by omega)).1
        have hs : a = ⟨a.block, a.off, none⟩ := by
          simp only [Addr.add, if_true] at h00
          obtain ⟨b, o, s⟩ := a
          cases s with
          | none => rfl
          | some s => simp [World.cell?] at h00; split at h00 <;> simp at h00
        refine ⟨a.block, a.off, by rw [← hs], fun i hi => ?_⟩
        simp only [List.length_map, List.length_range] at hi
        obtain ⟨p, c, e1, h1, h2, -⟩ := hF i (by omega)
        have := (hx i (by omega)).1
        rw [hs, Addr.add_lit, e1] at this
        exact ⟨p, c, by simpa using this, by simpa using h1⟩
    · intro xs hxs
      simp only [List.mem_map, List.mem_range] at hxs
      obtain ⟨i, hi, rfl⟩ := hxs
      obtain ⟨p, c, e1, h1, h2, -⟩ := hF i (by omega)
      exact h2

theorem open_rdI {r : Reach} {b0 : Nat} {t e : TypeId} {v : Value} {d : DataW H} {ps : List MemPlace} (ht : P.underlying t = some (.slice e)) (he : P.underlying e = some (.int .i64)) (hc : P.cellsOf e = 1)
    (hval : Value.okWide P W r b0 t v) (h : DataW.Trod enc P W 0 (fun _ => true) true t v d ps) : ∃ p c xs, v = .slice p (List.length xs) c ∧ RdI W p xs ∧ AllI xs := by
  obtain ⟨a, l, c, rfl⟩ := okWide_slice ht hval
  obtain ⟨fuel, h⟩ := h
  obtain ⟨p, c', xs, e1, h1, h2, -⟩ := rdI_trod ht he hc h
  exact ⟨p, c', xs, by simpa [Value.cells] using e1, h1, h2⟩

theorem open_rdII {r : Reach} {b0 : Nat} {t e q : TypeId} {v : Value} {d : DataW H} {ps : List MemPlace} (ht : P.underlying t = some (.slice e)) (he : P.underlying e = some (.slice q)) (hq : P.underlying q = some (.int .i64))
    (ce : P.cellsOf e = 1) (cq : P.cellsOf q = 1) (hval : Value.okWide P W r b0 t v) (h : DataW.Trod enc P W 0 (fun _ => true) true t v d ps) :
    ∃ p c xss, v = .slice p (List.length xss) c ∧ RdII W p xss ∧ ∀ xs ∈ xss, AllI xs := by
  obtain ⟨a, l, c, rfl⟩ := okWide_slice ht hval
  obtain ⟨fuel, h⟩ := h
  obtain ⟨p, c', xs, e1, h1, h2⟩ := rdII_trod ht he hq ce cq h
  exact ⟨p, c', xs, by simpa [Value.cells] using e1, h1, h2⟩

/-- a struct of one-cell fields: each field's cell and its reading -/
theorem fields_trod {t : TypeId} {fs : Array Field} {fuel : Nat} {cs : List Value} {x : DataW H × List MemPlace} (ht : P.underlying t = some (.struct fs)) (hone : Deep.oneCellFields P fs = true) (hC : P.cellsOf t = fs.size)
    (h : DataW.trod enc P W 0 (fun _ => true) true fuel t cs = some x) :
    cs.length = fs.size ∧ ∀ (j : Nat) (f : Field), fs[j]? = some f → ∃ u n y, cs[j]? = some u ∧ DataW.trod enc P W 0 (fun _ => true) true n f.type [u] = some y := by
  obtain ⟨xs, n, _, _, hl, hlen, hf⟩ := DataW.trod_struct ht h
  refine ⟨hl.trans hC, fun j f hj => ?_⟩
  obtain ⟨ho, hk⟩ := Deep.hone_of hone j f hj
  have hjl : j < fs.size := (Array.getElem?_eq_some_iff.1 hj).1
  have h1 := hf j f hj
  rw [ho, hk] at h1
  have hjc : j < cs.length := by omega
  have hd : (cs.drop j).take 1 = [cs[j]] := by
    rw [List.drop_eq_getElem_cons hjc]
    rfl
  rw [hd] at h1
  have hx : xs[j]? = some (xs[j]'(by omega)) := List.getElem?_eq_getElem (by omega)
  exact ⟨cs[j], n, _, List.getElem?_eq_getElem hjc, h1.trans hx⟩

theorem open_fields {r : Reach} {b0 : Nat} {t : TypeId} {fs : Array Field} {v : Value} {d : DataW H} {ps : List MemPlace} (ht : P.underlying t = some (.struct fs)) (hone : Deep.oneCellFields P fs = true) (hC : P.cellsOf t = fs.size)
    (hval : Value.okWide P W r b0 t v) (h : DataW.Trod enc P W 0 (fun _ => true) true t v d ps) :
    ∃ l : List Value, v = .agg l.toArray ∧ l.length = fs.size ∧ ∀ (j : Nat) (f : Field), fs[j]? = some f → ∃ u n y, l[j]? = some u ∧ DataW.trod enc P W 0 (fun _ => true) true n f.type [u] = some y := by
  obtain ⟨cs, rfl, hsz⟩ := okWide_struct ht hval
  obtain ⟨fuel, hf⟩ := h
  obtain ⟨h1, h2⟩ := fields_trod ht hone hC hf
  exact ⟨cs.toList, by simp, by simpa [Value.cells] using h1, by simpa [Value.cells] using h2⟩

/-- a slice of structs of one-cell fields: each cell of each element -/
theorem slice_fields_trod {t e : TypeId} {fs : Array Field} {fuel : Nat} {cs : List Value} {x : DataW H × List MemPlace} (ht : P.underlying t = some (.slice e)) (he : P.underlying e = some (.struct fs)) (hone : Deep.oneCellFields P fs = true) (hC : P.cellsOf e = fs.size)
    (h : DataW.trod enc P W 0 (fun _ => true) true fuel t cs = some x) :
    ∃ p n c, cs = [.slice p n c] ∧ n ≤ maxLen ∧ (n = 0 ∨ ∃ a : Addr, p = some a ∧ ∀ i, i < n → ∀ (j : Nat) (f : Field), fs[j]? = some f → ∃ u m y, W.cell? (a.add (i * fs.size + j)) = some u ∧ DataW.trod enc P W 0 (fun _ => true) true m f.type [u] = some y) := by
  rcases Deep.open_slice ht h with ⟨rfl, rfl⟩ | ⟨a, len, cap, m, n, D, Pl, rfl, hb, hl, hm, hmm, _, hx⟩
  · exact ⟨none, 0, 0, rfl, by simp [maxLen], .inl rfl⟩
  · simp only [if_true] at hmm
    subst hmm
    refine ⟨some a, len, m, rfl, by omega, .inr ⟨a, rfl, fun i hi j f hj => ?_⟩⟩
    obtain ⟨cs', hc, ht'⟩ := hx i (by omega)
    rw [hC] at hc
    obtain ⟨_, hcl, hat⟩ := World.cells?_some hc
    obtain ⟨hl', hf⟩ := fields_trod he hone hC ht'
    obtain ⟨u, n', y, hu, hy⟩ := hf j f hj
    have hjl : j < fs.size := (Array.getElem?_eq_some_iff.1 hj).1
    refine ⟨u, n', y, ?_, hy⟩
    rw [← Go.Deep.add_add, hat j hjl, hu]
end

/-! ### a whole block of a few cells -/
def Box (w : World) (g : Nat) (L : List Value) (T : TypeId) : Prop := w.heap[g]? = some (.cells L.toArray T (0, 0))
theorem Box.lt {w : World} {g : Nat} {L : List Value} {T : TypeId} (h : Box w g L T) : g < w.heap.size := (Array.getElem?_eq_some_iff.1 h).1
theorem Box.cell {w : World} {g : Nat} {L : List Value} {T : TypeId} (h : Box w g L T) (i : Nat) {u : Value} (hu : L[i]? = some u) : w.cell? ⟨g, i, none⟩ = some u := by
  rw [cell_of_row w g i L.toArray T (0, 0) h]; simpa using hu
theorem Box.frozen {w : World} {g : Nat} {L : List Value} {T : TypeId} (h : Box w g L T) (i : Nat) : w.frozen? ⟨g, i, none⟩ = false := frozen_of_row w g i L.toArray T h
theorem Box.new (w : World) (L : List Value) (T : TypeId) : Box (w.alloc (.cells L.toArray T)) w.heap.size L T := heap_alloc_new w _
theorem Box.newAt (w : World) (L : List Value) (T : TypeId) {g : Nat} (hg : g = w.heap.size) : Box (w.alloc (.cells L.toArray T)) g L T := by rw [hg]; exact Box.new w L T
theorem Box.keep {w w' : World} {g : Nat} {L : List Value} {T : TypeId} (h : Box w g L T) (hk : w'.heap[g]? = w.heap[g]?) : Box w' g L T := hk.trans h
theorem Box.below {w w' : World} {g : Nat} {L : List Value} {T : TypeId} (h : Box w g L T) (hb : Below w.heap.size w w') : Box w' g L T := h.keep (hb.block g h.lt)
theorem Box.alloc {w : World} {g : Nat} {L : List Value} {T : TypeId} (h : Box w g L T) (o : Obj) : Box (w.alloc o) g L T := h.keep (Below.heap_alloc _ _ _ h.lt)
theorem Box.other {w : World} {g : Nat} {L : List Value} {T : TypeId} (h : Box w g L T) {a : Addr} (ha : g ≠ a.block) (u : Value) : Box (w.setCell a u) g L T := h.keep (Below.heap_setCell _ _ _ _ ha)
theorem Box.set {w : World} {g : Nat} {L : List Value} {T : TypeId} (h : Box w g L T) (i : Nat) (u : Value) : Box (w.setCell ⟨g, i, none⟩ u) g (L.set i u) T := by
  have := heap_setCell_same w g i L.toArray T u h
  rw [Box, this]; simp

theorem Box.off {w w' : World} {g : Nat} {L : List Value} {T : TypeId} {S : Nat → Prop} (h : Box w g L T) (ho : Off S w w') (hS : ¬ S g) : Box w' g L T := h.keep (ho.block g h.lt hS)
theorem Box.drewN {w : World} {g : Nat} {L : List Value} {T : TypeId} (h : Box w g L T) (n : Nat) : Box (w.drewN n) g L T := h
end Go.Proofs.YtcfhcmgmkhfjjaaGreat

namespace Go.Proofs.YtcfhcmgmkhfjjaaGreat
open Go.ChangeShapes Go.WideShapes Go.ChangeAt Go.RowKit
set_option linter.unusedVariables false

theorem infoI : (Tryz.prog.info? 2).map (fun i => (i.zero, i.size, i.bytes)) = some (some (.int .i64 0), 1, 8) := by kernel_rfl

/-- a slice of integers in a block of its own from block B on -/
def OwnI (B : Nat) (w : World) (v : Value) (xs : List Int) : Prop := w.ownsRow B 2 1 v xs.length (xs.map (Value.int .i64))

theorem OwnI.cases {B : Nat} {w : World} {v : Value} {xs : List Int} (h : OwnI B w v xs) :
    (v = .slice none 0 0 ∧ xs = []) ∨ ∃ g cap, v = .slice (some ⟨g, 0, none⟩) xs.length cap ∧ B ≤ g ∧ g < w.heap.size ∧ xs.length ≤ maxLen ∧ RdI w (some ⟨g, 0, none⟩) xs := by
  rcases h.2 with ⟨h1, h2⟩ | ⟨g, cap, cur, hv, hB, hg, hn, hm, hs, ht⟩
  · exact .inl ⟨h1, List.eq_nil_of_length_eq_zero h2⟩
  · refine .inr ⟨g, cap, hv, hB, (Array.getElem?_eq_some_iff.1 hg).1, by omega, ⟨by omega, .inr ⟨g, 0, rfl, fun i hi => ?_⟩⟩⟩
    have hh : w.ownsRow B 2 1 (.slice (some ⟨g, 0, none⟩) xs.length cap) xs.length (xs.map (Value.int .i64)) := by rw [← hv]; exact h
    rw [Nat.zero_add, hh.cellAt i (by omega), List.getElem?_map, List.getElem?_eq_getElem hi]
    rfl

theorem OwnI.rd {B : Nat} {w : World} {v : Value} {xs : List Int} (h : OwnI B w v xs) : ∃ p c, v = .slice p xs.length c ∧ RdI w p xs := by
  rcases h.cases with ⟨rfl, rfl⟩ | ⟨g, cap, rfl, _, _, _, hr⟩
  · exact ⟨none, 0, rfl, RdI.nil _ _⟩
  · exact ⟨_, cap, rfl, hr⟩

theorem OwnI.cap {B : Nat} {w : World} {p : Option Addr} {n c : Nat} {xs : List Int} (h : OwnI B w (.slice p n c) xs) : n ≤ c := by
  rcases h.2 with ⟨h1, h2⟩ | ⟨g, cap, cur, hv, _, _, hn, _⟩
  · simp only [Value.slice.injEq] at h1
    omega
  · simp only [Value.slice.injEq] at hv
    omega

theorem OwnI.len {B : Nat} {w : World} {v : Value} {xs : List Int} (h : OwnI B w v xs) : xs.length ≤ maxLen := by
  obtain ⟨_, _, _, hr⟩ := h.rd
  exact hr.len

theorem OwnI.nil (B : Nat) (w : World) : OwnI B w (.slice none 0 0) [] := World.ownsRow_nil w B _ 1

theorem OwnI.mono {B B' : Nat} {w : World} {v : Value} {xs : List Int} (h : OwnI B w v xs) (hB : B' ≤ B) : OwnI B' w v xs := by
  refine ⟨h.1, ?_⟩
  rcases h.2 with h2 | ⟨g, cap, cur, hv, hb, r⟩
  · exact .inl h2
  · exact .inr ⟨g, cap, cur, hv, Nat.le_trans hB hb, r⟩

theorem OwnI.lt {B : Nat} {w : World} {v : Value} {xs : List Int} (h : OwnI B w v xs) {k : Nat} (hk : v.ownBlock = some k) : B ≤ k ∧ k < w.heap.size := World.ownsRow.lt h k hk

theorem OwnI.keep {B : Nat} {w w' : World} {v : Value} {xs : List Int} (h : OwnI B w v xs) (hk : ∀ k, v.ownBlock = some k → w'.heap[k]? = w.heap[k]?) : OwnI B w' v xs := by
  refine ⟨h.1, ?_⟩
  rcases h.2 with hn | ⟨g, cap, cur, rfl, hb, hgg, rest⟩
  · exact .inl hn
  · exact .inr ⟨g, cap, cur, rfl, hb, (hk g rfl).trans hgg, rest⟩

theorem OwnI.below {B : Nat} {w w' : World} {v : Value} {xs : List Int} (h : OwnI B w v xs) (hb : Below w.heap.size w w') : OwnI B w' v xs :=
  h.keep fun k hk => hb.block k (h.lt hk).2

theorem OwnI.grown {B : Nat} {w w' : World} {v : Value} {xs : List Int} {row : Option Nat} (h : OwnI B w v xs) (hg : w.grownBy w' row) (hne : v.ownBlock = none ∨ v.ownBlock ≠ row) : OwnI B w' v xs := World.ownsRow.kept h hg hne

theorem OwnI.alloc {B : Nat} {w : World} {v : Value} {xs : List Int} (h : OwnI B w v xs) (o : Obj) : OwnI B (w.alloc o) v xs := World.ownsRow.alloc h o
theorem OwnI.drew {B : Nat} {w : World} {v : Value} {xs : List Int} (h : OwnI B w v xs) : OwnI B w.drew v xs := h

/-- 'Below' behind an append to a slice of the call's own -/
theorem below_appended {B : Nat} {w0 w w' : World} {v : Value} {xs : List Int} (h : Below B w0 w) (hown : OwnI B w v xs) (hB : B ≤ w.heap.size) (hg : w.grownBy w' v.ownBlock) : Below B w0 w' :=
  h.grown hg hB fun k hk => (hown.lt hk).1

/-- a literal slice of integers at the heap's end -/
theorem OwnI.lit {B : Nat} (w : World) (xs : List Int) (hB : B ≤ w.heap.size) (hm : xs.length ≤ maxLen) : OwnI B (w.alloc (.cells (xs.map (Value.int .i64)).toArray 2)) (.slice (some ⟨w.heap.size, 0, none⟩) xs.length xs.length) xs := by
  have h := World.ownsRow_lit (base := B) (e := 2) (size := 1) w (xs.map (Value.int .i64)).toArray xs.length hB hm (by simp)
  simpa [OwnI] using h

/-- what make lays -/
theorem OwnI.made {B : Nat} (w : World) (n : Nat) (hB : B ≤ w.heap.size) (hm : n ≤ maxLen) : OwnI B (w.alloc (.cells (madeCells #[.int .i64 0] n) 2)) (.slice (some ⟨w.heap.size, 0, none⟩) n n) (List.replicate n 0) := by
  have h := World.ownsRow_lit (base := B) (e := 2) (size := 1) w (madeCells #[.int .i64 0] n) n hB hm (by rw [size_madeCells, Nat.mul_one])
  rw [toList_madeCells_one] at h
  simpa [OwnI] using h

theorem OwnI.storing {B : Nat} {w : World} {g n cap : Nat} {xs : List Int} (h : OwnI B w (.slice (some ⟨g, 0, none⟩) n cap) xs) {k : Nat} (hk : k < xs.length) :
    n = xs.length ∧ B ≤ g ∧ g < w.heap.size ∧ w.cell? ⟨g, k, none⟩ = some (.int .i64 xs[k]) ∧ w.frozen? ⟨g, k, none⟩ = false ∧
      ∀ y, OwnI B (w.setCell ⟨g, k, none⟩ (.int .i64 y)) (.slice (some ⟨g, 0, none⟩) n cap) (xs.set k y) := by
  have hl := h.lt (k := g) rfl
  rcases h.cases with ⟨h1, _⟩ | ⟨g', cap', h1, hB, hlt, _, hr⟩
  · simp at h1
  · simp only [Value.slice.injEq, Option.some.injEq, Addr.mk.injEq, and_true] at h1
    obtain ⟨rfl, rfl, rfl⟩ := h1
    refine ⟨rfl, hl.1, hl.2, ?_, World.ownsRow.frozenAt h k, fun y => ?_⟩
    · rw [World.ownsRow.cellAt h k (by omega), List.getElem?_map, List.getElem?_eq_getElem hk]
      rfl
    · have := (World.ownsRow.stored h k (.int .i64 y)).1
      simpa [OwnI, List.map_set] using this

theorem rdI_one (w : World) (x : Int) : RdI (w.alloc (.cells #[.int .i64 x] 2)) (some ⟨w.heap.size, 0, none⟩) [x] := by
  refine ⟨by simp [maxLen], .inr ⟨w.heap.size, 0, rfl, fun i hi => ?_⟩⟩
  simp at hi
  subst hi
  rw [World.cell?_alloc_at _ _ _ _ rfl]
  rfl

section
variable {H : Type}

theorem run_append_int (w : World) (ty : TypeId) {B : Nat} {v : Value} {xs ys : List Int} (hown : OwnI B w v xs) {p : Option Addr} {c : Nat} (hr : RdI w p ys) (hlen : xs.length + ys.length ≤ 17592186044415) (hB : B ≤ w.heap.size) :
    ∃ v' w', (Builtin.append_ #[26, 26] ty #[v, .slice p ys.length c]).run Tryz.prog w = .ok v' w' ∧ OwnI B w' v' (xs ++ ys) ∧ w.grownBy w' v.ownBlock := by
  obtain ⟨i0, hi, hz0, hz1, hz2⟩ := info_parts infoI
  have e1 : (xs ++ ys).length = xs.length + ys.length := by simp
  have e2 : (xs ++ ys).map (Value.int .i64) = xs.map (Value.int .i64) ++ ys.map (Value.int .i64) := by simp
  rcases hr.cells with rfl | ⟨b, o, rfl, hc⟩
  · cases p with
    | none =>
      refine ⟨v, w, ?_, by simpa [OwnI] using hown, ⟨rfl, rfl, rfl, Nat.le_refl _, fun _ _ _ => rfl⟩⟩
      rcases hown.2 with ⟨rfl, h0⟩ | ⟨g, cap, cur, rfl, _, _, hnc, _⟩
      · simp [Builtin.append_, run_underlying Tryz.underlying26, sizeOf, typeInfo, hi, Builtin.lenOf, Builtin.firstCells]
      · simp [Builtin.append_, run_underlying Tryz.underlying26, sizeOf, typeInfo, hi, Builtin.lenOf, Builtin.firstCells, hnc, storeCells]
    | some a =>
      obtain ⟨v', w', h1, h2, h3, _⟩ := run_append_own (P := Tryz.prog) w B 26 ty 2 i0 (.int .i64 0) 1 8 Tryz.underlying26 hi hz0 hz1 hz2 rfl (by decide) v xs.length (xs.map (Value.int .i64)) hown a 0 c [] rfl (by simp) (by simp) (by simp only [maxLen]; omega) (by omega) hB
      exact ⟨v', w', h1, by simpa [OwnI] using h2, h3⟩
  · obtain ⟨v', w', h1, h2, h3, _⟩ := run_append_own (P := Tryz.prog) w B 26 ty 2 i0 (.int .i64 0) 1 8 Tryz.underlying26 hi hz0 hz1 hz2 rfl (by decide) v xs.length (xs.map (Value.int .i64)) hown ⟨b, o, none⟩ ys.length c (ys.map (Value.int .i64)) (by simp)
      (by
        intro j u hu
        rw [List.getElem?_map] at hu
        rcases hj : ys[j]? with _ | y
        · rw [hj] at hu; simp at hu
        · rw [hj] at hu
          obtain ⟨hjl, hjy⟩ := List.getElem?_eq_some_iff.1 hj
          rw [Addr.add_lit, hc j hjl, hjy]
          simpa using hu)
      (by intro u hu; simp only [List.mem_map] at hu; obtain ⟨y, _, rfl⟩ := hu; rfl) (by simp only [maxLen]; omega) (by omega) hB
    exact ⟨v', w', h1, by rw [OwnI, e1, e2]; exact h2, h3⟩

theorem wpList_append_int {ops : Array Oper} {rest : List Oper} {o : Oper} {a : Act} {Q : Exit → Act → World → Prop} {w : World} (hgd : o.guard = none) (s x : Operand)
    (ho : o.op = .call { callee := .builtin .append, args := #[s, x], argTypes := #[26, 26] })
    {B : Nat} {v : Value} {xs ys : List Int} (hs : a.eval s = v) (hown : OwnI B w v xs) {p : Option Addr} {m c : Nat} (hr : RdI w p ys) (hx : a.eval x = .slice p m c) (hm : m = ys.length) (hlen : xs.length + ys.length ≤ 17592186044415) (hB : B ≤ w.heap.size)
    (h : ∀ v' w', OwnI B w' v' (xs ++ ys) → w.grownBy w' v.ownBlock → wpList Tryz.prog ops Q rest (a.put o.dst v') w') : wpList Tryz.prog ops Q (o :: rest) a w := by
  subst hm
  refine wpList_plain hgd fun K hK => ?_
  obtain ⟨v', w', h1, h2, h3⟩ := run_append_int w o.type hown (c := c) hr hlen hB
  unfold Oper.wp execOp
  simp only [ho, resolve, invoke, builtin, Sem.run_bind, Sem.run_pure, Result.andThen_ok, List.map_toArray, List.map_cons, List.map_nil, hs, hx, h1]
  exact hK _ _ (h v' w' h2 h3)

/-- append of one number, as one step of a region that draws its order -/
theorem step_append_one {ops : Array Oper} {o : Oper} {a : Act} {K : Act → World → Prop} {Q : Exit → Act → World → Prop} {E : Prop} {w : World} {y : Int} (hgd : o.guard = none) (s x : Operand)
    (ho : o.op = .call { callee := .builtin .append, args := #[s, x], argTypes := #[26, 26] })
    {B : Nat} {v : Value} {xs : List Int} (hs : a.eval s = v) (hown : OwnI B w v xs) (hx : a.eval x = .slice (some ⟨w.heap.size, 0, none⟩) 1 1) (hlen : xs.length < 17592186044415) (hB : B ≤ w.heap.size)
    (h : ∀ q c w', OwnI B w' (.slice q (xs.length + 1) c) (xs ++ [y]) → w.os = w'.os → w.tape = w'.tape → w.output = w'.output → w.heap.size ≤ w'.heap.size → (∀ k, k < w.heap.size → v.ownBlock ≠ some k → w'.heap[k]? = w.heap[k]?) → K (a.put o.dst (.slice q (xs.length + 1) c)) w') :
    if Region.wanted o (yielded ops a.tmps) = true then Oper.wp Tryz.prog o a (w.alloc (.cells #[.int .i64 y] 2)) K Q else E := by
  have hw : Region.wanted o (yielded ops a.tmps) = true := by simp [Region.wanted, hgd]
  rw [if_pos hw]
  obtain ⟨v', w', h1, h2, h3⟩ := run_append_int (w.alloc (.cells #[.int .i64 y] 2)) o.type (hown.alloc _) (c := 1) (rdI_one w y) (by simp only [List.length_cons, List.length_nil]; omega) (by simp; omega)
  obtain ⟨q, c, rfl, -⟩ := h2.rd
  have e : (xs ++ [y]).length = xs.length + 1 := by simp
  rw [e] at h1 h2
  unfold Oper.wp execOp
  simp only [List.length_cons, List.length_nil] at h1
  simp only [ho, resolve, invoke, builtin, Sem.run_bind, Sem.run_pure, Result.andThen_ok, List.map_toArray, List.map_cons, List.map_nil, hs, hx, h1]
  refine h q c w' h2 h3.os.symm h3.tape.symm h3.output.symm ?_ fun k hk hne => (h3.block k (by simp; omega) (fun e => hne e.symm)).trans (Below.heap_alloc _ _ _ hk)
  have := h3.size; simp at this; omega

theorem step_append_drew {ops : Array Oper} {o : Oper} {a : Act} {K : Act → World → Prop} {Q : Exit → Act → World → Prop} {E : Prop} {w : World} {y : Int} (hgd : o.guard = none) (s x : Operand)
    (ho : o.op = .call { callee := .builtin .append, args := #[s, x], argTypes := #[26, 26] })
    {B : Nat} {v : Value} {xs : List Int} (hs : a.eval s = v) (hown : OwnI B w v xs) (hx : a.eval x = .slice (some ⟨w.heap.size, 0, none⟩) 1 1) (hlen : xs.length < 17592186044415) (hB : B ≤ w.heap.size)
    (h : ∀ q c w', OwnI B w' (.slice q (xs.length + 1) c) (xs ++ [y]) → w.os = w'.os → w.tape = w'.tape → w.output = w'.output → w.heap.size ≤ w'.heap.size → (∀ k, k < w.heap.size → v.ownBlock ≠ some k → w'.heap[k]? = w.heap[k]?) → K (a.put o.dst (.slice q (xs.length + 1) c)) w') :
    if Region.wanted o (yielded ops a.tmps) = true then Oper.wp Tryz.prog o a (w.alloc (.cells #[.int .i64 y] 2)).drew K Q else E :=
  step_append_one (w := w.drew) hgd s x ho hs hown.drew hx hlen hB fun q c w' h1 h2 h3 h4 h5 h6 => h q c w' h1 h2 h3 h4 h5 h6

/-- append of one number that has just been laid in a block of its own -/
theorem wpList_append_one {ops : Array Oper} {rest : List Oper} {o : Oper} {a : Act} {Q : Exit → Act → World → Prop} {w : World} {y : Int} (hgd : o.guard = none) (s x : Operand)
    (ho : o.op = .call { callee := .builtin .append, args := #[s, x], argTypes := #[26, 26] })
    {B B0 : Nat} {w0 : World} {v : Value} {xs : List Int} (hs : a.eval s = v) (hown : OwnI B w v xs) (hx : a.eval x = .slice (some ⟨w.heap.size, 0, none⟩) 1 1) (hbel : Below B0 w0 w) (hlen : xs.length < 17592186044415) (hB : B ≤ w.heap.size) (hB0 : B0 ≤ B)
    (h : ∀ v' w', OwnI B w' v' (xs ++ [y]) → Below B0 w0 w' → w.heap.size ≤ w'.heap.size → (∀ k, k < w.heap.size → v.ownBlock ≠ some k → w'.heap[k]? = w.heap[k]?) → wpList Tryz.prog ops Q rest (a.put o.dst v') w') : wpList Tryz.prog ops Q (o :: rest) a (w.alloc (.cells #[.int .i64 y] 2)) := by
  refine wpList_append_int hgd s x ho hs (hown.alloc _) (rdI_one w y) hx rfl (by simp only [List.length_cons, List.length_nil]; omega) (by simp; omega) fun v' w' h1 h2 => h v' w' h1 ((hbel.alloc (by omega) _).grown h2 (by simp; omega) fun k hk => ?_) ?_ fun k hk hne => ?_
  · have := (hown.lt hk).1; omega
  · have := h2.size; simp at this; omega
  · exact (h2.block k (by simp; omega) (fun e => hne e.symm)).trans (Below.heap_alloc _ _ _ hk)
end

/-! ### slices of slices -/

theorem infoII : (Tryz.prog.info? 26).map (fun i => (i.zero, i.size, i.bytes)) = some (some (.slice none 0 0), 1, 24) := by kernel_rfl

/-- the values of L are slices of integers of their own, that read xss -/
def OwnIs (B : Nat) (w : World) (L : List Value) (xss : List (List Int)) : Prop :=
  L.length = xss.length ∧ ∀ i, (h : i < xss.length) → ∃ u, L[i]? = some u ∧ OwnI B w u xss[i]

/-- block b is one of those of L -/
def Blk (L : List Value) (b : Nat) : Prop := ∃ u ∈ L, u.ownBlock = some b

/-- no two of L lie in one block -/
def Dis (L : List Value) : Prop := L.Pairwise fun u u' => ∀ b, u.ownBlock = some b → u'.ownBlock ≠ some b

theorem OwnIs.at_ {B : Nat} {w : World} {L : List Value} {xss : List (List Int)} (h : OwnIs B w L xss) {i : Nat} (hi : i < xss.length) : ∃ hL : i < L.length, OwnI B w L[i] xss[i] := by
  obtain ⟨u, hu, ho⟩ := h.2 i hi
  obtain ⟨hl, he⟩ := List.getElem?_eq_some_iff.1 hu
  exact ⟨hl, by rw [he]; exact ho⟩

theorem OwnIs.nil (B : Nat) (w : World) : OwnIs B w [] [] := ⟨rfl, fun i h => by simp at h⟩

theorem OwnIs.snoc {B : Nat} {w : World} {L : List Value} {xss : List (List Int)} (h : OwnIs B w L xss) {u : Value} {xs : List Int} (hu : OwnI B w u xs) : OwnIs B w (L ++ [u]) (xss ++ [xs]) := by
  refine ⟨by simp [h.1], fun i hi => ?_⟩
  by_cases e : i < xss.length
  · obtain ⟨v, hv, ho⟩ := h.2 i e
    refine ⟨v, ?_, by rw [List.getElem_append_left e]; exact ho⟩
    rw [List.getElem?_append_left (by rw [h.1]; exact e), hv]
  · have e' : i = xss.length := by simp at hi; omega
    subst e'
    refine ⟨u, by rw [← h.1, List.getElem?_append_right (Nat.le_refl _)]; simp, ?_⟩
    simpa using hu

theorem OwnIs.append {B : Nat} {w : World} {L L' : List Value} {xss yss : List (List Int)} (h : OwnIs B w L xss) (h' : OwnIs B w L' yss) : OwnIs B w (L ++ L') (xss ++ yss) := by
  refine ⟨by simp [h.1, h'.1], fun i hi => ?_⟩
  by_cases e : i < xss.length
  · obtain ⟨v, hv, ho⟩ := h.2 i e
    refine ⟨v, ?_, by rw [List.getElem_append_left e]; exact ho⟩
    rw [List.getElem?_append_left (by rw [h.1]; exact e), hv]
  · have hi' : i - xss.length < yss.length := by simp at hi; omega
    obtain ⟨v, hv, ho⟩ := h'.2 _ hi'
    refine ⟨v, ?_, ?_⟩
    · rw [List.getElem?_append_right (by rw [h.1]; omega), h.1, hv]
    · rw [List.getElem_append_right (by omega)]; exact ho

theorem OwnIs.mono {B B' : Nat} {w : World} {L : List Value} {xss : List (List Int)} (h : OwnIs B w L xss) (hB : B' ≤ B) : OwnIs B' w L xss :=
  ⟨h.1, fun i hi => by obtain ⟨u, hu, ho⟩ := h.2 i hi; exact ⟨u, hu, ho.mono hB⟩⟩

theorem OwnIs.keep {B : Nat} {w w' : World} {L : List Value} {xss : List (List Int)} (h : OwnIs B w L xss) (hk : ∀ k, Blk L k → w'.heap[k]? = w.heap[k]?) : OwnIs B w' L xss :=
  ⟨h.1, fun i hi => by obtain ⟨u, hu, ho⟩ := h.2 i hi; exact ⟨u, hu, ho.keep fun k hb => hk k ⟨u, List.mem_of_getElem? hu, hb⟩⟩⟩

theorem OwnIs.blk {B : Nat} {w : World} {L : List Value} {xss : List (List Int)} (h : OwnIs B w L xss) {b : Nat} (hb : Blk L b) : B ≤ b ∧ b < w.heap.size ∧ ∃ cur, w.heap[b]? = some (.cells cur 2 (0, 0)) := by
  obtain ⟨u, hu, hb⟩ := hb
  obtain ⟨i, hi, rfl⟩ := List.mem_iff_getElem.1 hu
  obtain ⟨hL, ho⟩ := h.at_ (i := i) (by rw [← h.1]; exact hi)
  refine ⟨(ho.lt hb).1, (ho.lt hb).2, ?_⟩
  rcases ho.2 with ⟨hn, _⟩ | ⟨g, cap, cur, hv, _, hg, _⟩
  · rw [hn] at hb; simp [Value.ownBlock] at hb
  · rw [hv] at hb
    simp only [Value.ownBlock, Option.some.injEq] at hb
    subst hb
    exact ⟨cur, hg⟩

theorem OwnIs.below {B : Nat} {w w' : World} {L : List Value} {xss : List (List Int)} (h : OwnIs B w L xss) (hb : Below w.heap.size w w') : OwnIs B w' L xss :=
  h.keep fun k hk => hb.block k (h.blk hk).2.1

/-- the slice at p reads the values of L, one cell each -/
structure RdV (w : World) (p : Option Addr) (L : List Value) : Prop where
  len : L.length ≤ maxLen
  cells : L = [] ∨ ∃ b o, p = some ⟨b, o, none⟩ ∧ ∀ i, (h : i < L.length) → w.cell? ⟨b, o + i, none⟩ = some L[i]

theorem RdV.pos {w : World} {p : Option Addr} {L : List Value} (h : RdV w p L) {k : Nat} (hk : k < L.length) :
    ∃ b o, p = some ⟨b, o, none⟩ ∧ b < w.heap.size ∧ ∀ i, (h : i < L.length) → w.cell? ⟨b, o + i, none⟩ = some L[i] := by
  rcases h.cells with rfl | ⟨b, o, e, hc⟩
  · simp at hk
  · exact ⟨b, o, e, World.block_lt_of_cell? w _ (hc k hk), hc⟩

theorem RdV.keep {w w' : World} {p : Option Addr} {L : List Value} (h : RdV w p L) (hk : ∀ b o, p = some ⟨b, o, none⟩ → b < w.heap.size → w'.heap[b]? = w.heap[b]?) : RdV w' p L := by
  refine ⟨h.len, ?_⟩
  rcases h.cells with rfl | ⟨b, o, e, hc⟩
  · exact .inl rfl
  · by_cases h0 : L = []
    · exact .inl h0
    · have hpos : 0 < L.length := List.length_pos_iff.2 h0
      have hb := World.block_lt_of_cell? w _ (hc 0 hpos)
      exact .inr ⟨b, o, e, fun i hi => (World.cell?_of_block (w := w) (a := ⟨b, o + i, none⟩) (hk b o e hb)).trans (hc i hi)⟩

/-- an outer row of its own, of values of one cell -/
def OwnV (B : Nat) (w : World) (E : TypeId) (v : Value) (L : List Value) : Prop := w.ownsRow B E 1 v L.length L

theorem OwnV.cases {B : Nat} {w : World} {E : TypeId} {v : Value} {L : List Value} (h : OwnV B w E v L) :
    (v = .slice none 0 0 ∧ L = []) ∨ ∃ g cap, v = .slice (some ⟨g, 0, none⟩) L.length cap ∧ B ≤ g ∧ g < w.heap.size ∧ (∃ cur, w.heap[g]? = some (.cells cur E (0, 0))) ∧ RdV w (some ⟨g, 0, none⟩) L := by
  rcases h.2 with ⟨h1, h2⟩ | ⟨g, cap, cur, hv, hB, hg, hn, hm, hs, ht⟩
  · exact .inl ⟨h1, List.eq_nil_of_length_eq_zero h2⟩
  · refine .inr ⟨g, cap, hv, hB, (Array.getElem?_eq_some_iff.1 hg).1, ⟨cur, hg⟩, ⟨by omega, .inr ⟨g, 0, rfl, fun i hi => ?_⟩⟩⟩
    have hh : w.ownsRow B E 1 (.slice (some ⟨g, 0, none⟩) L.length cap) L.length L := by rw [← hv]; exact h
    rw [Nat.zero_add, hh.cellAt i (by omega), List.getElem?_eq_getElem hi]

theorem OwnV.lt {B : Nat} {w : World} {E : TypeId} {v : Value} {L : List Value} (h : OwnV B w E v L) {k : Nat} (hk : v.ownBlock = some k) : B ≤ k ∧ k < w.heap.size := World.ownsRow.lt h k hk
theorem OwnV.keep {B : Nat} {w w' : World} {E : TypeId} {v : Value} {L : List Value} (h : OwnV B w E v L) (hk : ∀ k, v.ownBlock = some k → w'.heap[k]? = w.heap[k]?) : OwnV B w' E v L := by
  refine ⟨h.1, ?_⟩
  rcases h.2 with hn | ⟨g, cap, cur, rfl, hb, hgg, rest⟩
  · exact .inl hn
  · exact .inr ⟨g, cap, cur, rfl, hb, (hk g rfl).trans hgg, rest⟩
theorem OwnV.below {B : Nat} {w w' : World} {E : TypeId} {v : Value} {L : List Value} (h : OwnV B w E v L) (hb : Below w.heap.size w w') : OwnV B w' E v L := h.keep fun k hk => hb.block k (h.lt hk).2
theorem OwnV.mono {B B' : Nat} {w : World} {E : TypeId} {v : Value} {L : List Value} (h : OwnV B w E v L) (hB : B' ≤ B) : OwnV B' w E v L := by
  refine ⟨h.1, ?_⟩
  rcases h.2 with h2 | ⟨g, cap, cur, hv, hb, r⟩
  · exact .inl h2
  · exact .inr ⟨g, cap, cur, hv, Nat.le_trans hB hb, r⟩

theorem OwnV.made {B : Nat} (w : World) (E : TypeId) (z : Value) (n : Nat) (hB : B ≤ w.heap.size) (hm : n ≤ maxLen) : OwnV B (w.alloc (.cells (madeCells #[z] n) E)) E (.slice (some ⟨w.heap.size, 0, none⟩) n n) (List.replicate n z) := by
  have h := World.ownsRow_lit (base := B) (e := E) (size := 1) w (madeCells #[z] n) n hB hm (by rw [size_madeCells, Nat.mul_one])
  rw [toList_madeCells_one] at h
  simpa [OwnV] using h

theorem OwnV.storing {B : Nat} {w : World} {E : TypeId} {g n cap : Nat} {L : List Value} (h : OwnV B w E (.slice (some ⟨g, 0, none⟩) n cap) L) {k : Nat} (hk : k < L.length) :
    n = L.length ∧ B ≤ g ∧ g < w.heap.size ∧ w.cell? ⟨g, k, none⟩ = some L[k] ∧ w.frozen? ⟨g, k, none⟩ = false ∧ ∀ y, OwnV B (w.setCell ⟨g, k, none⟩ y) E (.slice (some ⟨g, 0, none⟩) n cap) (L.set k y) := by
  have hl := h.lt (k := g) rfl
  rcases h.cases with ⟨h1, _⟩ | ⟨g', cap', h1, hB, hlt, _, hr⟩
  · simp at h1
  · simp only [Value.slice.injEq, Option.some.injEq, Addr.mk.injEq, and_true] at h1
    obtain ⟨rfl, rfl, rfl⟩ := h1
    refine ⟨rfl, hl.1, hl.2, ?_, World.ownsRow.frozenAt h k, fun y => ?_⟩
    · rw [World.ownsRow.cellAt h k (by omega), List.getElem?_eq_getElem hk]
    · have := (World.ownsRow.stored h k y).1
      simpa [OwnV] using this

/-- the outer row lies in none of the inner blocks: its cells are of another type -/
theorem OwnV.off {B B' : Nat} {w : World} {E : TypeId} {v : Value} {L M : List Value} {xss : List (List Int)} (h : OwnV B w E v L) (hE : E ≠ 2) (hs : OwnIs B' w M xss) {k : Nat} (hk : v.ownBlock = some k) : ¬ Blk M k := by
  intro hb
  obtain ⟨_, _, cur, hg⟩ := hs.blk hb
  rcases h.cases with ⟨rfl, _⟩ | ⟨g, cap, rfl, _, _, ⟨cur', hg'⟩, _⟩
  · simp [Value.ownBlock] at hk
  · simp only [Value.ownBlock, Option.some.injEq] at hk
    subst hk
    rw [hg] at hg'
    simp only [Option.some.injEq, Obj.cells.injEq] at hg'
    exact hE hg'.2.1.symm

/-- a slice of slices of its own: L are the inner slices -/
def OwnII (B : Nat) (w : World) (v : Value) (xss : List (List Int)) (L : List Value) : Prop := OwnV B w 26 v L ∧ OwnIs B w L xss ∧ Dis L

theorem OwnII.rd {B : Nat} {w : World} {v : Value} {xss : List (List Int)} {L : List Value} (h : OwnII B w v xss L) : ∃ p c, v = .slice p xss.length c ∧ RdII w p xss := by
  obtain ⟨hv, hs, _⟩ := h
  rcases hv.cases with ⟨rfl, rfl⟩ | ⟨g, cap, rfl, _, _, _, hr⟩
  · have : xss = [] := List.eq_nil_of_length_eq_zero (by rw [← hs.1]; rfl)
    subst this
    exact ⟨none, 0, rfl, RdII.nil _ _⟩
  · refine ⟨_, cap, by rw [hs.1], ⟨by rw [← hs.1]; exact hr.len, ?_, fun b o i q l c hp hi hcl => ?_⟩⟩
    rotate_left
    · obtain ⟨hL, ho⟩ := hs.at_ hi
      obtain ⟨b', o', e', _, hc'⟩ := hr.pos hL
      rw [hp] at e'
      simp only [Option.some.injEq, Addr.mk.injEq, and_true] at e'
      obtain ⟨rfl, rfl⟩ := e'
      rw [hc' i hL, Option.some.injEq] at hcl
      rw [hcl] at ho
      exact ho.cap
    rcases hr.cells with rfl | ⟨b, o, e, hc⟩
    · left
      exact List.eq_nil_of_length_eq_zero (by rw [← hs.1]; rfl)
    · right
      refine ⟨b, o, e, fun i hi => ?_⟩
      obtain ⟨hL, ho⟩ := hs.at_ hi
      obtain ⟨q, c, hq, hrd⟩ := ho.rd
      exact ⟨q, c, by rw [hc i hL, hq], hrd⟩

theorem OwnII.below {B : Nat} {w w' : World} {v : Value} {xss : List (List Int)} {L : List Value} (h : OwnII B w v xss L) (hb : Below w.heap.size w w') : OwnII B w' v xss L := ⟨h.1.below hb, h.2.1.below hb, h.2.2⟩
theorem OwnII.mono {B B' : Nat} {w : World} {v : Value} {xss : List (List Int)} {L : List Value} (h : OwnII B w v xss L) (hB : B' ≤ B) : OwnII B' w v xss L := ⟨h.1.mono hB, h.2.1.mono hB, h.2.2⟩

theorem Dis.snoc {L : List Value} (h : Dis L) {u : Value} (hu : ∀ b, u.ownBlock = some b → ¬ Blk L b) : Dis (L ++ [u]) := by
  refine List.pairwise_append.2 ⟨h, by simp, fun a ha c hc b hb hcb => ?_⟩
  simp only [List.mem_singleton] at hc
  subst hc
  exact hu b hcb ⟨a, ha, hb⟩

theorem Dis.append {L M : List Value} (h : Dis L) (h' : Dis M) (hd : ∀ b, Blk L b → ¬ Blk M b) : Dis (L ++ M) :=
  List.pairwise_append.2 ⟨h, h', fun a ha c hc b hb hcb => hd b ⟨a, ha, hb⟩ ⟨c, hc, hcb⟩⟩

theorem Dis.at_ {L : List Value} (h : Dis L) {i j : Nat} (hi : i < L.length) (hj : j < L.length) (hne : i ≠ j) {b : Nat} (hb : L[i].ownBlock = some b) : L[j].ownBlock ≠ some b := by
  rcases Nat.lt_or_gt_of_ne hne with hlt | hgt
  · exact (List.pairwise_iff_getElem.1 h i j hi hj hlt) b hb
  · exact fun hb' => (List.pairwise_iff_getElem.1 h j i hj hi hgt) b hb' hb

section
theorem run_append_val (w : World) (ty E T bytes : Nat) (z : Value) (hT : Tryz.prog.underlying T = some (.slice E)) (hinfo : (Tryz.prog.info? E).map (fun i => (i.zero, i.size, i.bytes)) = some (some z, 1, bytes)) (hz : z.cells.size = 1) (hby : bytes ≤ 64)
    {B : Nat} {v u : Value} {L : List Value} (hown : OwnV B w E v L) (h1 : u.oneCell' = true) (hlen : L.length < 1099511627776) (hB : B ≤ w.heap.size) :
    ∃ v' w', (Builtin.append_ #[T, T] ty #[v, .slice (some ⟨w.heap.size, 0, none⟩) 1 1]).run Tryz.prog (w.alloc (.cells #[u] E)) = .ok v' w' ∧ OwnV B w' E v' (L ++ [u]) ∧ (w.alloc (.cells #[u] E)).grownBy w' v.ownBlock := by
  obtain ⟨i0, hi, hz0, hz1, hz2⟩ := info_parts hinfo
  obtain ⟨v', w', h1, h2, h3, _⟩ := run_append_own (P := Tryz.prog) (w.alloc (.cells #[u] E)) B T ty E i0 z 1 bytes hT hi hz0 hz1 hz2 hz (by decide) v L.length L (hown.keep fun k hk => Below.heap_alloc _ _ _ (hown.lt hk).2) ⟨w.heap.size, 0, none⟩ 1 1 [u] rfl
    (by
      intro j x hx
      match j, hx with
      | 0, hx =>
        simp only [List.getElem?_cons_zero, Option.some.injEq] at hx
        subst hx
        rw [Addr.add_lit, World.cell?_alloc_at _ _ _ _ rfl]
        rfl)
    (by intro x hx; simp only [List.mem_singleton] at hx; subst hx; exact h1) (by simp only [maxLen]; omega)
    (by have : (L.length + 1) * bytes ≤ 1099511627776 * 64 := Nat.mul_le_mul (by omega) hby
        omega) (by simp; omega)
  exact ⟨v', w', h1, by simpa [OwnV] using h2, h3⟩

theorem wpList_append_val {ops : Array Oper} {rest : List Oper} {o : Oper} {a : Act} {Q : Exit → Act → World → Prop} {w : World} {u : Value} {E T : Nat} (hgd : o.guard = none) (s x : Operand)
    (ho : o.op = .call { callee := .builtin .append, args := #[s, x], argTypes := #[T, T] }) (bytes : Nat) (z : Value) (hT : Tryz.prog.underlying T = some (.slice E)) (hinfo : (Tryz.prog.info? E).map (fun i => (i.zero, i.size, i.bytes)) = some (some z, 1, bytes)) (hz : z.cells.size = 1) (hby : bytes ≤ 64)
    {B B0 : Nat} {w0 : World} {v : Value} {L : List Value} (hs : a.eval s = v) (hown : OwnV B w E v L) (hx : a.eval x = .slice (some ⟨w.heap.size, 0, none⟩) 1 1) (h1 : u.oneCell' = true) (hbel : Below B0 w0 w) (hlen : L.length < 1099511627776) (hB : B ≤ w.heap.size) (hB0 : B0 ≤ B)
    (h : ∀ v' w', OwnV B w' E v' (L ++ [u]) → Below B0 w0 w' → w.heap.size ≤ w'.heap.size → (∀ k, k < w.heap.size → v.ownBlock ≠ some k → w'.heap[k]? = w.heap[k]?) → wpList Tryz.prog ops Q rest (a.put o.dst v') w') : wpList Tryz.prog ops Q (o :: rest) a (w.alloc (.cells #[u] E)) := by
  refine wpList_plain hgd fun K hK => ?_
  obtain ⟨v', w', e1, e2, e3⟩ := run_append_val w o.type E T bytes z hT hinfo hz hby hown h1 hlen hB
  unfold Oper.wp execOp
  simp only [ho, resolve, invoke, builtin, Sem.run_bind, Sem.run_pure, Result.andThen_ok, List.map_toArray, List.map_cons, List.map_nil, hs, hx, e1]
  refine hK _ _ (h v' w' e2 ((hbel.alloc (by omega) _).grown e3 (by simp; omega) fun k hk => ?_) ?_ fun k hk hne => ?_)
  · have := (hown.lt hk).1; omega
  · have := e3.size; simp at this; omega
  · exact (e3.block k (by simp; omega) (fun e => hne e.symm)).trans (Below.heap_alloc _ _ _ hk)
end

theorem OwnI.oneCell {B : Nat} {w : World} {v : Value} {xs : List Int} (h : OwnI B w v xs) : v.oneCell' = true := by
  rcases h.cases with ⟨rfl, _⟩ | ⟨_, _, rfl, _⟩ <;> rfl

/-- a row more -/
theorem OwnII.snoc {B : Nat} {w w' : World} {v v' u : Value} {xss : List (List Int)} {xs : List Int} {L : List Value} (h : OwnII B w v xss L) (hu : OwnI B w u xs) (hnew : ∀ b, u.ownBlock = some b → ¬ Blk L b)
    (hv : OwnV B w' 26 v' (L ++ [u])) (hk : ∀ k, k < w.heap.size → v.ownBlock ≠ some k → w'.heap[k]? = w.heap[k]?) : OwnII B w' v' (xss ++ [xs]) (L ++ [u]) := by
  obtain ⟨h1, h2, h3⟩ := h
  refine ⟨hv, ?_, h3.snoc hnew⟩
  refine ((h2.keep fun k hb => hk k (h2.blk hb).2.1 fun e => h1.off (by decide) h2 e hb)).snoc (hu.keep fun k hb => hk k (hu.lt hb).2 fun e => ?_)
  exact h1.off (by decide) (OwnIs.snoc (OwnIs.nil B w) hu) e ⟨u, by simp, hb⟩
theorem OwnII.empty {B : Nat} (w : World) (hB : B ≤ w.heap.size) : OwnII B (w.alloc (.cells #[] 26)) (.slice (some ⟨w.heap.size, 0, none⟩) 0 0) [] [] := by
  refine ⟨?_, OwnIs.nil _ _, List.Pairwise.nil⟩
  have h := World.ownsRow_lit (base := B) (e := 26) (size := 1) w #[] 0 hB (by simp [maxLen]) (by simp)
  simpa [OwnV] using h
end Go.Proofs.YtcfhcmgmkhfjjaaGreat

namespace Go.Proofs.YtcfhcmgmkhfjjaaGreat
open Go.ChangeShapes Go.WideShapes Go.ChangeAt Go.RowKit
set_option linter.unusedVariables false

theorem Calls.turn {P : Program} {f : FuncId} {args : Array Value} {w : World} {v : Value} (h : Calls P f args w fun e w' => e = .returned v ∧ w = w') : Calls P f args w fun e w' => e = .returned v ∧ w' = w :=
  h.mono fun _ _ ⟨a, b⟩ => ⟨a, b.symm⟩
theorem within_any (n lo hi : Int) (w : World) :
    Calls Tryz.prog 30 #[.int .i64 n, .int .i64 lo, .int .i64 hi] w fun e w' => e = .returned (.bool (inB n lo hi)) ∧ w = w' := by
  by_cases h1 : lo ≤ n
  · go_enter Tryz.func30, Tryz.ntmps30
    go_wp2
    go_ret
    exact ⟨by rw [inB_of_le h1]; rfl, rfl⟩
  · go_enter Tryz.func30, Tryz.ntmps30
    go_wp2
    go_ret
    exact ⟨by rw [inB_of_lt h1]; rfl, rfl⟩
theorem l00In_any (n lo hi : Int) (w : World) :
    Calls Tryz.prog 25 #[.int .i64 n, .int .i64 lo, .int .i64 hi] w fun e w' => e = .returned (.bool (inB n lo hi)) ∧ w = w' := by
  by_cases h1 : lo ≤ n
  · go_enter Tryz.func25, Tryz.ntmps25
    go_wp2
    go_ret
    exact ⟨by rw [inB_of_le h1]; rfl, rfl⟩
  · go_enter Tryz.func25, Tryz.ntmps25
    go_wp2
    go_ret
    exact ⟨by rw [inB_of_lt h1]; rfl, rfl⟩
def isSmp (n : Int) : Bool := inB n (-2147483648) 2147483647
theorem isSample_any (n : Int) (w : World) :
    Calls Tryz.prog 119 #[.int .i64 n] w fun e w' => e = .returned (.bool (isSmp n)) ∧ w = w' := by
  go_enter Tryz.func119, Tryz.ntmps119
  go_wp2_with (go_at_call 30; refine (within_any _ _ _ _).mono ?_; rintro e w' ⟨rfl, rfl⟩)
  go_ret
  exact ⟨rfl, rfl⟩
theorem l01Sample_any (n : Int) (w : World) :
    Calls Tryz.prog 79 #[.int .i64 n] w fun e w' => e = .returned (.bool (isSmp n)) ∧ w = w' := by
  go_enter Tryz.func79, Tryz.ntmps79
  go_wp2_with (go_at_call 25; refine (l00In_any _ _ _ _).mono ?_; rintro e w' ⟨rfl, rfl⟩)
  go_ret
  exact ⟨rfl, rfl⟩
/-- the sample that is congruent to n modulo 2^32 -/
def smp (n : Int) : Int := (n + 2147483648) % 4294967296 - 2147483648
theorem smp_bounds (n : Int) : -2147483648 ≤ smp n ∧ smp n ≤ 2147483647 := by unfold smp; omega
theorem smp_of (n : Int) (h : -2147483648 ≤ n ∧ n ≤ 2147483647) : smp n = n := by unfold smp; omega
theorem wrap32_smp (n : Int) : wrap32 n = smp n := by unfold wrap32 smp; omega
theorem wrap6432_smp (n : Int) : wrap64 (wrap32 n) = smp n := by unfold wrap64 wrap32 smp; omega
theorem smp_wrap64 (n : Int) : smp (wrap64 n) = smp n := by unfold smp wrap64; omega
theorem smp_smp (n : Int) : smp (smp n) = smp n := smp_of _ (smp_bounds n)
theorem smp_eq {a b : Int} (h : (a - b) % 4294967296 = 0) : smp a = smp b := by unfold smp; omega
theorem smp_mod (n : Int) : ∃ k, smp n = n + 4294967296 * k := ⟨-((n + 2147483648) / 4294967296), by unfold smp; omega⟩
theorem smp_add_smp (a b : Int) : smp (smp a + smp b) = smp (a + b) := by
  obtain ⟨k, hk⟩ := smp_mod a
  obtain ⟨l, hl⟩ := smp_mod b
  rw [hk, hl]; unfold smp; omega
theorem smp_sub_smp (a b : Int) : smp (smp a - smp b) = smp (a - b) := by
  obtain ⟨k, hk⟩ := smp_mod a
  obtain ⟨l, hl⟩ := smp_mod b
  rw [hk, hl]; unfold smp; omega
theorem smp_mul_smp (a b : Int) : smp (smp a * smp b) = smp (a * b) := by
  obtain ⟨k, hk⟩ := smp_mod a
  obtain ⟨l, hl⟩ := smp_mod b
  rw [hk, hl]
  have e : (a + 4294967296 * k) * (b + 4294967296 * l) = a * b + 4294967296 * (k * b + l * a + 4294967296 * (k * l)) := by
    rw [Int.add_mul, Int.mul_add, Int.mul_add]
    have h1 : a * (4294967296 * l) = 4294967296 * (l * a) := by rw [Int.mul_left_comm, Int.mul_comm a l]
    have h2 : 4294967296 * k * b = 4294967296 * (k * b) := by rw [Int.mul_assoc]
    have h3 : 4294967296 * k * (4294967296 * l) = 4294967296 * (4294967296 * (k * l)) := by rw [Int.mul_assoc, Int.mul_left_comm k]
    rw [h1, h2, h3]; omega
  rw [e]; unfold smp; omega
theorem bits_and32 (n : Int) : bits .and .i64 n 4294967295 = n % 4294967296 := by
  show IntKind.i64.wrap ((BitVec.ofInt 64 n &&& BitVec.ofInt 64 4294967295).toNat : Int) = _
  have h2 : (BitVec.ofInt 64 4294967295).toNat = 2 ^ 32 - 1 := by rfl
  rw [BitVec.toNat_and, h2, Nat.and_two_pow_sub_one_eq_mod, BitVec.toNat_ofInt]
  have h3 : IntKind.i64.wrap ((((n % ((2 ^ 64 : Nat) : Int)).toNat % 2 ^ 32 : Nat)) : Int) = (((n % ((2 ^ 64 : Nat) : Int)).toNat % 2 ^ 32 : Nat) : Int) := by
    have := Nat.mod_lt (n % ((2 ^ 64 : Nat) : Int)).toNat (show 0 < 2 ^ 32 by decide)
    exact IntWalk.i64_in _ (by omega)
  rw [h3]
  omega
theorem bits_and1 (n : Int) : bits .and .i64 n 1 = n % 2 := by
  show IntKind.i64.wrap ((BitVec.ofInt 64 n &&& BitVec.ofInt 64 1).toNat : Int) = _
  have h2 : (BitVec.ofInt 64 1).toNat = 2 ^ 1 - 1 := by rfl
  rw [BitVec.toNat_and, h2, Nat.and_two_pow_sub_one_eq_mod, BitVec.toNat_ofInt]
  have h3 : IntKind.i64.wrap ((((n % ((2 ^ 64 : Nat) : Int)).toNat % 2 ^ 1 : Nat)) : Int) = (((n % ((2 ^ 64 : Nat) : Int)).toNat % 2 ^ 1 : Nat) : Int) := by
    have := Nat.mod_lt (n % ((2 ^ 64 : Nat) : Int)).toNat (show 0 < 2 ^ 1 by decide)
    exact IntWalk.i64_in _ (by omega)
  rw [h3]
  omega
theorem implWrap_any (n : Int) (w : World) :
    Calls Tryz.prog 96 #[.int .i64 n] w fun e w' => e = .returned (.int .i64 (smp n)) ∧ w = w' := by
  go_enter Tryz.func96, Tryz.ntmps96
  go_wp2
  go_ret
  exact ⟨ret_int (a := wrap64 (wrap32 n)) (wrap6432_smp n), rfl⟩
theorem l01Wrap_any (n : Int) (w : World) :
    Calls Tryz.prog 118 #[.int .i64 n] w fun e w' => e = .returned (.int .i64 (smp n)) ∧ w = w' := by
  have hb := bits_and32 n
  have h0 : 0 ≤ n % 4294967296 := by omega
  have h1 : n % 4294967296 ≤ 4294967295 := by omega
  by_cases h : n % 4294967296 ≤ 2147483647
  · have hs : smp n = n % 4294967296 := by unfold smp; omega
    rw [hs]
    clear hs
    generalize hm : n % 4294967296 = m at *
    clear hm
    go_enter Tryz.func118, Tryz.ntmps118
    go_wp2
    go_ret
    exact ⟨rfl, rfl⟩
  · have hs : smp n = n % 4294967296 - 4294967296 := by unfold smp; omega
    rw [hs]
    clear hs
    generalize hm : n % 4294967296 = m at *
    clear hm
    go_enter Tryz.func118, Tryz.ntmps118
    go_wp2
    go_ret
    exact ⟨rfl, rfl⟩
theorem l01Add_any (a b : Int) (w : World) :
    Calls Tryz.prog 121 #[.int .i64 a, .int .i64 b] w fun e w' => e = .returned (.int .i64 (smp (a + b))) ∧ w = w' := by
  have h1 := smp_bounds a
  have h2 := smp_bounds b
  go_enter Tryz.func121, Tryz.ntmps121
  go_wp2_with (go_at_call 118; refine (l01Wrap_any _ _).mono ?_; rintro e w' ⟨rfl, rfl⟩)
  go_ret
  exact ⟨ret_int (smp_add_smp a b), rfl⟩
theorem l01Sub_any (a b : Int) (w : World) :
    Calls Tryz.prog 122 #[.int .i64 a, .int .i64 b] w fun e w' => e = .returned (.int .i64 (smp (a - b))) ∧ w = w' := by
  have h1 := smp_bounds a
  have h2 := smp_bounds b
  go_enter Tryz.func122, Tryz.ntmps122
  go_wp2_with (go_at_call 118; refine (l01Wrap_any _ _).mono ?_; rintro e w' ⟨rfl, rfl⟩)
  go_ret
  exact ⟨ret_int (smp_sub_smp a b), rfl⟩
theorem l01Mul_any (a b : Int) (w : World) :
    Calls Tryz.prog 123 #[.int .i64 a, .int .i64 b] w fun e w' => e = .returned (.int .i64 (smp (a * b))) ∧ w = w' := by
  go_enter Tryz.func123, Tryz.ntmps123
  go_wp2_with (go_at_call 118; refine (l01Wrap_any _ _).mono ?_; rintro e w' ⟨rfl, rfl⟩)
  go_ret
  exact ⟨ret_int (by simp only [smp_wrap64]; exact smp_mul_smp a b), rfl⟩
end Go.Proofs.YtcfhcmgmkhfjjaaGreat

namespace Go.Proofs.YtcfhcmgmkhfjjaaGreat
open Go.ChangeShapes Go.WideShapes Go.ChangeAt Go.RowKit
set_option linter.unusedVariables false

/-- the slice of bytes at p reads xs -/
structure RdB (w : World) (p : Option Addr) (xs : List Int) : Prop where
  cells : xs = [] ∨ ∃ b o, p = some ⟨b, o, none⟩ ∧ ∀ i, (h : i < xs.length) → w.cell? ⟨b, o + i, none⟩ = some (.int .u8 xs[i])
  bytes : ∀ x ∈ xs, 0 ≤ x ∧ x ≤ 255
theorem RdB.pos {w : World} {p : Option Addr} {xs : List Int} (h : RdB w p xs) {k : Nat} (hk : k < xs.length) :
    ∃ b o, p = some ⟨b, o, none⟩ ∧ b < w.heap.size ∧ ∀ i, (h : i < xs.length) → w.cell? ⟨b, o + i, none⟩ = some (.int .u8 xs[i]) := by
  rcases h.cells with rfl | ⟨b, o, e, hc⟩
  · simp at hk
  · exact ⟨b, o, e, World.block_lt_of_cell? w _ (hc k hk), hc⟩
theorem RdB.keep {w w' : World} {p : Option Addr} {xs : List Int} (h : RdB w p xs) (hk : ∀ b o, p = some ⟨b, o, none⟩ → b < w.heap.size → w'.heap[b]? = w.heap[b]?) : RdB w' p xs := by
  refine ⟨?_, h.bytes⟩
  rcases h.cells with rfl | ⟨b, o, e, hc⟩
  · exact .inl rfl
  · by_cases h0 : xs = []
    · exact .inl h0
    · have hpos : 0 < xs.length := List.length_pos_iff.2 h0
      have hb := World.block_lt_of_cell? w _ (hc 0 hpos)
      exact .inr ⟨b, o, e, fun i hi => (World.cell?_of_block (w := w) (a := ⟨b, o + i, none⟩) (hk b o e hb)).trans (hc i hi)⟩
theorem RdB.below {w w' : World} {p : Option Addr} {xs : List Int} (h : RdB w p xs) (hb : Below w.heap.size w w') : RdB w' p xs := h.keep fun b _ _ hlt => hb.block b hlt

section
variable {H : Type} {enc : TypeId × Value → H} {P : Program} {W : World}
/-- the value v is a slice of bytes that reads xs -/
def VB (w : World) (v : Value) (xs : List Int) : Prop := ∃ p c, v = .slice p xs.length c ∧ RdB w p xs
theorem VB.below {w w' : World} {v : Value} {xs : List Int} (h : VB w v xs) (hb : Below w.heap.size w w') : VB w' v xs := by
  obtain ⟨p, c, rfl, hr⟩ := h
  exact ⟨p, c, rfl, hr.below hb⟩
theorem rdB_trod {t e : TypeId} {fuel : Nat} {cs : List Value} {x : DataW H × List MemPlace} (ht : P.underlying t = some (.slice e)) (he : P.underlying e = some (.int .u8)) (hc : P.cellsOf e = 1)
    (h : DataW.trod enc P W 0 (fun _ => true) true fuel t cs = some x) : ∃ p c, ∃ xs : List Int, cs = [.slice p xs.length c] ∧ RdB W p xs ∧ xs.length ≤ maxLen := by
  rcases open_ints ht he hc h with ⟨rfl, rfl⟩ | ⟨a, len, cap, zs, rfl, hb, hl, hm, hz, rfl, hcell, hwf⟩
  · exact ⟨none, 0, [], rfl, ⟨.inl rfl, by simp⟩, by simp [maxLen]⟩
  · simp only [if_true] at hz
    have hlen : (zs.take len).length = len := by rw [List.length_take]; omega
    refine ⟨some a, cap, zs.take len, by rw [hlen], ⟨?_, fun x hx => ?_⟩, by rw [hlen]; omega⟩
    · by_cases h0 : len = 0
      · left; subst h0; simp
      · right
        have h00 := hcell 0 (by omega)
        have hs : a = ⟨a.block, a.off, none⟩ := by
          simp only [Addr.add] at h00
          obtain ⟨b, o, s⟩ := a
          cases s with
          | none => rfl
          | some s => simp [World.cell?] at h00; split at h00 <;> simp at h00
        refine ⟨a.block, a.off, by rw [← hs], fun i hi => ?_⟩
        have := hcell i (by omega)
        rw [hs, Addr.add_lit] at this
        rw [this, List.getElem_take, List.getD_eq_getElem?_getD, List.getElem?_eq_getElem (by omega)]
        rfl
    · have := hwf x (List.mem_of_mem_take hx)
      simpa [Lit.wf, IntKind.min, IntKind.max, IntKind.signed, IntKind.bits] using this
theorem open_VB {r : Reach} {b0 : Nat} {t e : TypeId} {v : Value} {d : DataW H} {ps : List MemPlace} (ht : P.underlying t = some (.slice e)) (he : P.underlying e = some (.int .u8)) (hc : P.cellsOf e = 1)
    (hval : Value.okWide P W r b0 t v) (h : DataW.Trod enc P W 0 (fun _ => true) true t v d ps) : ∃ xs, VB W v xs ∧ xs.length ≤ maxLen := by
  obtain ⟨a, l, c, rfl⟩ := okWide_slice ht hval
  obtain ⟨fuel, h⟩ := h
  obtain ⟨p, c', xs, e1, h1, h2⟩ := rdB_trod ht he hc h
  exact ⟨xs, ⟨p, c', by simpa [Value.cells] using e1, h1⟩, h2⟩
end
/-- a source lies at block g; m bounds how far it has been read -/
def SrcAt (w : World) (g m : Nat) : Prop := ∃ p c k seed, ∃ bs : List Int, w.heap[g]? = some (.cells #[.slice p bs.length c, .int .i64 ((k : Nat) : Int), .int .u64 seed] 70 (0, 0)) ∧ k ≤ m ∧ bs.length ≤ 1048576 ∧ RdB w p bs ∧ (bs = [] ∨ ∀ b o, p = some ⟨b, o, none⟩ → b < g)
theorem SrcAt.lt {w : World} {g m : Nat} (h : SrcAt w g m) : g < w.heap.size := by
  obtain ⟨p, c, k, seed, bs, hb, _⟩ := h
  exact (Array.getElem?_eq_some_iff.1 hb).1
theorem SrcAt.mono {w : World} {g m m' : Nat} (h : SrcAt w g m) (hm : m ≤ m') : SrcAt w g m' := by
  obtain ⟨p, c, k, seed, bs, hb, hk, r⟩ := h
  exact ⟨p, c, k, seed, bs, hb, Nat.le_trans hk hm, r⟩
theorem SrcAt.stay {w w' : World} {g m B : Nat} (h : SrcAt w g m) (hB : g < B) (hk : ∀ k, k < B → k < w.heap.size → w'.heap[k]? = w.heap[k]?) : SrcAt w' g m := by
  have hl := h.lt
  obtain ⟨p, c, k, seed, bs, h1, hk1, h2, h3, h4⟩ := h
  refine ⟨p, c, k, seed, bs, (hk g hB hl).trans h1, hk1, h2, ?_, h4⟩
  rcases h4 with rfl | h4
  · exact ⟨.inl rfl, h3.bytes⟩
  · exact h3.keep fun b o e hb => hk b (by have := h4 b o e; omega) hb
theorem SrcAt.below {w w' : World} {g m : Nat} (h : SrcAt w g m) (hb : Below w.heap.size w w') : SrcAt w' g m := by
  have hl := h.lt
  obtain ⟨p, c, k, seed, bs, h1, hk, h2, h3, h4⟩ := h
  exact ⟨p, c, k, seed, bs, (hb.block g hl).trans h1, hk, h2, h3.below hb, h4⟩
/-- a number was drawn: P holds of it -/
def Draws (w : World) (g m : Nat) (P : Int → Prop) (e : Ending) (w' : World) : Prop := ∃ x, P x ∧ e = .returned (.int .i64 x) ∧ SrcAt w' g m ∧ Off (· = g) w w'
theorem and255 (z : Int) : 0 ≤ bits .and .u64 z 255 ∧ bits .and .u64 z 255 ≤ 255 := by
  have h1 : bits .and .u64 z 255 = ((BitVec.ofInt 64 z &&& BitVec.ofInt 64 255).toNat : Int) % 18446744073709551616 := by
    show IntKind.u64.wrap ((BitVec.ofInt 64 z &&& BitVec.ofInt 64 255).toNat : Int) = _
    simp [IntKind.wrap, IntKind.bits, IntKind.signed]
  have h2 : (BitVec.ofInt 64 255).toNat = 2 ^ 8 - 1 := by rfl
  rw [h1, BitVec.toNat_and, h2, Nat.and_two_pow_sub_one_eq_mod]
  omega
theorem src_after {g m k c : Nat} {p : Option Addr} {bs : List Int} {seed s' : Int} {w : World} (a b' : Nat) (hb : w.heap[g]? = some (.cells #[.slice p bs.length c, .int .i64 ((k : Nat) : Int), .int .u64 seed] 70 (0, 0))) (hk : k ≤ m) (hl : bs.length ≤ 1048576) (hr : RdB w p bs) (hp : bs = [] ∨ ∀ b o, p = some ⟨b, o, none⟩ → b < g) :
    SrcAt ((((w.drewN a).setCell ⟨g, 1, none⟩ (.int .i64 ((k : Int) + 1))).setCell ⟨g, 2, none⟩ (.int .u64 s')).drewN b') g (m + 1) ∧ Off (· = g) w ((((w.drewN a).setCell ⟨g, 1, none⟩ (.int .i64 ((k : Int) + 1))).setCell ⟨g, 2, none⟩ (.int .u64 s')).drewN b') := by
  have h1 := heap_setCell_same (w.drewN a) g 1 _ _ (.int .i64 ((k : Int) + 1)) hb
  have h2 := heap_setCell_same _ g 2 _ _ (.int .u64 s') h1
  have hblk : ∀ j, j ≠ g → ((((w.drewN a).setCell ⟨g, 1, none⟩ (.int .i64 ((k : Int) + 1))).setCell ⟨g, 2, none⟩ (.int .u64 s')).drewN b').heap[j]? = w.heap[j]? := fun j hj =>
    (Below.heap_setCell ((w.drewN a).setCell ⟨g, 1, none⟩ (.int .i64 ((k : Int) + 1))) _ _ _ hj).trans (Below.heap_setCell (w.drewN a) _ _ _ hj)
  refine ⟨⟨p, c, k + 1, s', bs, h2.trans (by simp), by omega, hl, ?_, hp⟩, rfl, rfl, rfl, by simp [World.setCell, World.drewN], fun j _ hj => hblk j hj⟩
  rcases hp with rfl | hp
  · exact ⟨.inl rfl, hr.bytes⟩
  · exact hr.keep fun b o e _ => hblk b (by have := hp b o e; omega)
set_option maxHeartbeats 2000000 in
theorem next_any {g m : Nat} (w : World) (h : SrcAt w g m) (hm : m ≤ 1099511627776) :
    Calls Tryz.prog 61 #[.pointer (some ⟨g, 0, none⟩)] w (Draws w g (m + 1) fun x => 0 ≤ x ∧ x ≤ 255) := by
  obtain ⟨p, c, k, seed, bs, hb, hk, hl, hr, hp⟩ := h
  have z0 : w.cell? ⟨g, 0, none⟩ = _ := cell_of_row w g 0 _ _ _ hb
  have z1 : w.cell? ⟨g, 1, none⟩ = _ := cell_of_row w g 1 _ _ _ hb
  have z2 : w.cell? ⟨g, 2, none⟩ = _ := cell_of_row w g 2 _ _ _ hb
  have f1 := frozen_of_row w g 1 _ _ hb
  have f2 := frozen_of_row w g 2 _ _ hb
  simp only [List.getElem?_toArray, List.getElem?_cons_zero, List.getElem?_cons_succ] at z0 z1 z2
  by_cases hlt : k < bs.length
  · obtain ⟨b, o, rfl, hb1, hc⟩ := hr.pos hlt
    have hck := hc k hlt
    have hby := hr.bytes _ (List.getElem_mem hlt)
    generalize bs[k] = x at hck hby
    have hx0 := hby.1
    have hx1 := hby.2
    clear hc hby
    go_enter Tryz.func61, Tryz.ntmps61
    have hk1 : (k : Int) ≤ 1099511627776 := by omega
    go_wp2_with fail
    go_quiet (fail)
    go_wp2_with fail
    go_quiet (fail)
    go_wp2_with fail
    go_quiet (fail)
    go_wp2_with fail
    go_ret
    obtain ⟨h1, h2⟩ := src_after (s' := _) _ _ hb hk hl hr hp
    exact ⟨x, ⟨hx0, hx1⟩, rfl, h1, h2⟩
  · have hk1 : (k : Int) ≤ 1099511627776 := by omega
    go_enter Tryz.func61, Tryz.ntmps61
    go_wp2_with fail
    go_quiet (fail)
    go_wp2_with fail
    go_quiet (fail)
    go_wp2_with fail
    go_ret
    obtain ⟨h1, h2⟩ := src_after (s' := _) _ _ hb hk hl hr hp
    refine ⟨_, ?_, rfl, h1, h2⟩
    have h3 := and255 (IntKind.u64.wrap (IntKind.u64.wrap (IntKind.u64.wrap (seed * 6364136223846793005)) + 1442695040888963407) / 1099511627776)
    rw [IntWalk.wrap64_in _ (by omega)]
    exact h3
def pickP (n : Int) (x : Int) : Prop := if n ≤ 1 then x = 0 else 0 ≤ x ∧ x < n
theorem pickP_pos {n x : Int} (h : pickP n x) (hn : 1 ≤ n) : 0 ≤ x ∧ x < n := by
  unfold pickP at h
  split at h <;> omega
theorem pickP_nonneg {n x : Int} (h : pickP n x) : 0 ≤ x := by
  unfold pickP at h
  split at h <;> omega
set_option maxHeartbeats 1000000 in
theorem pick_any {g m : Nat} (n : Int) (w : World) (h : SrcAt w g m) (hm : m + 1 ≤ 1099511627776) (hn : n ≤ 1048576) :
    Calls Tryz.prog 33 #[.pointer (some ⟨g, 0, none⟩), .int .i64 n] w (Draws w g (m + 2) (pickP n)) := by
  by_cases h1 : n ≤ 1
  · have hP : Hid (pickP n 0) := by unfold Hid pickP; rw [if_pos h1]
    go_enter Tryz.func33, Tryz.ntmps33
    go_wp2_with fail
    go_ret
    exact ⟨0, hP.out, rfl, h.mono (by omega), Off.refl _ _⟩
  · have hP : Hid (∀ y : Int, 0 ≤ y → pickP n (y % n)) := by
      intro y hy
      unfold pickP
      rw [if_neg h1]
      exact ⟨Int.emod_nonneg _ (by omega), Int.emod_lt_of_pos _ (by omega)⟩
    by_cases h2 : n ≤ 200
    · go_enter Tryz.func33, Tryz.ntmps33
      go_wp2_with fail
      refine (next_any w h (by omega)).mono ?_
      rintro e w1 ⟨x, ⟨hx0, hx1⟩, rfl, hs1, ho1⟩
      go_wp2_with fail
      go_ret
      exact ⟨_, hP.out x hx0, rfl, hs1.mono (by omega), ho1⟩
    · go_enter Tryz.func33, Tryz.ntmps33
      go_wp2_with fail
      refine (next_any w h (by omega)).mono ?_
      rintro e w1 ⟨x, ⟨hx0, hx1⟩, rfl, hs1, ho1⟩
      go_wp2_with fail
      refine (next_any w1 hs1 (by omega)).mono ?_
      rintro e w2 ⟨y, ⟨hy0, hy1⟩, rfl, hs2, ho2⟩
      go_wp2_with fail
      go_ret
      exact ⟨_, hP.out (x * 256 + y) (by omega), rfl, hs2.mono (by omega), ho1.trans ho2⟩
def DrawsB (w : World) (g m : Nat) (e : Ending) (w' : World) : Prop := ∃ b, e = .returned (.bool b) ∧ SrcAt w' g m ∧ Off (· = g) w w'
theorem one_any {g m : Nat} (n : Int) (w : World) (h : SrcAt w g m) (hm : m + 1 ≤ 1099511627776) (hn : n ≤ 1048576) :
    Calls Tryz.prog 59 #[.pointer (some ⟨g, 0, none⟩), .int .i64 n] w (DrawsB w g (m + 2)) := by
  go_enter Tryz.func59, Tryz.ntmps59
  go_wp2_with fail
  refine (pick_any n w h hm hn).mono ?_
  rintro e w1 ⟨x, hx, rfl, hs1, ho1⟩
  go_wp2_with fail
  go_ret
  exact ⟨_, rfl, hs1, ho1⟩
set_option maxHeartbeats 1000000 in
theorem among_any {g m : Nat} {p : Option Addr} {c : Nat} {xs : List Int} (w : World) (h : SrcAt w g m) (hr : RdI w p xs) (hp : ∀ b o, p = some ⟨b, o, none⟩ → b ≠ g) (hl0 : 0 < xs.length) (hl : xs.length ≤ 1024) (hm : m + 1 ≤ 1099511627776) :
    Calls Tryz.prog 35 #[.pointer (some ⟨g, 0, none⟩), .slice p xs.length c] w (Draws w g (m + 2) (fun x => x ∈ xs)) := by
  go_enter Tryz.func35, Tryz.ntmps35
  go_wp2_with fail
  refine (pick_any _ w h hm (by omega)).mono ?_
  rintro e w1 ⟨x, hx, rfl, hs1, ho1⟩
  have hx' := pickP_pos hx (by omega)
  obtain ⟨k, rfl⟩ : ∃ k : Nat, x = k := ⟨x.toNat, by omega⟩
  have hk : k < xs.length := by omega
  have hr1 : RdI w1 p xs := hr.keep fun b o e hb => ho1.block b hb (hp b o e)
  obtain ⟨b, o, rfl, hb, hc⟩ := hr1.pos hk
  have hck := hc k hk
  have hmem : Hid (xs[k] ∈ xs) := List.getElem_mem hk
  generalize xs[k] = y at hck hmem
  clear hc hx hx'
  go_wp2_with fail
  go_ret
  exact ⟨_, hmem.out, rfl, hs1, ho1⟩
theorem l00From_any {p : Option Addr} {c : Nat} {bs : List Int} (w : World) (hr : RdB w p bs) (hl : bs.length ≤ 1048576) :
    Calls Tryz.prog 16 #[.slice p bs.length c] w fun e w' => e = .returned (.pointer (some ⟨w.heap.size, 0, none⟩)) ∧ SrcAt w' w.heap.size 0 ∧ Below w.heap.size w w' := by
  have hb : Below w.heap.size w (w.alloc (.cells #[.slice p bs.length c, .int .i64 0, .int .u64 0] 70)) := (Below.refl _ _).alloc (Nat.le_refl _) _
  have hs : SrcAt (w.alloc (.cells #[.slice p bs.length c, .int .i64 0, .int .u64 0] 70)) w.heap.size 0 :=
    ⟨p, c, 0, 0, bs, heap_alloc_new w _, Nat.le_refl _, hl, hr.below hb, by
      rcases hr.cells with h | ⟨b, o, e, hc⟩
      · exact .inl h
      · by_cases h0 : bs = []
        · exact .inl h0
        · right
          intro b' o' e'
          have hlt := World.block_lt_of_cell? w _ (hc 0 (List.length_pos_iff.2 h0))
          rw [e] at e'
          simp only [Option.some.injEq, Addr.mk.injEq, and_true] at e'
          have : b < w.heap.size := hlt
          omega⟩
  go_enter Tryz.func16, Tryz.ntmps16
  go_wp2_with fail
  go_ret
  exact ⟨rfl, hs, hb⟩
end Go.Proofs.YtcfhcmgmkhfjjaaGreat

namespace Go.Proofs.YtcfhcmgmkhfjjaaGreat
set_option linter.unusedVariables false
set_option linter.unusedSimpArgs false

/-! ### congruence modulo 2^32 -/
theorem smp_congr {a b : Int} (h : smp a = smp b) : ∃ k, a = b + 4294967296 * k := by
  obtain ⟨k, hk⟩ := smp_mod a
  obtain ⟨l, hl⟩ := smp_mod b
  exact ⟨l - k, by rw [Int.mul_sub]; omega⟩
theorem smp_of_dvd {a b : Int} (h : (4294967296 : Int) ∣ a - b) : smp a = smp b := by
  obtain ⟨k, hk⟩ := h
  exact smp_eq (by omega)
theorem dvd_of_smp {a b : Int} (h : smp a = smp b) : (4294967296 : Int) ∣ a - b := by
  obtain ⟨k, hk⟩ := smp_congr h
  exact ⟨k, by omega⟩
theorem smp_add_congr {a b c d : Int} (h : smp a = smp c) (h' : smp b = smp d) : smp (a + b) = smp (c + d) := by
  rw [← smp_add_smp a b, h, h', smp_add_smp]
theorem smp_sub_congr {a b c d : Int} (h : smp a = smp c) (h' : smp b = smp d) : smp (a - b) = smp (c - d) := by
  rw [← smp_sub_smp a b, h, h', smp_sub_smp]
theorem smp_mul_congr {a b c d : Int} (h : smp a = smp c) (h' : smp b = smp d) : smp (a * b) = smp (c * d) := by
  rw [← smp_mul_smp a b, h, h', smp_mul_smp]
theorem smp_left (a b : Int) : smp (smp a + b) = smp (a + b) := smp_add_congr (smp_smp a) rfl
theorem smp_right (a b : Int) : smp (a + smp b) = smp (a + b) := smp_add_congr rfl (smp_smp b)
theorem smp_subl (a b : Int) : smp (smp a - b) = smp (a - b) := smp_sub_congr (smp_smp a) rfl
theorem smp_subr (a b : Int) : smp (a - smp b) = smp (a - b) := smp_sub_congr rfl (smp_smp b)
theorem smp_mull (a b : Int) : smp (smp a * b) = smp (a * b) := smp_mul_congr (smp_smp a) rfl
theorem smp_mulr (a b : Int) : smp (a * smp b) = smp (a * b) := smp_mul_congr rfl (smp_smp b)
theorem isSmp_iff {x : Int} : isSmp x = true ↔ -2147483648 ≤ x ∧ x ≤ 2147483647 := inB_iff
theorem smp_isSmp (x : Int) : isSmp (smp x) = true := isSmp_iff.2 (smp_bounds x)
theorem smp_id {x : Int} (h : isSmp x = true) : smp x = x := smp_of _ (isSmp_iff.1 h)

/-! ### the inverse of an odd sample -/
def invStep (x y : Int) : Int := smp (y * smp (2 - x * y))
def invN (x : Int) : Nat → Int
  | 0 => x
  | k + 1 => invStep x (invN x k)
theorem inv_step {x y : Int} {m : Int} (h : m ∣ x * y - 1) : m * m ∣ x * (y * (2 - x * y)) - 1 := by
  obtain ⟨k, hk⟩ := h
  refine ⟨-(k * k), ?_⟩
  have e : x * y = m * k + 1 := by omega
  have e1 : x * (y * (2 - x * y)) = (x * y) * (2 - x * y) := by rw [Int.mul_assoc]
  rw [e1, e]
  have e2 : (m * k + 1) * (2 - (m * k + 1)) = 1 - (m * k) * (m * k) := by
    have : (2 - (m * k + 1)) = 1 - m * k := by omega
    rw [this, Int.add_mul, Int.mul_sub, Int.one_mul, Int.mul_one]
    omega
  rw [e2, Int.mul_neg]
  have e3 : (m * k) * (m * k) = m * m * (k * k) := by
    rw [Int.mul_assoc, Int.mul_left_comm k m k, ← Int.mul_assoc]
  rw [e3]; omega
theorem inv_smp {x y : Int} {m : Int} (hm : m ∣ 4294967296) (h : m ∣ x * y - 1) : m ∣ x * smp y - 1 := by
  obtain ⟨k, hk⟩ := smp_mod y
  rw [hk, Int.mul_add]
  have e : x * y + x * (4294967296 * k) - 1 = (x * y - 1) + 4294967296 * (x * k) := by
    rw [Int.mul_left_comm x]; omega
  rw [e]
  exact Int.dvd_add h (Int.dvd_trans hm ⟨x * k, rfl⟩)
theorem inv_next {x y m : Int} (hm : m * m ∣ 4294967296) (h : m ∣ x * y - 1) : m * m ∣ x * invStep x y - 1 := by
  unfold invStep
  refine inv_smp hm ?_
  have h1 := inv_step h
  -- the inner sample changes the product by a multiple
  obtain ⟨k, hk⟩ := smp_mod (2 - x * y)
  rw [hk, Int.mul_add, Int.mul_add]
  have e : x * (y * (2 - x * y)) + x * (y * (4294967296 * k)) - 1 = (x * (y * (2 - x * y)) - 1) + 4294967296 * (x * (y * k)) := by
    rw [Int.mul_left_comm y 4294967296 k, Int.mul_left_comm x 4294967296]; omega
  rw [e]
  exact Int.dvd_add h1 (Int.dvd_trans hm ⟨_, rfl⟩)
theorem inv_last {x y : Int} (h : (16777216 : Int) ∣ x * y - 1) : (4294967296 : Int) ∣ x * invStep x y - 1 := by
  unfold invStep
  refine inv_smp (Int.dvd_refl _) ?_
  have h1 := inv_step h
  have h2 : (4294967296 : Int) ∣ x * (y * (2 - x * y)) - 1 := Int.dvd_trans ⟨65536, by decide⟩ h1
  obtain ⟨k, hk⟩ := smp_mod (2 - x * y)
  rw [hk, Int.mul_add, Int.mul_add]
  have e : x * (y * (2 - x * y)) + x * (y * (4294967296 * k)) - 1 = (x * (y * (2 - x * y)) - 1) + 4294967296 * (x * (y * k)) := by
    rw [Int.mul_left_comm y 4294967296 k, Int.mul_left_comm x 4294967296]; omega
  rw [e]
  exact Int.dvd_add h2 ⟨_, rfl⟩
theorem inv_mul {x : Int} (h : x % 2 = 1) : smp (x * invN x 5) = 1 := by
  have h0 : (8 : Int) ∣ x * x - 1 := by
    obtain ⟨k, hk⟩ : ∃ k, x = 2 * k + 1 := ⟨x / 2, by omega⟩
    have e : x * x - 1 = 4 * (k * (k + 1)) := by
      rw [hk, Int.add_mul, Int.mul_add, Int.mul_add, Int.mul_one, Int.one_mul]
      have : 2 * k * (2 * k) = 4 * (k * k) := by rw [Int.mul_assoc, Int.mul_left_comm k 2 k]; omega
      rw [this, Int.mul_add k k 1, Int.mul_one]; omega
    have h2 : (2 : Int) ∣ k * (k + 1) := by
      rcases (show k % 2 = 0 ∨ k % 2 = 1 by omega) with h | h
      · exact Int.dvd_mul_of_dvd_left (Int.dvd_of_emod_eq_zero h)
      · exact Int.dvd_mul_of_dvd_right (Int.dvd_of_emod_eq_zero (by omega))
    obtain ⟨j, hj⟩ := h2
    exact ⟨j, by rw [e, hj]; omega⟩
  have h1 : (64 : Int) ∣ x * invN x 1 - 1 := inv_next (m := 8) ⟨67108864, by decide⟩ h0
  have h2 : (4096 : Int) ∣ x * invN x 2 - 1 := inv_next (m := 64) ⟨1048576, by decide⟩ h1
  have h3 : (16777216 : Int) ∣ x * invN x 3 - 1 := inv_next (m := 4096) ⟨256, by decide⟩ h2
  have h4 : (4294967296 : Int) ∣ x * invN x 4 - 1 := inv_last h3
  have h5 : (4294967296 : Int) ∣ x * invN x 5 - 1 := inv_last (Int.dvd_trans ⟨256, by decide⟩ h4)
  have := smp_of_dvd h5
  rw [this]; rfl

/-! ### a quotient of series -/
/-- the sum for place i, after k terms -/
def qacc (b out : List Int) (s : Int) (i : Nat) : Nat → Int
  | 0 => s
  | k + 1 => smp (qacc b out s i k - b.getD (k + 1) 0 * out.getD (i - (k + 1)) 0)
/-- how many terms there are for place i -/
def qcnt (b : List Int) (i : Nat) : Nat := min i (b.length - 1)
def quo (a b : List Int) (by' : Int) : Nat → List Int
  | 0 => []
  | i + 1 => quo a b by' i ++ [smp (qacc b (quo a b by' i) (a.getD i 0) i (qcnt b i) * by')]
theorem quo_length (a b : List Int) (y : Int) (n : Nat) : (quo a b y n).length = n := by
  induction n with
  | zero => rfl
  | succ n ih => rw [quo, List.length_append, ih]; rfl
theorem quo_take (a b : List Int) (y : Int) {i n : Nat} (h : i ≤ n) : (quo a b y n).take i = quo a b y i := by
  induction n with
  | zero => obtain rfl : i = 0 := by omega
            rfl
  | succ n ih =>
    by_cases e : i = n + 1
    · subst e; rw [List.take_of_length_le (by rw [quo_length]; exact Nat.le_refl _)]
    · rw [quo, List.take_append_of_le_length (by rw [quo_length]; omega), ih (by omega)]
theorem quo_get (a b : List Int) (y : Int) {i n : Nat} (h : i < n) : (quo a b y n).getD i 0 = smp (qacc b (quo a b y i) (a.getD i 0) i (qcnt b i) * y) := by
  have h1 := quo_take a b y (show i + 1 ≤ n by omega)
  have h2 : (quo a b y n).getD i 0 = (quo a b y (i + 1)).getD i 0 := by
    rw [← h1]
    simp [List.getD_eq_getElem?_getD, List.getElem?_take]
  rw [h2, quo, List.getD_eq_getElem?_getD, List.getElem?_append_right (by rw [quo_length]; exact Nat.le_refl _), quo_length]
  simp
theorem getD_agree {xs ys : List Int} {n : Nat} (h : xs.take n = ys.take n) {j : Nat} (hj : j < n) : xs.getD j 0 = ys.getD j 0 := by
  have h1 : (xs.take n).getD j 0 = (ys.take n).getD j 0 := by rw [h]
  simpa [List.getD_eq_getElem?_getD, List.getElem?_take, hj] using h1
theorem qacc_congr {b xs ys : List Int} {s : Int} {i : Nat} (h : ∀ j, j < i → xs.getD j 0 = ys.getD j 0) : ∀ k, k ≤ i → qacc b xs s i k = qacc b ys s i k := by
  intro k
  induction k with
  | zero => intro _; rfl
  | succ k ih => intro hk; rw [qacc, qacc, ih (by omega), h _ (by omega)]
/-- the law's sum: of the products of b and x up to k terms, at place i -/
def lsum (b x : List Int) (i : Nat) : Nat → Int
  | 0 => 0
  | k + 1 => smp (lsum b x i k + smp (b.getD k 0 * x.getD (i - k) 0))
theorem lsum_smp (b x : List Int) (i k : Nat) : smp (lsum b x i k) = lsum b x i k := by
  cases k with
  | zero => rfl
  | succ k => rw [lsum, smp_smp]
theorem qacc_lsum (b x : List Int) (s : Int) (i : Nat) : ∀ k, smp (qacc b x s i k + lsum b x i (k + 1)) = smp (s + b.getD 0 0 * x.getD i 0) := by
  intro k
  induction k with
  | zero =>
    rw [qacc, lsum, lsum, Int.zero_add, smp_smp, smp_right]; rfl
  | succ k ih =>
    rw [qacc, lsum, smp_left, smp_right]
    have e : qacc b x s i k - b.getD (k + 1) 0 * x.getD (i - (k + 1)) 0 + (lsum b x i (k + 1) + smp (b.getD (k + 1) 0 * x.getD (i - (k + 1)) 0)) = (qacc b x s i k + lsum b x i (k + 1)) + (smp (b.getD (k + 1) 0 * x.getD (i - (k + 1)) 0) - b.getD (k + 1) 0 * x.getD (i - (k + 1)) 0) := by omega
    rw [e]
    have h2 : smp (smp (b.getD (k + 1) 0 * x.getD (i - (k + 1)) 0) - b.getD (k + 1) 0 * x.getD (i - (k + 1)) 0) = smp 0 := by rw [smp_subl, Int.sub_self]
    rw [smp_add_congr ih h2]
    rw [Int.add_zero]
theorem quo_law {a b : List Int} {n i : Nat} (hb : 0 < b.length) (hodd : b.getD 0 0 % 2 = 1) (h : i < n) :
    lsum b (quo a b (invN (b.getD 0 0) 5) n) i (qcnt b i + 1) = smp (a.getD i 0) := by
  generalize hx : quo a b (invN (b.getD 0 0) 5) n = x
  generalize hy : invN (b.getD 0 0) 5 = y at hx
  have hi : x.getD i 0 = smp (qacc b x (a.getD i 0) i (qcnt b i) * y) := by
    rw [← hx, quo_get a b y h]
    rw [qacc_congr (ys := quo a b y n) (fun j hj => ?_) _ (by unfold qcnt; omega)]
    exact getD_agree (n := i) (by rw [quo_take a b y (Nat.le_of_lt h), quo_take a b y (Nat.le_refl i)]) hj
  have h1 := qacc_lsum b x (a.getD i 0) i (qcnt b i)
  have h2 : smp (b.getD 0 0 * x.getD i 0) = smp (qacc b x (a.getD i 0) i (qcnt b i)) := by
    rw [hi, smp_mulr]
    have e : b.getD 0 0 * (qacc b x (a.getD i 0) i (qcnt b i) * y) = (b.getD 0 0 * y) * qacc b x (a.getD i 0) i (qcnt b i) := by
      rw [Int.mul_left_comm, Int.mul_comm]
    rw [e, ← smp_mull, ← hy, inv_mul hodd, Int.one_mul]
  generalize qacc b x (a.getD i 0) i (qcnt b i) = q at *
  have h3 : smp (lsum b x i (qcnt b i + 1)) = smp (a.getD i 0) := by
    have h4 : smp (q + lsum b x i (qcnt b i + 1)) = smp (a.getD i 0 + q) := by rw [h1]; exact smp_add_congr rfl h2
    have h5 := smp_sub_congr h4 (rfl : smp q = smp q)
    rw [show q + lsum b x i (qcnt b i + 1) - q = lsum b x i (qcnt b i + 1) by omega, show a.getD i 0 + q - q = a.getD i 0 by omega] at h5
    exact h5
  rw [lsum_smp] at h3
  exact h3
end Go.Proofs.YtcfhcmgmkhfjjaaGreat

namespace Go.Proofs.YtcfhcmgmkhfjjaaGreat
open Go.ChangeShapes Go.WideShapes Go.ChangeAt Go.RowKit
set_option linter.unusedVariables false
set_option linter.unusedSimpArgs false

def AllS (xs : List Int) : Prop := ∀ x ∈ xs, isSmp x = true
/-- a literal of integers, as a slice that reads it -/
theorem rdI_lit (w : World) (xs : List Int) (hm : xs.length ≤ 1048576) : RdI (w.alloc (.cells (xs.map (Value.int .i64)).toArray 2)) (some ⟨w.heap.size, 0, none⟩) xs := by
  have ho := OwnI.lit (B := w.heap.size) w xs (Nat.le_refl _) (by unfold maxLen; omega)
  rcases ho.cases with ⟨h, _⟩ | ⟨g, cap, hv, _, _, _, hr⟩
  · simp at h
  · simp only [Value.slice.injEq, Option.some.injEq, Addr.mk.injEq, and_true] at hv
    obtain ⟨rfl, -, -⟩ := hv
    exact hr
theorem amongLit_any {g m : Nat} (xs : List Int) (w : World) (h : SrcAt w g m) (hl0 : 0 < xs.length) (hl : xs.length ≤ 1024) (hm : m + 1 ≤ 1099511627776) :
    Calls Tryz.prog 35 #[.pointer (some ⟨g, 0, none⟩), .slice (some ⟨w.heap.size, 0, none⟩) xs.length xs.length] (w.alloc (.cells (xs.map (Value.int .i64)).toArray 2)) fun e w' => ∃ x, x ∈ xs ∧ e = .returned (.int .i64 x) ∧ SrcAt w' g (m + 2) ∧ Off (· = g) w w' := by
  have hb : Below w.heap.size w (w.alloc (.cells (xs.map (Value.int .i64)).toArray 2)) := (Below.refl _ _).alloc (Nat.le_refl _) _
  have hlt := h.lt
  refine (among_any _ (h.below hb) (rdI_lit w xs (by omega)) (fun b o e => by simp only [Option.some.injEq, Addr.mk.injEq, and_true] at e; omega) hl0 hl hm).mono ?_
  rintro e w' ⟨x, hx, rfl, hs, ho⟩
  exact ⟨x, hx, rfl, hs, (Off.of_below _ hb).trans ho⟩
set_option maxHeartbeats 2000000 in
theorem l01Draw_any {g m : Nat} (w : World) (h : SrcAt w g m) (hm : m + 20 ≤ 1099511627776) :
    Calls Tryz.prog 101 #[.pointer (some ⟨g, 0, none⟩)] w (Draws w g (m + 8) fun x => isSmp x = true) := by
  go_enter Tryz.func101, Tryz.ntmps101
  go_wp2_with fail
  refine (pick_any 8 w h (by omega) (by omega)).mono ?_
  rintro e w1 ⟨x, hx, rfl, hs1, ho1⟩
  have hx1 := (pickP_pos hx (by omega)).1
  have hx2 := (pickP_pos hx (by omega)).2
  have HS1 := Lib.hid hs1
  have HO1 := Lib.hid ho1
  clear hx h hs1 ho1
  by_cases x0 : x = 0
  · subst x0
    have A1 := Lib.hid (amongLit_any [-2147483648, 2147483647, -2147483647, 65536, -65536, 1073741824] w1 HS1.out (by simp) (by simp) (by omega))
    go_wp2_with (go_at_call 35; refine A1.out.mono ?_; rintro e w2 ⟨y, hy, rfl, hs2, ho2⟩)
    go_ret
    refine ⟨y, ?_, rfl, hs2.mono (by omega), HO1.out.trans ho2⟩
    simp only [List.mem_cons, List.not_mem_nil, or_false] at hy
    exact isSmp_iff.2 (by omega)
  have q0 : (x == 0) = false := by rw [beq_eq_false_iff_ne]; exact x0
  by_cases x1 : x = 1
  · subst x1
    go_wp2_with fail
    refine (next_any w1 HS1.out (by omega)).mono ?_
    rintro e w2 ⟨y, hy, rfl, hs2, ho2⟩
    have hy1 := hy.1
    have hy2 := hy.2
    have HO2 := Lib.hid (HO1.out.trans ho2)
    clear hy ho2
    go_wp2_with fail
    go_loopw [3, 4] (fun n k wr => ∃ (j : Nat) (z : Int), j ≤ 3 ∧ k = .int .i64 (j : Int) ∧ n = .int .i64 z ∧ 0 ≤ z ∧ z < 256 ^ (j + 1) ∧ SrcAt wr g (m + 3 + j) ∧ Off (· = g) w wr) (fun _ k _ => (3 - intOf k).toNat)
    case atStart => exact ⟨0, y, by omega, rfl, rfl, hy1, by omega, hs2.mono (by omega), HO2.out⟩
    case round =>
      obtain ⟨j, z, hj, rfl, rfl, hz1, hz2, hs, ho⟩ := hrel
      have hzb : z < 4294967296 := by
        have : j = 0 ∨ j = 1 ∨ j = 2 ∨ j = 3 := by omega
        rcases this with rfl | rfl | rfl | rfl <;> simp at hz2 <;> omega
      have HS := Lib.hid hs
      have HO := Lib.hid ho
      have HZ := Lib.hid hz2
      clear hs ho hz2
      obtain ⟨wi, rfl⟩ : ∃ wi : World, wi = wr := ⟨_, rfl⟩
      by_cases hjt : j < 3
      · go_wp2_with fail
        refine (next_any wi HS.out (by omega)).mono ?_
        rintro e w3 ⟨t, ht, rfl, hs3, ho3⟩
        have ht1 := ht.1
        have ht2 := ht.2
        have HN : Hid (256 * z + t < 256 ^ (j + 1 + 1)) := by
          unfold Hid
          have h1 := HZ.out
          have : j = 0 ∨ j = 1 ∨ j = 2 := by omega
          rcases this with rfl | rfl | rfl <;> simp at h1 ⊢ <;> omega
        have HO3 := Lib.hid (HO.out.trans ho3)
        have HS3 : Hid (SrcAt w3 g (m + 3 + (j + 1))) := hs3.mono (by omega)
        clear ht ho3 hs3
        go_wp2_with fail
        go_roundw
        case rel => exact ⟨j + 1, 256 * z + t, by omega, by go_num, rfl, by omega, HN.out, HS3.out, HO3.out⟩
        case measure => simp [intOf] <;> omega
      · obtain rfl : j = 3 := by omega
        go_wp2_with (go_at_call 118; refine (l01Wrap_any _ _).mono ?_; rintro e w' ⟨rfl, rfl⟩)
        go_ret
        exact ⟨_, smp_isSmp _, rfl, HS.out.mono (by omega), HO.out⟩
  have q1 : (x == 1) = false := by rw [beq_eq_false_iff_ne]; exact x1
  by_cases x2 : x = 2
  · subst x2
    go_wp2_with fail
    go_ret
    exact ⟨0, isSmp_iff.2 (by omega), rfl, HS1.out.mono (by omega), HO1.out⟩
  have q2 : (x == 2) = false := by rw [beq_eq_false_iff_ne]; exact x2
  go_wp2_with fail
  refine (pick_any 41 w1 HS1.out (by omega) (by omega)).mono ?_
  rintro e w2 ⟨y, hy, rfl, hs2, ho2⟩
  have hy1 := (pickP_pos hy (by omega)).1
  have hy2 := (pickP_pos hy (by omega)).2
  go_wp2_with fail
  go_ret
  exact ⟨_, isSmp_iff.2 (by omega), rfl, hs2.mono (by omega), HO1.out.trans ho2⟩
end Go.Proofs.YtcfhcmgmkhfjjaaGreat

namespace Go.Proofs.YtcfhcmgmkhfjjaaGreat
open Go.ChangeShapes Go.WideShapes Go.ChangeAt Go.RowKit
set_option linter.unusedVariables false

def noiseP (s : Int) : Int := if s % 2 = 1 then smp (bits .xor .i64 (s % 4294967296 / 2) 2734686208) else smp (s % 4294967296 / 2)
theorem unsigned_any (n : Int) (w : World) :
    Calls Tryz.prog 115 #[.int .i64 n] w fun e w' => e = .returned (.int .i64 (n % 4294967296)) ∧ w = w' := by
  go_enter Tryz.func115, Tryz.ntmps115
  go_wp2
  go_ret
  exact ⟨rfl, rfl⟩
theorem l06Noise_any (n : Int) (w : World) :
    Calls Tryz.prog 126 #[.int .i64 n] w fun e w' => e = .returned (.int .i64 (noiseP n)) ∧ w = w' := by
  have hb := bits_and32 n
  have hb1 := bits_and1 (n % 4294967296)
  have h2 : n % 4294967296 % 2 = n % 2 := by omega
  rw [h2] at hb1
  have hr : 0 ≤ n % 4294967296 ∧ n % 4294967296 ≤ 4294967295 := by omega
  obtain ⟨R, hR⟩ : ∃ R, R = noiseP n := ⟨_, rfl⟩
  rw [← hR]
  unfold noiseP at hR
  clear h2
  generalize n % 4294967296 = m at *
  by_cases h : n % 2 = 1
  · rw [if_pos h] at hR
    rw [h] at hb1
    go_enter Tryz.func126, Tryz.ntmps126
    go_wp2_with (first | (go_at_call 118; refine (l01Wrap_any _ _).mono ?_; rintro e w' ⟨rfl, rfl⟩) | fail)
    go_ret
    exact ⟨by rw [hR]; rfl, rfl⟩
  · rw [if_neg h] at hR
    have h0 : n % 2 = 0 := by omega
    rw [h0] at hb1
    go_enter Tryz.func126, Tryz.ntmps126
    go_wp2_with (first | (go_at_call 118; refine (l01Wrap_any _ _).mono ?_; rintro e w' ⟨rfl, rfl⟩) | fail)
    go_ret
    exact ⟨by rw [hR]; rfl, rfl⟩
end Go.Proofs.YtcfhcmgmkhfjjaaGreat

namespace Go.Proofs.YtcfhcmgmkhfjjaaGreat
open Go.ChangeShapes Go.WideShapes Go.ChangeAt Go.RowKit
set_option linter.unusedVariables false

theorem all_false {α : Type} {f : α → Bool} {xs : List α} {k : Nat} (h : k < xs.length) (hf : f xs[k] = false) : xs.all f = false := by
  rw [List.all_eq_false]
  exact ⟨xs[k], List.getElem_mem h, by rw [hf]; simp⟩
theorem all_step {α : Type} {f : α → Bool} {xs : List α} {k : Nat} (h : k < xs.length) (ht : (xs.take k).all f = true) (hf : f xs[k] = true) : (xs.take (k + 1)).all f = true := by
  rw [List.take_succ_eq_append_getElem h, List.all_append, ht]
  simp [hf]
theorem all_done {α : Type} {f : α → Bool} {xs : List α} (ht : (xs.take xs.length).all f = true) : xs.all f = true := by rwa [List.take_length] at ht
theorem eqq_false {α : Type} [DecidableEq α] {xs ys : List α} {k : Nat} (h1 : k < xs.length) (h2 : k < ys.length) (h : xs[k] ≠ ys[k]) : decide (xs = ys) = false := by
  rw [decide_eq_false_iff_not]
  rintro rfl
  exact h rfl
theorem eqq_true {α : Type} [DecidableEq α] {xs ys : List α} (hl : xs.length = ys.length) (h : xs.take xs.length = ys.take xs.length) : decide (xs = ys) = true := by
  rw [List.take_length, hl, List.take_length] at h
  simp [h]
theorem eqq_step {α : Type} {xs ys : List α} {k : Nat} (h1 : k < xs.length) (h2 : k < ys.length) (h : xs.take k = ys.take k) (he : xs[k] = ys[k]) : xs.take (k + 1) = ys.take (k + 1) := by
  rw [List.take_succ_eq_append_getElem h1, List.take_succ_eq_append_getElem h2, h, he]

set_option maxHeartbeats 400000 in
theorem areSamples_any {p : Option Addr} {c : Nat} {xs : List Int} (w : World) (h : RdI w p xs) :
    Calls Tryz.prog 102 #[.slice p xs.length c] w fun e w' => e = .returned (.bool (xs.all isSmp)) ∧ w = w' := by
  have hlen := h.len
  unfold maxLen at hlen
  go_enter Tryz.func102, Tryz.ntmps102
  go_wp2_with fail
  go_loop [7] (fun i => ∃ k : Nat, k ≤ xs.length ∧ i = .int .i64 k ∧ (xs.take k).all isSmp = true) (fun i => xs.length - (intOf i).toNat)
  case atStart => exact ⟨0, Nat.zero_le _, rfl, by simp⟩
  case round =>
    obtain ⟨k, hk, rfl, hall⟩ := hrel
    have HA := Lib.hid hall; clear hall
    by_cases hlt : k < xs.length
    · obtain ⟨b, o, rfl, hb, hc⟩ := h.pos hlt
      have hck := hc k hlt
      clear hc
      generalize hx : xs[k] = x at hck
      have HX := Lib.hid hx; clear hx
      cases hs : isSmp x
      · go_wp2_with (go_at_call 119; refine (isSample_any _ _).mono ?_; rintro e w' ⟨rfl, rfl⟩)
        go_ret
        exact ⟨ret_bool (all_false hlt (by rw [HX.out]; exact hs)).symm, rfl⟩
      · go_wp2_with (go_at_call 119; refine (isSample_any _ _).mono ?_; rintro e w' ⟨rfl, rfl⟩)
        go_round
        case rel => exact ⟨k + 1, by omega, by go_num, all_step hlt HA.out (by rw [HX.out]; exact hs)⟩
        case measure => simp [intOf] <;> omega
    · obtain rfl : k = xs.length := by omega
      go_wp2_with fail
      go_ret
      exact ⟨ret_bool (all_done HA.out).symm, rfl⟩
theorem sizeI_any (p : Option Addr) (n c : Nat) (w : World) (hn : n ≤ maxLen) :
    Calls Tryz.prog 65 #[.slice p n c] w fun e w' => e = .returned (.int .i64 n) ∧ w = w' := by
  unfold maxLen at hn
  go_enter Tryz.func65, Tryz.ntmps65
  go_wp2
  go_ret
  exact ⟨rfl, rfl⟩
theorem sizeII_any (p : Option Addr) (n c : Nat) (w : World) (hn : n ≤ maxLen) :
    Calls Tryz.prog 68 #[.slice p n c] w fun e w' => e = .returned (.int .i64 n) ∧ w = w' := by
  unfold maxLen at hn
  go_enter Tryz.func68, Tryz.ntmps68
  go_wp2
  go_ret
  exact ⟨rfl, rfl⟩
set_option maxHeartbeats 400000 in
theorem same_any {p q : Option Addr} {c d : Nat} {xs ys : List Int} (w : World) (h : RdI w p xs) (h' : RdI w q ys) :
    Calls Tryz.prog 117 #[.slice p xs.length c, .slice q ys.length d] w fun e w' => e = .returned (.bool (decide (xs = ys))) ∧ w = w' := by
  have hl1 := h.len
  have hl2 := h'.len
  unfold maxLen at hl1 hl2
  by_cases hl : xs.length = ys.length
  · have HL := Lib.hid hl
    have hb : (((xs.length : Int) != (ys.length : Int))) = false := by rw [bne_eq_false_iff_eq]; omega
    clear hl
    go_enter Tryz.func117, Tryz.ntmps117
    go_wp2_with fail
    go_loop [14] (fun i => ∃ k : Nat, k ≤ xs.length ∧ i = .int .i64 k ∧ xs.take k = ys.take k) (fun i => xs.length - (intOf i).toNat)
    case atStart => exact ⟨0, Nat.zero_le _, rfl, rfl⟩
    case round =>
      obtain ⟨k, hk, rfl, ht⟩ := hrel
      have HT := Lib.hid ht; clear ht
      by_cases hlt : k < xs.length
      · obtain ⟨b, o, rfl, hb1, hc⟩ := h.pos hlt
        obtain ⟨b', o', rfl, hb2, hc'⟩ := h'.pos (k := k) (by have := HL.out; omega)
        have hlt2 : k < ys.length := by have := HL.out; omega
        have hck := hc k hlt
        have hck' := hc' k hlt2
        clear hc hc'
        generalize hx : xs[k] = x at hck
        generalize hy : ys[k] = y at hck'
        have HX := Lib.hid hx; clear hx
        have HY := Lib.hid hy; clear hy
        by_cases hxy : x = y
        · have hne : (x != y) = false := by rw [bne_eq_false_iff_eq]; exact hxy
          have HXY := Lib.hid hxy; clear hxy
          go_wp2_with fail
          go_round
          case rel => exact ⟨k + 1, by omega, by go_num, eqq_step hlt hlt2 HT.out (by rw [HX.out, HY.out, HXY.out])⟩
          case measure => simp [intOf] <;> omega
        · have hne : (x != y) = true := by rw [bne_iff_ne]; exact hxy
          have HXY := Lib.hid hxy; clear hxy
          go_wp2_with fail
          go_ret
          exact ⟨ret_bool (eqq_false hlt hlt2 (by rw [HX.out, HY.out]; exact HXY.out)).symm, rfl⟩
      · obtain rfl : k = xs.length := by omega
        go_wp2_with fail
        go_ret
        exact ⟨ret_bool (eqq_true HL.out HT.out).symm, rfl⟩
  · have hb : (((xs.length : Int) != (ys.length : Int))) = true := by rw [bne_iff_ne]; omega
    have he : decide (xs = ys) = false := by rw [decide_eq_false_iff_not]; rintro rfl; exact hl rfl
    rw [he]
    clear he hl
    go_enter Tryz.func117, Tryz.ntmps117
    go_wp2_with fail
    go_ret
    exact ⟨rfl, rfl⟩
set_option maxHeartbeats 400000 in
theorem l00Same_any {p q : Option Addr} {c d : Nat} {xs ys : List Int} (w : World) (h : RdI w p xs) (h' : RdI w q ys) :
    Calls Tryz.prog 127 #[.slice p xs.length c, .slice q ys.length d] w fun e w' => e = .returned (.bool (decide (xs = ys))) ∧ Drawn w w' := by
  have hl1 := h.len
  have hl2 := h'.len
  unfold maxLen at hl1 hl2
  by_cases hl : xs.length = ys.length
  · have HL := Lib.hid hl
    have hb : (((xs.length : Int) != (ys.length : Int))) = false := by rw [bne_eq_false_iff_eq]; omega
    clear hl
    go_enter Tryz.func127, Tryz.ntmps127
    go_wp2_with fail
    go_loopw [5] (fun i wr => ∃ k : Nat, k ≤ xs.length ∧ i = .int .i64 k ∧ xs.take k = ys.take k ∧ Drawn w wr) (fun i _ => xs.length - (intOf i).toNat)
    case atStart => exact ⟨0, Nat.zero_le _, rfl, rfl, Drawn.refl w⟩
    case round =>
      obtain ⟨k, hk, rfl, ht, hdr⟩ := hrel
      have HT := Lib.hid ht; clear ht
      have h1 := hdr.rdI h
      have h2 := hdr.rdI h'
      clear h h'
      by_cases hlt : k < xs.length
      · obtain ⟨b, o, rfl, hb1, hc⟩ := h1.pos hlt
        obtain ⟨b', o', rfl, hb2, hc'⟩ := h2.pos (k := k) (by have := HL.out; omega)
        have hlt2 : k < ys.length := by have := HL.out; omega
        have hck := hc k hlt
        have hck' := hc' k hlt2
        clear hc hc'
        generalize hx : xs[k] = x at hck
        generalize hy : ys[k] = y at hck'
        have HX := Lib.hid hx; clear hx
        have HY := Lib.hid hy; clear hy
        by_cases hxy : x = y
        · have hne : (x != y) = false := by rw [bne_eq_false_iff_eq]; exact hxy
          have HXY := Lib.hid hxy; clear hxy
          go_wp2_with fail
          go_quiet (fail)
          go_wp2_with fail
          go_roundw
          case rel => exact ⟨k + 1, by omega, by go_num, eqq_step hlt hlt2 HT.out (by rw [HX.out, HY.out, HXY.out]), hdr.on _⟩
          case measure => simp [intOf] <;> omega
        · have hne : (x != y) = true := by rw [bne_iff_ne]; exact hxy
          have HXY := Lib.hid hxy; clear hxy
          go_wp2_with fail
          go_quiet (fail)
          go_wp2_with fail
          go_ret
          exact ⟨ret_bool (eqq_false hlt hlt2 (by rw [HX.out, HY.out]; exact HXY.out)).symm, hdr.on _⟩
      · obtain rfl : k = xs.length := by omega
        go_wp2_with fail
        go_ret
        exact ⟨ret_bool (eqq_true HL.out HT.out).symm, hdr⟩
  · have hb : (((xs.length : Int) != (ys.length : Int))) = true := by rw [bne_iff_ne]; omega
    have he : decide (xs = ys) = false := by rw [decide_eq_false_iff_not]; rintro rfl; exact hl rfl
    rw [he]
    clear he hl
    go_enter Tryz.func127, Tryz.ntmps127
    go_wp2_with fail
    go_ret
    exact ⟨rfl, Drawn.refl w⟩
/-- so many rows of so many samples each -/
def rowB (c : Int) (xs : List Int) : Bool := decide ((xs.length : Int) = c) && xs.all isSmp
def tabB (xss : List (List Int)) (r c : Int) : Bool := decide ((xss.length : Int) = r) && xss.all (rowB c)
theorem tabB_iff {xss : List (List Int)} {r c : Int} : tabB xss r c = true ↔ (xss.length : Int) = r ∧ ∀ xs ∈ xss, (xs.length : Int) = c ∧ ∀ x ∈ xs, isSmp x = true := by
  simp [tabB, rowB]
def matB (xss : List (List Int)) : Bool := decide ((xss.length : Int) ≤ 24) && tabB xss xss.length xss.length
end Go.Proofs.YtcfhcmgmkhfjjaaGreat

namespace Go.Proofs.YtcfhcmgmkhfjjaaGreat
open Go.ChangeShapes Go.WideShapes Go.ChangeAt Go.RowKit
set_option linter.unusedVariables false

/-- k, k + 1, .. -/
def seqI (k : Int) (n : Nat) : List Int := (List.range n).map fun (i : Nat) => k + (i : Int)
def lens (xss : List (List Int)) : Nat := (xss.map List.length).sum
theorem lens_nil : lens [] = 0 := rfl
theorem lens_cons (x : List Int) (r : List (List Int)) : lens (x :: r) = x.length + lens r := by simp [lens]
theorem lens_append (a b : List (List Int)) : lens (a ++ b) = lens a + lens b := by simp [lens]
theorem lens_take_succ (xss : List (List Int)) (k : Nat) (h : k < xss.length) : lens (xss.take (k + 1)) = lens (xss.take k) + xss[k].length := by
  rw [List.take_succ_eq_append_getElem h, lens_append]; simp [lens]
theorem lens_take_le (xss : List (List Int)) (k : Nat) : lens (xss.take k) ≤ lens xss := by
  have : lens xss = lens (xss.take k) + lens (xss.drop k) := by rw [← lens_append, List.take_append_drop]
  omega
def szLL (left : Int) (xss : List (List Int)) : Int := if left < (xss.length : Int) + lens xss then -1 else left - ((xss.length : Int) + lens xss)
theorem len_le_lens {xss : List (List Int)} {xs : List Int} (h : xs ∈ xss) : xs.length ≤ lens xss := by
  induction xss with
  | nil => cases h
  | cons x r ih =>
    rw [lens_cons]
    cases List.mem_cons.1 h with
    | inl e => subst e; omega
    | inr e => have := ih e; omega

/-- all numbers counted up from k on -/
def marks : Int → List (List Int) → List (List Int)
  | _, [] => []
  | k, xs :: r => seqI k xs.length :: marks (k + xs.length) r
end Go.Proofs.YtcfhcmgmkhfjjaaGreat

namespace Go.Proofs.YtcfhcmgmkhfjjaaGreat
open Go.ChangeShapes Go.WideShapes Go.ChangeAt Go.RowKit
set_option linter.unusedVariables false

theorem below_drew' {B : Nat} {w w' : World} (h : Below B w.drew w') : Below B w w' := ⟨h.os, h.tape, h.output, h.size, h.block⟩

/-- what is left of a size -/
def szF (left : Int) (n : Nat) : Int := if left < n then -1 else left - n
theorem szF_neg {left : Int} {n : Nat} (h : szF left n < 0) (h0 : 0 ≤ left) : szF left n = -1 ∧ left < n := by
  unfold szF at *
  split at h
  · rename_i h'; rw [if_pos h']; exact ⟨rfl, h'⟩
  · omega
theorem szF_pos {left : Int} {n : Nat} (h : ¬ szF left n < 0) : szF left n = left - n ∧ (n : Int) ≤ left := by
  unfold szF at *
  split at h
  · omega
  · rename_i h'; rw [if_neg h']; exact ⟨rfl, by omega⟩
theorem szF_lt {left : Int} {n : Nat} (h : left < n) : szF left n = -1 := by unfold szF; rw [if_pos h]
theorem szF_ge {left : Int} {n : Nat} (h : (n : Int) ≤ left) : szF left n = left - n := by unfold szF; rw [if_neg (by omega)]

theorem blk_append {L M : List Value} {b : Nat} : Blk (L ++ M) b ↔ Blk L b ∨ Blk M b := by
  constructor
  · rintro ⟨u, hu, hb⟩
    rcases List.mem_append.1 hu with hu | hu
    · exact .inl ⟨u, hu, hb⟩
    · exact .inr ⟨u, hu, hb⟩
  · rintro (⟨u, hu, hb⟩ | ⟨u, hu, hb⟩)
    · exact ⟨u, List.mem_append_left _ hu, hb⟩
    · exact ⟨u, List.mem_append_right _ hu, hb⟩
theorem Dis.left {L M : List Value} (h : Dis (L ++ M)) : Dis L := (List.pairwise_append.1 h).1
theorem Dis.right {L M : List Value} (h : Dis (L ++ M)) : Dis M := (List.pairwise_append.1 h).2.1
theorem Dis.sep {L M : List Value} (h : Dis (L ++ M)) : ∀ b, Blk L b → ¬ Blk M b := by
  rintro b ⟨u, hu, hb⟩ ⟨u', hu', hb'⟩
  exact (List.pairwise_append.1 h).2.2 u hu u' hu' b hb hb'

/-- the types whose blocks a mark writes -/
abbrev mkT (T : TypeId) : Prop := T = 2 ∨ T = 2 ∨ T = 2 ∨ T = 2
/-- the blocks of L hold what a mark writes -/
def IntBlks (w : World) (L : List Value) : Prop := ∀ b, Blk L b → ∃ cur T, w.heap[b]? = some (.cells cur T (0, 0)) ∧ mkT T
theorem IntBlks.append {w : World} {L M : List Value} (h : IntBlks w L) (h' : IntBlks w M) : IntBlks w (L ++ M) := by
  rintro b ⟨u, hu, hb⟩
  rcases List.mem_append.1 hu with hu | hu
  · exact h b ⟨u, hu, hb⟩
  · exact h' b ⟨u, hu, hb⟩
theorem OwnI.ints {B : Nat} {w : World} {v : Value} {xs : List Int} (h : OwnI B w v xs) {b : Nat} (hb : v.ownBlock = some b) : ∃ cur T, w.heap[b]? = some (.cells cur T (0, 0)) ∧ mkT T := by
  rcases h.2 with ⟨hn, _⟩ | ⟨g, cap, cur, hv, _, hg, _⟩
  · rw [hn] at hb; simp [Value.ownBlock] at hb
  · rw [hv] at hb
    simp only [Value.ownBlock, Option.some.injEq] at hb
    subst hb
    exact ⟨cur, _, hg, .inl rfl⟩

theorem Box.offBlk {w w' : World} {g : Nat} {L M : List Value} {T : TypeId} (h : Box w g L T) (hT : ¬ mkT T) (hi : IntBlks w M) (hf : Off (Blk M) w w') : Box w' g L T :=
  h.keep (hf.block g h.lt fun hb => by
    obtain ⟨cur, T', hg, hm⟩ := hi g hb
    rw [Box, hg] at h
    simp only [Option.some.injEq, Obj.cells.injEq] at h
    rw [h.2.1] at hm
    exact hT hm)
/-- the leaves of one thing lie below those of another -/
theorem apart {L M : List Value} {a b : Nat} (hL : ∀ x, Blk L x → x < a) (hM : ∀ x, Blk M x → b ≤ x) (hab : a ≤ b) : ∀ x, Blk L x → ¬ Blk M x := fun x h h' => by have := hL x h; have := hM x h'; omega
theorem apart' {L M : List Value} {a b : Nat} (hL : ∀ x, Blk L x → x < a) (hM : ∀ x, Blk M x → b ≤ x) (hab : a ≤ b) : ∀ x, Blk M x → ¬ Blk L x := fun x h h' => by have := hL x h'; have := hM x h; omega

/-! ### slices of integers -/
def VI (w : World) (v : Value) (xs : List Int) : Prop := ∃ p c, v = .slice p xs.length c ∧ RdI w p xs
theorem VI.below {w w' : World} {v : Value} {xs : List Int} (h : VI w v xs) (hb : Below w.heap.size w w') : VI w' v xs := by
  obtain ⟨p, c, rfl, hr⟩ := h
  exact ⟨p, c, rfl, hr.below hb⟩
def OwnLI (B : Nat) (w : World) (v : Value) (xs : List Int) (L : List Value) : Prop := OwnI B w v xs ∧ L = [v]
theorem OwnLI.rd {B : Nat} {w : World} {v : Value} {xs : List Int} {L : List Value} (h : OwnLI B w v xs L) : VI w v xs := h.1.rd
theorem OwnLI.mono {B B' : Nat} {w : World} {v : Value} {xs : List Int} {L : List Value} (h : OwnLI B w v xs L) (hB : B' ≤ B) : OwnLI B' w v xs L := ⟨h.1.mono hB, h.2⟩
theorem OwnLI.blk {B : Nat} {w : World} {v : Value} {xs : List Int} {L : List Value} (h : OwnLI B w v xs L) {b : Nat} (hb : Blk L b) : B ≤ b ∧ b < w.heap.size := by
  obtain ⟨u, hu, hb⟩ := hb
  rw [h.2, List.mem_singleton] at hu
  subst hu
  exact h.1.lt hb
theorem OwnLI.off {B : Nat} {w w' : World} {v : Value} {xs : List Int} {L : List Value} (h : OwnLI B w v xs L) (hk : ∀ k, B ≤ k → k < w.heap.size → Blk L k → w'.heap[k]? = w.heap[k]?) : OwnLI B w' v xs L :=
  ⟨h.1.keep fun k hb => hk k (h.1.lt hb).1 (h.1.lt hb).2 ⟨v, by rw [h.2]; exact List.mem_singleton.2 rfl, hb⟩, h.2⟩
theorem OwnLI.ints {B : Nat} {w : World} {v : Value} {xs : List Int} {L : List Value} (h : OwnLI B w v xs L) : IntBlks w L := by
  rintro b ⟨u, hu, hb⟩
  rw [h.2, List.mem_singleton] at hu
  subst hu
  exact h.1.ints hb
theorem OwnLI.keeps {B : Nat} {w w' : World} {v : Value} {xs : List Int} {L : List Value} (h : OwnLI B w v xs L) (hk : ∀ k, B ≤ k → k < w.heap.size → w'.heap[k]? = w.heap[k]?) : OwnLI B w' v xs L :=
  h.off fun k h1 h2 _ => hk k h1 h2
theorem OwnLI.offBlk {B : Nat} {w w' : World} {v : Value} {xs : List Int} {L M : List Value} (h : OwnLI B w v xs L) (_hi : IntBlks w M) (hd : ∀ b, Blk L b → ¬ Blk M b) (hf : Off (Blk M) w w') : OwnLI B w' v xs L :=
  h.off fun k _ hk hb => hf.block k hk (hd k hb)
theorem OwnLI.below {B : Nat} {w w' : World} {v : Value} {xs : List Int} {L : List Value} (h : OwnLI B w v xs L) (hb : Below w.heap.size w w') : OwnLI B w' v xs L := h.keeps fun k _ hk => hb.block k hk
theorem OwnLI.dis {B : Nat} {w : World} {v : Value} {xs : List Int} {L : List Value} (h : OwnLI B w v xs L) : Dis L := by rw [h.2]; exact List.pairwise_singleton _ _
def wtI (xs : List Int) : Nat := xs.length
def cntI (xs : List Int) : Nat := xs.length
theorem cntI_le (xs : List Int) : cntI xs ≤ wtI xs := Nat.le_refl _
def markI (k : Int) (xs : List Int) : List Int := seqI k xs.length
/-! ### slices of slices of integers -/
def VII (w : World) (v : Value) (xs : List (List Int)) : Prop := ∃ p c, v = .slice p xs.length c ∧ RdII w p xs
theorem VII.below {w w' : World} {v : Value} {xs : List (List Int)} (h : VII w v xs) (hb : Below w.heap.size w w') : VII w' v xs := by
  obtain ⟨p, c, rfl, hr⟩ := h
  exact ⟨p, c, rfl, hr.below hb⟩
theorem OwnII.rdv {B : Nat} {w : World} {v : Value} {xs : List (List Int)} {L : List Value} (h : OwnII B w v xs L) : VII w v xs := h.rd
theorem OwnII.blk {B : Nat} {w : World} {v : Value} {xs : List (List Int)} {L : List Value} (h : OwnII B w v xs L) {b : Nat} (hb : Blk L b) : B ≤ b ∧ b < w.heap.size := ⟨(h.2.1.blk hb).1, (h.2.1.blk hb).2.1⟩
theorem OwnII.keeps {B : Nat} {w w' : World} {v : Value} {xs : List (List Int)} {L : List Value} (h : OwnII B w v xs L) (hk : ∀ k, B ≤ k → k < w.heap.size → w'.heap[k]? = w.heap[k]?) : OwnII B w' v xs L :=
  ⟨h.1.keep fun k hb => hk k (h.1.lt hb).1 (h.1.lt hb).2, h.2.1.keep fun k hb => hk k (h.2.1.blk hb).1 (h.2.1.blk hb).2.1, h.2.2⟩
theorem OwnII.ints {B : Nat} {w : World} {v : Value} {xs : List (List Int)} {L : List Value} (h : OwnII B w v xs L) : IntBlks w L := fun b hb => by
  obtain ⟨cur, hg⟩ := (h.2.1.blk hb).2.2
  exact ⟨cur, _, hg, .inl rfl⟩
theorem OwnII.offBlk {B : Nat} {w w' : World} {v : Value} {xs : List (List Int)} {L M : List Value} (h : OwnII B w v xs L) (hi : IntBlks w M) (hd : ∀ b, Blk L b → ¬ Blk M b) (hf : Off (Blk M) w w') : OwnII B w' v xs L := by
  refine ⟨h.1.keep fun k hk => hf.block k (h.1.lt hk).2 fun hb => ?_, h.2.1.keep fun k hk => hf.block k (h.2.1.blk hk).2.1 (hd k hk), h.2.2⟩
  obtain ⟨cur, T, hg, hm⟩ := hi k hb
  rcases h.1.cases with ⟨e, _⟩ | ⟨g, cap, e, _, _, ⟨cur', hg'⟩, _⟩
  · rw [e] at hk; simp [Value.ownBlock] at hk
  · rw [e] at hk
    simp only [Value.ownBlock, Option.some.injEq] at hk
    subst hk
    rw [hg] at hg'
    simp only [Option.some.injEq, Obj.cells.injEq] at hg'
    rw [hg'.2.1] at hm
    exact absurd hm (by decide)
theorem OwnII.dis {B : Nat} {w : World} {v : Value} {xs : List (List Int)} {L : List Value} (h : OwnII B w v xs L) : Dis L := h.2.2
def wtII (xs : List (List Int)) : Nat := xs.length + lens xs
def cntII (xs : List (List Int)) : Nat := lens xs
theorem cntII_le (xs : List (List Int)) : cntII xs ≤ wtII xs := by unfold cntII wtII; omega
def markII (k : Int) (xs : List (List Int)) : List (List Int) := marks k xs
end Go.Proofs.YtcfhcmgmkhfjjaaGreat

namespace Go.Proofs.YtcfhcmgmkhfjjaaGreat
open Go.ChangeShapes Go.WideShapes Go.ChangeAt Go.RowKit
set_option linter.unusedVariables false

structure NodeD where
  kind : Int
  a : Int
  b : Int
  src : List Int

/-- the value v is a Node that reads x -/
def VNode (w : World) (v : Value) (x : NodeD) : Prop := ∃ p3 c3, v = .agg #[.int .i64 x.kind, .int .i64 x.a, .int .i64 x.b, .slice p3 x.src.length c3] ∧ RdI w p3 x.src
theorem VNode.below {w w' : World} {v : Value} {x : NodeD} (h : VNode w v x) (hb : Below w.heap.size w w') : VNode w' v x := by
  obtain ⟨p3, c3, rfl, r3⟩ := h
  exact ⟨p3, c3, rfl, r3.below hb⟩
/-- a Node of the call's own; L: its slices of integers -/
def OwnNode (B : Nat) (w : World) (v : Value) (x : NodeD) (L : List Value) : Prop := ∃ u3 L3, v = .agg #[.int .i64 x.kind, .int .i64 x.a, .int .i64 x.b, u3] ∧ L3 = L ∧ OwnLI B w u3 x.src L3
theorem OwnNode.rd {B : Nat} {w : World} {v : Value} {x : NodeD} {L : List Value} (h : OwnNode B w v x L) : VNode w v x := by
  obtain ⟨u3, L3, rfl, rfl, o3⟩ := h
  obtain ⟨p3, c3, rfl, r3⟩ := OwnLI.rd o3
  exact ⟨p3, c3, rfl, r3⟩
theorem OwnNode.mono {B B' : Nat} {w : World} {v : Value} {x : NodeD} {L : List Value} (h : OwnNode B w v x L) (hB : B' ≤ B) : OwnNode B' w v x L := by
  obtain ⟨u3, L3, rfl, rfl, o3⟩ := h
  exact ⟨u3, L3, rfl, rfl, o3.mono hB⟩
theorem OwnNode.keeps {B : Nat} {w w' : World} {v : Value} {x : NodeD} {L : List Value} (h : OwnNode B w v x L) (hk : ∀ k, B ≤ k → k < w.heap.size → w'.heap[k]? = w.heap[k]?) : OwnNode B w' v x L := by
  obtain ⟨u3, L3, rfl, rfl, o3⟩ := h
  exact ⟨u3, L3, rfl, rfl, o3.keeps hk⟩
theorem OwnNode.below {B : Nat} {w w' : World} {v : Value} {x : NodeD} {L : List Value} (h : OwnNode B w v x L) (hb : Below w.heap.size w w') : OwnNode B w' v x L := h.keeps fun k _ hk => hb.block k hk
theorem OwnNode.blk {B : Nat} {w : World} {v : Value} {x : NodeD} {L : List Value} (h : OwnNode B w v x L) {b : Nat} (hb : Blk L b) : B ≤ b ∧ b < w.heap.size := by
  obtain ⟨u3, L3, rfl, rfl, o3⟩ := h
  obtain ⟨u, hu, hb⟩ := hb
  exact o3.blk ⟨u, hu, hb⟩
theorem OwnNode.ints {B : Nat} {w : World} {v : Value} {x : NodeD} {L : List Value} (h : OwnNode B w v x L) : IntBlks w L := by
  obtain ⟨u3, L3, rfl, rfl, o3⟩ := h
  exact o3.ints
def wtNode (x : NodeD) : Nat := wtI x.src
def cntNode (x : NodeD) : Nat := cntI x.src
theorem cntNode_le (x : NodeD) : cntNode x ≤ wtNode x := by
  have e3 := cntI_le x.src
  unfold cntNode wtNode; omega
def markNode (m : Int) (x : NodeD) : NodeD := { x with src := markI (m) x.src }
end Go.Proofs.YtcfhcmgmkhfjjaaGreat
