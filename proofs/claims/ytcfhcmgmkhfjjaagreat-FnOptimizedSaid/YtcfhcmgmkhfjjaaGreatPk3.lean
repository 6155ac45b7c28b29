/-
  Several texts in one: TyNodeS, TyPatch, PatM, OutA, OutI, Copy, Next, StepJ, StepI, PatSame.
-/
import Derived.Test.YtcfhcmgmkhfjjaaGreatPk2
import Derived.Lib.QuietBelow
import Derived.Test.YtcfhcmgmkhfjjaaGreatPk1
import Derived.Deep.LoopGhost
import Derived.Deep.RegionLaw
namespace Go.Proofs.YtcfhcmgmkhfjjaaGreat
open Go.ChangeShapes Go.WideShapes Go.ChangeAt Go.RowKit Go.Sort
set_option linter.unusedVariables false

/-- the slice of nodes at p reads xs -/
structure RdNodeS (w : World) (p : Option Addr) (xs : List NodeD) : Prop where
  len : xs.length ≤ maxLen
  cells : xs = [] ∨ ∃ b o, p = some ⟨b, o, none⟩ ∧ ∀ i, (h : i < xs.length) → PNode w b (o + i * 4) xs[i]
theorem RdNodeS.pos {w : World} {p : Option Addr} {xs : List NodeD} (h : RdNodeS w p xs) {k : Nat} (hk : k < xs.length) :
    ∃ b o, p = some ⟨b, o, none⟩ ∧ b < w.heap.size ∧ ∀ i, (h : i < xs.length) → PNode w b (o + i * 4) xs[i] := by
  rcases h.cells with rfl | ⟨b, o, e, hc⟩
  · simp at hk
  · exact ⟨b, o, e, (hc k hk).lt, hc⟩
theorem RdNodeS.nil (w : World) (p : Option Addr) : RdNodeS w p [] := ⟨by simp [maxLen], .inl rfl⟩
theorem RdNodeS.below {w w' : World} {p : Option Addr} {xs : List NodeD} (h : RdNodeS w p xs) (hb : Below w.heap.size w w') : RdNodeS w' p xs := by
  refine ⟨h.len, ?_⟩
  rcases h.cells with rfl | ⟨b, o, e, hc⟩
  · exact .inl rfl
  · exact .inr ⟨b, o, e, fun i hi => (hc i hi).below hb⟩
def VNodeS (w : World) (v : Value) (xs : List NodeD) : Prop := ∃ p c, v = .slice p xs.length c ∧ RdNodeS w p xs
theorem VNodeS.below {w w' : World} {v : Value} {xs : List NodeD} (h : VNodeS w v xs) (hb : Below w.heap.size w w') : VNodeS w' v xs := by
  obtain ⟨p, c, rfl, hr⟩ := h
  exact ⟨p, c, rfl, hr.below hb⟩
/-- the cells of nodes, the values L in the place of their slices -/
def nodeCells : List NodeD → List Value → List Value
  | x :: xs, u :: us => .int .i64 x.kind :: .int .i64 x.a :: .int .i64 x.b :: u :: nodeCells xs us
  | _, _ => []
theorem nodeCells_length : ∀ (xs : List NodeD) (L : List Value), L.length = xs.length → (nodeCells xs L).length = xs.length * 4
  | [], L, h => by rw [nodeCells]; simp; intros; simp_all
  | x :: xs, [], h => by simp at h
  | x :: xs, u :: us, h => by
    rw [nodeCells]
    simp only [List.length_cons] at h ⊢
    rw [nodeCells_length xs us (by omega)]
    omega
theorem nodeCells_get : ∀ (xs : List NodeD) (L : List Value) (i : Nat) (h : i < xs.length) (hL : i < L.length),
    (nodeCells xs L)[i * 4]? = some (.int .i64 xs[i].kind) ∧ (nodeCells xs L)[i * 4 + 1]? = some (.int .i64 xs[i].a) ∧ (nodeCells xs L)[i * 4 + 2]? = some (.int .i64 xs[i].b) ∧ (nodeCells xs L)[i * 4 + 3]? = some L[i]
  | [], _, i, h, _ => by simp at h
  | _ :: _, [], i, _, h => by simp at h
  | x :: xs, u :: us, 0, _, _ => ⟨rfl, rfl, rfl, rfl⟩
  | x :: xs, u :: us, i + 1, h, hL => by
    have := nodeCells_get xs us i (by simpa using h) (by simpa using hL)
    rw [nodeCells, show (i + 1) * 4 = i * 4 + 1 + 1 + 1 + 1 by omega]
    simpa using this
theorem nodeCells_append : ∀ (xs ys : List NodeD) (L M : List Value), L.length = xs.length → nodeCells (xs ++ ys) (L ++ M) = nodeCells xs L ++ nodeCells ys M
  | [], ys, L, M, h => by
    have : L = [] := List.eq_nil_of_length_eq_zero h
    subst this
    simp [nodeCells]
  | x :: xs, ys, [], M, h => by simp at h
  | x :: xs, ys, u :: us, M, h => by
    rw [List.cons_append, List.cons_append, nodeCells, nodeCells, nodeCells_append xs ys us M (by simpa using h)]
    rfl
/-- an outer row of nodes of its own, the values L in the place of their slices -/
def OwnN (B : Nat) (w : World) (v : Value) (xs : List NodeD) (L : List Value) : Prop := L.length = xs.length ∧ w.ownsRow B 55 4 v xs.length (nodeCells xs L)
theorem OwnN.lt {B : Nat} {w : World} {v : Value} {xs : List NodeD} {L : List Value} (h : OwnN B w v xs L) {k : Nat} (hk : v.ownBlock = some k) : B ≤ k ∧ k < w.heap.size := World.ownsRow.lt h.2 k hk
theorem OwnN.keep {B : Nat} {w w' : World} {v : Value} {xs : List NodeD} {L : List Value} (h : OwnN B w v xs L) (hk : ∀ k, v.ownBlock = some k → w'.heap[k]? = w.heap[k]?) : OwnN B w' v xs L := by
  refine ⟨h.1, h.2.1, ?_⟩
  rcases h.2.2 with hn | ⟨g, cap, cur, rfl, hb, hgg, rest⟩
  · exact .inl hn
  · exact .inr ⟨g, cap, cur, rfl, hb, (hk g rfl).trans hgg, rest⟩
theorem OwnN.below {B : Nat} {w w' : World} {v : Value} {xs : List NodeD} {L : List Value} (h : OwnN B w v xs L) (hb : Below w.heap.size w w') : OwnN B w' v xs L := h.keep fun k hk => hb.block k (h.lt hk).2
theorem OwnN.mono {B B' : Nat} {w : World} {v : Value} {xs : List NodeD} {L : List Value} (h : OwnN B w v xs L) (hB : B' ≤ B) : OwnN B' w v xs L := by
  refine ⟨h.1, h.2.1, ?_⟩
  rcases h.2.2 with h2 | ⟨g, cap, cur, hv, hb, r⟩
  · exact .inl h2
  · exact .inr ⟨g, cap, cur, hv, Nat.le_trans hB hb, r⟩
theorem OwnN.node {B : Nat} {w : World} {v : Value} {xs : List NodeD} {L : List Value} (h : OwnN B w v xs L) {k : Nat} (hk : v.ownBlock = some k) : ∃ cur, w.heap[k]? = some (.cells cur 55 (0, 0)) := by
  rcases h.2.2 with ⟨hn, _⟩ | ⟨g, cap, cur, hv, _, hg, _⟩
  · rw [hn] at hk; simp [Value.ownBlock] at hk
  · rw [hv] at hk
    simp only [Value.ownBlock, Option.some.injEq] at hk
    subst hk
    exact ⟨cur, hg⟩
theorem OwnN.cases {B : Nat} {w : World} {v : Value} {xs : List NodeD} {L : List Value} (h : OwnN B w v xs L) :
    (v = .slice none 0 0 ∧ xs = [] ∧ L = []) ∨ ∃ g cap, v = .slice (some ⟨g, 0, none⟩) xs.length cap ∧ B ≤ g ∧ g < w.heap.size ∧ xs.length ≤ maxLen ∧
      (∀ i, (hi : i < xs.length) → (hL : i < L.length) → w.cell? ⟨g, i * 4, none⟩ = some (.int .i64 xs[i].kind) ∧ w.cell? ⟨g, i * 4 + 1, none⟩ = some (.int .i64 xs[i].a) ∧ w.cell? ⟨g, i * 4 + 2, none⟩ = some (.int .i64 xs[i].b) ∧ w.cell? ⟨g, i * 4 + 3, none⟩ = some L[i]) := by
  obtain ⟨hl, h⟩ := h
  rcases h.2 with ⟨h1, h2⟩ | ⟨g, cap, cur, hv, hB, hg, hn, hm, hs, ht⟩
  · have e : xs = [] := List.eq_nil_of_length_eq_zero h2
    subst e
    exact .inl ⟨h1, rfl, List.eq_nil_of_length_eq_zero hl⟩
  · refine .inr ⟨g, cap, hv, hB, (Array.getElem?_eq_some_iff.1 hg).1, by omega, fun i hi hL => ?_⟩
    have hh : w.ownsRow B 55 4 (.slice (some ⟨g, 0, none⟩) xs.length cap) xs.length (nodeCells xs L) := by rw [← hv]; exact h
    obtain ⟨c0, c1, c2, c3⟩ := nodeCells_get xs L i hi hL
    exact ⟨(hh.cellAt _ (by omega)).trans c0, (hh.cellAt _ (by omega)).trans c1, (hh.cellAt _ (by omega)).trans c2, (hh.cellAt _ (by omega)).trans c3⟩
theorem OwnN.nil (B : Nat) (w : World) : OwnN B w (.slice none 0 0) [] [] := ⟨rfl, World.ownsRow_nil w B _ 4⟩
/-- a slice of nodes of its own; M: the row itself, and the slices of its nodes -/
def OwnNodeS (B : Nat) (w : World) (v : Value) (xs : List NodeD) (M : List Value) : Prop := ∃ L, M = v :: L ∧ OwnN B w v xs L ∧ OwnIs B w L (xs.map NodeD.src) ∧ Dis L
theorem OwnNodeS.blk {B : Nat} {w : World} {v : Value} {xs : List NodeD} {M : List Value} (h : OwnNodeS B w v xs M) {b : Nat} (hb : Blk M b) : B ≤ b ∧ b < w.heap.size := by
  obtain ⟨L, rfl, ho, hs, hd⟩ := h
  obtain ⟨u, hu, hb⟩ := hb
  rcases List.mem_cons.1 hu with rfl | hu
  · exact ho.lt hb
  · exact ⟨(hs.blk ⟨u, hu, hb⟩).1, (hs.blk ⟨u, hu, hb⟩).2.1⟩
theorem OwnN.off {B B' : Nat} {w : World} {v : Value} {xs : List NodeD} {L M : List Value} {xss : List (List Int)} (h : OwnN B w v xs L) (hs : OwnIs B' w M xss) {k : Nat} (hk : v.ownBlock = some k) : ¬ Blk M k := by
  intro hb
  obtain ⟨_, _, cur, hg⟩ := hs.blk hb
  obtain ⟨cur', hg'⟩ := h.node hk
  rw [hg] at hg'
  simp only [Option.some.injEq, Obj.cells.injEq] at hg'
  exact absurd hg'.2.1 (by decide)
theorem OwnNodeS.dis {B : Nat} {w : World} {v : Value} {xs : List NodeD} {M : List Value} (h : OwnNodeS B w v xs M) : Dis M := by
  obtain ⟨L, rfl, ho, hs, hd⟩ := h
  refine List.pairwise_cons.2 ⟨fun u hu b hb hb' => ho.off hs hb ⟨u, hu, hb'⟩, hd⟩
theorem OwnNodeS.rd {B : Nat} {w : World} {v : Value} {xs : List NodeD} {M : List Value} (h : OwnNodeS B w v xs M) : VNodeS w v xs := by
  obtain ⟨L, rfl, ho, hs, hd⟩ := h
  rcases ho.cases with ⟨rfl, rfl, rfl⟩ | ⟨g, cap, rfl, hB, hg, hm, hc⟩
  · exact ⟨none, 0, rfl, RdNodeS.nil _ _⟩
  · refine ⟨_, cap, rfl, hm, .inr ⟨g, 0, rfl, fun i hi => ?_⟩⟩
    have hL : i < L.length := by rw [ho.1]; exact hi
    obtain ⟨c0, c1, c2, c3⟩ := hc i hi hL
    obtain ⟨hL', hu⟩ := hs.at_ (i := i) (by simpa using hi)
    obtain ⟨q, d, e, hr⟩ := hu.rd
    rw [List.getElem_map] at e hr
    rw [Nat.zero_add]
    exact ⟨c0, c1, c2, q, d, by rw [c3, e], hr⟩
theorem OwnNodeS.mono {B B' : Nat} {w : World} {v : Value} {xs : List NodeD} {M : List Value} (h : OwnNodeS B w v xs M) (hB : B' ≤ B) : OwnNodeS B' w v xs M := by
  obtain ⟨L, rfl, ho, hs, hd⟩ := h
  exact ⟨L, rfl, ho.mono hB, hs.mono hB, hd⟩
theorem OwnNodeS.keeps {B : Nat} {w w' : World} {v : Value} {xs : List NodeD} {M : List Value} (h : OwnNodeS B w v xs M) (hk : ∀ k, B ≤ k → k < w.heap.size → w'.heap[k]? = w.heap[k]?) : OwnNodeS B w' v xs M := by
  obtain ⟨L, rfl, ho, hs, hd⟩ := h
  exact ⟨L, rfl, ho.keep fun k hb => hk k (ho.lt hb).1 (ho.lt hb).2, hs.keep fun k hb => hk k (hs.blk hb).1 (hs.blk hb).2.1, hd⟩
theorem OwnNodeS.below {B : Nat} {w w' : World} {v : Value} {xs : List NodeD} {M : List Value} (h : OwnNodeS B w v xs M) (hb : Below w.heap.size w w') : OwnNodeS B w' v xs M := h.keeps fun k _ hk => hb.block k hk
theorem OwnNodeS.offBlk {B : Nat} {w w' : World} {v : Value} {xs : List NodeD} {M M' : List Value} (h : OwnNodeS B w v xs M) (_hi : IntBlks w M') (hd : ∀ b, Blk M b → ¬ Blk M' b) (hf : Off (Blk M') w w') : OwnNodeS B w' v xs M := by
  have hb := fun b (hb : Blk M b) => h.blk hb
  obtain ⟨L, rfl, ho, hs, hds⟩ := h
  exact ⟨L, rfl, ho.keep fun k hk => hf.block k (ho.lt hk).2 (hd k ⟨v, List.mem_cons_self .., hk⟩),
    hs.keep fun k hk => hf.block k (hs.blk hk).2.1 (hd k (by obtain ⟨u, hu, hb⟩ := hk; exact ⟨u, List.mem_cons_of_mem _ hu, hb⟩)), hds⟩
/-- sizes and marks -/
def wtNodeS (xs : List NodeD) : Nat := xs.length + lens (xs.map NodeD.src)
def cntNodeS (xs : List NodeD) : Nat := 3 * xs.length + lens (xs.map NodeD.src)
theorem cntNodeS_le (xs : List NodeD) : cntNodeS xs ≤ 6 * wtNodeS xs := by unfold cntNodeS wtNodeS; omega
def markNodeS (m : Int) : List NodeD → List NodeD
  | [] => []
  | x :: xs => ⟨m, m + 1, m + 1 + 1, markI (m + 1 + 1 + 1) x.src⟩ :: markNodeS (m + 1 + 1 + 1 + x.src.length) xs
theorem markNodeS_length : ∀ (xs : List NodeD) (m : Int), (markNodeS m xs).length = xs.length
  | [], _ => rfl
  | x :: xs, m => by rw [markNodeS, List.length_cons, List.length_cons, markNodeS_length xs]
theorem lens_nodes (xs : List NodeD) {k : Nat} (h : k < xs.length) : lens ((xs.take (k + 1)).map NodeD.src) = lens ((xs.take k).map NodeD.src) + xs[k].src.length := by
  have := lens_take_succ (xs.map NodeD.src) k (by simpa using h)
  rw [← List.map_take, ← List.map_take, List.getElem_map] at this
  exact this
theorem lens_nodes_le (xs : List NodeD) (k : Nat) : lens ((xs.take k).map NodeD.src) ≤ lens (xs.map NodeD.src) := by
  have := lens_take_le (xs.map NodeD.src) k
  rwa [← List.map_take] at this
theorem infoN : (Tryz.prog.info? 55).map (fun i => (i.zero, i.size, i.bytes)) = some (some (.agg #[.int .i64 0, .int .i64 0, .int .i64 0, .slice none 0 0]), 4, 48) := by kernel_rfl
def zNode : NodeD := ⟨0, 0, 0, []⟩
theorem nodeCells_put : ∀ (xs : List NodeD) (L : List Value) (k : Nat) (y : NodeD) (u : Value), k < xs.length → L.length = xs.length →
    ((((nodeCells xs L).set (k * 4) (.int .i64 y.kind)).set (k * 4 + 1) (.int .i64 y.a)).set (k * 4 + 2) (.int .i64 y.b)).set (k * 4 + 3) u = nodeCells (xs.set k y) (L.set k u)
  | [], _, k, _, _, h, _ => by simp at h
  | _ :: _, [], _, _, _, _, h => by simp at h
  | x :: xs, v :: us, 0, y, u, _, _ => rfl
  | x :: xs, v :: us, k + 1, y, u, h, hL => by
    have := nodeCells_put xs us k y u (by simpa using h) (by simpa using hL)
    rw [nodeCells, show (k + 1) * 4 = k * 4 + 1 + 1 + 1 + 1 by omega]
    simp only [List.set_cons_succ, nodeCells]
    rw [this]
theorem madeNodes : ∀ n : Nat, (madeCells #[.int .i64 0, .int .i64 0, .int .i64 0, .slice none 0 0] (n * 4)).toList = nodeCells (List.replicate n zNode) (List.replicate n (.slice none 0 0)) := by
  intro n
  refine List.ext_getElem (by rw [nodeCells_length _ _ (by simp)]; simp [madeCells]) fun i h1 h2 => ?_
  have hi : i < n * 4 := by simpa [madeCells] using h1
  obtain ⟨q, r, hr, rfl⟩ : ∃ q r, r < 4 ∧ i = q * 4 + r := ⟨i / 4, i % 4, Nat.mod_lt _ (by omega), by omega⟩
  have hq : q < n := by omega
  obtain ⟨c0, c1, c2, c3⟩ := nodeCells_get (List.replicate n zNode) (List.replicate n (.slice none 0 0)) q (by simpa using hq) (by simpa using hq)
  have hm : (q * 4 + r) % 4 = r := by omega
  rw [← Option.some_inj, ← List.getElem?_eq_getElem h2]
  rcases (show r = 0 ∨ r = 1 ∨ r = 2 ∨ r = 3 by omega) with rfl | rfl | rfl | rfl
  · refine Eq.trans ?_ c0.symm; simp [madeCells, zNode]
  · refine Eq.trans ?_ c1.symm; simp [madeCells, zNode, hm]
  · refine Eq.trans ?_ c2.symm; simp [madeCells, zNode, hm]
  · refine Eq.trans ?_ c3.symm; simp [madeCells, hm]
theorem run_make_nodes (n : Nat) (hn : n ≤ 1048576) (w : World) :
    (Instr.makeSlice 25 (.int .i64 (n : Int)) (.int .i64 (n : Int))).run Tryz.prog w = .ok (.slice (some ⟨w.heap.size, 0, none⟩) n n) (w.alloc (.cells (madeCells #[.int .i64 0, .int .i64 0, .int .i64 0, .slice none 0 0] (n * 4)) 55)) := by
  obtain ⟨i, hi, hz0, hz1, hz2⟩ := info_parts infoN
  have hr := run_make (P := Tryz.prog) w 25 55 i _ Tryz.underlying25 hi hz0 .i64 .i64 n n (by omega) (Int.le_refl _) (by rw [hz2]; omega) (by omega)
  simp only [Int.toNat_natCast, hz1] at hr
  exact hr
theorem OwnN.made {B : Nat} (w : World) (n : Nat) (hB : B ≤ w.heap.size) (hn : n ≤ 1048576) : OwnN B (w.alloc (.cells (madeCells #[.int .i64 0, .int .i64 0, .int .i64 0, .slice none 0 0] (n * 4)) 55)) (.slice (some ⟨w.heap.size, 0, none⟩) n n) (List.replicate n zNode) (List.replicate n (.slice none 0 0)) := by
  have h := World.ownsRow_lit (base := B) (e := 55) (size := 4) w (madeCells #[.int .i64 0, .int .i64 0, .int .i64 0, .slice none 0 0] (n * 4)) n hB (by unfold maxLen; omega) (by rw [size_madeCells])
  rw [madeNodes] at h
  exact ⟨by simp, by simpa using h⟩
theorem OwnN.storing {B : Nat} {w : World} {g n cap : Nat} {xs : List NodeD} {L : List Value} (h : OwnN B w (.slice (some ⟨g, 0, none⟩) n cap) xs L) {k : Nat} (hk : k < xs.length) :
    n = xs.length ∧ B ≤ g ∧ g < w.heap.size ∧ (∃ u0 u1 u2 u3, w.cell? ⟨g, k * 4, none⟩ = some u0 ∧ w.cell? ⟨g, k * 4 + 1, none⟩ = some u1 ∧ w.cell? ⟨g, k * 4 + 2, none⟩ = some u2 ∧ w.cell? ⟨g, k * 4 + 3, none⟩ = some u3) ∧ (∀ j, w.frozen? ⟨g, j, none⟩ = false) ∧
      ∀ (y : NodeD) u, OwnN B ((((w.setCell ⟨g, k * 4, none⟩ (.int .i64 y.kind)).setCell ⟨g, k * 4 + 1, none⟩ (.int .i64 y.a)).setCell ⟨g, k * 4 + 2, none⟩ (.int .i64 y.b)).setCell ⟨g, k * 4 + 3, none⟩ u) (.slice (some ⟨g, 0, none⟩) n cap) (xs.set k y) (L.set k u) := by
  have hl := h.lt (k := g) rfl
  rcases h.cases with ⟨h1, _⟩ | ⟨g', cap', h1, hB, hlt, _, hc⟩
  · simp at h1
  · simp only [Value.slice.injEq, Option.some.injEq, Addr.mk.injEq, and_true] at h1
    obtain ⟨rfl, rfl, rfl⟩ := h1
    obtain ⟨c0, c1, c2, c3⟩ := hc k hk (by rw [h.1]; exact hk)
    refine ⟨rfl, hl.1, hl.2, ⟨_, _, _, _, c0, c1, c2, c3⟩, fun j => World.ownsRow.frozenAt h.2 j, fun y u => ⟨by simp [h.1], ?_⟩⟩
    have h0 := (World.ownsRow.stored h.2 (k * 4) (.int .i64 y.kind)).1
    have h1 := (World.ownsRow.stored h0 (k * 4 + 1) (.int .i64 y.a)).1
    have h2 := (World.ownsRow.stored h1 (k * 4 + 2) (.int .i64 y.b)).1
    have h3 := (World.ownsRow.stored h2 (k * 4 + 3) u).1
    rw [nodeCells_put _ _ _ _ _ hk h.1] at h3
    simpa using h3
end Go.Proofs.YtcfhcmgmkhfjjaaGreat

namespace Go.Proofs.YtcfhcmgmkhfjjaaGreat
open Go.ChangeShapes Go.WideShapes Go.ChangeAt Go.RowKit
set_option linter.unusedVariables false

structure PatchD where
  inputs : Int
  tables : List (List Int)
  nodes : List NodeD
  outputs : List Int

/-- the value v is a Patch that reads x -/
def VPatch (w : World) (v : Value) (x : PatchD) : Prop := ∃ p1 c1 p2 c2 p3 c3, v = .agg #[.int .i64 x.inputs, .slice p1 x.tables.length c1, .slice p2 x.nodes.length c2, .slice p3 x.outputs.length c3] ∧ RdII w p1 x.tables ∧ RdNodeS w p2 x.nodes ∧ RdI w p3 x.outputs
theorem VPatch.below {w w' : World} {v : Value} {x : PatchD} (h : VPatch w v x) (hb : Below w.heap.size w w') : VPatch w' v x := by
  obtain ⟨p1, c1, p2, c2, p3, c3, rfl, r1, r2, r3⟩ := h
  exact ⟨p1, c1, p2, c2, p3, c3, rfl, r1.below hb, r2.below hb, r3.below hb⟩
/-- a Patch of the call's own; L: its slices of integers -/
def OwnPatch (B : Nat) (w : World) (v : Value) (x : PatchD) (L : List Value) : Prop := ∃ u1 u2 u3 L1 L2 L3, v = .agg #[.int .i64 x.inputs, u1, u2, u3] ∧ L1 ++ L2 ++ L3 = L ∧ OwnII B w u1 x.tables L1 ∧ OwnNodeS B w u2 x.nodes L2 ∧ OwnLI B w u3 x.outputs L3
theorem OwnPatch.rd {B : Nat} {w : World} {v : Value} {x : PatchD} {L : List Value} (h : OwnPatch B w v x L) : VPatch w v x := by
  obtain ⟨u1, u2, u3, L1, L2, L3, rfl, rfl, o1, o2, o3⟩ := h
  obtain ⟨p1, c1, rfl, r1⟩ := OwnII.rdv o1
  obtain ⟨p2, c2, rfl, r2⟩ := OwnNodeS.rd o2
  obtain ⟨p3, c3, rfl, r3⟩ := OwnLI.rd o3
  exact ⟨p1, c1, p2, c2, p3, c3, rfl, r1, r2, r3⟩
theorem OwnPatch.mono {B B' : Nat} {w : World} {v : Value} {x : PatchD} {L : List Value} (h : OwnPatch B w v x L) (hB : B' ≤ B) : OwnPatch B' w v x L := by
  obtain ⟨u1, u2, u3, L1, L2, L3, rfl, rfl, o1, o2, o3⟩ := h
  exact ⟨u1, u2, u3, L1, L2, L3, rfl, rfl, o1.mono hB, o2.mono hB, o3.mono hB⟩
theorem OwnPatch.keeps {B : Nat} {w w' : World} {v : Value} {x : PatchD} {L : List Value} (h : OwnPatch B w v x L) (hk : ∀ k, B ≤ k → k < w.heap.size → w'.heap[k]? = w.heap[k]?) : OwnPatch B w' v x L := by
  obtain ⟨u1, u2, u3, L1, L2, L3, rfl, rfl, o1, o2, o3⟩ := h
  exact ⟨u1, u2, u3, L1, L2, L3, rfl, rfl, o1.keeps hk, o2.keeps hk, o3.keeps hk⟩
theorem OwnPatch.below {B : Nat} {w w' : World} {v : Value} {x : PatchD} {L : List Value} (h : OwnPatch B w v x L) (hb : Below w.heap.size w w') : OwnPatch B w' v x L := h.keeps fun k _ hk => hb.block k hk
theorem OwnPatch.blk {B : Nat} {w : World} {v : Value} {x : PatchD} {L : List Value} (h : OwnPatch B w v x L) {b : Nat} (hb : Blk L b) : B ≤ b ∧ b < w.heap.size := by
  obtain ⟨u1, u2, u3, L1, L2, L3, rfl, rfl, o1, o2, o3⟩ := h
  obtain ⟨u, hu, hb⟩ := hb
  simp only [List.mem_append] at hu
  rcases hu with (hu | hu) | hu
  · exact o1.blk ⟨u, hu, hb⟩
  · exact o2.blk ⟨u, hu, hb⟩
  · exact o3.blk ⟨u, hu, hb⟩
def wtPatch (x : PatchD) : Nat := wtII x.tables + wtNodeS x.nodes + wtI x.outputs
def cntPatch (x : PatchD) : Nat := cntII x.tables + cntNodeS x.nodes + cntI x.outputs
theorem cntPatch_le (x : PatchD) : cntPatch x ≤ 6 * wtPatch x := by
  have e1 := cntII_le x.tables
  have e2 := cntNodeS_le x.nodes
  have e3 := cntI_le x.outputs
  unfold cntPatch wtPatch; omega
def markPatch (m : Int) (x : PatchD) : PatchD := { x with tables := markII (m) x.tables, nodes := markNodeS (m + cntII x.tables) x.nodes, outputs := markI (m + cntII x.tables + cntNodeS x.nodes) x.outputs }
end Go.Proofs.YtcfhcmgmkhfjjaaGreat

namespace Go.Proofs.YtcfhcmgmkhfjjaaGreat
set_option linter.unusedVariables false

def tblB (t : List Int) : Bool := (decide (t.length = 2) || (decide (t.length = 4) || (decide (t.length = 8) || decide (t.length = 16)))) && t.all isSmp
def tablesB (ts : List (List Int)) : Bool := ts.all tblB && decide (ts.length ≤ 4)
/-- the nodes that a node waits for -/
def waits (x : NodeD) : List Int := if x.kind = 6 then [] else x.src
/-- a node of a well formed patch: m inputs, t tables, n nodes -/
def ndB (m t n : Int) (x : NodeD) : Bool := nodeB x t && !(x.kind == 1 && decide (m ≤ x.a)) && x.src.all (fun f => inB f 0 (n - 1))
def formedB (x : PatchD) : Bool :=
  inB x.inputs 0 4 && tablesB x.tables && decide (x.nodes.length ≤ 24) && decide (x.outputs.length ≤ 4) && x.nodes.all (ndB x.inputs x.tables.length x.nodes.length) && x.outputs.all (fun f => inB f 0 (x.nodes.length - 1))
theorem formed_iff {x : PatchD} : formedB x = true ↔ (0 ≤ x.inputs ∧ x.inputs ≤ 4) ∧ tablesB x.tables = true ∧ x.nodes.length ≤ 24 ∧ x.outputs.length ≤ 4 ∧ (∀ y ∈ x.nodes, ndB x.inputs x.tables.length x.nodes.length y = true) ∧ ∀ f ∈ x.outputs, 0 ≤ f ∧ f < x.nodes.length := by
  simp only [formedB, Bool.and_eq_true, inB_iff, decide_eq_true_iff, List.all_eq_true]
  constructor
  · rintro ⟨⟨⟨⟨⟨a, b⟩, c⟩, d⟩, e⟩, f⟩
    exact ⟨a, b, c, d, e, fun y hy => by have := f y hy; omega⟩
  · rintro ⟨a, b, c, d, e, f⟩
    exact ⟨⟨⟨⟨⟨a, b⟩, c⟩, d⟩, e⟩, fun y hy => by have := f y hy; omega⟩
theorem ndB_src {m t n : Int} {x : NodeD} (h : ndB m t n x = true) : ∀ f ∈ x.src, 0 ≤ f ∧ f < n := by
  unfold ndB at h
  simp only [Bool.and_eq_true, List.all_eq_true, inB_iff] at h
  intro f hf
  have := h.2 f hf
  omega
theorem waits_src {x : NodeD} {f : Int} (h : f ∈ waits x) : f ∈ x.src := by
  unfold waits at h
  split at h
  · simp at h
  · exact h
/-- node i can be taken after those of out -/
def rdy (nodes : List NodeD) (out : List Int) (i : Nat) : Bool := !(out.contains (i : Int)) && (waits (nodes.getD i ⟨0, 0, 0, []⟩)).all (fun f => out.contains f)
/-- the first node from k on that can be taken; m places are looked at -/
def nxt (nodes : List NodeD) (out : List Int) (k : Nat) : Nat → Option Nat
  | 0 => none
  | m + 1 => if rdy nodes out k then some k else nxt nodes out (k + 1) m
theorem nxt_some {nodes : List NodeD} {out : List Int} {i : Nat} : ∀ {m k : Nat}, nxt nodes out k m = some i → k ≤ i ∧ i < k + m ∧ rdy nodes out i = true
  | 0, _, h => by simp [nxt] at h
  | m + 1, k, h => by
    unfold nxt at h
    split at h
    · simp only [Option.some.injEq] at h
      subst h
      exact ⟨Nat.le_refl _, by omega, by assumption⟩
    · have := nxt_some h
      exact ⟨by omega, by omega, this.2.2⟩
def ord (nodes : List NodeD) : Nat → List Int → List Int
  | 0, out => out
  | f + 1, out => match nxt nodes out 0 nodes.length with
    | none => out
    | some i => ord nodes f (out ++ [(i : Int)])
def orderL (nodes : List NodeD) : List Int := ord nodes nodes.length []
theorem ord_none {nodes : List NodeD} {out : List Int} (h : nxt nodes out 0 nodes.length = none) : ∀ f, ord nodes f out = out
  | 0 => rfl
  | f + 1 => by rw [ord, h]
theorem ord_some {nodes : List NodeD} {out : List Int} {i : Nat} (h : nxt nodes out 0 nodes.length = some i) (f : Nat) : ord nodes (f + 1) out = ord nodes f (out ++ [(i : Int)]) := by
  rw [ord, h]
/-- how many places are not in out -/
def free (out : List Int) : Nat → Nat
  | 0 => 0
  | n + 1 => free out n + (if out.contains (n : Int) then 0 else 1)
theorem contains_snoc (out : List Int) (i j : Int) : (out ++ [i]).contains j = (out.contains j || j == i) := by
  rw [Bool.eq_iff_iff]; simp
theorem free_ge (out : List Int) (i : Nat) : ∀ n, n ≤ i → free (out ++ [(i : Int)]) n = free out n
  | 0, _ => rfl
  | n + 1, h => by
    have e : ((n : Int) == (i : Int)) = false := by rw [beq_eq_false_iff_ne]; omega
    rw [free, free, free_ge out i n (by omega), contains_snoc, e, Bool.or_false]
theorem free_add (out : List Int) (i : Nat) (hi : out.contains (i : Int) = false) : ∀ n, i < n → free (out ++ [(i : Int)]) n + 1 = free out n
  | 0, h => by omega
  | n + 1, h => by
    rw [free, free, contains_snoc]
    by_cases e : i = n
    · subst e
      rw [free_ge out i i (Nat.le_refl _), hi]
      simp
    · have e2 : ((n : Int) == (i : Int)) = false := by rw [beq_eq_false_iff_ne]; omega
      have := free_add out i hi n (by omega)
      rw [e2, Bool.or_false]; omega
theorem free_nil : ∀ n, free [] n = n
  | 0 => rfl
  | n + 1 => by rw [free, free_nil n]; simp
theorem rdy_free {nodes : List NodeD} {out : List Int} {i : Nat} (h : rdy nodes out i = true) : out.contains (i : Int) = false := by
  unfold rdy at h
  rw [Bool.and_eq_true, Bool.not_eq_true'] at h
  exact h.1
theorem free_pos {out : List Int} {i : Nat} (hi : out.contains (i : Int) = false) {n : Nat} (h : i < n) : 0 < free out n := by
  have := free_add out i hi n h; omega
/-- what is taken, as marks -/
def tk (out : List Int) (n : Nat) : List Bool := (List.range n).map fun i => out.contains ((i : Nat) : Int)
theorem tk_length (out : List Int) (n : Nat) : (tk out n).length = n := by simp [tk]
theorem tk_get (out : List Int) {n i : Nat} (h : i < n) : (tk out n)[i]'(by rw [tk_length]; exact h) = out.contains (i : Int) := by simp [tk]
theorem tk_nil (n : Nat) : tk [] n = List.replicate n false := by
  refine List.ext_getElem (by simp [tk]) fun i h1 h2 => ?_
  simp [tk]
theorem tk_set (out : List Int) {n i : Nat} (h : i < n) : tk (out ++ [(i : Int)]) n = (tk out n).set i true := by
  refine List.ext_getElem (by simp [tk]) fun j h1 h2 => ?_
  have hj : j < n := by simpa [tk] using h1
  rw [List.getElem_set, tk_get _ hj, tk_get _ hj, contains_snoc]
  by_cases e : i = j
  · subst e; simp
  · rw [if_neg e]
    have e2 : ((j : Int) == (i : Int)) = false := by rw [beq_eq_false_iff_ne]; omega
    rw [e2, Bool.or_false]
/-- places of an order lie in the patch -/
theorem ord_mem {nodes : List NodeD} : ∀ (f : Nat) (out : List Int), (∀ o ∈ out, 0 ≤ o ∧ o < (nodes.length : Int)) → ∀ o ∈ ord nodes f out, 0 ≤ o ∧ o < (nodes.length : Int)
  | 0, out, h => h
  | f + 1, out, h => by
    rw [ord]
    split
    · exact h
    · rename_i i hi
      refine ord_mem f _ fun o ho => ?_
      rcases List.mem_append.1 ho with ho | ho
      · exact h o ho
      · have := (nxt_some hi).2.1
        rw [List.mem_singleton.1 ho]; omega
theorem orderL_mem {nodes : List NodeD} : ∀ o ∈ orderL nodes, 0 ≤ o ∧ o < (nodes.length : Int) := ord_mem _ _ (by simp)
theorem ord_len {nodes : List NodeD} : ∀ (f : Nat) (out : List Int), (ord nodes f out).length ≤ out.length + f
  | 0, out => Nat.le_refl _
  | f + 1, out => by
    rw [ord]
    split
    · omega
    · rename_i i hi
      have := ord_len (nodes := nodes) f (out ++ [(i : Int)])
      rw [List.length_append] at this
      simp only [List.length_cons, List.length_nil] at this
      omega
theorem orderL_len (nodes : List NodeD) : (orderL nodes).length ≤ nodes.length := by
  have := ord_len (nodes := nodes) nodes.length []
  simpa [orderL] using this
/-- the patch is valid -/
def okB (x : PatchD) : Bool := formedB x && decide ((orderL x.nodes).length = x.nodes.length)
/-! ### depths -/
def dset (d : List Int) (o : Nat) (f : Int) : List Int := d.set o (max (d.getD o 0) (d.getD f.toNat 0 + 1))
def dall (d : List Int) (o : Nat) (fs : List Int) : List Int := fs.foldl (fun d f => dset d o f) d
def depths (nodes : List NodeD) (d : List Int) : List Int → List Int
  | [] => d
  | o :: os => depths nodes (dall d o.toNat (waits (nodes.getD o.toNat ⟨0, 0, 0, []⟩))) os
/-! ### users -/
def users (nodes : List NodeD) (node : Int) : List Int := ((List.range nodes.length).filter fun i => (nodes.getD i ⟨0, 0, 0, []⟩).src.contains node).map fun i => ((i : Nat) : Int)
end Go.Proofs.YtcfhcmgmkhfjjaaGreat

namespace Go.Proofs.YtcfhcmgmkhfjjaaGreat
open Go.ChangeShapes Go.WideShapes Go.ChangeAt Go.RowKit Go.Sort
set_option linter.unusedVariables false

/-- the sample of a table that x chooses -/
def lookP (t : List Int) (x : Int) : Int := t.getD (((t.length : Int) * (x % 4294967296)) / 4294967296).toNat 0
def outK (k : Nat) (A : Int) (tb : List (List Int)) (xs ss : List Int) : Int :=
  match k with
  | 1 => xs.getD 0 0
  | 2 => A
  | 3 => smp (xs.getD 0 0 + xs.getD 1 0)
  | 4 => smp (xs.getD 0 0 - xs.getD 1 0)
  | 5 => smp (A * xs.getD 0 0)
  | 6 => ss.getD 0 0
  | 7 => smp (ss.getD 0 0 + xs.getD 0 0)
  | 8 => smp (xs.getD 0 0 - ss.getD 0 0)
  | 9 => smp (xs.getD 0 0 * xs.getD 1 0)
  | 10 => xs.getD 0 0 / 2 ^ A.toNat
  | 11 => max (-A) (min (xs.getD 0 0) A)
  | 12 => ss.getD 0 0
  | 13 => lookP (tb.getD A.toNat []) (xs.getD 0 0)
  | 14 => ss.getD 0 0
  | 15 => if 0 ≤ xs.getD 0 0 then xs.getD 1 0 else xs.getD 2 0
  | 16 => if 0 < xs.getD 1 0 then xs.getD 0 0 else ss.getD 0 0
  | _ => smp (xs.getD 0 0 + smp (A * ss.getD 0 0))
/-- the output of a node -/
def outP (x : NodeD) (tb : List (List Int)) (xs ss : List Int) : Int := outK x.kind.toNat x.a tb xs ss
def nextK (k : Nat) (xs ss : List Int) (y : Int) : List Int :=
  match k with
  | 6 => ss.drop 1 ++ [xs.getD 0 0]
  | 17 => ss.drop 1 ++ [y]
  | 7 => [y]
  | 16 => [y]
  | 8 => [xs.getD 0 0]
  | 12 => [smp (ss.getD 0 0 + xs.getD 0 0)]
  | 14 => [noiseP (ss.getD 0 0)]
  | _ => []
/-- the next state of a node with the output y -/
def nextP (x : NodeD) (xs ss : List Int) (y : Int) : List Int := nextK x.kind.toNat xs ss y
/-- so many samples a node gets -/
def inN (x : NodeD) : Int := if x.kind = 1 then 1 else kAr (x.kind - 1).toNat
/-- what the output asks of its arguments -/
structure OutOk (x : NodeD) (tb : List (List Int)) (xs ss : List Int) : Prop where
  k : inB x.kind 1 17 = true
  n : (xs.length : Int) = inN x
  s : x.kind = 6 ∨ x.kind = 7 ∨ x.kind = 8 ∨ x.kind = 12 ∨ x.kind = 14 ∨ x.kind = 16 ∨ x.kind = 17 → 1 ≤ ss.length
  smps : ∀ y ∈ xs, -2147483648 ≤ y ∧ y ≤ 2147483647
  clip : x.kind = 11 → 0 ≤ x.a ∧ x.a ≤ 2147483647
  shift : x.kind = 10 → 0 ≤ x.a ∧ x.a ≤ 31
  tab : x.kind = 13 → 0 ≤ x.a ∧ x.a < (tb.length : Int) ∧ ∀ t ∈ tb, 1 ≤ t.length ∧ t.length ≤ 16
theorem RdI.at0 {w : World} {p : Option Addr} {xs : List Int} (h : RdI w p xs) (h1 : 1 ≤ xs.length) : ∃ b o, p = some ⟨b, o, none⟩ ∧ b < w.heap.size ∧ ∀ i, i < xs.length → w.cell? ⟨b, o + i, none⟩ = some (.int .i64 (xs.getD i 0)) := by
  obtain ⟨b, o, e, hb, hc⟩ := h.pos (k := 0) (by omega)
  refine ⟨b, o, e, hb, fun i hi => ?_⟩
  rw [hc i hi, List.getD_eq_getElem?_getD, List.getElem?_eq_getElem hi]
  rfl
theorem getD_mem {xs : List Int} {i : Nat} (h : i < xs.length) : xs.getD i 0 ∈ xs := by
  rw [List.getD_eq_getElem?_getD, List.getElem?_eq_getElem h]
  exact List.getElem_mem h
theorem RdII.at0 {w : World} {p : Option Addr} {xss : List (List Int)} (h : RdII w p xss) {k : Nat} (hk : k < xss.length) : ∃ b o q c, p = some ⟨b, o, none⟩ ∧ b < w.heap.size ∧ w.cell? ⟨b, o + k, none⟩ = some (.slice q (xss.getD k []).length c) ∧ RdI w q (xss.getD k []) := by
  obtain ⟨b, o, e, hb, hc⟩ := h.pos hk
  obtain ⟨q, c, h1, h2⟩ := hc k hk
  have e2 : xss.getD k [] = xss[k] := by rw [List.getD_eq_getElem?_getD, List.getElem?_eq_getElem hk]; rfl
  rw [← e2] at h1 h2
  exact ⟨b, o, q, c, e, hb, h1, h2⟩
/-- the place in a table -/
def lookI (n : Nat) (x : Int) : Int := ((n : Int) * (x % 4294967296)) / 4294967296
theorem lookI_in {n : Nat} {x : Int} (h : 1 ≤ n) : 0 ≤ lookI n x ∧ lookI n x < n := by
  have h1 : 0 ≤ x % 4294967296 := Int.emod_nonneg _ (by decide)
  have h2 : x % 4294967296 < 4294967296 := Int.emod_lt_of_pos _ (by decide)
  have h3 : 0 ≤ (n : Int) * (x % 4294967296) := Int.mul_nonneg (by omega) h1
  have h4 : (n : Int) * (x % 4294967296) < (n : Int) * 4294967296 := Int.mul_lt_mul_of_pos_left h2 (by omega)
  unfold lookI
  generalize (n : Int) * (x % 4294967296) = m at *
  omega
theorem l06Look_any {p : Option Addr} {c : Nat} {t : List Int} (x : Int) (w : World) (h : RdI w p t) (h1 : 1 ≤ t.length) (h2 : t.length ≤ 16) :
    Calls Tryz.prog 124 #[.slice p t.length c, .int .i64 x] w fun e w' => e = .returned (.int .i64 (lookP t x)) ∧ w = w' := by
  obtain ⟨b, o, rfl, hb, hc⟩ := h.at0 h1
  have hi := lookI_in (x := x) h1
  have hr : 0 ≤ x % 4294967296 ∧ x % 4294967296 ≤ 4294967295 := by omega
  have ha := bits_and32 x
  obtain ⟨j, hj⟩ := Int.eq_ofNat_of_zero_le hi.1
  have hz := hc j (by omega)
  have HL : Hid (lookP t x = t.getD j 0) := by
    unfold Hid lookP
    rw [show ((t.length : Int) * (x % 4294967296)) / 4294967296 = lookI t.length x from rfl, hj]; rfl
  generalize lookP t x = R at HL ⊢
  have HJ : Hid (((t.length : Int) * (x % 4294967296)) / 4294967296 = (j : Int)) := hj
  have hj2 : j < t.length := by omega
  have hp : 0 ≤ (t.length : Int) * (x % 4294967296) ∧ (t.length : Int) * (x % 4294967296) ≤ 68719476720 := by
    refine ⟨Int.mul_nonneg (by omega) hr.1, ?_⟩
    have := Int.mul_le_mul (show (t.length : Int) ≤ 16 by omega) hr.2 hr.1 (by omega)
    omega
  generalize t.getD j 0 = y at hz HL
  generalize t.length = n at *
  clear hc hi hj h
  generalize x % 4294967296 = u at *
  have hw : IntKind.i64.wrap ((n : Int) * u) = (n : Int) * u := IntWalk.i64_in _ (by omega)
  generalize hm : (n : Int) * u = m at *
  have hw2 : m / 4294967296 = (j : Int) := HJ.out
  clear HJ
  go_enter Tryz.func124, Tryz.ntmps124
  go_wp2_with fail
  go_ret
  obtain rfl := HL.out
  exact ⟨rfl, rfl⟩
set_option maxHeartbeats 4000000 in
theorem l06Out_13 {b o : Nat} {vs : Value} {ba oa na ca bt ot nt ct j : Nat} {q : Option Addr} {c : Nat} {t : List Int} {x0 : Int} (w : World) (c0 : w.cell? ⟨b, o, none⟩ = some (.int .i64 13)) (c1 : w.cell? ⟨b, o + 1, none⟩ = some (.int .i64 (j : Int)))
    (hx0 : w.cell? ⟨ba, oa, none⟩ = some (.int .i64 x0)) (la : 1 ≤ na) (hj : j < nt) (ht : w.cell? ⟨bt, ot + j, none⟩ = some (.slice q t.length c)) (hr : RdI w q t) (h1 : 1 ≤ t.length) (h2 : t.length ≤ 16) :
    Calls Tryz.prog 109 #[.pointer (some ⟨b, o, none⟩), .slice (some ⟨bt, ot, none⟩) nt ct, .slice (some ⟨ba, oa, none⟩) na ca, vs] w fun e w' => e = .returned (.int .i64 (lookP t x0)) ∧ Below w.heap.size w w' := by
  have LK : Hid (∀ W, Below w.heap.size w W → Calls Tryz.prog 124 #[.slice q t.length c, .int .i64 x0] W fun e w' => e = .returned (.int .i64 (lookP t x0)) ∧ W = w') := fun W hW => l06Look_any x0 W (hr.below hW) h1 h2
  clear hr
  go_enter Tryz.func109, Tryz.ntmps109
  go_wp2_with fail
  go_quiet ((go_at_call 124; exact Calls.quiet_of_same (Calls.turn (LK.out _ (below_drewN (Below.refl _ _) _)))))
  go_wp2_with fail
  go_ret
  exact ⟨rfl, below_drewN (Below.refl _ _) _⟩
theorem l06Out_any {b o : Nat} {x : NodeD} {tb : List (List Int)} {xs ss : List Int} {pt px ps : Option Addr} {ct cx cs : Nat} (w : World) (h : PNode w b o x) (ht : RdII w pt tb) (hx : RdI w px xs) (hs : RdI w ps ss) (ok : OutOk x tb xs ss) :
    Calls Tryz.prog 109 #[.pointer (some ⟨b, o, none⟩), .slice pt tb.length ct, .slice px xs.length cx, .slice ps ss.length cs] w fun e w' => e = .returned (.int .i64 (outP x tb xs ss)) ∧ Below w.heap.size w w' := by
  obtain ⟨k, A, B, src⟩ := x
  obtain ⟨c0, c1, -, -⟩ := h
  obtain ⟨hk, hn, hst, hsm, hcl, hsh, htb⟩ := ok
  unfold outP
  simp only at *
  rcases kinds_of hk with rfl | rfl | rfl | rfl | rfl | rfl | rfl | rfl | rfl | rfl | rfl | rfl | rfl | rfl | rfl | rfl | rfl
  · have l : xs.length = 1 := by have : inN ⟨1, A, B, src⟩ = 1 := rfl; omega
    obtain ⟨ba, oa, rfl, -, ha⟩ := hx.at0 (by omega)
    exact l06Out_1 w c0 (ha 0 (by omega)) (by omega)
  · exact l06Out_2 w c0 c1
  · have l : xs.length = 2 := by have : inN ⟨3, A, B, src⟩ = 2 := rfl; omega
    obtain ⟨ba, oa, rfl, -, ha⟩ := hx.at0 (by omega)
    exact l06Out_3 w c0 (ha 0 (by omega)) (ha 1 (by omega)) (by omega)
  · have l : xs.length = 2 := by have : inN ⟨4, A, B, src⟩ = 2 := rfl; omega
    obtain ⟨ba, oa, rfl, -, ha⟩ := hx.at0 (by omega)
    exact l06Out_4 w c0 (ha 0 (by omega)) (ha 1 (by omega)) (by omega)
  · have l : xs.length = 1 := by have : inN ⟨5, A, B, src⟩ = 1 := rfl; omega
    obtain ⟨ba, oa, rfl, -, ha⟩ := hx.at0 (by omega)
    exact l06Out_5 w c0 c1 (ha 0 (by omega)) (by omega)
  · have l2 := hst (by simp)
    obtain ⟨bs, os, rfl, -, h2⟩ := hs.at0 l2
    exact l06Out_6 w c0 (h2 0 (by omega)) (by omega)
  · have l : xs.length = 1 := by have : inN ⟨7, A, B, src⟩ = 1 := rfl; omega
    obtain ⟨ba, oa, rfl, -, ha⟩ := hx.at0 (by omega)
    have l2 := hst (by simp)
    obtain ⟨bs, os, rfl, -, h2⟩ := hs.at0 l2
    exact l06Out_7 w c0 (ha 0 (by omega)) (h2 0 (by omega)) (by omega) (by omega)
  · have l : xs.length = 1 := by have : inN ⟨8, A, B, src⟩ = 1 := rfl; omega
    obtain ⟨ba, oa, rfl, -, ha⟩ := hx.at0 (by omega)
    have l2 := hst (by simp)
    obtain ⟨bs, os, rfl, -, h2⟩ := hs.at0 l2
    exact l06Out_8 w c0 (ha 0 (by omega)) (h2 0 (by omega)) (by omega) (by omega)
  · have l : xs.length = 2 := by have : inN ⟨9, A, B, src⟩ = 2 := rfl; omega
    obtain ⟨ba, oa, rfl, -, ha⟩ := hx.at0 (by omega)
    exact l06Out_9 w c0 (ha 0 (by omega)) (ha 1 (by omega)) (by omega)
  · have l : xs.length = 1 := by have : inN ⟨10, A, B, src⟩ = 1 := rfl; omega
    obtain ⟨ba, oa, rfl, -, ha⟩ := hx.at0 (by omega)
    exact l06Out_10 w c0 c1 (ha 0 (by omega)) (by omega) (hsh rfl) (hsm _ (getD_mem (by omega)))
  · have l : xs.length = 1 := by have : inN ⟨11, A, B, src⟩ = 1 := rfl; omega
    obtain ⟨ba, oa, rfl, -, ha⟩ := hx.at0 (by omega)
    exact l06Out_11 w c0 c1 (ha 0 (by omega)) (by omega) (hcl rfl)
  · have l2 := hst (by simp)
    obtain ⟨bs, os, rfl, -, h2⟩ := hs.at0 l2
    exact l06Out_12 w c0 (h2 0 (by omega)) (by omega)
  · have l : xs.length = 1 := by have : inN ⟨13, A, B, src⟩ = 1 := rfl; omega
    obtain ⟨ba, oa, rfl, -, ha⟩ := hx.at0 (by omega)
    obtain ⟨a0, a1, at_⟩ := htb rfl
    obtain ⟨j, rfl⟩ := Int.eq_ofNat_of_zero_le a0
    obtain ⟨bt, ot, q, c, rfl, -, hc, hr⟩ := ht.at0 (k := j) (by omega)
    have hm : tb.getD j [] ∈ tb := by
      rw [List.getD_eq_getElem?_getD, List.getElem?_eq_getElem (by omega)]
      exact List.getElem_mem _
    obtain ⟨t1, t2⟩ := at_ _ hm
    exact l06Out_13 w c0 c1 (ha 0 (by omega)) (by omega) (by omega) hc hr t1 t2
  · have l2 := hst (by simp)
    obtain ⟨bs, os, rfl, -, h2⟩ := hs.at0 l2
    exact l06Out_14 w c0 (h2 0 (by omega)) (by omega)
  · have l : xs.length = 3 := by have : inN ⟨15, A, B, src⟩ = 3 := rfl; omega
    obtain ⟨ba, oa, rfl, -, ha⟩ := hx.at0 (by omega)
    by_cases hp : 0 ≤ xs.getD 0 0
    · have e : outK (15 : Int).toNat A tb xs ss = xs.getD 1 0 := if_pos hp
      rw [e]
      exact l06Out_15_pos w c0 (ha 0 (by omega)) (ha 1 (by omega)) (by omega) hp
    · have e : outK (15 : Int).toNat A tb xs ss = xs.getD 2 0 := if_neg hp
      rw [e]
      exact l06Out_15_neg w c0 (ha 0 (by omega)) (ha 2 (by omega)) (by omega) hp
  · have l : xs.length = 2 := by have : inN ⟨16, A, B, src⟩ = 2 := rfl; omega
    obtain ⟨ba, oa, rfl, -, ha⟩ := hx.at0 (by omega)
    have l2 := hst (by simp)
    obtain ⟨bs, os, rfl, -, h2⟩ := hs.at0 l2
    by_cases hp : 0 < xs.getD 1 0
    · have e : outK (16 : Int).toNat A tb xs ss = xs.getD 0 0 := if_pos hp
      rw [e]
      exact l06Out_16_pos w c0 (ha 0 (by omega)) (ha 1 (by omega)) (by omega) hp
    · have e : outK (16 : Int).toNat A tb xs ss = ss.getD 0 0 := if_neg hp
      rw [e]
      exact l06Out_16_neg w c0 (ha 1 (by omega)) (h2 0 (by omega)) (by omega) (by omega) hp
  · have l : xs.length = 1 := by have : inN ⟨17, A, B, src⟩ = 1 := rfl; omega
    obtain ⟨ba, oa, rfl, -, ha⟩ := hx.at0 (by omega)
    have l2 := hst (by simp)
    obtain ⟨bs, os, rfl, -, h2⟩ := hs.at0 l2
    exact l06Out_17 w c0 c1 (ha 0 (by omega)) (h2 0 (by omega)) (by omega) (by omega)
end Go.Proofs.YtcfhcmgmkhfjjaaGreat

namespace Go.Proofs.YtcfhcmgmkhfjjaaGreat
open Go.ChangeShapes Go.WideShapes Go.ChangeAt Go.RowKit Go.Sort
set_option linter.unusedVariables false

set_option maxHeartbeats 4000000 in
theorem output_1 {pn : Option Addr} {nn cn : Nat} {A B : Int} {vt : Value} {ba oa na ca : Nat} {x0 : Int} (w : World) (hx0 : w.cell? ⟨ba, oa, none⟩ = some (.int .i64 x0)) (la : 1 ≤ na) :
    Calls Tryz.prog 92 #[.agg #[.int .i64 1, .int .i64 A, .int .i64 B, .slice pn nn cn], vt, .slice (some ⟨ba, oa, none⟩) na ca] w fun e w' => e = .returned (.int .i64 (x0)) ∧ Below w.heap.size w w' := by
  obtain ⟨E0, hE0⟩ : ∃ E, E = w.alloc (.cells #[.int .i64 1, .int .i64 A, .int .i64 B, .slice pn nn cn] 55) := ⟨_, rfl⟩
  have hB0 : Below w.heap.size w E0 := by rw [hE0]; exact (Below.refl _ _).alloc (Nat.le_refl _) _
  have bx : Box E0 w.heap.size [.int .i64 1, .int .i64 A, .int .i64 B, .slice pn nn cn] 55 := by rw [hE0]; exact Box.newAt w _ _ rfl
  replace hx0 := (hB0.cell (p := ⟨ba, oa, none⟩) (World.block_lt_of_cell? w _ hx0)).trans hx0
  have z0 := bx.cell 0 rfl
  have z1 := bx.cell 1 rfl
  have HE := Lib.hid hE0
  clear hE0
  go_enter Tryz.func92, Tryz.ntmps92
  go_upto_region 1 with fail
  rw [← HE.out]
  go_wp2_with fail
  go_ret
  exact ⟨rfl, hB0⟩
set_option maxHeartbeats 4000000 in
theorem output_2 {pn : Option Addr} {nn cn : Nat} {A B : Int} {vt va : Value} (w : World)  :
    Calls Tryz.prog 92 #[.agg #[.int .i64 2, .int .i64 A, .int .i64 B, .slice pn nn cn], vt, va] w fun e w' => e = .returned (.int .i64 (A)) ∧ Below w.heap.size w w' := by
  obtain ⟨E0, hE0⟩ : ∃ E, E = w.alloc (.cells #[.int .i64 2, .int .i64 A, .int .i64 B, .slice pn nn cn] 55) := ⟨_, rfl⟩
  have hB0 : Below w.heap.size w E0 := by rw [hE0]; exact (Below.refl _ _).alloc (Nat.le_refl _) _
  have bx : Box E0 w.heap.size [.int .i64 2, .int .i64 A, .int .i64 B, .slice pn nn cn] 55 := by rw [hE0]; exact Box.newAt w _ _ rfl
  have z0 := bx.cell 0 rfl
  have z1 := bx.cell 1 rfl
  have HE := Lib.hid hE0
  clear hE0
  go_enter Tryz.func92, Tryz.ntmps92
  go_upto_region 1 with fail
  rw [← HE.out]
  go_wp2_with fail
  go_ret
  exact ⟨rfl, hB0⟩
set_option maxHeartbeats 4000000 in
theorem output_3 {pn : Option Addr} {nn cn : Nat} {A B : Int} {vt : Value} {ba oa na ca : Nat} {x0 x1 : Int} (w : World) (hx0 : w.cell? ⟨ba, oa, none⟩ = some (.int .i64 x0)) (hx1 : w.cell? ⟨ba, oa + 1, none⟩ = some (.int .i64 x1)) (la : 2 ≤ na) :
    Calls Tryz.prog 92 #[.agg #[.int .i64 3, .int .i64 A, .int .i64 B, .slice pn nn cn], vt, .slice (some ⟨ba, oa, none⟩) na ca] w fun e w' => e = .returned (.int .i64 (smp (x0 + x1))) ∧ Below w.heap.size w w' := by
  obtain ⟨E0, hE0⟩ : ∃ E, E = w.alloc (.cells #[.int .i64 3, .int .i64 A, .int .i64 B, .slice pn nn cn] 55) := ⟨_, rfl⟩
  have hB0 : Below w.heap.size w E0 := by rw [hE0]; exact (Below.refl _ _).alloc (Nat.le_refl _) _
  have bx : Box E0 w.heap.size [.int .i64 3, .int .i64 A, .int .i64 B, .slice pn nn cn] 55 := by rw [hE0]; exact Box.newAt w _ _ rfl
  replace hx0 := (hB0.cell (p := ⟨ba, oa, none⟩) (World.block_lt_of_cell? w _ hx0)).trans hx0
  replace hx1 := (hB0.cell (p := ⟨ba, oa + 1, none⟩) (World.block_lt_of_cell? w _ hx1)).trans hx1
  have z0 := bx.cell 0 rfl
  have z1 := bx.cell 1 rfl
  have HE := Lib.hid hE0
  clear hE0
  go_enter Tryz.func92, Tryz.ntmps92
  go_upto_region 1 with fail
  rw [← HE.out]
  go_wp2_with fail
  go_quiet (((go_at_call 96; exact Calls.quiet_of_same (Calls.turn (implWrap_any _ _)))))
  go_wp2_with fail
  go_ret
  exact ⟨by first | rfl | exact ret_int (smp_wrap64 _), below_drewN hB0 _⟩
set_option maxHeartbeats 4000000 in
theorem output_4 {pn : Option Addr} {nn cn : Nat} {A B : Int} {vt : Value} {ba oa na ca : Nat} {x0 x1 : Int} (w : World) (hx0 : w.cell? ⟨ba, oa, none⟩ = some (.int .i64 x0)) (hx1 : w.cell? ⟨ba, oa + 1, none⟩ = some (.int .i64 x1)) (la : 2 ≤ na) :
    Calls Tryz.prog 92 #[.agg #[.int .i64 4, .int .i64 A, .int .i64 B, .slice pn nn cn], vt, .slice (some ⟨ba, oa, none⟩) na ca] w fun e w' => e = .returned (.int .i64 (smp (x0 - x1))) ∧ Below w.heap.size w w' := by
  obtain ⟨E0, hE0⟩ : ∃ E, E = w.alloc (.cells #[.int .i64 4, .int .i64 A, .int .i64 B, .slice pn nn cn] 55) := ⟨_, rfl⟩
  have hB0 : Below w.heap.size w E0 := by rw [hE0]; exact (Below.refl _ _).alloc (Nat.le_refl _) _
  have bx : Box E0 w.heap.size [.int .i64 4, .int .i64 A, .int .i64 B, .slice pn nn cn] 55 := by rw [hE0]; exact Box.newAt w _ _ rfl
  replace hx0 := (hB0.cell (p := ⟨ba, oa, none⟩) (World.block_lt_of_cell? w _ hx0)).trans hx0
  replace hx1 := (hB0.cell (p := ⟨ba, oa + 1, none⟩) (World.block_lt_of_cell? w _ hx1)).trans hx1
  have z0 := bx.cell 0 rfl
  have z1 := bx.cell 1 rfl
  have HE := Lib.hid hE0
  clear hE0
  go_enter Tryz.func92, Tryz.ntmps92
  go_upto_region 1 with fail
  rw [← HE.out]
  go_wp2_with fail
  go_quiet (((go_at_call 96; exact Calls.quiet_of_same (Calls.turn (implWrap_any _ _)))))
  go_wp2_with fail
  go_ret
  exact ⟨by first | rfl | exact ret_int (smp_wrap64 _), below_drewN hB0 _⟩
set_option maxHeartbeats 4000000 in
theorem output_5 {pn : Option Addr} {nn cn : Nat} {A B : Int} {vt : Value} {ba oa na ca : Nat} {x0 : Int} (w : World) (hx0 : w.cell? ⟨ba, oa, none⟩ = some (.int .i64 x0)) (la : 1 ≤ na) :
    Calls Tryz.prog 92 #[.agg #[.int .i64 5, .int .i64 A, .int .i64 B, .slice pn nn cn], vt, .slice (some ⟨ba, oa, none⟩) na ca] w fun e w' => e = .returned (.int .i64 (smp (A * x0))) ∧ Below w.heap.size w w' := by
  obtain ⟨E0, hE0⟩ : ∃ E, E = w.alloc (.cells #[.int .i64 5, .int .i64 A, .int .i64 B, .slice pn nn cn] 55) := ⟨_, rfl⟩
  have hB0 : Below w.heap.size w E0 := by rw [hE0]; exact (Below.refl _ _).alloc (Nat.le_refl _) _
  have bx : Box E0 w.heap.size [.int .i64 5, .int .i64 A, .int .i64 B, .slice pn nn cn] 55 := by rw [hE0]; exact Box.newAt w _ _ rfl
  replace hx0 := (hB0.cell (p := ⟨ba, oa, none⟩) (World.block_lt_of_cell? w _ hx0)).trans hx0
  have z0 := bx.cell 0 rfl
  have z1 := bx.cell 1 rfl
  have HE := Lib.hid hE0
  clear hE0
  go_enter Tryz.func92, Tryz.ntmps92
  go_upto_region 1 with fail
  rw [← HE.out]
  go_wp2_with fail
  go_quiet (((go_at_call 96; exact Calls.quiet_of_same (Calls.turn (implWrap_any _ _)))))
  go_wp2_with fail
  go_ret
  exact ⟨by first | rfl | exact ret_int (smp_wrap64 _), below_drewN hB0 _⟩
set_option maxHeartbeats 4000000 in
theorem output_9 {pn : Option Addr} {nn cn : Nat} {A B : Int} {vt : Value} {ba oa na ca : Nat} {x0 x1 : Int} (w : World) (hx0 : w.cell? ⟨ba, oa, none⟩ = some (.int .i64 x0)) (hx1 : w.cell? ⟨ba, oa + 1, none⟩ = some (.int .i64 x1)) (la : 2 ≤ na) :
    Calls Tryz.prog 92 #[.agg #[.int .i64 9, .int .i64 A, .int .i64 B, .slice pn nn cn], vt, .slice (some ⟨ba, oa, none⟩) na ca] w fun e w' => e = .returned (.int .i64 (smp (x0 * x1))) ∧ Below w.heap.size w w' := by
  obtain ⟨E0, hE0⟩ : ∃ E, E = w.alloc (.cells #[.int .i64 9, .int .i64 A, .int .i64 B, .slice pn nn cn] 55) := ⟨_, rfl⟩
  have hB0 : Below w.heap.size w E0 := by rw [hE0]; exact (Below.refl _ _).alloc (Nat.le_refl _) _
  have bx : Box E0 w.heap.size [.int .i64 9, .int .i64 A, .int .i64 B, .slice pn nn cn] 55 := by rw [hE0]; exact Box.newAt w _ _ rfl
  replace hx0 := (hB0.cell (p := ⟨ba, oa, none⟩) (World.block_lt_of_cell? w _ hx0)).trans hx0
  replace hx1 := (hB0.cell (p := ⟨ba, oa + 1, none⟩) (World.block_lt_of_cell? w _ hx1)).trans hx1
  have z0 := bx.cell 0 rfl
  have z1 := bx.cell 1 rfl
  have HE := Lib.hid hE0
  clear hE0
  go_enter Tryz.func92, Tryz.ntmps92
  go_upto_region 1 with fail
  rw [← HE.out]
  go_wp2_with fail
  go_quiet (((go_at_call 96; exact Calls.quiet_of_same (Calls.turn (implWrap_any _ _)))))
  go_wp2_with fail
  go_ret
  exact ⟨by first | rfl | exact ret_int (smp_wrap64 _), below_drewN hB0 _⟩
set_option maxHeartbeats 4000000 in
theorem output_10 {pn : Option Addr} {nn cn : Nat} {A B : Int} {vt : Value} {ba oa na ca : Nat} {x0 : Int} (w : World) (hx0 : w.cell? ⟨ba, oa, none⟩ = some (.int .i64 x0)) (la : 1 ≤ na) (hA : 0 ≤ A ∧ A ≤ 31) (i0 : -2147483648 ≤ x0 ∧ x0 ≤ 2147483647) :
    Calls Tryz.prog 92 #[.agg #[.int .i64 10, .int .i64 A, .int .i64 B, .slice pn nn cn], vt, .slice (some ⟨ba, oa, none⟩) na ca] w fun e w' => e = .returned (.int .i64 (x0 / 2 ^ A.toNat)) ∧ Below w.heap.size w w' := by
  obtain ⟨E0, hE0⟩ : ∃ E, E = w.alloc (.cells #[.int .i64 10, .int .i64 A, .int .i64 B, .slice pn nn cn] 55) := ⟨_, rfl⟩
  have hB0 : Below w.heap.size w E0 := by rw [hE0]; exact (Below.refl _ _).alloc (Nat.le_refl _) _
  have bx : Box E0 w.heap.size [.int .i64 10, .int .i64 A, .int .i64 B, .slice pn nn cn] 55 := by rw [hE0]; exact Box.newAt w _ _ rfl
  replace hx0 := (hB0.cell (p := ⟨ba, oa, none⟩) (World.block_lt_of_cell? w _ hx0)).trans hx0
  have z0 := bx.cell 0 rfl
  have z1 := bx.cell 1 rfl
  have HE := Lib.hid hE0
  clear hE0
  go_enter Tryz.func92, Tryz.ntmps92
  go_upto_region 1 with fail
  rw [← HE.out]
  go_wp2_with fail
  go_quiet (fail)
  go_wp2_with fail
  go_ret
  exact ⟨by first | rfl | exact ret_int (smp_wrap64 _), below_drewN hB0 _⟩
set_option maxHeartbeats 4000000 in
theorem output_11_h1 {pn : Option Addr} {nn cn : Nat} {A B : Int} {vt : Value} {ba oa na ca : Nat} {x0 : Int} (w : World) (hx0 : w.cell? ⟨ba, oa, none⟩ = some (.int .i64 x0)) (la : 1 ≤ na) (hA : 0 ≤ A ∧ A ≤ 2147483647) (hx : A < x0) (f1 : ¬ x0 < A) (f2 : -A < A) :
    Calls Tryz.prog 92 #[.agg #[.int .i64 11, .int .i64 A, .int .i64 B, .slice pn nn cn], vt, .slice (some ⟨ba, oa, none⟩) na ca] w fun e w' => e = .returned (.int .i64 (A)) ∧ Below w.heap.size w w' := by
  obtain ⟨E0, hE0⟩ : ∃ E, E = w.alloc (.cells #[.int .i64 11, .int .i64 A, .int .i64 B, .slice pn nn cn] 55) := ⟨_, rfl⟩
  have hB0 : Below w.heap.size w E0 := by rw [hE0]; exact (Below.refl _ _).alloc (Nat.le_refl _) _
  have bx : Box E0 w.heap.size [.int .i64 11, .int .i64 A, .int .i64 B, .slice pn nn cn] 55 := by rw [hE0]; exact Box.newAt w _ _ rfl
  replace hx0 := (hB0.cell (p := ⟨ba, oa, none⟩) (World.block_lt_of_cell? w _ hx0)).trans hx0
  have hw : IntKind.i64.wrap (-A) = -A := IntWalk.i64_in _ (by omega)
  have z0 := bx.cell 0 rfl
  have z1 := bx.cell 1 rfl
  have HE := Lib.hid hE0
  clear hE0
  go_enter Tryz.func92, Tryz.ntmps92
  go_upto_region 1 with fail
  rw [← HE.out]
  go_wp2_with fail
  go_quiet (fail)
  go_wp2_with fail
  go_ret
  exact ⟨by first | rfl | exact ret_int (by omega) | exact ret_int (smp_wrap64 _), below_drewN hB0 _⟩
set_option maxHeartbeats 4000000 in
theorem output_11_h2 {pn : Option Addr} {nn cn : Nat} {A B : Int} {vt : Value} {ba oa na ca : Nat} {x0 : Int} (w : World) (hx0 : w.cell? ⟨ba, oa, none⟩ = some (.int .i64 x0)) (la : 1 ≤ na) (hA : 0 ≤ A ∧ A ≤ 2147483647) (hx : A < x0) (f1 : ¬ x0 < A) (f2 : ¬ -A < A) :
    Calls Tryz.prog 92 #[.agg #[.int .i64 11, .int .i64 A, .int .i64 B, .slice pn nn cn], vt, .slice (some ⟨ba, oa, none⟩) na ca] w fun e w' => e = .returned (.int .i64 (A)) ∧ Below w.heap.size w w' := by
  obtain ⟨E0, hE0⟩ : ∃ E, E = w.alloc (.cells #[.int .i64 11, .int .i64 A, .int .i64 B, .slice pn nn cn] 55) := ⟨_, rfl⟩
  have hB0 : Below w.heap.size w E0 := by rw [hE0]; exact (Below.refl _ _).alloc (Nat.le_refl _) _
  have bx : Box E0 w.heap.size [.int .i64 11, .int .i64 A, .int .i64 B, .slice pn nn cn] 55 := by rw [hE0]; exact Box.newAt w _ _ rfl
  replace hx0 := (hB0.cell (p := ⟨ba, oa, none⟩) (World.block_lt_of_cell? w _ hx0)).trans hx0
  have hw : IntKind.i64.wrap (-A) = -A := IntWalk.i64_in _ (by omega)
  have z0 := bx.cell 0 rfl
  have z1 := bx.cell 1 rfl
  have HE := Lib.hid hE0
  clear hE0
  go_enter Tryz.func92, Tryz.ntmps92
  go_upto_region 1 with fail
  rw [← HE.out]
  go_wp2_with fail
  go_quiet (fail)
  go_wp2_with fail
  go_ret
  exact ⟨by first | rfl | exact ret_int (by omega) | exact ret_int (smp_wrap64 _), below_drewN hB0 _⟩
set_option maxHeartbeats 4000000 in
theorem output_11_i1 {pn : Option Addr} {nn cn : Nat} {A B : Int} {vt : Value} {ba oa na ca : Nat} {x0 : Int} (w : World) (hx0 : w.cell? ⟨ba, oa, none⟩ = some (.int .i64 x0)) (la : 1 ≤ na) (hA : 0 ≤ A ∧ A ≤ 2147483647) (hx : -A ≤ x0 ∧ x0 ≤ A) (f1 : x0 < A) (f2 : -A < x0) (f3 : ¬ A < x0) :
    Calls Tryz.prog 92 #[.agg #[.int .i64 11, .int .i64 A, .int .i64 B, .slice pn nn cn], vt, .slice (some ⟨ba, oa, none⟩) na ca] w fun e w' => e = .returned (.int .i64 (x0)) ∧ Below w.heap.size w w' := by
  obtain ⟨E0, hE0⟩ : ∃ E, E = w.alloc (.cells #[.int .i64 11, .int .i64 A, .int .i64 B, .slice pn nn cn] 55) := ⟨_, rfl⟩
  have hB0 : Below w.heap.size w E0 := by rw [hE0]; exact (Below.refl _ _).alloc (Nat.le_refl _) _
  have bx : Box E0 w.heap.size [.int .i64 11, .int .i64 A, .int .i64 B, .slice pn nn cn] 55 := by rw [hE0]; exact Box.newAt w _ _ rfl
  replace hx0 := (hB0.cell (p := ⟨ba, oa, none⟩) (World.block_lt_of_cell? w _ hx0)).trans hx0
  have hw : IntKind.i64.wrap (-A) = -A := IntWalk.i64_in _ (by omega)
  have z0 := bx.cell 0 rfl
  have z1 := bx.cell 1 rfl
  have HE := Lib.hid hE0
  clear hE0
  go_enter Tryz.func92, Tryz.ntmps92
  go_upto_region 1 with fail
  rw [← HE.out]
  go_wp2_with fail
  go_quiet (fail)
  go_wp2_with fail
  go_ret
  exact ⟨by first | rfl | exact ret_int (by omega) | exact ret_int (smp_wrap64 _), below_drewN hB0 _⟩
set_option maxHeartbeats 4000000 in
theorem output_11_i2 {pn : Option Addr} {nn cn : Nat} {A B : Int} {vt : Value} {ba oa na ca : Nat} {x0 : Int} (w : World) (hx0 : w.cell? ⟨ba, oa, none⟩ = some (.int .i64 x0)) (la : 1 ≤ na) (hA : 0 ≤ A ∧ A ≤ 2147483647) (hx : -A ≤ x0 ∧ x0 ≤ A) (f1 : x0 < A) (f2 : ¬ -A < x0) (f3 : ¬ A < x0) :
    Calls Tryz.prog 92 #[.agg #[.int .i64 11, .int .i64 A, .int .i64 B, .slice pn nn cn], vt, .slice (some ⟨ba, oa, none⟩) na ca] w fun e w' => e = .returned (.int .i64 (x0)) ∧ Below w.heap.size w w' := by
  obtain ⟨E0, hE0⟩ : ∃ E, E = w.alloc (.cells #[.int .i64 11, .int .i64 A, .int .i64 B, .slice pn nn cn] 55) := ⟨_, rfl⟩
  have hB0 : Below w.heap.size w E0 := by rw [hE0]; exact (Below.refl _ _).alloc (Nat.le_refl _) _
  have bx : Box E0 w.heap.size [.int .i64 11, .int .i64 A, .int .i64 B, .slice pn nn cn] 55 := by rw [hE0]; exact Box.newAt w _ _ rfl
  replace hx0 := (hB0.cell (p := ⟨ba, oa, none⟩) (World.block_lt_of_cell? w _ hx0)).trans hx0
  have hw : IntKind.i64.wrap (-A) = -A := IntWalk.i64_in _ (by omega)
  have z0 := bx.cell 0 rfl
  have z1 := bx.cell 1 rfl
  have HE := Lib.hid hE0
  clear hE0
  go_enter Tryz.func92, Tryz.ntmps92
  go_upto_region 1 with fail
  rw [← HE.out]
  go_wp2_with fail
  go_quiet (fail)
  go_wp2_with fail
  go_ret
  exact ⟨by first | rfl | exact ret_int (by omega) | exact ret_int (smp_wrap64 _), below_drewN hB0 _⟩
set_option maxHeartbeats 4000000 in
theorem output_11_i3 {pn : Option Addr} {nn cn : Nat} {A B : Int} {vt : Value} {ba oa na ca : Nat} {x0 : Int} (w : World) (hx0 : w.cell? ⟨ba, oa, none⟩ = some (.int .i64 x0)) (la : 1 ≤ na) (hA : 0 ≤ A ∧ A ≤ 2147483647) (hx : -A ≤ x0 ∧ x0 ≤ A) (f1 : ¬ x0 < A) (f2 : -A < A) (f3 : ¬ A < x0) :
    Calls Tryz.prog 92 #[.agg #[.int .i64 11, .int .i64 A, .int .i64 B, .slice pn nn cn], vt, .slice (some ⟨ba, oa, none⟩) na ca] w fun e w' => e = .returned (.int .i64 (x0)) ∧ Below w.heap.size w w' := by
  obtain ⟨E0, hE0⟩ : ∃ E, E = w.alloc (.cells #[.int .i64 11, .int .i64 A, .int .i64 B, .slice pn nn cn] 55) := ⟨_, rfl⟩
  have hB0 : Below w.heap.size w E0 := by rw [hE0]; exact (Below.refl _ _).alloc (Nat.le_refl _) _
  have bx : Box E0 w.heap.size [.int .i64 11, .int .i64 A, .int .i64 B, .slice pn nn cn] 55 := by rw [hE0]; exact Box.newAt w _ _ rfl
  replace hx0 := (hB0.cell (p := ⟨ba, oa, none⟩) (World.block_lt_of_cell? w _ hx0)).trans hx0
  have hw : IntKind.i64.wrap (-A) = -A := IntWalk.i64_in _ (by omega)
  have z0 := bx.cell 0 rfl
  have z1 := bx.cell 1 rfl
  have HE := Lib.hid hE0
  clear hE0
  go_enter Tryz.func92, Tryz.ntmps92
  go_upto_region 1 with fail
  rw [← HE.out]
  go_wp2_with fail
  go_quiet (fail)
  go_wp2_with fail
  go_ret
  exact ⟨by first | rfl | exact ret_int (by omega) | exact ret_int (smp_wrap64 _), below_drewN hB0 _⟩
set_option maxHeartbeats 4000000 in
theorem output_11_i4 {pn : Option Addr} {nn cn : Nat} {A B : Int} {vt : Value} {ba oa na ca : Nat} {x0 : Int} (w : World) (hx0 : w.cell? ⟨ba, oa, none⟩ = some (.int .i64 x0)) (la : 1 ≤ na) (hA : 0 ≤ A ∧ A ≤ 2147483647) (hx : -A ≤ x0 ∧ x0 ≤ A) (f1 : ¬ x0 < A) (f2 : ¬ -A < A) (f3 : ¬ A < x0) :
    Calls Tryz.prog 92 #[.agg #[.int .i64 11, .int .i64 A, .int .i64 B, .slice pn nn cn], vt, .slice (some ⟨ba, oa, none⟩) na ca] w fun e w' => e = .returned (.int .i64 (x0)) ∧ Below w.heap.size w w' := by
  obtain ⟨E0, hE0⟩ : ∃ E, E = w.alloc (.cells #[.int .i64 11, .int .i64 A, .int .i64 B, .slice pn nn cn] 55) := ⟨_, rfl⟩
  have hB0 : Below w.heap.size w E0 := by rw [hE0]; exact (Below.refl _ _).alloc (Nat.le_refl _) _
  have bx : Box E0 w.heap.size [.int .i64 11, .int .i64 A, .int .i64 B, .slice pn nn cn] 55 := by rw [hE0]; exact Box.newAt w _ _ rfl
  replace hx0 := (hB0.cell (p := ⟨ba, oa, none⟩) (World.block_lt_of_cell? w _ hx0)).trans hx0
  have hw : IntKind.i64.wrap (-A) = -A := IntWalk.i64_in _ (by omega)
  have z0 := bx.cell 0 rfl
  have z1 := bx.cell 1 rfl
  have HE := Lib.hid hE0
  clear hE0
  go_enter Tryz.func92, Tryz.ntmps92
  go_upto_region 1 with fail
  rw [← HE.out]
  go_wp2_with fail
  go_quiet (fail)
  go_wp2_with fail
  go_ret
  exact ⟨by first | rfl | exact ret_int (by omega) | exact ret_int (smp_wrap64 _), below_drewN hB0 _⟩
set_option maxHeartbeats 4000000 in
theorem output_11_lo {pn : Option Addr} {nn cn : Nat} {A B : Int} {vt : Value} {ba oa na ca : Nat} {x0 : Int} (w : World) (hx0 : w.cell? ⟨ba, oa, none⟩ = some (.int .i64 x0)) (la : 1 ≤ na) (hA : 0 ≤ A ∧ A ≤ 2147483647) (hx : x0 < -A) (f1 : x0 < A) (f2 : ¬ -A < x0) (f3 : ¬ A < x0) :
    Calls Tryz.prog 92 #[.agg #[.int .i64 11, .int .i64 A, .int .i64 B, .slice pn nn cn], vt, .slice (some ⟨ba, oa, none⟩) na ca] w fun e w' => e = .returned (.int .i64 (-A)) ∧ Below w.heap.size w w' := by
  obtain ⟨E0, hE0⟩ : ∃ E, E = w.alloc (.cells #[.int .i64 11, .int .i64 A, .int .i64 B, .slice pn nn cn] 55) := ⟨_, rfl⟩
  have hB0 : Below w.heap.size w E0 := by rw [hE0]; exact (Below.refl _ _).alloc (Nat.le_refl _) _
  have bx : Box E0 w.heap.size [.int .i64 11, .int .i64 A, .int .i64 B, .slice pn nn cn] 55 := by rw [hE0]; exact Box.newAt w _ _ rfl
  replace hx0 := (hB0.cell (p := ⟨ba, oa, none⟩) (World.block_lt_of_cell? w _ hx0)).trans hx0
  have hw : IntKind.i64.wrap (-A) = -A := IntWalk.i64_in _ (by omega)
  have z0 := bx.cell 0 rfl
  have z1 := bx.cell 1 rfl
  have HE := Lib.hid hE0
  clear hE0
  go_enter Tryz.func92, Tryz.ntmps92
  go_upto_region 1 with fail
  rw [← HE.out]
  go_wp2_with fail
  go_quiet (fail)
  go_wp2_with fail
  go_ret
  exact ⟨by first | rfl | exact ret_int (by omega) | exact ret_int (smp_wrap64 _), below_drewN hB0 _⟩
set_option maxHeartbeats 4000000 in
theorem output_15_pos {pn : Option Addr} {nn cn : Nat} {A B : Int} {vt : Value} {ba oa na ca : Nat} {x0 x1 : Int} (w : World) (hx0 : w.cell? ⟨ba, oa, none⟩ = some (.int .i64 x0)) (hx1 : w.cell? ⟨ba, oa + 1, none⟩ = some (.int .i64 x1)) (la : 2 ≤ na) (hx : 0 ≤ x0) :
    Calls Tryz.prog 92 #[.agg #[.int .i64 15, .int .i64 A, .int .i64 B, .slice pn nn cn], vt, .slice (some ⟨ba, oa, none⟩) na ca] w fun e w' => e = .returned (.int .i64 (x1)) ∧ Below w.heap.size w w' := by
  obtain ⟨E0, hE0⟩ : ∃ E, E = w.alloc (.cells #[.int .i64 15, .int .i64 A, .int .i64 B, .slice pn nn cn] 55) := ⟨_, rfl⟩
  have hB0 : Below w.heap.size w E0 := by rw [hE0]; exact (Below.refl _ _).alloc (Nat.le_refl _) _
  have bx : Box E0 w.heap.size [.int .i64 15, .int .i64 A, .int .i64 B, .slice pn nn cn] 55 := by rw [hE0]; exact Box.newAt w _ _ rfl
  replace hx0 := (hB0.cell (p := ⟨ba, oa, none⟩) (World.block_lt_of_cell? w _ hx0)).trans hx0
  replace hx1 := (hB0.cell (p := ⟨ba, oa + 1, none⟩) (World.block_lt_of_cell? w _ hx1)).trans hx1
  have z0 := bx.cell 0 rfl
  have z1 := bx.cell 1 rfl
  have HE := Lib.hid hE0
  clear hE0
  go_enter Tryz.func92, Tryz.ntmps92
  go_upto_region 1 with fail
  rw [← HE.out]
  go_wp2_with fail
  go_ret
  exact ⟨rfl, hB0⟩
set_option maxHeartbeats 4000000 in
theorem output_15_neg {pn : Option Addr} {nn cn : Nat} {A B : Int} {vt : Value} {ba oa na ca : Nat} {x0 x1 x2 : Int} (w : World) (hx0 : w.cell? ⟨ba, oa, none⟩ = some (.int .i64 x0)) (hx1 : w.cell? ⟨ba, oa + 1, none⟩ = some (.int .i64 x1)) (hx2 : w.cell? ⟨ba, oa + 2, none⟩ = some (.int .i64 x2)) (la : 3 ≤ na) (hx : ¬ 0 ≤ x0) :
    Calls Tryz.prog 92 #[.agg #[.int .i64 15, .int .i64 A, .int .i64 B, .slice pn nn cn], vt, .slice (some ⟨ba, oa, none⟩) na ca] w fun e w' => e = .returned (.int .i64 (x2)) ∧ Below w.heap.size w w' := by
  obtain ⟨E0, hE0⟩ : ∃ E, E = w.alloc (.cells #[.int .i64 15, .int .i64 A, .int .i64 B, .slice pn nn cn] 55) := ⟨_, rfl⟩
  have hB0 : Below w.heap.size w E0 := by rw [hE0]; exact (Below.refl _ _).alloc (Nat.le_refl _) _
  have bx : Box E0 w.heap.size [.int .i64 15, .int .i64 A, .int .i64 B, .slice pn nn cn] 55 := by rw [hE0]; exact Box.newAt w _ _ rfl
  replace hx0 := (hB0.cell (p := ⟨ba, oa, none⟩) (World.block_lt_of_cell? w _ hx0)).trans hx0
  replace hx1 := (hB0.cell (p := ⟨ba, oa + 1, none⟩) (World.block_lt_of_cell? w _ hx1)).trans hx1
  replace hx2 := (hB0.cell (p := ⟨ba, oa + 2, none⟩) (World.block_lt_of_cell? w _ hx2)).trans hx2
  have z0 := bx.cell 0 rfl
  have z1 := bx.cell 1 rfl
  have HE := Lib.hid hE0
  clear hE0
  go_enter Tryz.func92, Tryz.ntmps92
  go_upto_region 1 with fail
  rw [← HE.out]
  go_wp2_with fail
  go_ret
  exact ⟨rfl, hB0⟩
set_option maxHeartbeats 4000000 in
theorem output_13 {pn : Option Addr} {nn cn : Nat} {B : Int} {ba oa na ca bt ot nt ct j : Nat} {q : Option Addr} {c : Nat} {t : List Int} {x0 : Int} (w : World)
    (hx0 : w.cell? ⟨ba, oa, none⟩ = some (.int .i64 x0)) (la : 1 ≤ na) (hj : j < nt) (ht : w.cell? ⟨bt, ot + j, none⟩ = some (.slice q t.length c)) (hr : RdI w q t) (h1 : 1 ≤ t.length) (h2 : t.length ≤ 16) :
    Calls Tryz.prog 92 #[.agg #[.int .i64 13, .int .i64 (j : Int), .int .i64 B, .slice pn nn cn], .slice (some ⟨bt, ot, none⟩) nt ct, .slice (some ⟨ba, oa, none⟩) na ca] w fun e w' => e = .returned (.int .i64 (lookP t x0)) ∧ Below w.heap.size w w' := by
  obtain ⟨E0, hE0⟩ : ∃ E, E = w.alloc (.cells #[.int .i64 13, .int .i64 (j : Int), .int .i64 B, .slice pn nn cn] 55) := ⟨_, rfl⟩
  have hB0 : Below w.heap.size w E0 := by rw [hE0]; exact (Below.refl _ _).alloc (Nat.le_refl _) _
  have bx : Box E0 w.heap.size [.int .i64 13, .int .i64 (j : Int), .int .i64 B, .slice pn nn cn] 55 := by rw [hE0]; exact Box.newAt w _ _ rfl
  replace hx0 := (hB0.cell (p := ⟨ba, oa, none⟩) (World.block_lt_of_cell? w _ hx0)).trans hx0
  replace ht := (hB0.cell (p := ⟨bt, ot + j, none⟩) (World.block_lt_of_cell? w _ ht)).trans ht
  replace hr := hr.below hB0
  have z0 := bx.cell 0 rfl
  have z1 := bx.cell 1 rfl
  have HE := Lib.hid hE0
  clear hE0
  obtain ⟨b, o, rfl, hb, hc⟩ := hr.at0 h1
  have hi := lookI_in (x := x0) h1
  have hrr : 0 ≤ x0 % 4294967296 ∧ x0 % 4294967296 ≤ 4294967295 := by omega
  obtain ⟨i, hii⟩ := Int.eq_ofNat_of_zero_le hi.1
  have hz := hc i (by omega)
  have HL : Hid (lookP t x0 = t.getD i 0) := by
    unfold Hid lookP
    rw [show ((t.length : Int) * (x0 % 4294967296)) / 4294967296 = lookI t.length x0 from rfl, hii]; rfl
  generalize lookP t x0 = R at HL ⊢
  have HJ : Hid (((t.length : Int) * (x0 % 4294967296)) / 4294967296 = (i : Int)) := hii
  have hj2 : i < t.length := by omega
  have hp : 0 ≤ (t.length : Int) * (x0 % 4294967296) ∧ (t.length : Int) * (x0 % 4294967296) ≤ 68719476720 := by
    refine ⟨Int.mul_nonneg (by omega) hrr.1, ?_⟩
    have := Int.mul_le_mul (show (t.length : Int) ≤ 16 by omega) hrr.2 hrr.1 (by omega)
    omega
  generalize t.getD i 0 = y at hz HL
  have hmx : t.length ≤ maxLen := by unfold maxLen; omega
  generalize t.length = n at *
  clear hc hi hii hr
  have HU : Hid (∀ W, Calls Tryz.prog 115 #[.int .i64 x0] W fun e w' => e = .returned (.int .i64 (x0 % 4294967296)) ∧ W = w') := fun W => unsigned_any x0 W
  generalize x0 % 4294967296 = u at *
  have hw : IntKind.i64.wrap ((n : Int) * u) = (n : Int) * u := IntWalk.i64_in _ (by omega)
  generalize hm : (n : Int) * u = m at *
  have hw2 : m / 4294967296 = (i : Int) := HJ.out
  clear HJ
  go_enter Tryz.func92, Tryz.ntmps92
  go_upto_region 1 with fail
  rw [← HE.out]
  go_wp2_with fail
  go_quiet ((first | (go_at_call 65; exact Calls.quiet_of_same (Calls.turn (sizeI_any _ _ _ _ hmx))) | (go_at_call 115; exact Calls.quiet_of_same (Calls.turn (HU.out _)))))
  go_wp2_with fail
  go_ret
  obtain rfl := HL.out
  exact ⟨rfl, below_drewN hB0 _⟩
theorem output_v {v : Value} {x : NodeD} {tb : List (List Int)} {xs : List Int} {pt px : Option Addr} {ct cx : Nat} (w : World) (h : VNode w v x) (ht : RdII w pt tb) (hx : RdI w px xs) (ss : List Int) (ok : OutOk x tb xs ss)
    (hk0 : x.kind ≠ 6 ∧ x.kind ≠ 7 ∧ x.kind ≠ 8 ∧ x.kind ≠ 12 ∧ x.kind ≠ 14 ∧ x.kind ≠ 16 ∧ x.kind ≠ 17) :
    Calls Tryz.prog 92 #[v, .slice pt tb.length ct, .slice px xs.length cx] w fun e w' => e = .returned (.int .i64 (outP x tb xs ss)) ∧ Below w.heap.size w w' := by
  obtain ⟨k, A, B, src⟩ := x
  obtain ⟨p, c, rfl, -⟩ := h
  obtain ⟨hk, hn, hst, hsm, hcl, hsh, htb⟩ := ok
  unfold outP
  simp only at *
  rcases kinds_of hk with rfl | rfl | rfl | rfl | rfl | rfl | rfl | rfl | rfl | rfl | rfl | rfl | rfl | rfl | rfl | rfl | rfl
  · have l : xs.length = 1 := by have : inN ⟨1, A, B, src⟩ = 1 := rfl; omega
    obtain ⟨ba, oa, rfl, -, ha⟩ := hx.at0 (by omega)
    exact output_1 w (ha 0 (by omega)) (by omega)
  · exact output_2 w
  · have l : xs.length = 2 := by have : inN ⟨3, A, B, src⟩ = 2 := rfl; omega
    obtain ⟨ba, oa, rfl, -, ha⟩ := hx.at0 (by omega)
    exact output_3 w (ha 0 (by omega)) (ha 1 (by omega)) (by omega)
  · have l : xs.length = 2 := by have : inN ⟨4, A, B, src⟩ = 2 := rfl; omega
    obtain ⟨ba, oa, rfl, -, ha⟩ := hx.at0 (by omega)
    exact output_4 w (ha 0 (by omega)) (ha 1 (by omega)) (by omega)
  · have l : xs.length = 1 := by have : inN ⟨5, A, B, src⟩ = 1 := rfl; omega
    obtain ⟨ba, oa, rfl, -, ha⟩ := hx.at0 (by omega)
    exact output_5 w (ha 0 (by omega)) (by omega)
  · exact absurd rfl hk0.1
  · exact absurd rfl hk0.2.1
  · exact absurd rfl hk0.2.2.1
  · have l : xs.length = 2 := by have : inN ⟨9, A, B, src⟩ = 2 := rfl; omega
    obtain ⟨ba, oa, rfl, -, ha⟩ := hx.at0 (by omega)
    exact output_9 w (ha 0 (by omega)) (ha 1 (by omega)) (by omega)
  · have l : xs.length = 1 := by have : inN ⟨10, A, B, src⟩ = 1 := rfl; omega
    obtain ⟨ba, oa, rfl, -, ha⟩ := hx.at0 (by omega)
    exact output_10 w (ha 0 (by omega)) (by omega) (hsh rfl) (hsm _ (getD_mem (by omega)))
  · have l : xs.length = 1 := by have : inN ⟨11, A, B, src⟩ = 1 := rfl; omega
    obtain ⟨ba, oa, rfl, -, ha⟩ := hx.at0 (by omega)
    have hA := hcl rfl
    by_cases h1 : A < xs.getD 0 0
    · rw [show outK (11 : Int).toNat A tb xs ss = A by show max (-A) (min (xs.getD 0 0) A) = A; omega]
      by_cases h3 : -A < A
      · exact output_11_h1 w (ha 0 (by omega)) (by omega) hA h1 (by omega) h3
      · exact output_11_h2 w (ha 0 (by omega)) (by omega) hA h1 (by omega) h3
    · by_cases h2 : xs.getD 0 0 < -A
      · rw [show outK (11 : Int).toNat A tb xs ss = -A by show max (-A) (min (xs.getD 0 0) A) = -A; omega]
        exact output_11_lo w (ha 0 (by omega)) (by omega) hA h2 (by omega) (by omega) (by omega)
      · rw [show outK (11 : Int).toNat A tb xs ss = xs.getD 0 0 by show max (-A) (min (xs.getD 0 0) A) = xs.getD 0 0; omega]
        by_cases h3 : xs.getD 0 0 < A
        · by_cases h4 : -A < xs.getD 0 0
          · exact output_11_i1 w (ha 0 (by omega)) (by omega) hA (by omega) h3 h4 (by omega)
          · exact output_11_i2 w (ha 0 (by omega)) (by omega) hA (by omega) h3 h4 (by omega)
        · by_cases h4 : -A < A
          · exact output_11_i3 w (ha 0 (by omega)) (by omega) hA (by omega) h3 h4 (by omega)
          · exact output_11_i4 w (ha 0 (by omega)) (by omega) hA (by omega) h3 h4 (by omega)
  · exact absurd rfl hk0.2.2.2.1
  · have l : xs.length = 1 := by have : inN ⟨13, A, B, src⟩ = 1 := rfl; omega
    obtain ⟨ba, oa, rfl, -, ha⟩ := hx.at0 (by omega)
    obtain ⟨a0, a1, at_⟩ := htb rfl
    obtain ⟨j, rfl⟩ := Int.eq_ofNat_of_zero_le a0
    obtain ⟨bt, ot, q, c, rfl, -, hc, hr⟩ := ht.at0 (k := j) (by omega)
    have hm : tb.getD j [] ∈ tb := by
      rw [List.getD_eq_getElem?_getD, List.getElem?_eq_getElem (by omega)]
      exact List.getElem_mem _
    obtain ⟨t1, t2⟩ := at_ _ hm
    exact output_13 w (ha 0 (by omega)) (by omega) (by omega) hc hr t1 t2
  · exact absurd rfl hk0.2.2.2.2.1
  · have l : xs.length = 3 := by have : inN ⟨15, A, B, src⟩ = 3 := rfl; omega
    obtain ⟨ba, oa, rfl, -, ha⟩ := hx.at0 (by omega)
    by_cases hp : 0 ≤ xs.getD 0 0
    · have e : outK (15 : Int).toNat A tb xs ss = xs.getD 1 0 := if_pos hp
      rw [e]
      exact output_15_pos w (ha 0 (by omega)) (ha 1 (by omega)) (by omega) hp
    · have e : outK (15 : Int).toNat A tb xs ss = xs.getD 2 0 := if_neg hp
      rw [e]
      exact output_15_neg w (ha 0 (by omega)) (ha 1 (by omega)) (ha 2 (by omega)) (by omega) hp
  · exact absurd rfl hk0.2.2.2.2.2.1
  · exact absurd rfl hk0.2.2.2.2.2.2
end Go.Proofs.YtcfhcmgmkhfjjaaGreat

namespace Go.Proofs.YtcfhcmgmkhfjjaaGreat
open Go.ChangeShapes Go.WideShapes Go.ChangeAt Go.RowKit
set_option linter.unusedVariables false

theorem l00Own_any {p : Option Addr} {c : Nat} {xs : List Int} (w : World) (h : RdI w p xs) (hl : xs.length ≤ 1048576) :
    Calls Tryz.prog 36 #[.slice p xs.length c] w fun e w' => ∃ v, e = .returned v ∧ OwnI w.heap.size w' v xs ∧ Below w.heap.size w w' := by
  have h0 := OwnI.lit (B := w.heap.size) w [] (Nat.le_refl _) (by simp [maxLen])
  have hb := (Below.refl w.heap.size w).alloc (Nat.le_refl _) (.cells #[] 2)
  have h1 := h.below hb
  have hsz : w.heap.size ≤ (w.alloc (.cells #[] 2)).heap.size := hb.size
  go_enter Tryz.func36, Tryz.ntmps36
  go_wp2_with (at_builtin; refine wpList_append_int rfl _ _ rfl rfl h0 h1 rfl rfl (by simp; omega) hsz ?_; intro v' w1 hown1 hg1)
  go_ret
  exact ⟨_, rfl, by simpa using hown1, below_appended hb h0 hsz hg1⟩
theorem clone_any {p : Option Addr} {c : Nat} {xs : List Int} (w : World) (h : RdI w p xs) (hl : xs.length ≤ 1048576) :
    Calls Tryz.prog 78 #[.slice p xs.length c] w fun e w' => ∃ v, e = .returned v ∧ OwnI w.heap.size w' v xs ∧ Below w.heap.size w w' := by
  have h0 := OwnI.lit (B := w.heap.size) w [] (Nat.le_refl _) (by simp [maxLen])
  have hb := (Below.refl w.heap.size w).alloc (Nat.le_refl _) (.cells #[] 2)
  have h1 := h.below hb
  have hsz : w.heap.size ≤ (w.alloc (.cells #[] 2)).heap.size := hb.size
  go_enter Tryz.func78, Tryz.ntmps78
  go_wp2_with (at_builtin; refine wpList_append_int rfl _ _ rfl rfl h0 h1 rfl rfl (by simp; omega) hsz ?_; intro v' w1 hown1 hg1)
  go_ret
  exact ⟨_, rfl, by simpa using hown1, below_appended hb h0 hsz hg1⟩
end Go.Proofs.YtcfhcmgmkhfjjaaGreat

namespace Go.Proofs.YtcfhcmgmkhfjjaaGreat
open Go.ChangeShapes Go.WideShapes Go.ChangeAt Go.RowKit Go.Sort
set_option linter.unusedVariables false

theorem bdrew (w : World) : Below w.heap.size w w.drew := ⟨rfl, rfl, rfl, Nat.le_refl _, fun _ _ => rfl⟩
theorem Below.drewR {B : Nat} {a w : World} (h : Below B a w) : Below B a w.drew := ⟨h.os, h.tape, h.output, h.size, h.block⟩
theorem RdI.tail {w : World} {b o : Nat} {xs : List Int} (h : RdI w (some ⟨b, o, none⟩) xs) : RdI w (some ⟨b, o + 1, none⟩) (xs.drop 1) := by
  have hl := h.len
  refine ⟨by rw [List.length_drop]; omega, ?_⟩
  rcases h.cells with rfl | ⟨b', o', e, hc⟩
  · exact .inl rfl
  · simp only [Option.some.injEq, Addr.mk.injEq, and_true] at e
    obtain ⟨rfl, rfl⟩ := e
    refine .inr ⟨b, o + 1, rfl, fun i hi => ?_⟩
    rw [List.length_drop] at hi
    rw [List.getElem_drop, show o + 1 + i = o + (1 + i) by omega]
    exact hc (1 + i) (by omega)
theorem RdI.tailc {w : World} {b o m k : Nat} {xs : List Int} (h : RdI w (some ⟨b, o, none⟩) xs) (hm : xs.length = m + 1) (hk : m ≤ k) : RdI w (if k = 0 then some ⟨b, o, none⟩ else some ⟨b, o + 1, none⟩) (xs.drop 1) := by
  split
  · have e : xs.drop 1 = [] := List.eq_nil_of_length_eq_zero (by rw [List.length_drop]; omega)
    rw [e]; exact RdI.nil _ _
  · exact h.tail
/-- append of one number that is read somewhere, as one step of a region that draws its order -/
theorem step_append_rd {ops : Array Oper} {o : Oper} {a : Act} {K : Act → World → Prop} {Q : Exit → Act → World → Prop} {E : Prop} {w : World} {y : Int} (hgd : o.guard = none) (s x : Operand)
    (ho : o.op = .call { callee := .builtin .append, args := #[s, x], argTypes := #[26, 26] })
    {B : Nat} {v : Value} {xs : List Int} (hs : a.eval s = v) (hown : OwnI B w v xs) {p : Option Addr} {c : Nat} (hr : RdI w p [y]) (hx : a.eval x = .slice p 1 c) (hlen : xs.length < 17592186044415) (hB : B ≤ w.heap.size)
    (h : ∀ q c w', OwnI B w' (.slice q (xs.length + 1) c) (xs ++ [y]) → w.os = w'.os → w.tape = w'.tape → w.output = w'.output → w.heap.size ≤ w'.heap.size → (∀ k, k < w.heap.size → v.ownBlock ≠ some k → w'.heap[k]? = w.heap[k]?) → K (a.put o.dst (.slice q (xs.length + 1) c)) w') :
    if Region.wanted o (yielded ops a.tmps) = true then Oper.wp Tryz.prog o a w K Q else E := by
  have hw : Region.wanted o (yielded ops a.tmps) = true := by simp [Region.wanted, hgd]
  rw [if_pos hw]
  obtain ⟨v', w', h1, h2, h3⟩ := run_append_int w o.type hown (c := c) hr (by simp only [List.length_cons, List.length_nil]; omega) hB
  obtain ⟨q, c, rfl, -⟩ := h2.rd
  have e : (xs ++ [y]).length = xs.length + 1 := by simp
  rw [e] at h1 h2
  unfold Oper.wp execOp
  simp only [List.length_cons, List.length_nil] at h1
  simp only [ho, resolve, invoke, builtin, Sem.run_bind, Sem.run_pure, Result.andThen_ok, List.map_toArray, List.map_cons, List.map_nil, hs, hx, h1]
  exact h q c w' h2 h3.os.symm h3.tape.symm h3.output.symm h3.size fun k hk hne => h3.block k hk (fun e => hne e.symm)
theorem below_step {w0 w w' : World} {v : Value} {xs : List Int} (h : Below w0.heap.size w0 w) (hown : OwnI w0.heap.size w v xs) (o1 : w.os = w'.os) (o2 : w.tape = w'.tape) (o3 : w.output = w'.output) (hs : w.heap.size ≤ w'.heap.size)
    (hk : ∀ k, k < w.heap.size → v.ownBlock ≠ some k → w'.heap[k]? = w.heap[k]?) : Below w0.heap.size w0 w' :=
  ⟨o1.symm.trans h.os, o2.symm.trans h.tape, o3.symm.trans h.output, Nat.le_trans h.size hs, fun k hkk => (hk k (Nat.lt_of_lt_of_le hkk h.size) fun e => by have := (hown.lt e).1; omega).trans (h.block k hkk)⟩
set_option maxHeartbeats 4000000 in
set_option maxRecDepth 100000 in
theorem l06Next_6_1 {b o : Nat} {ba oa na ca : Nat} {x0 : Int} {bs os m : Nat} {tl : List Int} {y : Int} (w : World) (c0 : w.cell? ⟨b, o, none⟩ = some (.int .i64 6)) (hx0 : w.cell? ⟨ba, oa, none⟩ = some (.int .i64 x0)) (la : 1 ≤ na) (hr : RdI w (some ⟨bs, os, none⟩) tl) (hm : tl.length = m) (hl : m ≤ 16) :
    Calls Tryz.prog 111 #[.pointer (some ⟨b, o, none⟩), .slice (some ⟨ba, oa, none⟩) na ca, .slice (some ⟨bs, os, none⟩) (m + 1) (1), .int .i64 y] w fun e w' => ∃ u, e = .returned u ∧ OwnI w.heap.size w' u (tl ++ [x0]) ∧ Below w.heap.size w w' := by
  have K : Hid (∀ W, Below w.heap.size w W → Calls Tryz.prog 36 #[.slice (some ⟨bs, os, none⟩) m (0)] W fun e w' => ∃ v, e = .returned v ∧ OwnI w.heap.size w' v tl ∧ Below W.heap.size W w' ∧ Below w.heap.size w w') := fun W hW => by
    have h := l00Own_any (c := 0) W (hr.below hW) (by omega)
    rw [hm] at h
    exact h.mono fun e w' ⟨v, h1, h2, h3⟩ => ⟨v, h1, h2.mono hW.size, h3, hW.trans (h3.mono hW.size)⟩
  have g0 : 0 < na := la
  have lt0 := World.block_lt_of_cell? w _ hx0
  have hlen : tl.length < 17592186044415 := by omega
  clear hr hm
  have g1 : (1 : Int) ≤ (m : Int) + 1 := by omega
  go_enter Tryz.func111, Tryz.ntmps111
  go_wp2_with fail
  go_region_law (first | (go_simp; go_at_call 36; refine (K.out _ (by repeat (first | exact Below.refl _ _ | assumption | refine Below.alloc ?_ (by first | exact Nat.le_refl _ | omega | (simp; done)) _ | refine Below.drewR ?_))).mono ?_; rintro e W2 ⟨u, rfl, hu, hb2, hb3⟩; obtain ⟨sp, sc, rfl, -⟩ := hu.rd; (first | (have hlit : RdI W2 (some ⟨w.heap.size, 0, none⟩) [x0] := (rdI_one w x0).below hb2) | (have hlit : RdI W2 (some ⟨w.heap.size, 0, none⟩) [x0] := (rdI_one w x0).below (below_drew' hb2)) | skip); have hx0 := (hb3.cell (p := ⟨ba, oa, none⟩) lt0).trans hx0; have hsz := hb3.size) | (refine step_append_one rfl _ _ rfl rfl hu rfl hlen hsz ?_; intro q2 k2 w2 ho2 o1 o2 o3 hs2 hk2) | (refine step_append_rd rfl _ _ rfl rfl hu hlit rfl hlen hsz ?_; intro q2 k2 w2 ho2 o1 o2 o3 hs2 hk2) | fail)
  all_goals (go_wp2_with fail; go_ret; exact ⟨_, rfl, ho2, below_step hb3 hu o1 o2 o3 hs2 hk2⟩)
set_option maxHeartbeats 4000000 in
set_option maxRecDepth 100000 in
theorem l06Next_17_1 {b o : Nat} {va : Value} {bs os m : Nat} {tl : List Int} {y : Int} (w : World) (c0 : w.cell? ⟨b, o, none⟩ = some (.int .i64 17)) (hr : RdI w (some ⟨bs, os, none⟩) tl) (hm : tl.length = m) (hl : m ≤ 16) :
    Calls Tryz.prog 111 #[.pointer (some ⟨b, o, none⟩), va, .slice (some ⟨bs, os, none⟩) (m + 1) (1), .int .i64 y] w fun e w' => ∃ u, e = .returned u ∧ OwnI w.heap.size w' u (tl ++ [y]) ∧ Below w.heap.size w w' := by
  have K : Hid (Calls Tryz.prog 36 #[.slice (some ⟨bs, os, none⟩) m (0)] w fun e w' => ∃ v, e = .returned v ∧ OwnI w.heap.size w' v tl ∧ Below w.heap.size w w') := by
    have h := l00Own_any (c := 0) w hr (by omega)
    rw [hm] at h; exact h
  have hlen : tl.length < 17592186044415 := by omega
  clear hr hm
  have g1 : (1 : Int) ≤ (m : Int) + 1 := by omega
  go_enter Tryz.func111, Tryz.ntmps111
  go_wp2_with (first | (go_at_call 36; refine K.out.mono ?_; rintro e W2 ⟨u, rfl, hu, hb2⟩; have hsz := hb2.size) | (at_builtin; refine wpList_append_one rfl _ _ rfl rfl hu rfl hb2 hlen hsz (Nat.le_refl _) ?_; intro v' w1 hown1 hbel1 _ _) | fail)
  go_ret
  exact ⟨_, rfl, hown1, hbel1⟩
set_option maxHeartbeats 4000000 in
set_option maxRecDepth 100000 in
theorem l06Next_6_2 {b o : Nat} {ba oa na ca : Nat} {x0 : Int} {bs os m k : Nat} {tl : List Int} {y : Int} (w : World) (c0 : w.cell? ⟨b, o, none⟩ = some (.int .i64 6)) (hx0 : w.cell? ⟨ba, oa, none⟩ = some (.int .i64 x0)) (la : 1 ≤ na) (hr : RdI w (some ⟨bs, os + 1, none⟩) tl) (hm : tl.length = m) (hl : m ≤ 16) :
    Calls Tryz.prog 111 #[.pointer (some ⟨b, o, none⟩), .slice (some ⟨ba, oa, none⟩) na ca, .slice (some ⟨bs, os, none⟩) (m + 1) (k + 1 + 1), .int .i64 y] w fun e w' => ∃ u, e = .returned u ∧ OwnI w.heap.size w' u (tl ++ [x0]) ∧ Below w.heap.size w w' := by
  have K : Hid (∀ W, Below w.heap.size w W → Calls Tryz.prog 36 #[.slice (some ⟨bs, os + 1, none⟩) m (k + 1)] W fun e w' => ∃ v, e = .returned v ∧ OwnI w.heap.size w' v tl ∧ Below W.heap.size W w' ∧ Below w.heap.size w w') := fun W hW => by
    have h := l00Own_any (c := k + 1) W (hr.below hW) (by omega)
    rw [hm] at h
    exact h.mono fun e w' ⟨v, h1, h2, h3⟩ => ⟨v, h1, h2.mono hW.size, h3, hW.trans (h3.mono hW.size)⟩
  have g0 : 0 < na := la
  have lt0 := World.block_lt_of_cell? w _ hx0
  have hlen : tl.length < 17592186044415 := by omega
  clear hr hm
  have g1 : (1 : Int) ≤ (m : Int) + 1 := by omega
  go_enter Tryz.func111, Tryz.ntmps111
  go_wp2_with fail
  go_region_law (first | (go_simp; go_at_call 36; refine (K.out _ (by repeat (first | exact Below.refl _ _ | assumption | refine Below.alloc ?_ (by first | exact Nat.le_refl _ | omega | (simp; done)) _ | refine Below.drewR ?_))).mono ?_; rintro e W2 ⟨u, rfl, hu, hb2, hb3⟩; obtain ⟨sp, sc, rfl, -⟩ := hu.rd; (first | (have hlit : RdI W2 (some ⟨w.heap.size, 0, none⟩) [x0] := (rdI_one w x0).below hb2) | (have hlit : RdI W2 (some ⟨w.heap.size, 0, none⟩) [x0] := (rdI_one w x0).below (below_drew' hb2)) | skip); have hx0 := (hb3.cell (p := ⟨ba, oa, none⟩) lt0).trans hx0; have hsz := hb3.size) | (refine step_append_one rfl _ _ rfl rfl hu rfl hlen hsz ?_; intro q2 k2 w2 ho2 o1 o2 o3 hs2 hk2) | (refine step_append_rd rfl _ _ rfl rfl hu hlit rfl hlen hsz ?_; intro q2 k2 w2 ho2 o1 o2 o3 hs2 hk2) | fail)
  all_goals (go_wp2_with fail; go_ret; exact ⟨_, rfl, ho2, below_step hb3 hu o1 o2 o3 hs2 hk2⟩)
set_option maxHeartbeats 4000000 in
set_option maxRecDepth 100000 in
theorem l06Next_17_2 {b o : Nat} {va : Value} {bs os m k : Nat} {tl : List Int} {y : Int} (w : World) (c0 : w.cell? ⟨b, o, none⟩ = some (.int .i64 17)) (hr : RdI w (some ⟨bs, os + 1, none⟩) tl) (hm : tl.length = m) (hl : m ≤ 16) :
    Calls Tryz.prog 111 #[.pointer (some ⟨b, o, none⟩), va, .slice (some ⟨bs, os, none⟩) (m + 1) (k + 1 + 1), .int .i64 y] w fun e w' => ∃ u, e = .returned u ∧ OwnI w.heap.size w' u (tl ++ [y]) ∧ Below w.heap.size w w' := by
  have K : Hid (Calls Tryz.prog 36 #[.slice (some ⟨bs, os + 1, none⟩) m (k + 1)] w fun e w' => ∃ v, e = .returned v ∧ OwnI w.heap.size w' v tl ∧ Below w.heap.size w w') := by
    have h := l00Own_any (c := k + 1) w hr (by omega)
    rw [hm] at h; exact h
  have hlen : tl.length < 17592186044415 := by omega
  clear hr hm
  have g1 : (1 : Int) ≤ (m : Int) + 1 := by omega
  go_enter Tryz.func111, Tryz.ntmps111
  go_wp2_with (first | (go_at_call 36; refine K.out.mono ?_; rintro e W2 ⟨u, rfl, hu, hb2⟩; have hsz := hb2.size) | (at_builtin; refine wpList_append_one rfl _ _ rfl rfl hu rfl hb2 hlen hsz (Nat.le_refl _) ?_; intro v' w1 hown1 hbel1 _ _) | fail)
  go_ret
  exact ⟨_, rfl, hown1, hbel1⟩
set_option maxHeartbeats 4000000 in
set_option maxRecDepth 100000 in
theorem l06Next_7 {b o : Nat} {va : Value} {vs : Value} {y : Int} (w : World) (c0 : w.cell? ⟨b, o, none⟩ = some (.int .i64 7)) :
    Calls Tryz.prog 111 #[.pointer (some ⟨b, o, none⟩), va, vs, .int .i64 y] w fun e w' => ∃ u, e = .returned u ∧ OwnI w.heap.size w' u ([y]) ∧ Below w.heap.size w w' := by
  go_enter Tryz.func111, Tryz.ntmps111
  go_wp2_with fail
  go_ret
  exact ⟨_, rfl, OwnI.lit (B := w.heap.size) _ [y] (by first | exact Nat.le_refl _ | simp) (by simp [maxLen]), by (repeat (first | exact Below.refl _ _ | assumption | refine Below.setCell ?_ (by first | exact Nat.le_refl _ | omega | (simp; done) | (simp; omega)) _ | refine Below.alloc ?_ (by first | exact Nat.le_refl _ | omega | (simp; done) | (simp; omega)) _ | refine below_drewN ?_ _))⟩
set_option maxHeartbeats 4000000 in
set_option maxRecDepth 100000 in
theorem l06Next_16 {b o : Nat} {va : Value} {vs : Value} {y : Int} (w : World) (c0 : w.cell? ⟨b, o, none⟩ = some (.int .i64 16)) :
    Calls Tryz.prog 111 #[.pointer (some ⟨b, o, none⟩), va, vs, .int .i64 y] w fun e w' => ∃ u, e = .returned u ∧ OwnI w.heap.size w' u ([y]) ∧ Below w.heap.size w w' := by
  go_enter Tryz.func111, Tryz.ntmps111
  go_wp2_with fail
  go_ret
  exact ⟨_, rfl, OwnI.lit (B := w.heap.size) _ [y] (by first | exact Nat.le_refl _ | simp) (by simp [maxLen]), by (repeat (first | exact Below.refl _ _ | assumption | refine Below.setCell ?_ (by first | exact Nat.le_refl _ | omega | (simp; done) | (simp; omega)) _ | refine Below.alloc ?_ (by first | exact Nat.le_refl _ | omega | (simp; done) | (simp; omega)) _ | refine below_drewN ?_ _))⟩
set_option maxHeartbeats 4000000 in
set_option maxRecDepth 100000 in
theorem l06Next_8 {b o : Nat} {ba oa na ca : Nat} {x0 : Int} {vs : Value} {y : Int} (w : World) (c0 : w.cell? ⟨b, o, none⟩ = some (.int .i64 8)) (hx0 : w.cell? ⟨ba, oa, none⟩ = some (.int .i64 x0)) (la : 1 ≤ na) :
    Calls Tryz.prog 111 #[.pointer (some ⟨b, o, none⟩), .slice (some ⟨ba, oa, none⟩) na ca, vs, .int .i64 y] w fun e w' => ∃ u, e = .returned u ∧ OwnI w.heap.size w' u ([x0]) ∧ Below w.heap.size w w' := by
  go_enter Tryz.func111, Tryz.ntmps111
  go_wp2_with fail
  go_ret
  exact ⟨_, rfl, OwnI.lit (B := w.heap.size) _ [x0] (by first | exact Nat.le_refl _ | simp) (by simp [maxLen]), by (repeat (first | exact Below.refl _ _ | assumption | refine Below.setCell ?_ (by first | exact Nat.le_refl _ | omega | (simp; done) | (simp; omega)) _ | refine Below.alloc ?_ (by first | exact Nat.le_refl _ | omega | (simp; done) | (simp; omega)) _ | refine below_drewN ?_ _))⟩
set_option maxHeartbeats 4000000 in
set_option maxRecDepth 100000 in
theorem l06Next_12 {b o : Nat} {ba oa na ca : Nat} {x0 : Int} {bs os ns cs : Nat} {s0 : Int} {y : Int} (w : World) (c0 : w.cell? ⟨b, o, none⟩ = some (.int .i64 12)) (hx0 : w.cell? ⟨ba, oa, none⟩ = some (.int .i64 x0)) (la : 1 ≤ na) (hs0 : w.cell? ⟨bs, os, none⟩ = some (.int .i64 s0)) (ls : 1 ≤ ns) :
    Calls Tryz.prog 111 #[.pointer (some ⟨b, o, none⟩), .slice (some ⟨ba, oa, none⟩) na ca, .slice (some ⟨bs, os, none⟩) ns cs, .int .i64 y] w fun e w' => ∃ u, e = .returned u ∧ OwnI w.heap.size w' u ([smp (s0 + x0)]) ∧ Below w.heap.size w w' := by
  have g0 : 0 < na := la
  have g2 : 0 < ns := ls
  go_enter Tryz.func111, Tryz.ntmps111
  go_wp2_with fail
  go_region_law (first | (go_simp; go_at_call 121; refine (l01Add_any _ _ _).mono ?_; rintro e w' ⟨rfl, rfl⟩) | fail)
  all_goals (go_wp2_with fail; go_ret; exact ⟨_, rfl, OwnI.lit (B := w.heap.size) _ [smp (s0 + x0)] (by first | exact Nat.le_refl _ | simp) (by simp [maxLen]), by (repeat (first | exact Below.refl _ _ | assumption | refine Below.setCell ?_ (by first | exact Nat.le_refl _ | omega | (simp; done) | (simp; omega)) _ | refine Below.alloc ?_ (by first | exact Nat.le_refl _ | omega | (simp; done) | (simp; omega)) _ | refine below_drewN ?_ _))⟩)
set_option maxHeartbeats 4000000 in
set_option maxRecDepth 100000 in
theorem l06Next_14 {b o : Nat} {va : Value} {bs os ns cs : Nat} {s0 : Int} {y : Int} (w : World) (c0 : w.cell? ⟨b, o, none⟩ = some (.int .i64 14)) (hs0 : w.cell? ⟨bs, os, none⟩ = some (.int .i64 s0)) (ls : 1 ≤ ns) :
    Calls Tryz.prog 111 #[.pointer (some ⟨b, o, none⟩), va, .slice (some ⟨bs, os, none⟩) ns cs, .int .i64 y] w fun e w' => ∃ u, e = .returned u ∧ OwnI w.heap.size w' u ([noiseP s0]) ∧ Below w.heap.size w w' := by
  go_enter Tryz.func111, Tryz.ntmps111
  go_wp2_with (go_at_call 126; refine (l06Noise_any _ _).mono ?_; rintro e w' ⟨rfl, rfl⟩)
  go_ret
  exact ⟨_, rfl, OwnI.lit (B := w.heap.size) _ [noiseP s0] (by first | exact Nat.le_refl _ | simp) (by simp [maxLen]), by (repeat (first | exact Below.refl _ _ | assumption | refine Below.setCell ?_ (by first | exact Nat.le_refl _ | omega | (simp; done) | (simp; omega)) _ | refine Below.alloc ?_ (by first | exact Nat.le_refl _ | omega | (simp; done) | (simp; omega)) _ | refine below_drewN ?_ _))⟩
set_option maxHeartbeats 4000000 in
set_option maxRecDepth 100000 in
theorem l06Next_1 {b o : Nat} {va : Value} {vs : Value} {y : Int} (w : World) (c0 : w.cell? ⟨b, o, none⟩ = some (.int .i64 1)) :
    Calls Tryz.prog 111 #[.pointer (some ⟨b, o, none⟩), va, vs, .int .i64 y] w fun e w' => ∃ u, e = .returned u ∧ OwnI w.heap.size w' u ([]) ∧ Below w.heap.size w w' := by
  go_enter Tryz.func111, Tryz.ntmps111
  go_wp2_with fail
  go_ret
  exact ⟨_, rfl, OwnI.lit (B := w.heap.size) _ [] (by first | exact Nat.le_refl _ | simp) (by simp [maxLen]), by (repeat (first | exact Below.refl _ _ | assumption | refine Below.setCell ?_ (by first | exact Nat.le_refl _ | omega | (simp; done) | (simp; omega)) _ | refine Below.alloc ?_ (by first | exact Nat.le_refl _ | omega | (simp; done) | (simp; omega)) _ | refine below_drewN ?_ _))⟩
set_option maxHeartbeats 4000000 in
set_option maxRecDepth 100000 in
theorem l06Next_2 {b o : Nat} {va : Value} {vs : Value} {y : Int} (w : World) (c0 : w.cell? ⟨b, o, none⟩ = some (.int .i64 2)) :
    Calls Tryz.prog 111 #[.pointer (some ⟨b, o, none⟩), va, vs, .int .i64 y] w fun e w' => ∃ u, e = .returned u ∧ OwnI w.heap.size w' u ([]) ∧ Below w.heap.size w w' := by
  go_enter Tryz.func111, Tryz.ntmps111
  go_wp2_with fail
  go_ret
  exact ⟨_, rfl, OwnI.lit (B := w.heap.size) _ [] (by first | exact Nat.le_refl _ | simp) (by simp [maxLen]), by (repeat (first | exact Below.refl _ _ | assumption | refine Below.setCell ?_ (by first | exact Nat.le_refl _ | omega | (simp; done) | (simp; omega)) _ | refine Below.alloc ?_ (by first | exact Nat.le_refl _ | omega | (simp; done) | (simp; omega)) _ | refine below_drewN ?_ _))⟩
set_option maxHeartbeats 4000000 in
set_option maxRecDepth 100000 in
theorem l06Next_3 {b o : Nat} {va : Value} {vs : Value} {y : Int} (w : World) (c0 : w.cell? ⟨b, o, none⟩ = some (.int .i64 3)) :
    Calls Tryz.prog 111 #[.pointer (some ⟨b, o, none⟩), va, vs, .int .i64 y] w fun e w' => ∃ u, e = .returned u ∧ OwnI w.heap.size w' u ([]) ∧ Below w.heap.size w w' := by
  go_enter Tryz.func111, Tryz.ntmps111
  go_wp2_with fail
  go_ret
  exact ⟨_, rfl, OwnI.lit (B := w.heap.size) _ [] (by first | exact Nat.le_refl _ | simp) (by simp [maxLen]), by (repeat (first | exact Below.refl _ _ | assumption | refine Below.setCell ?_ (by first | exact Nat.le_refl _ | omega | (simp; done) | (simp; omega)) _ | refine Below.alloc ?_ (by first | exact Nat.le_refl _ | omega | (simp; done) | (simp; omega)) _ | refine below_drewN ?_ _))⟩
set_option maxHeartbeats 4000000 in
set_option maxRecDepth 100000 in
theorem l06Next_4 {b o : Nat} {va : Value} {vs : Value} {y : Int} (w : World) (c0 : w.cell? ⟨b, o, none⟩ = some (.int .i64 4)) :
    Calls Tryz.prog 111 #[.pointer (some ⟨b, o, none⟩), va, vs, .int .i64 y] w fun e w' => ∃ u, e = .returned u ∧ OwnI w.heap.size w' u ([]) ∧ Below w.heap.size w w' := by
  go_enter Tryz.func111, Tryz.ntmps111
  go_wp2_with fail
  go_ret
  exact ⟨_, rfl, OwnI.lit (B := w.heap.size) _ [] (by first | exact Nat.le_refl _ | simp) (by simp [maxLen]), by (repeat (first | exact Below.refl _ _ | assumption | refine Below.setCell ?_ (by first | exact Nat.le_refl _ | omega | (simp; done) | (simp; omega)) _ | refine Below.alloc ?_ (by first | exact Nat.le_refl _ | omega | (simp; done) | (simp; omega)) _ | refine below_drewN ?_ _))⟩
set_option maxHeartbeats 4000000 in
set_option maxRecDepth 100000 in
theorem l06Next_5 {b o : Nat} {va : Value} {vs : Value} {y : Int} (w : World) (c0 : w.cell? ⟨b, o, none⟩ = some (.int .i64 5)) :
    Calls Tryz.prog 111 #[.pointer (some ⟨b, o, none⟩), va, vs, .int .i64 y] w fun e w' => ∃ u, e = .returned u ∧ OwnI w.heap.size w' u ([]) ∧ Below w.heap.size w w' := by
  go_enter Tryz.func111, Tryz.ntmps111
  go_wp2_with fail
  go_ret
  exact ⟨_, rfl, OwnI.lit (B := w.heap.size) _ [] (by first | exact Nat.le_refl _ | simp) (by simp [maxLen]), by (repeat (first | exact Below.refl _ _ | assumption | refine Below.setCell ?_ (by first | exact Nat.le_refl _ | omega | (simp; done) | (simp; omega)) _ | refine Below.alloc ?_ (by first | exact Nat.le_refl _ | omega | (simp; done) | (simp; omega)) _ | refine below_drewN ?_ _))⟩
set_option maxHeartbeats 4000000 in
set_option maxRecDepth 100000 in
theorem l06Next_9 {b o : Nat} {va : Value} {vs : Value} {y : Int} (w : World) (c0 : w.cell? ⟨b, o, none⟩ = some (.int .i64 9)) :
    Calls Tryz.prog 111 #[.pointer (some ⟨b, o, none⟩), va, vs, .int .i64 y] w fun e w' => ∃ u, e = .returned u ∧ OwnI w.heap.size w' u ([]) ∧ Below w.heap.size w w' := by
  go_enter Tryz.func111, Tryz.ntmps111
  go_wp2_with fail
  go_ret
  exact ⟨_, rfl, OwnI.lit (B := w.heap.size) _ [] (by first | exact Nat.le_refl _ | simp) (by simp [maxLen]), by (repeat (first | exact Below.refl _ _ | assumption | refine Below.setCell ?_ (by first | exact Nat.le_refl _ | omega | (simp; done) | (simp; omega)) _ | refine Below.alloc ?_ (by first | exact Nat.le_refl _ | omega | (simp; done) | (simp; omega)) _ | refine below_drewN ?_ _))⟩
set_option maxHeartbeats 4000000 in
set_option maxRecDepth 100000 in
theorem l06Next_10 {b o : Nat} {va : Value} {vs : Value} {y : Int} (w : World) (c0 : w.cell? ⟨b, o, none⟩ = some (.int .i64 10)) :
    Calls Tryz.prog 111 #[.pointer (some ⟨b, o, none⟩), va, vs, .int .i64 y] w fun e w' => ∃ u, e = .returned u ∧ OwnI w.heap.size w' u ([]) ∧ Below w.heap.size w w' := by
  go_enter Tryz.func111, Tryz.ntmps111
  go_wp2_with fail
  go_ret
  exact ⟨_, rfl, OwnI.lit (B := w.heap.size) _ [] (by first | exact Nat.le_refl _ | simp) (by simp [maxLen]), by (repeat (first | exact Below.refl _ _ | assumption | refine Below.setCell ?_ (by first | exact Nat.le_refl _ | omega | (simp; done) | (simp; omega)) _ | refine Below.alloc ?_ (by first | exact Nat.le_refl _ | omega | (simp; done) | (simp; omega)) _ | refine below_drewN ?_ _))⟩
set_option maxHeartbeats 4000000 in
set_option maxRecDepth 100000 in
theorem l06Next_11 {b o : Nat} {va : Value} {vs : Value} {y : Int} (w : World) (c0 : w.cell? ⟨b, o, none⟩ = some (.int .i64 11)) :
    Calls Tryz.prog 111 #[.pointer (some ⟨b, o, none⟩), va, vs, .int .i64 y] w fun e w' => ∃ u, e = .returned u ∧ OwnI w.heap.size w' u ([]) ∧ Below w.heap.size w w' := by
  go_enter Tryz.func111, Tryz.ntmps111
  go_wp2_with fail
  go_ret
  exact ⟨_, rfl, OwnI.lit (B := w.heap.size) _ [] (by first | exact Nat.le_refl _ | simp) (by simp [maxLen]), by (repeat (first | exact Below.refl _ _ | assumption | refine Below.setCell ?_ (by first | exact Nat.le_refl _ | omega | (simp; done) | (simp; omega)) _ | refine Below.alloc ?_ (by first | exact Nat.le_refl _ | omega | (simp; done) | (simp; omega)) _ | refine below_drewN ?_ _))⟩
set_option maxHeartbeats 4000000 in
set_option maxRecDepth 100000 in
theorem l06Next_13 {b o : Nat} {va : Value} {vs : Value} {y : Int} (w : World) (c0 : w.cell? ⟨b, o, none⟩ = some (.int .i64 13)) :
    Calls Tryz.prog 111 #[.pointer (some ⟨b, o, none⟩), va, vs, .int .i64 y] w fun e w' => ∃ u, e = .returned u ∧ OwnI w.heap.size w' u ([]) ∧ Below w.heap.size w w' := by
  go_enter Tryz.func111, Tryz.ntmps111
  go_wp2_with fail
  go_ret
  exact ⟨_, rfl, OwnI.lit (B := w.heap.size) _ [] (by first | exact Nat.le_refl _ | simp) (by simp [maxLen]), by (repeat (first | exact Below.refl _ _ | assumption | refine Below.setCell ?_ (by first | exact Nat.le_refl _ | omega | (simp; done) | (simp; omega)) _ | refine Below.alloc ?_ (by first | exact Nat.le_refl _ | omega | (simp; done) | (simp; omega)) _ | refine below_drewN ?_ _))⟩
set_option maxHeartbeats 4000000 in
set_option maxRecDepth 100000 in
theorem l06Next_15 {b o : Nat} {va : Value} {vs : Value} {y : Int} (w : World) (c0 : w.cell? ⟨b, o, none⟩ = some (.int .i64 15)) :
    Calls Tryz.prog 111 #[.pointer (some ⟨b, o, none⟩), va, vs, .int .i64 y] w fun e w' => ∃ u, e = .returned u ∧ OwnI w.heap.size w' u ([]) ∧ Below w.heap.size w w' := by
  go_enter Tryz.func111, Tryz.ntmps111
  go_wp2_with fail
  go_ret
  exact ⟨_, rfl, OwnI.lit (B := w.heap.size) _ [] (by first | exact Nat.le_refl _ | simp) (by simp [maxLen]), by (repeat (first | exact Below.refl _ _ | assumption | refine Below.setCell ?_ (by first | exact Nat.le_refl _ | omega | (simp; done) | (simp; omega)) _ | refine Below.alloc ?_ (by first | exact Nat.le_refl _ | omega | (simp; done) | (simp; omega)) _ | refine below_drewN ?_ _))⟩
theorem l06Next_any {b o : Nat} {x : NodeD} {tb : List (List Int)} {xs ss : List Int} {px ps : Option Addr} {cx cs : Nat} (y : Int) (w : World) (h : PNode w b o x) (hx : RdI w px xs) (hs : RdI w ps ss) (hcs : ss.length ≤ cs) (hs16 : ss.length ≤ 16) (ok : OutOk x tb xs ss) :
    Calls Tryz.prog 111 #[.pointer (some ⟨b, o, none⟩), .slice px xs.length cx, .slice ps ss.length cs, .int .i64 y] w fun e w' => ∃ u, e = .returned u ∧ OwnI w.heap.size w' u (nextP x xs ss y) ∧ Below w.heap.size w w' := by
  obtain ⟨k, A, B, src⟩ := x
  obtain ⟨c0, c1, -, -⟩ := h
  obtain ⟨hk, hn, hst, hsm, hcl, hsh, htb⟩ := ok
  unfold nextP
  simp only at *
  rcases kinds_of hk with rfl | rfl | rfl | rfl | rfl | rfl | rfl | rfl | rfl | rfl | rfl | rfl | rfl | rfl | rfl | rfl | rfl
  · exact l06Next_1 w c0
  · exact l06Next_2 w c0
  · exact l06Next_3 w c0
  · exact l06Next_4 w c0
  · exact l06Next_5 w c0
  · have l : xs.length = 1 := by have : inN ⟨6, A, B, src⟩ = 1 := rfl; omega
    obtain ⟨ba, oa, rfl, -, ha⟩ := hx.at0 (by omega)
    have l2 := hst (by simp)
    obtain ⟨bs, os, rfl, -, h2⟩ := hs.at0 l2
    obtain ⟨m, hm⟩ : ∃ m, ss.length = m + 1 := ⟨ss.length - 1, by omega⟩
    rw [hm]
    have hcs' : cs = 1 ∨ ∃ q, cs = q + 1 + 1 := (Nat.lt_or_ge cs 2).elim (fun h => .inl (by omega)) (fun h => .inr ⟨cs - 2, by omega⟩)
    rcases hcs' with rfl | ⟨q, rfl⟩
    · exact l06Next_6_1 w c0 (ha 0 (by omega)) (by omega) (show RdI w _ (ss.drop 1) from by rw [show ss.drop 1 = [] from List.eq_nil_of_length_eq_zero (by rw [List.length_drop]; omega)]; exact RdI.nil _ _) (by rw [List.length_drop]; omega) (by omega)
    · exact l06Next_6_2 w c0 (ha 0 (by omega)) (by omega) hs.tail (by rw [List.length_drop]; omega) (by omega)
  · exact l06Next_7 w c0
  · have l : xs.length = 1 := by have : inN ⟨8, A, B, src⟩ = 1 := rfl; omega
    obtain ⟨ba, oa, rfl, -, ha⟩ := hx.at0 (by omega)
    exact l06Next_8 w c0 (ha 0 (by omega)) (by omega)
  · exact l06Next_9 w c0
  · exact l06Next_10 w c0
  · exact l06Next_11 w c0
  · have l : xs.length = 1 := by have : inN ⟨12, A, B, src⟩ = 1 := rfl; omega
    obtain ⟨ba, oa, rfl, -, ha⟩ := hx.at0 (by omega)
    have l2 := hst (by simp)
    obtain ⟨bs, os, rfl, -, h2⟩ := hs.at0 l2
    exact l06Next_12 w c0 (ha 0 (by omega)) (by omega) (h2 0 (by omega)) (by omega)
  · exact l06Next_13 w c0
  · have l2 := hst (by simp)
    obtain ⟨bs, os, rfl, -, h2⟩ := hs.at0 l2
    exact l06Next_14 w c0 (h2 0 (by omega)) (by omega)
  · exact l06Next_15 w c0
  · exact l06Next_16 w c0
  · have l2 := hst (by simp)
    obtain ⟨bs, os, rfl, -, h2⟩ := hs.at0 l2
    obtain ⟨m, hm⟩ : ∃ m, ss.length = m + 1 := ⟨ss.length - 1, by omega⟩
    rw [hm]
    have hcs' : cs = 1 ∨ ∃ q, cs = q + 1 + 1 := (Nat.lt_or_ge cs 2).elim (fun h => .inl (by omega)) (fun h => .inr ⟨cs - 2, by omega⟩)
    rcases hcs' with rfl | ⟨q, rfl⟩
    · exact l06Next_17_1 w c0 (show RdI w _ (ss.drop 1) from by rw [show ss.drop 1 = [] from List.eq_nil_of_length_eq_zero (by rw [List.length_drop]; omega)]; exact RdI.nil _ _) (by rw [List.length_drop]; omega) (by omega)
    · exact l06Next_17_2 w c0 hs.tail (by rw [List.length_drop]; omega) (by omega)
end Go.Proofs.YtcfhcmgmkhfjjaaGreat

namespace Go.Proofs.YtcfhcmgmkhfjjaaGreat
open Go.ChangeShapes Go.WideShapes Go.ChangeAt Go.RowKit Go.Sort
set_option linter.unusedVariables false

theorem smp_wrap_mul6 (x a s : Int) : smp (wrap64 (x + wrap64 (a * s))) = smp (x + smp (a * s)) := by
  rw [smp_wrap64]
  obtain ⟨k, hk⟩ := smp_mod (a * s)
  rw [hk]
  refine smp_eq ?_
  unfold wrap64
  omega
/-- a fresh list of one number behind the node's box -/
theorem lit6_done {w E0 W : World} (hB0 : Below w.heap.size w E0) (h : Below E0.heap.size E0 W) (y z : Int) (hy : y = z) :
    OwnI w.heap.size (W.alloc (.cells #[.int .i64 y] 2)) (.slice (some ⟨W.heap.size, 0, none⟩) 1 1) [z] ∧ Below w.heap.size w (W.alloc (.cells #[.int .i64 y] 2)) := by
  subst hy
  have h1 := hB0.trans (h.mono hB0.size)
  exact ⟨OwnI.lit (B := w.heap.size) W [y] h1.size (by simp [maxLen]), h1.alloc h1.size _⟩
theorem lit6_done_d {w E0 W : World} (hB0 : Below w.heap.size w E0) (h : Below E0.heap.size E0 W) (y z : Int) (hy : y = z) :
    OwnI w.heap.size (W.alloc (.cells #[.int .i64 y] 2)).drew (.slice (some ⟨W.heap.size, 0, none⟩) 1 1) [z] ∧ Below w.heap.size w (W.alloc (.cells #[.int .i64 y] 2)).drew :=
  ⟨(lit6_done hB0 h y z hy).1.drew, Below.drewR (lit6_done hB0 h y z hy).2⟩
theorem tup6_eq {a b : Int} {u : Value} (h : a = b) : Ending.returned (.tuple #[.int .i64 a, u]) = Ending.returned (.tuple #[.int .i64 b, u]) := by rw [h]
end Go.Proofs.YtcfhcmgmkhfjjaaGreat

namespace Go.Proofs.YtcfhcmgmkhfjjaaGreat
open Go.ChangeShapes Go.WideShapes Go.ChangeAt Go.RowKit Go.Sort
set_option linter.unusedVariables false

theorem smp_wrap_mul (x a s : Int) : smp (wrap64 (x + wrap64 (a * s))) = smp (x + smp (a * s)) := by
  rw [smp_wrap64]
  obtain ⟨k, hk⟩ := smp_mod (a * s)
  rw [hk]
  refine smp_eq ?_
  unfold wrap64
  omega
/-- a fresh list of one number behind the node's box -/
theorem lit_done {w E0 W : World} (hB0 : Below w.heap.size w E0) (h : Below E0.heap.size E0 W) (y z : Int) (hy : y = z) :
    OwnI w.heap.size (W.alloc (.cells #[.int .i64 y] 2)) (.slice (some ⟨W.heap.size, 0, none⟩) 1 1) [z] ∧ Below w.heap.size w (W.alloc (.cells #[.int .i64 y] 2)) := by
  subst hy
  have h1 := hB0.trans (h.mono hB0.size)
  exact ⟨OwnI.lit (B := w.heap.size) W [y] h1.size (by simp [maxLen]), h1.alloc h1.size _⟩
theorem lit_done_d {w E0 W : World} (hB0 : Below w.heap.size w E0) (h : Below E0.heap.size E0 W) (y z : Int) (hy : y = z) :
    OwnI w.heap.size (W.alloc (.cells #[.int .i64 y] 2)).drew (.slice (some ⟨W.heap.size, 0, none⟩) 1 1) [z] ∧ Below w.heap.size w (W.alloc (.cells #[.int .i64 y] 2)).drew :=
  ⟨(lit_done hB0 h y z hy).1.drew, Below.drewR (lit_done hB0 h y z hy).2⟩
theorem smp_wrapI (n : Int) : smp (IntKind.i64.wrap n) = smp n := by rw [IntWalk.i64_left]; exact smp_wrap64 n
theorem tup_eq {a b : Int} {u : Value} (h : a = b) : Ending.returned (.tuple #[.int .i64 a, u]) = Ending.returned (.tuple #[.int .i64 b, u]) := by rw [h]
end Go.Proofs.YtcfhcmgmkhfjjaaGreat

namespace Go.Proofs.YtcfhcmgmkhfjjaaGreat
open Go.ChangeShapes Go.WideShapes Go.ChangeAt Go.RowKit Go.Sort
set_option linter.unusedVariables false

theorem NodeD.ext' {x y : NodeD} (h : x.kind = y.kind ∧ x.a = y.a ∧ x.b = y.b ∧ x.src = y.src) : x = y := by
  obtain ⟨a, b, c, d⟩ := x
  obtain ⟨a', b', c', d'⟩ := y
  obtain ⟨h1, h2, h3, h4⟩ := h
  simp only at h1 h2 h3 h4
  subst h1 h2 h3 h4
  rfl
instance : DecidableEq NodeD := fun x y =>
  if h : x.kind = y.kind ∧ x.a = y.a ∧ x.b = y.b ∧ x.src = y.src then isTrue (NodeD.ext' h)
  else isFalse fun e => h (by subst e; exact ⟨rfl, rfl, rfl, rfl⟩)
theorem node_eq (x y : NodeD) (b1 b2 b3 b4 : Bool) (h1 : (x.kind == y.kind) = b1) (h2 : (x.a == y.a) = b2) (h3 : (x.b == y.b) = b3) (h4 : decide (x.src = y.src) = b4) : decide (x = y) = (b1 && (b2 && (b3 && b4))) := by
  subst h1 h2 h3 h4
  rw [Bool.eq_iff_iff, decide_eq_true_iff]
  simp only [Bool.and_eq_true, beq_iff_eq, decide_eq_true_iff]
  exact ⟨fun e => by subst e; exact ⟨rfl, rfl, rfl, rfl⟩, fun ⟨a, b, c, d⟩ => NodeD.ext' ⟨a, b, c, d⟩⟩
/-- two patches are the same -/
def pEq (x y : PatchD) : Bool := decide (x.inputs = y.inputs) && (decide (x.tables = y.tables) && (decide (x.outputs = y.outputs) && decide (x.nodes = y.nodes)))
set_option maxHeartbeats 800000 in
theorem sameNode_v {v v' : Value} {x y : NodeD} (w : World) (h : VNode w v x) (h' : VNode w v' y) :
    Calls Tryz.prog 97 #[v, v'] w fun e w' => e = .returned (.bool (decide (x = y))) ∧ Below w.heap.size w w' := by
  obtain ⟨p3, c3, rfl, r3⟩ := h
  obtain ⟨q3, d3, rfl, s3⟩ := h'
  have hB0 : Below w.heap.size w ((w.alloc (.cells #[.int .i64 x.kind, .int .i64 x.a, .int .i64 x.b, .slice p3 x.src.length c3] 55)).alloc (.cells #[.int .i64 y.kind, .int .i64 y.a, .int .i64 y.b, .slice q3 y.src.length d3] 55)) := ((Below.refl _ _).alloc (Nat.le_refl _) _).alloc (by simp) _
  have SM := Lib.hid (same_any (c := c3) (d := d3) _ (r3.below hB0) (s3.below hB0))
  have HR := Lib.hid (node_eq x y)
  generalize decide (x = y) = R at HR ⊢
  cases e1 : (x.kind == y.kind)
  case false =>
    obtain rfl := HR.out _ _ _ _ e1 rfl rfl rfl
    go_enter Tryz.func97, Tryz.ntmps97
    go_wp2_with fail
    go_ret
    exact ⟨rfl, hB0⟩
  cases e2 : (x.a == y.a)
  case false =>
    obtain rfl := HR.out _ _ _ _ e1 e2 rfl rfl
    go_enter Tryz.func97, Tryz.ntmps97
    go_wp2_with fail
    go_ret
    exact ⟨rfl, hB0⟩
  cases e3 : (x.b == y.b)
  case false =>
    obtain rfl := HR.out _ _ _ _ e1 e2 e3 rfl
    go_enter Tryz.func97, Tryz.ntmps97
    go_wp2_with fail
    go_ret
    exact ⟨rfl, hB0⟩
  obtain rfl := HR.out _ _ _ _ e1 e2 e3 rfl
  go_enter Tryz.func97, Tryz.ntmps97
  go_wp2_with (go_at_call 117; refine SM.out.mono ?_; rintro e w' ⟨rfl, rfl⟩)
  go_ret
  exact ⟨rfl, hB0⟩
set_option maxHeartbeats 1600000 in
theorem l07SameNode_any {b o b' o' : Nat} {x y : NodeD} (w : World) (h : PNode w b o x) (h' : PNode w b' o' y) :
    Calls Tryz.prog 114 #[.pointer (some ⟨b, o, none⟩), .pointer (some ⟨b', o', none⟩)] w fun e w' => e = .returned (.bool (decide (x = y))) ∧ Drawn w w' := by
  obtain ⟨z0, z1, z2, q, d, z3, hr⟩ := h
  obtain ⟨y0, y1, y2, q', d', y3, hr'⟩ := h'
  have HR := Lib.hid (node_eq x y)
  have HN : Hid (∀ m, Calls Tryz.prog 127 #[.slice q x.src.length d, .slice q' y.src.length d'] (w.drewN m) fun e w' => e = .returned (.bool (decide (x.src = y.src))) ∧ ∃ j, w' = (w.drewN m).drewN j) := fun m => l00Same_any (c := d) (d := d') _ (hr.drewN m) (hr'.drewN m)
  clear hr hr'
  generalize decide (x = y) = R at HR ⊢
  cases e1 : (x.kind == y.kind)
  case false =>
    obtain rfl := HR.out _ _ _ _ e1 rfl rfl rfl
    go_enter Tryz.func114, Tryz.ntmps114
    go_wp2_with fail
    go_quiet (fail)
    go_wp2_with fail
    go_ret
    exact ⟨rfl, (Drawn.refl w).on _⟩
  cases e2 : (x.a == y.a)
  case false =>
    obtain rfl := HR.out _ _ _ _ e1 e2 rfl rfl
    go_enter Tryz.func114, Tryz.ntmps114
    go_wp2_with fail
    go_quiet (fail)
    go_wp2_with fail
    go_ret
    exact ⟨rfl, (Drawn.refl w).on _⟩
  cases e3 : (x.b == y.b)
  case false =>
    obtain rfl := HR.out _ _ _ _ e1 e2 e3 rfl
    go_enter Tryz.func114, Tryz.ntmps114
    go_wp2_with fail
    go_quiet (fail)
    go_wp2_with fail
    go_ret
    exact ⟨rfl, (Drawn.refl w).on _⟩
  obtain rfl := HR.out _ _ _ _ e1 e2 e3 rfl
  go_enter Tryz.func114, Tryz.ntmps114
  go_wp2_with fail
  go_quiet ((go_at_call 127; exact Calls.quiet_of (HN.out _)))
  go_wp2_with fail
  go_ret
  exact ⟨rfl, (Drawn.refl w).on _⟩
end Go.Proofs.YtcfhcmgmkhfjjaaGreat
