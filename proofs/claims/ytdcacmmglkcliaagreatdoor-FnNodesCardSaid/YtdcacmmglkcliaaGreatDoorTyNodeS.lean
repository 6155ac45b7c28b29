/-
  Slices of nodes: how they lie in memory; contracts of the laws' helpers for them.
-/
import Derived.Test.YtdcacmmglkcliaaGreatDoorPNode
import Derived.Lib.QuietBelow
namespace Go.Proofs.YtdcacmmglkcliaaGreatDoor
open Go.ChangeShapes Go.WideShapes Go.ChangeAt Go.RowKit Go.Sort
set_option linter.unusedVariables false

/-- the slice of nodes at p reads xs -/
structure RdNodeS (w : World) (p : Option Addr) (xs : List NodeD) : Prop where
  len : xs.length ≤ maxLen
  cells : xs = [] ∨ ∃ b o, p = some ⟨b, o, none⟩ ∧ ∀ i, (h : i < xs.length) → PNode w b (o + i * 4) xs[i]
theorem RdNodeS.pos {w : World} {p : Option Addr} {xs : List NodeD} (h : RdNodeS w p xs) {k : Nat} (hk : k < xs.length) :
    ∃ b o, p = some ⟨b, o, none⟩ ∧ b < w.heap.size ∧ ∀ i, (h : i < xs.length) → PNode w b (o + i * 4) xs[i] := by
  rcases h.cells with rfl | ⟨b, o, e, hc⟩
  · simp at hk
  · exact ⟨b, o, e, (hc k hk).lt, hc⟩
theorem RdNodeS.nil (w : World) (p : Option Addr) : RdNodeS w p [] := ⟨by simp [maxLen], .inl rfl⟩
theorem RdNodeS.below {w w' : World} {p : Option Addr} {xs : List NodeD} (h : RdNodeS w p xs) (hb : Below w.heap.size w w') : RdNodeS w' p xs := by
  refine ⟨h.len, ?_⟩
  rcases h.cells with rfl | ⟨b, o, e, hc⟩
  · exact .inl rfl
  · exact .inr ⟨b, o, e, fun i hi => (hc i hi).below hb⟩
def VNodeS (w : World) (v : Value) (xs : List NodeD) : Prop := ∃ p c, v = .slice p xs.length c ∧ RdNodeS w p xs
theorem VNodeS.below {w w' : World} {v : Value} {xs : List NodeD} (h : VNodeS w v xs) (hb : Below w.heap.size w w') : VNodeS w' v xs := by
  obtain ⟨p, c, rfl, hr⟩ := h
  exact ⟨p, c, rfl, hr.below hb⟩
/-- the cells of nodes, the values L in the place of their slices -/
def nodeCells : List NodeD → List Value → List Value
  | x :: xs, u :: us => .int .i64 x.kind :: .int .i64 x.a :: .int .i64 x.b :: u :: nodeCells xs us
  | _, _ => []
theorem nodeCells_length : ∀ (xs : List NodeD) (L : List Value), L.length = xs.length → (nodeCells xs L).length = xs.length * 4
  | [], L, h => by rw [nodeCells]; simp; intros; simp_all
  | x :: xs, [], h => by simp at h
  | x :: xs, u :: us, h => by
    rw [nodeCells]
    simp only [List.length_cons] at h ⊢
    rw [nodeCells_length xs us (by omega)]
    omega
theorem nodeCells_get : ∀ (xs : List NodeD) (L : List Value) (i : Nat) (h : i < xs.length) (hL : i < L.length),
    (nodeCells xs L)[i * 4]? = some (.int .i64 xs[i].kind) ∧ (nodeCells xs L)[i * 4 + 1]? = some (.int .i64 xs[i].a) ∧ (nodeCells xs L)[i * 4 + 2]? = some (.int .i64 xs[i].b) ∧ (nodeCells xs L)[i * 4 + 3]? = some L[i]
  | [], _, i, h, _ => by simp at h
  | _ :: _, [], i, _, h => by simp at h
  | x :: xs, u :: us, 0, _, _ => ⟨rfl, rfl, rfl, rfl⟩
  | x :: xs, u :: us, i + 1, h, hL => by
    have := nodeCells_get xs us i (by simpa using h) (by simpa using hL)
    rw [nodeCells, show (i + 1) * 4 = i * 4 + 1 + 1 + 1 + 1 by omega]
    simpa using this
theorem nodeCells_append : ∀ (xs ys : List NodeD) (L M : List Value), L.length = xs.length → nodeCells (xs ++ ys) (L ++ M) = nodeCells xs L ++ nodeCells ys M
  | [], ys, L, M, h => by
    have : L = [] := List.eq_nil_of_length_eq_zero h
    subst this
    simp [nodeCells]
  | x :: xs, ys, [], M, h => by simp at h
  | x :: xs, ys, u :: us, M, h => by
    rw [List.cons_append, List.cons_append, nodeCells, nodeCells, nodeCells_append xs ys us M (by simpa using h)]
    rfl
/-- an outer row of nodes of its own, the values L in the place of their slices -/
def OwnN (B : Nat) (w : World) (v : Value) (xs : List NodeD) (L : List Value) : Prop := L.length = xs.length ∧ w.ownsRow B 26 4 v xs.length (nodeCells xs L)
theorem OwnN.lt {B : Nat} {w : World} {v : Value} {xs : List NodeD} {L : List Value} (h : OwnN B w v xs L) {k : Nat} (hk : v.ownBlock = some k) : B ≤ k ∧ k < w.heap.size := World.ownsRow.lt h.2 k hk
theorem OwnN.keep {B : Nat} {w w' : World} {v : Value} {xs : List NodeD} {L : List Value} (h : OwnN B w v xs L) (hk : ∀ k, v.ownBlock = some k → w'.heap[k]? = w.heap[k]?) : OwnN B w' v xs L := by
  refine ⟨h.1, h.2.1, ?_⟩
  rcases h.2.2 with hn | ⟨g, cap, cur, rfl, hb, hgg, rest⟩
  · exact .inl hn
  · exact .inr ⟨g, cap, cur, rfl, hb, (hk g rfl).trans hgg, rest⟩
theorem OwnN.below {B : Nat} {w w' : World} {v : Value} {xs : List NodeD} {L : List Value} (h : OwnN B w v xs L) (hb : Below w.heap.size w w') : OwnN B w' v xs L := h.keep fun k hk => hb.block k (h.lt hk).2
theorem OwnN.mono {B B' : Nat} {w : World} {v : Value} {xs : List NodeD} {L : List Value} (h : OwnN B w v xs L) (hB : B' ≤ B) : OwnN B' w v xs L := by
  refine ⟨h.1, h.2.1, ?_⟩
  rcases h.2.2 with h2 | ⟨g, cap, cur, hv, hb, r⟩
  · exact .inl h2
  · exact .inr ⟨g, cap, cur, hv, Nat.le_trans hB hb, r⟩
theorem OwnN.node {B : Nat} {w : World} {v : Value} {xs : List NodeD} {L : List Value} (h : OwnN B w v xs L) {k : Nat} (hk : v.ownBlock = some k) : ∃ cur, w.heap[k]? = some (.cells cur 26 (0, 0)) := by
  rcases h.2.2 with ⟨hn, _⟩ | ⟨g, cap, cur, hv, _, hg, _⟩
  · rw [hn] at hk; simp [Value.ownBlock] at hk
  · rw [hv] at hk
    simp only [Value.ownBlock, Option.some.injEq] at hk
    subst hk
    exact ⟨cur, hg⟩
theorem OwnN.cases {B : Nat} {w : World} {v : Value} {xs : List NodeD} {L : List Value} (h : OwnN B w v xs L) :
    (v = .slice none 0 0 ∧ xs = [] ∧ L = []) ∨ ∃ g cap, v = .slice (some ⟨g, 0, none⟩) xs.length cap ∧ B ≤ g ∧ g < w.heap.size ∧ xs.length ≤ maxLen ∧
      (∀ i, (hi : i < xs.length) → (hL : i < L.length) → w.cell? ⟨g, i * 4, none⟩ = some (.int .i64 xs[i].kind) ∧ w.cell? ⟨g, i * 4 + 1, none⟩ = some (.int .i64 xs[i].a) ∧ w.cell? ⟨g, i * 4 + 2, none⟩ = some (.int .i64 xs[i].b) ∧ w.cell? ⟨g, i * 4 + 3, none⟩ = some L[i]) := by
  obtain ⟨hl, h⟩ := h
  rcases h.2 with ⟨h1, h2⟩ | ⟨g, cap, cur, hv, hB, hg, hn, hm, hs, ht⟩
  · have e : xs = [] := List.eq_nil_of_length_eq_zero h2
    subst e
    exact .inl ⟨h1, rfl, List.eq_nil_of_length_eq_zero hl⟩
  · refine .inr ⟨g, cap, hv, hB, (Array.getElem?_eq_some_iff.1 hg).1, by omega, fun i hi hL => ?_⟩
    have hh : w.ownsRow B 26 4 (.slice (some ⟨g, 0, none⟩) xs.length cap) xs.length (nodeCells xs L) := by rw [← hv]; exact h
    obtain ⟨c0, c1, c2, c3⟩ := nodeCells_get xs L i hi hL
    exact ⟨(hh.cellAt _ (by omega)).trans c0, (hh.cellAt _ (by omega)).trans c1, (hh.cellAt _ (by omega)).trans c2, (hh.cellAt _ (by omega)).trans c3⟩
theorem OwnN.nil (B : Nat) (w : World) : OwnN B w (.slice none 0 0) [] [] := ⟨rfl, World.ownsRow_nil w B _ 4⟩
/-- a slice of nodes of its own; M: the row itself, and the slices of its nodes -/
def OwnNodeS (B : Nat) (w : World) (v : Value) (xs : List NodeD) (M : List Value) : Prop := ∃ L, M = v :: L ∧ OwnN B w v xs L ∧ OwnIs B w L (xs.map NodeD.src) ∧ Dis L
theorem OwnNodeS.blk {B : Nat} {w : World} {v : Value} {xs : List NodeD} {M : List Value} (h : OwnNodeS B w v xs M) {b : Nat} (hb : Blk M b) : B ≤ b ∧ b < w.heap.size := by
  obtain ⟨L, rfl, ho, hs, hd⟩ := h
  obtain ⟨u, hu, hb⟩ := hb
  rcases List.mem_cons.1 hu with rfl | hu
  · exact ho.lt hb
  · exact ⟨(hs.blk ⟨u, hu, hb⟩).1, (hs.blk ⟨u, hu, hb⟩).2.1⟩
theorem OwnN.off {B B' : Nat} {w : World} {v : Value} {xs : List NodeD} {L M : List Value} {xss : List (List Int)} (h : OwnN B w v xs L) (hs : OwnIs B' w M xss) {k : Nat} (hk : v.ownBlock = some k) : ¬ Blk M k := by
  intro hb
  obtain ⟨_, _, cur, hg⟩ := hs.blk hb
  obtain ⟨cur', hg'⟩ := h.node hk
  rw [hg] at hg'
  simp only [Option.some.injEq, Obj.cells.injEq] at hg'
  exact absurd hg'.2.1 (by decide)
theorem OwnNodeS.dis {B : Nat} {w : World} {v : Value} {xs : List NodeD} {M : List Value} (h : OwnNodeS B w v xs M) : Dis M := by
  obtain ⟨L, rfl, ho, hs, hd⟩ := h
  refine List.pairwise_cons.2 ⟨fun u hu b hb hb' => ho.off hs hb ⟨u, hu, hb'⟩, hd⟩
theorem OwnNodeS.rd {B : Nat} {w : World} {v : Value} {xs : List NodeD} {M : List Value} (h : OwnNodeS B w v xs M) : VNodeS w v xs := by
  obtain ⟨L, rfl, ho, hs, hd⟩ := h
  rcases ho.cases with ⟨rfl, rfl, rfl⟩ | ⟨g, cap, rfl, hB, hg, hm, hc⟩
  · exact ⟨none, 0, rfl, RdNodeS.nil _ _⟩
  · refine ⟨_, cap, rfl, hm, .inr ⟨g, 0, rfl, fun i hi => ?_⟩⟩
    have hL : i < L.length := by rw [ho.1]; exact hi
    obtain ⟨c0, c1, c2, c3⟩ := hc i hi hL
    obtain ⟨hL', hu⟩ := hs.at_ (i := i) (by simpa using hi)
    obtain ⟨q, d, e, hr⟩ := hu.rd
    rw [List.getElem_map] at e hr
    rw [Nat.zero_add]
    exact ⟨c0, c1, c2, q, d, by rw [c3, e], hr⟩
theorem OwnNodeS.mono {B B' : Nat} {w : World} {v : Value} {xs : List NodeD} {M : List Value} (h : OwnNodeS B w v xs M) (hB : B' ≤ B) : OwnNodeS B' w v xs M := by
  obtain ⟨L, rfl, ho, hs, hd⟩ := h
  exact ⟨L, rfl, ho.mono hB, hs.mono hB, hd⟩
theorem OwnNodeS.keeps {B : Nat} {w w' : World} {v : Value} {xs : List NodeD} {M : List Value} (h : OwnNodeS B w v xs M) (hk : ∀ k, B ≤ k → k < w.heap.size → w'.heap[k]? = w.heap[k]?) : OwnNodeS B w' v xs M := by
  obtain ⟨L, rfl, ho, hs, hd⟩ := h
  exact ⟨L, rfl, ho.keep fun k hb => hk k (ho.lt hb).1 (ho.lt hb).2, hs.keep fun k hb => hk k (hs.blk hb).1 (hs.blk hb).2.1, hd⟩
theorem OwnNodeS.below {B : Nat} {w w' : World} {v : Value} {xs : List NodeD} {M : List Value} (h : OwnNodeS B w v xs M) (hb : Below w.heap.size w w') : OwnNodeS B w' v xs M := h.keeps fun k _ hk => hb.block k hk
theorem OwnNodeS.offBlk {B : Nat} {w w' : World} {v : Value} {xs : List NodeD} {M M' : List Value} (h : OwnNodeS B w v xs M) (_hi : IntBlks w M') (hd : ∀ b, Blk M b → ¬ Blk M' b) (hf : Off (Blk M') w w') : OwnNodeS B w' v xs M := by
  have hb := fun b (hb : Blk M b) => h.blk hb
  obtain ⟨L, rfl, ho, hs, hds⟩ := h
  exact ⟨L, rfl, ho.keep fun k hk => hf.block k (ho.lt hk).2 (hd k ⟨v, List.mem_cons_self .., hk⟩),
    hs.keep fun k hk => hf.block k (hs.blk hk).2.1 (hd k (by obtain ⟨u, hu, hb⟩ := hk; exact ⟨u, List.mem_cons_of_mem _ hu, hb⟩)), hds⟩
theorem OwnNodeS.ints {B : Nat} {w : World} {v : Value} {xs : List NodeD} {M : List Value} (h : OwnNodeS B w v xs M) : IntBlks w M := by
  obtain ⟨L, rfl, ho, hs, hd⟩ := h
  rintro b ⟨u, hu, hb⟩
  rcases List.mem_cons.1 hu with rfl | hu
  · obtain ⟨cur, hg⟩ := ho.node hb
    exact ⟨cur, _, hg, .inr (.inl rfl)⟩
  · obtain ⟨_, _, cur, hg⟩ := hs.blk ⟨u, hu, hb⟩
    exact ⟨cur, _, hg, .inl rfl⟩
/-- sizes and marks -/
def wtNodeS (xs : List NodeD) : Nat := xs.length + lens (xs.map NodeD.src)
def cntNodeS (xs : List NodeD) : Nat := 3 * xs.length + lens (xs.map NodeD.src)
theorem cntNodeS_le (xs : List NodeD) : cntNodeS xs ≤ 6 * wtNodeS xs := by unfold cntNodeS wtNodeS; omega
def markNodeS (m : Int) : List NodeD → List NodeD
  | [] => []
  | x :: xs => ⟨m, m + 1, m + 1 + 1, markI (m + 1 + 1 + 1) x.src⟩ :: markNodeS (m + 1 + 1 + 1 + x.src.length) xs
theorem markNodeS_length : ∀ (xs : List NodeD) (m : Int), (markNodeS m xs).length = xs.length
  | [], _ => rfl
  | x :: xs, m => by rw [markNodeS, List.length_cons, List.length_cons, markNodeS_length xs]
theorem lens_nodes (xs : List NodeD) {k : Nat} (h : k < xs.length) : lens ((xs.take (k + 1)).map NodeD.src) = lens ((xs.take k).map NodeD.src) + xs[k].src.length := by
  have := lens_take_succ (xs.map NodeD.src) k (by simpa using h)
  rw [← List.map_take, ← List.map_take, List.getElem_map] at this
  exact this
theorem lens_nodes_le (xs : List NodeD) (k : Nat) : lens ((xs.take k).map NodeD.src) ≤ lens (xs.map NodeD.src) := by
  have := lens_take_le (xs.map NodeD.src) k
  rwa [← List.map_take] at this
theorem infoN : (Tryz.prog.info? 26).map (fun i => (i.zero, i.size, i.bytes)) = some (some (.agg #[.int .i64 0, .int .i64 0, .int .i64 0, .slice none 0 0]), 4, 48) := by kernel_rfl
def zNode : NodeD := ⟨0, 0, 0, []⟩
theorem nodeCells_put : ∀ (xs : List NodeD) (L : List Value) (k : Nat) (y : NodeD) (u : Value), k < xs.length → L.length = xs.length →
    ((((nodeCells xs L).set (k * 4) (.int .i64 y.kind)).set (k * 4 + 1) (.int .i64 y.a)).set (k * 4 + 2) (.int .i64 y.b)).set (k * 4 + 3) u = nodeCells (xs.set k y) (L.set k u)
  | [], _, k, _, _, h, _ => by simp at h
  | _ :: _, [], _, _, _, _, h => by simp at h
  | x :: xs, v :: us, 0, y, u, _, _ => rfl
  | x :: xs, v :: us, k + 1, y, u, h, hL => by
    have := nodeCells_put xs us k y u (by simpa using h) (by simpa using hL)
    rw [nodeCells, show (k + 1) * 4 = k * 4 + 1 + 1 + 1 + 1 by omega]
    simp only [List.set_cons_succ, nodeCells]
    rw [this]
theorem madeNodes : ∀ n : Nat, (madeCells #[.int .i64 0, .int .i64 0, .int .i64 0, .slice none 0 0] (n * 4)).toList = nodeCells (List.replicate n zNode) (List.replicate n (.slice none 0 0)) := by
  intro n
  refine List.ext_getElem (by rw [nodeCells_length _ _ (by simp)]; simp [madeCells]) fun i h1 h2 => ?_
  have hi : i < n * 4 := by simpa [madeCells] using h1
  obtain ⟨q, r, hr, rfl⟩ : ∃ q r, r < 4 ∧ i = q * 4 + r := ⟨i / 4, i % 4, Nat.mod_lt _ (by omega), by omega⟩
  have hq : q < n := by omega
  obtain ⟨c0, c1, c2, c3⟩ := nodeCells_get (List.replicate n zNode) (List.replicate n (.slice none 0 0)) q (by simpa using hq) (by simpa using hq)
  have hm : (q * 4 + r) % 4 = r := by omega
  rw [← Option.some_inj, ← List.getElem?_eq_getElem h2]
  rcases (show r = 0 ∨ r = 1 ∨ r = 2 ∨ r = 3 by omega) with rfl | rfl | rfl | rfl
  · refine Eq.trans ?_ c0.symm; simp [madeCells, zNode]
  · refine Eq.trans ?_ c1.symm; simp [madeCells, zNode, hm]
  · refine Eq.trans ?_ c2.symm; simp [madeCells, zNode, hm]
  · refine Eq.trans ?_ c3.symm; simp [madeCells, hm]
theorem run_make_nodes (n : Nat) (hn : n ≤ 1048576) (w : World) :
    (Instr.makeSlice 44 (.int .i64 (n : Int)) (.int .i64 (n : Int))).run Tryz.prog w = .ok (.slice (some ⟨w.heap.size, 0, none⟩) n n) (w.alloc (.cells (madeCells #[.int .i64 0, .int .i64 0, .int .i64 0, .slice none 0 0] (n * 4)) 26)) := by
  obtain ⟨i, hi, hz0, hz1, hz2⟩ := info_parts infoN
  have hr := run_make (P := Tryz.prog) w 44 26 i _ Tryz.underlying44 hi hz0 .i64 .i64 n n (by omega) (Int.le_refl _) (by rw [hz2]; omega) (by omega)
  simp only [Int.toNat_natCast, hz1] at hr
  exact hr
theorem OwnN.made {B : Nat} (w : World) (n : Nat) (hB : B ≤ w.heap.size) (hn : n ≤ 1048576) : OwnN B (w.alloc (.cells (madeCells #[.int .i64 0, .int .i64 0, .int .i64 0, .slice none 0 0] (n * 4)) 26)) (.slice (some ⟨w.heap.size, 0, none⟩) n n) (List.replicate n zNode) (List.replicate n (.slice none 0 0)) := by
  have h := World.ownsRow_lit (base := B) (e := 26) (size := 4) w (madeCells #[.int .i64 0, .int .i64 0, .int .i64 0, .slice none 0 0] (n * 4)) n hB (by unfold maxLen; omega) (by rw [size_madeCells])
  rw [madeNodes] at h
  exact ⟨by simp, by simpa using h⟩
theorem OwnN.storing {B : Nat} {w : World} {g n cap : Nat} {xs : List NodeD} {L : List Value} (h : OwnN B w (.slice (some ⟨g, 0, none⟩) n cap) xs L) {k : Nat} (hk : k < xs.length) :
    n = xs.length ∧ B ≤ g ∧ g < w.heap.size ∧ (∃ u0 u1 u2 u3, w.cell? ⟨g, k * 4, none⟩ = some u0 ∧ w.cell? ⟨g, k * 4 + 1, none⟩ = some u1 ∧ w.cell? ⟨g, k * 4 + 2, none⟩ = some u2 ∧ w.cell? ⟨g, k * 4 + 3, none⟩ = some u3) ∧ (∀ j, w.frozen? ⟨g, j, none⟩ = false) ∧
      ∀ (y : NodeD) u, OwnN B ((((w.setCell ⟨g, k * 4, none⟩ (.int .i64 y.kind)).setCell ⟨g, k * 4 + 1, none⟩ (.int .i64 y.a)).setCell ⟨g, k * 4 + 2, none⟩ (.int .i64 y.b)).setCell ⟨g, k * 4 + 3, none⟩ u) (.slice (some ⟨g, 0, none⟩) n cap) (xs.set k y) (L.set k u) := by
  have hl := h.lt (k := g) rfl
  rcases h.cases with ⟨h1, _⟩ | ⟨g', cap', h1, hB, hlt, _, hc⟩
  · simp at h1
  · simp only [Value.slice.injEq, Option.some.injEq, Addr.mk.injEq, and_true] at h1
    obtain ⟨rfl, rfl, rfl⟩ := h1
    obtain ⟨c0, c1, c2, c3⟩ := hc k hk (by rw [h.1]; exact hk)
    refine ⟨rfl, hl.1, hl.2, ⟨_, _, _, _, c0, c1, c2, c3⟩, fun j => World.ownsRow.frozenAt h.2 j, fun y u => ⟨by simp [h.1], ?_⟩⟩
    have h0 := (World.ownsRow.stored h.2 (k * 4) (.int .i64 y.kind)).1
    have h1 := (World.ownsRow.stored h0 (k * 4 + 1) (.int .i64 y.a)).1
    have h2 := (World.ownsRow.stored h1 (k * 4 + 2) (.int .i64 y.b)).1
    have h3 := (World.ownsRow.stored h2 (k * 4 + 3) u).1
    rw [nodeCells_put _ _ _ _ _ hk h.1] at h3
    simpa using h3
set_option maxHeartbeats 1600000 in
theorem eqNodeS_v {v v' : Value} {xs : List NodeD} (w : World) (h : VNodeS w v xs) (h' : VNodeS w v' xs) :
    Calls Tryz.prog 55 #[v, v'] w fun e w' => e = .returned (.bool true) ∧ Below w.heap.size w w' := by
  obtain ⟨p, c, rfl, h⟩ := h
  obtain ⟨p', c', rfl, h'⟩ := h'
  have hl := h.len
  unfold maxLen at hl
  go_enter Tryz.func55, Tryz.ntmps55
  go_wp2_with fail
  go_loopw [5] (fun i wr => ∃ k : Nat, k ≤ xs.length ∧ i = .int .i64 k ∧ Below w.heap.size w wr) (fun i _ => xs.length - (intOf i).toNat)
  case atStart => exact ⟨0, Nat.zero_le _, rfl, Below.refl _ _⟩
  case round =>
    obtain ⟨k, hk, rfl, hbel⟩ := hrel
    obtain ⟨wi, rfl⟩ : ∃ wi : World, wi = wr := ⟨_, rfl⟩
    by_cases hlt : k < xs.length
    · obtain ⟨b, o, rfl, hb, hc⟩ := (h.below hbel).pos hlt
      obtain ⟨b', o', rfl, hb', hc'⟩ := (h'.below hbel).pos hlt
      obtain ⟨z0, z1, z2, q, d, z3, hr⟩ := hc k hlt
      obtain ⟨y0, y1, y2, q', d', y3, hr'⟩ := hc' k hlt
      generalize xs[k] = x at z0 z1 z2 z3 hr y0 y1 y2 y3 hr'
      have r0 := cell_regrown z0
      have r1 := cell_regrown z1
      have r2 := cell_regrown z2
      have r3 := cell_regrown z3
      have s0 := cell_regrown y0
      have s1 := cell_regrown y1
      have s2 := cell_regrown y2
      have s3 := cell_regrown y3
      have K1 : Hid (∀ n os, Calls Tryz.prog 100 #[.agg #[.int .i64 x.kind, .int .i64 x.a, .int .i64 x.b, .slice q x.src.length d], .agg #[.int .i64 x.kind, .int .i64 x.a, .int .i64 x.b, .slice q' x.src.length d']] (grow (redrawn wi n) os) fun e w'' => e = .returned (.bool true) ∧ ∃ p : Regrown, w'' = grow (redrawn wi p.d) p.os) := fun n os => Calls.regrown_of (eqNode_v (x := x) _ ⟨q, d, rfl, hr.below (below_regrown wi n os)⟩ ⟨q', d', rfl, hr'.below (below_regrown wi n os)⟩)
      clear hc hc' hr hr' z0 z1 z2 z3 y0 y1 y2 y3
      go_wp2_with fail
      refine wp_region_quiet_below (by kernel_rfl) (by kernel_rfl) ?_
      repeat (first | go_big_quiet_step ((go_at_call 100; exact K1.out _ _)) | quiet_step ((go_at_call 100; exact K1.out _ _)))
      refine wpQuiet_nil ?_
      intro _ hw'
      obtain ⟨⟨dq, osq⟩, hw''⟩ := hw'
      subst hw''
      have hq := hbel.trans ((below_regrown wi dq osq).mono hbel.size)
      generalize grow (redrawn wi dq) osq = F at hq ⊢
      go_wp2_with fail
      go_roundw
      case rel => exact ⟨k + 1, by omega, by go_num, hq⟩
      case measure => simp [intOf] <;> omega
    · obtain rfl : k = xs.length := by omega
      go_wp2_with fail
      go_ret
      exact ⟨rfl, hbel⟩
def mix {α : Type} (A B : List α) (k : Nat) : List α := A.take k ++ B.drop k
theorem mix_length {α : Type} {A B : List α} (h : A.length = B.length) {k : Nat} (hk : k ≤ B.length) : (mix A B k).length = B.length := by
  unfold mix; rw [List.length_append, List.length_take, List.length_drop]; omega
theorem mix_get {α : Type} {A B : List α} (h : A.length = B.length) {k : Nat} (hk : k < B.length) : (mix A B k)[k]'(by rw [mix_length h (by omega)]; exact hk) = B[k] := by
  unfold mix
  rw [List.getElem_append_right (by rw [List.length_take]; omega)]
  simp only [List.length_take, List.getElem_drop]
  congr 1; omega
theorem mix_succ {α : Type} {A B : List α} (h : A.length = B.length) {k : Nat} (hk : k < B.length) : mix A B (k + 1) = (mix A B k).set k (A[k]'(by omega)) := by
  unfold mix
  rw [List.set_append_right _ _ (by rw [List.length_take]; omega), List.length_take, show k - min k A.length = 0 by omega, List.drop_eq_getElem_cons hk, List.set_cons_zero, List.take_succ_eq_append_getElem (by omega), List.append_assoc]
  rfl
theorem mix_zero {α : Type} (A B : List α) : mix A B 0 = B := by simp [mix]
theorem mix_all {α : Type} {A B : List α} (h : A.length = B.length) : mix A B B.length = A := by
  unfold mix; rw [List.drop_length, List.append_nil, ← h, List.take_length]
theorem OwnIs.set {B : Nat} {w w1 : World} {L : List Value} {xss : List (List Int)} (h : OwnIs B w L xss) (hd : Dis L) {k : Nat} (hk : k < L.length) {ys : List Int} (hu : OwnI B w1 L[k] ys) (hf : Off (fun b => L[k].ownBlock = some b) w w1) : OwnIs B w1 L (xss.set k ys) := by
  refine ⟨by rw [List.length_set]; exact h.1, fun i hi => ?_⟩
  have hi' : i < xss.length := by rw [List.length_set] at hi; exact hi
  have hiL : i < L.length := by rw [h.1]; exact hi'
  refine ⟨L[i], List.getElem?_eq_getElem hiL, ?_⟩
  rw [List.getElem_set]
  by_cases e : k = i
  · subst e; rw [if_pos rfl]; exact hu
  · rw [if_neg e]
    obtain ⟨_, ho⟩ := h.at_ hi'
    exact ho.keep fun j hj => hf.block j (ho.lt hj).2 fun hk' => hd.at_ hk hiL e hk' hj
theorem cntNodeS_succ (xs : List NodeD) {k : Nat} (h : k < xs.length) : cntNodeS (xs.take (k + 1)) = cntNodeS (xs.take k) + 3 + xs[k].src.length := by
  have := lens_nodes xs h
  unfold cntNodeS
  rw [this, List.length_take, List.length_take]; omega
theorem cntNodeS_take (xs : List NodeD) (k : Nat) : cntNodeS (xs.take k) ≤ cntNodeS xs := by
  have := lens_nodes_le xs k
  unfold cntNodeS
  rw [List.length_take]; omega
theorem markNodeS_get : ∀ (xs : List NodeD) (m : Int) (k : Nat) (h : k < xs.length) (h' : k < (markNodeS m xs).length) (t : Int), t = m + cntNodeS (xs.take k) →
    (markNodeS m xs)[k] = ⟨t, t + 1, t + 1 + 1, markI (t + 1 + 1 + 1) xs[k].src⟩
  | [], _, _, h, _, _, _ => by simp at h
  | x :: xs, m, 0, _, _, t, ht => by
    have : t = m := by rw [ht]; simp [cntNodeS, lens]
    subst this
    rfl
  | x :: xs, m, k + 1, h, h', t, ht => by
    have h2 : k < xs.length := by simpa using h
    have := markNodeS_get xs (m + 1 + 1 + 1 + x.src.length) k h2 (by rw [markNodeS_length]; exact h2) t (by
      rw [ht, List.take_succ_cons]
      simp only [cntNodeS, List.length_cons, List.map_cons, lens_cons]
      simp only [Int.natCast_add, Int.natCast_mul]
      omega)
    simpa [markNodeS] using this
theorem nodeCells_put3 : ∀ (xs : List NodeD) (L : List Value) (k : Nat) (y : NodeD), k < xs.length → L.length = xs.length →
    (((nodeCells xs L).set (k * 4) (.int .i64 y.kind)).set (k * 4 + 1) (.int .i64 y.a)).set (k * 4 + 2) (.int .i64 y.b) = nodeCells (xs.set k y) L
  | [], _, k, _, h, _ => by simp at h
  | _ :: _, [], _, _, _, h => by simp at h
  | x :: xs, v :: us, 0, y, _, _ => rfl
  | x :: xs, v :: us, k + 1, y, h, hL => by
    have := nodeCells_put3 xs us k y (by simpa using h) (by simpa using hL)
    rw [nodeCells, show (k + 1) * 4 = k * 4 + 1 + 1 + 1 + 1 by omega]
    simp only [List.set_cons_succ, nodeCells]
    rw [this]
theorem OwnN.marking {B : Nat} {w : World} {g n cap : Nat} {xs : List NodeD} {L : List Value} (h : OwnN B w (.slice (some ⟨g, 0, none⟩) n cap) xs L) {k : Nat} (hk : k < xs.length) (y : NodeD) :
    OwnN B (((w.setCell ⟨g, k * 4, none⟩ (.int .i64 y.kind)).setCell ⟨g, k * 4 + 1, none⟩ (.int .i64 y.a)).setCell ⟨g, k * 4 + 2, none⟩ (.int .i64 y.b)) (.slice (some ⟨g, 0, none⟩) n cap) (xs.set k y) L := by
  have e : n = xs.length := (h.storing hk).1
  subst e
  have h0 := (World.ownsRow.stored h.2 (k * 4) (.int .i64 y.kind)).1
  have h1 := (World.ownsRow.stored h0 (k * 4 + 1) (.int .i64 y.a)).1
  have h2 := (World.ownsRow.stored h1 (k * 4 + 2) (.int .i64 y.b)).1
  rw [nodeCells_put3 _ _ _ _ hk h.1] at h2
  exact ⟨by simp [h.1], by simpa using h2⟩
set_option maxHeartbeats 3200000 in
theorem markNodeS_v {B : Nat} {v : Value} {xs : List NodeD} {M : List Value} (m : Int) (w : World) (h : OwnNodeS B w v xs M) (hd : Dis M) (hm0 : 0 ≤ m) (hm : m + cntNodeS xs ≤ 1099511627776) :
    Calls Tryz.prog 58 #[v, .int .i64 m] w fun e w' => e = .returned (.int .i64 (m + cntNodeS xs)) ∧ OwnNodeS B w' v (markNodeS m xs) M ∧ Off (Blk M) w w' := by
  have hrd := h.rd
  obtain ⟨p, c, rfl, hr⟩ := hrd
  have hl := hr.len
  unfold maxLen at hl
  clear hr
  obtain ⟨L, rfl, ho, hs, hdis⟩ := h
  have HA := Lib.hid (markNodeS_length xs m)
  have HLn := Lib.hid ho.1
  have HD := Lib.hid hdis
  clear hd hdis
  go_enter Tryz.func58, Tryz.ntmps58
  go_wp2_with fail
  go_loopw [1, 5] (fun q i wr => ∃ k : Nat, k ≤ xs.length ∧ i = .int .i64 k ∧ ∃ t : Int, t = m + cntNodeS (xs.take k) ∧ q = .int .i64 t ∧ OwnN B wr (.slice p xs.length c) (mix (markNodeS m xs) xs k) L ∧ OwnIs B wr L ((mix (markNodeS m xs) xs k).map NodeD.src) ∧ Off (Blk (.slice p xs.length c :: L)) w wr) (fun _ i _ => xs.length - (intOf i).toNat)
  case atStart => exact ⟨0, Nat.zero_le _, rfl, m, by simp [cntNodeS, lens], rfl, by rw [mix_zero]; exact ho, by rw [mix_zero]; exact hs, Off.refl _ _⟩
  case round =>
    obtain ⟨k, hk, rfl, t, ht, rfl, hown, hin, hof⟩ := hrel
    obtain ⟨wi, rfl⟩ : ∃ wi : World, wi = wr := ⟨_, rfl⟩
    clear ho hs
    by_cases hlt : k < xs.length
    · have hml : (mix (markNodeS m xs) xs k).length = xs.length := mix_length HA.out hk
      have hgt := cntNodeS_succ xs hlt
      have hle := cntNodeS_take xs (k + 1)
      have hY := markNodeS_get xs m k hlt (by rw [HA.out]; exact hlt) t ht
      have hmx := mix_succ HA.out hlt
      rw [hY] at hmx
      have hkL : k < L.length := by rw [HLn.out]; exact hlt
      have hmg := mix_get HA.out hlt
      obtain ⟨hL', hu⟩ := hin.at_ (i := k) (by rw [List.length_map, hml]; exact hlt)
      rw [List.getElem_map, hmg] at hu
      rcases hown.cases with ⟨e, _⟩ | ⟨g, cap, e, hB, hg, _, hc⟩
      · simp only [Value.slice.injEq] at e
        omega
      simp only [Value.slice.injEq] at e
      obtain ⟨rfl, -, rfl⟩ := e
      obtain ⟨z0, z1, z2, z3⟩ := hc k (by rw [hml]; exact hlt) hkL
      rw [hmg] at z0 z1 z2
      obtain ⟨-, -, -, -, hfr, -⟩ := hown.storing (k := k) (by rw [hml]; exact hlt)
      have f0 := hfr (k * 4)
      have f1 := hfr (k * 4 + 1)
      have f2 := hfr (k * 4 + 2)
      have hN := hown.marking (k := k) (by rw [hml]; exact hlt) ⟨t, t + 1, t + 1 + 1, markI (t + 1 + 1 + 1) xs[k].src⟩
      rw [← hmx] at hN
      have hoff := hown.off hin (k := g) rfl
      have hI : OwnIs B (((wi.setCell ⟨g, k * 4, none⟩ (.int .i64 t)).setCell ⟨g, k * 4 + 1, none⟩ (.int .i64 (t + 1))).setCell ⟨g, k * 4 + 2, none⟩ (.int .i64 (t + 1 + 1))) L ((mix (markNodeS m xs) xs k).map NodeD.src) := hin.keep fun j hj =>
        have hne : j ≠ g := fun e => hoff (e ▸ hj)
        (Below.heap_setCell _ _ _ _ hne).trans ((Below.heap_setCell _ _ _ _ hne).trans (Below.heap_setCell _ _ _ _ hne))
      have hu1 : OwnI B (((wi.setCell ⟨g, k * 4, none⟩ (.int .i64 t)).setCell ⟨g, k * 4 + 1, none⟩ (.int .i64 (t + 1))).setCell ⟨g, k * 4 + 2, none⟩ (.int .i64 (t + 1 + 1))) L[k] xs[k].src := hu.keep fun j hj =>
        have hne : j ≠ g := fun e => hoff (e ▸ ⟨L[k], List.getElem_mem hkL, hj⟩)
        (Below.heap_setCell _ _ _ _ hne).trans ((Below.heap_setCell _ _ _ _ hne).trans (Below.heap_setCell _ _ _ _ hne))
      have hF : Off (Blk (.slice (some ⟨g, 0, none⟩) xs.length c :: L)) w (((wi.setCell ⟨g, k * 4, none⟩ (.int .i64 t)).setCell ⟨g, k * 4 + 1, none⟩ (.int .i64 (t + 1))).setCell ⟨g, k * 4 + 2, none⟩ (.int .i64 (t + 1 + 1))) := by
        refine hof.trans ⟨rfl, rfl, rfl, by simp, fun j hj hn => ?_⟩
        have hne : j ≠ g := fun e => hn ⟨_, List.mem_cons_self .., by simp [Value.ownBlock, e]⟩
        exact (Below.heap_setCell _ _ _ _ hne).trans ((Below.heap_setCell _ _ _ _ hne).trans (Below.heap_setCell _ _ _ _ hne))
      have HG : Hid (L[k].ownBlock ≠ some g) := fun e => hoff ⟨L[k], List.getElem_mem hkL, e⟩
      have HMX : Hid ((mix (markNodeS m xs) xs (k + 1)).map NodeD.src = ((mix (markNodeS m xs) xs k).map NodeD.src).set k (markI (t + 1 + 1 + 1) xs[k].src)) := by unfold Hid; rw [hmx, List.map_set]
      have hMem : ∀ b, L[k].ownBlock = some b → Blk (.slice (some ⟨g, 0, none⟩) xs.length c :: L) b := fun b hb => ⟨L[k], List.mem_cons_of_mem _ (List.getElem_mem hkL), hb⟩
      have HT : Hid (t = m + cntNodeS (xs.take k)) := ht
      have hb1 : 0 ≤ t := by omega
      have hb2 : t + 3 + xs[k].src.length ≤ 1099511627776 := by omega
      have hu2 : OwnI B wi L[k] xs[k].src := hu
      obtain ⟨uq, ud, hur, -⟩ := hu2.rd
      have HS : Hid (∀ w1, OwnI B w1 L[k] (markI (t + 1 + 1 + 1) xs[k].src) → Off (fun b => L[k].ownBlock = some b) (((wi.setCell ⟨g, k * 4, none⟩ (.int .i64 t)).setCell ⟨g, k * 4 + 1, none⟩ (.int .i64 (t + 1))).setCell ⟨g, k * 4 + 2, none⟩ (.int .i64 (t + 1 + 1))) w1 → OwnIs B w1 L ((mix (markNodeS m xs) xs (k + 1)).map NodeD.src)) := fun w1 h1 h2 => by
        rw [HMX.out]
        exact hI.set HD.out hkL h1 h2
      have HNN := Lib.hid hN
      have HF := Lib.hid hF
      have HM := Lib.hid hMem
      have HGT := Lib.hid hgt
      clear ht hgt hle hY hmx hmg hu hc hfr hN hoff hI hF hMem HMX hown hin hof hu2 hml
      rw [hur] at z3 hu1 HG HS HM
      generalize xs[k] = x at *
      clear hur
      go_wp2_with fail
      refine (markInt64S_any _ _ hu1 (by omega) (by omega)).mono ?_
      rintro e w1 ⟨rfl, h1, h2⟩
      have h3 := HS.out w1 h1 h2
      have h4 := HF.out.trans (h2.mono HM.out)
      have h5 := HNN.out.keep (w' := w1) fun j hj => h2.block j (HNN.out.lt hj).2 (by
        simp only [Value.ownBlock, Option.some.injEq] at hj
        subst hj
        exact HG.out)
      clear h1 h2 hu1 HS HNN HF
      go_wp2_with fail
      go_roundw
      case rel => exact ⟨k + 1, by omega, by go_num, _, by rw [HGT.out, Int.natCast_add, Int.natCast_add]; have := HT.out; show t + 1 + 1 + 1 + (x.src.length : Int) = _; omega, rfl, h5, h3, h4⟩
      case measure => simp [intOf] <;> omega
    · obtain rfl : k = xs.length := by omega
      rw [List.take_length] at ht
      rw [mix_all HA.out] at hown hin
      subst ht
      go_wp2_with fail
      go_ret
      exact ⟨rfl, ⟨L, rfl, by rw [← HA.out] at hown ⊢; exact hown, hin, HD.out⟩, hof⟩
set_option maxHeartbeats 3200000 in
theorem heldNodeS_v {v : Value} {xs : List NodeD} (m : Int) (w : World) (h : VNodeS w v (markNodeS m xs)) (hm0 : 0 ≤ m) (hm : m + cntNodeS xs ≤ 1099511627776) :
    Calls Tryz.prog 61 #[v, .int .i64 m] w fun e w' => e = .returned (.int .i64 (m + cntNodeS xs)) ∧ Below w.heap.size w w' := by
  obtain ⟨p, c, rfl, h⟩ := h
  have hl := h.len
  unfold maxLen at hl
  have HA := Lib.hid (markNodeS_length xs m)
  rw [markNodeS_length] at hl ⊢
  go_enter Tryz.func61, Tryz.ntmps61
  go_wp2_with fail
  go_loopw [1, 5] (fun q i wr => ∃ k : Nat, k ≤ xs.length ∧ i = .int .i64 k ∧ ∃ t : Int, t = m + cntNodeS (xs.take k) ∧ q = .int .i64 t ∧ Below w.heap.size w wr) (fun _ i _ => xs.length - (intOf i).toNat)
  case atStart => exact ⟨0, Nat.zero_le _, rfl, m, by simp [cntNodeS, lens], rfl, Below.refl _ _⟩
  case round =>
    obtain ⟨k, hk, rfl, t, ht, rfl, hbel⟩ := hrel
    obtain ⟨wi, rfl⟩ : ∃ wi : World, wi = wr := ⟨_, rfl⟩
    by_cases hlt : k < xs.length
    · have hgt := cntNodeS_succ xs hlt
      have hle := cntNodeS_take xs (k + 1)
      have hY := markNodeS_get xs m k hlt (by rw [HA.out]; exact hlt) t ht
      obtain ⟨b, o, rfl, hb, hc⟩ := (h.below hbel).pos (k := k) (by rw [HA.out]; exact hlt)
      have hnd := hc k (by rw [HA.out]; exact hlt)
      rw [hY] at hnd
      obtain ⟨z0, z1, z2, q, d, z3, hr⟩ := hnd
      have HT : Hid (t = m + cntNodeS (xs.take k)) := ht
      have hb1 : 0 ≤ t := by omega
      have hb2 : t + 3 + xs[k].src.length ≤ 1099511627776 := by omega
      have HGT := Lib.hid hgt
      generalize xs[k] = x at *
      have hln : (markI (t + 1 + 1 + 1) x.src).length = x.src.length := by unfold markI; rw [seqI_length]
      have HE := Lib.hid (heldI_v (xs := x.src) (t + 1 + 1 + 1) wi ⟨q, d, rfl, hr⟩ (by omega) (by unfold cntI; omega))
      have hcn : cntI x.src = x.src.length := rfl
      rw [hcn] at HE
      dsimp only at z0 z1 z2 z3
      rw [hln] at z3 HE
      clear ht hgt hle hY hc hr hln hcn
      go_wp2_with (go_at_call 62; refine HE.out.mono ?_; rintro e w1 ⟨rfl, hb3⟩)
      go_roundw
      case rel => exact ⟨k + 1, by omega, by go_num, _, by rw [HGT.out, Int.natCast_add, Int.natCast_add]; have := HT.out; show t + 1 + 1 + 1 + (x.src.length : Int) = _; omega, rfl, hbel.trans (hb3.mono hbel.size)⟩
      case measure => simp [intOf] <;> omega
    · obtain rfl : k = xs.length := by omega
      rw [List.take_length] at ht
      subst ht
      go_wp2_with fail
      go_ret
      exact ⟨rfl, hbel⟩
end Go.Proofs.YtdcacmmglkcliaaGreatDoor
