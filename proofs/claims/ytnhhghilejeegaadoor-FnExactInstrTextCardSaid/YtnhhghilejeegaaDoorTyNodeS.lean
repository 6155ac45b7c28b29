/-
  Slices of nodes: how they lie in memory; contracts of the laws' helpers for them.
-/
import Derived.Test.YtnhhghilejeegaaDoorPNode
import Derived.Lib.QuietBelow
namespace Go.Proofs.YtnhhghilejeegaaDoor
open Go.ChangeShapes Go.WideShapes Go.ChangeAt Go.RowKit Go.Sort
set_option linter.unusedVariables false

/-- the slice of nodes at p reads xs -/
structure RdNodeS (w : World) (p : Option Addr) (xs : List NodeD) : Prop where
  len : xs.length ≤ maxLen
  cells : xs = [] ∨ ∃ b o, p = some ⟨b, o, none⟩ ∧ ∀ i, (h : i < xs.length) → PNode w b (o + i * 4) xs[i]
theorem RdNodeS.pos {w : World} {p : Option Addr} {xs : List NodeD} (h : RdNodeS w p xs) {k : Nat} (hk : k < xs.length) :
    ∃ b o, p = some ⟨b, o, none⟩ ∧ b < w.heap.size ∧ ∀ i, (h : i < xs.length) → PNode w b (o + i * 4) xs[i] := by
  rcases h.cells with rfl | ⟨b, o, e, hc⟩
  · simp at hk
  · exact ⟨b, o, e, (hc k hk).lt, hc⟩
theorem RdNodeS.nil (w : World) (p : Option Addr) : RdNodeS w p [] := ⟨by simp [maxLen], .inl rfl⟩
theorem RdNodeS.below {w w' : World} {p : Option Addr} {xs : List NodeD} (h : RdNodeS w p xs) (hb : Below w.heap.size w w') : RdNodeS w' p xs := by
  refine ⟨h.len, ?_⟩
  rcases h.cells with rfl | ⟨b, o, e, hc⟩
  · exact .inl rfl
  · exact .inr ⟨b, o, e, fun i hi => (hc i hi).below hb⟩
def VNodeS (w : World) (v : Value) (xs : List NodeD) : Prop := ∃ p c, v = .slice p xs.length c ∧ RdNodeS w p xs
theorem VNodeS.below {w w' : World} {v : Value} {xs : List NodeD} (h : VNodeS w v xs) (hb : Below w.heap.size w w') : VNodeS w' v xs := by
  obtain ⟨p, c, rfl, hr⟩ := h
  exact ⟨p, c, rfl, hr.below hb⟩
/-- the cells of nodes, the values L in the place of their slices -/
def nodeCells : List NodeD → List Value → List Value
  | x :: xs, u :: us => .int .i64 x.kind :: .int .i64 x.a :: .int .i64 x.b :: u :: nodeCells xs us
  | _, _ => []
theorem nodeCells_length : ∀ (xs : List NodeD) (L : List Value), L.length = xs.length → (nodeCells xs L).length = xs.length * 4
  | [], L, h => by rw [nodeCells]; simp; intros; simp_all
  | x :: xs, [], h => by simp at h
  | x :: xs, u :: us, h => by
    rw [nodeCells]
    simp only [List.length_cons] at h ⊢
    rw [nodeCells_length xs us (by omega)]
    omega
theorem nodeCells_get : ∀ (xs : List NodeD) (L : List Value) (i : Nat) (h : i < xs.length) (hL : i < L.length),
    (nodeCells xs L)[i * 4]? = some (.int .i64 xs[i].kind) ∧ (nodeCells xs L)[i * 4 + 1]? = some (.int .i64 xs[i].a) ∧ (nodeCells xs L)[i * 4 + 2]? = some (.int .i64 xs[i].b) ∧ (nodeCells xs L)[i * 4 + 3]? = some L[i]
  | [], _, i, h, _ => by simp at h
  | _ :: _, [], i, _, h => by simp at h
  | x :: xs, u :: us, 0, _, _ => ⟨rfl, rfl, rfl, rfl⟩
  | x :: xs, u :: us, i + 1, h, hL => by
    have := nodeCells_get xs us i (by simpa using h) (by simpa using hL)
    rw [nodeCells, show (i + 1) * 4 = i * 4 + 1 + 1 + 1 + 1 by omega]
    simpa using this
theorem nodeCells_append : ∀ (xs ys : List NodeD) (L M : List Value), L.length = xs.length → nodeCells (xs ++ ys) (L ++ M) = nodeCells xs L ++ nodeCells ys M
  | [], ys, L, M, h => by
    have : L = [] := List.eq_nil_of_length_eq_zero h
    subst this
    simp [nodeCells]
  | x :: xs, ys, [], M, h => by simp at h
  | x :: xs, ys, u :: us, M, h => by
    rw [List.cons_append, List.cons_append, nodeCells, nodeCells, nodeCells_append xs ys us M (by simpa using h)]
    rfl
/-- an outer row of nodes of its own, the values L in the place of their slices -/
def OwnN (B : Nat) (w : World) (v : Value) (xs : List NodeD) (L : List Value) : Prop := L.length = xs.length ∧ w.ownsRow B 50 4 v xs.length (nodeCells xs L)
theorem OwnN.lt {B : Nat} {w : World} {v : Value} {xs : List NodeD} {L : List Value} (h : OwnN B w v xs L) {k : Nat} (hk : v.ownBlock = some k) : B ≤ k ∧ k < w.heap.size := World.ownsRow.lt h.2 k hk
theorem OwnN.keep {B : Nat} {w w' : World} {v : Value} {xs : List NodeD} {L : List Value} (h : OwnN B w v xs L) (hk : ∀ k, v.ownBlock = some k → w'.heap[k]? = w.heap[k]?) : OwnN B w' v xs L := by
  refine ⟨h.1, h.2.1, ?_⟩
  rcases h.2.2 with hn | ⟨g, cap, cur, rfl, hb, hgg, rest⟩
  · exact .inl hn
  · exact .inr ⟨g, cap, cur, rfl, hb, (hk g rfl).trans hgg, rest⟩
theorem OwnN.below {B : Nat} {w w' : World} {v : Value} {xs : List NodeD} {L : List Value} (h : OwnN B w v xs L) (hb : Below w.heap.size w w') : OwnN B w' v xs L := h.keep fun k hk => hb.block k (h.lt hk).2
theorem OwnN.mono {B B' : Nat} {w : World} {v : Value} {xs : List NodeD} {L : List Value} (h : OwnN B w v xs L) (hB : B' ≤ B) : OwnN B' w v xs L := by
  refine ⟨h.1, h.2.1, ?_⟩
  rcases h.2.2 with h2 | ⟨g, cap, cur, hv, hb, r⟩
  · exact .inl h2
  · exact .inr ⟨g, cap, cur, hv, Nat.le_trans hB hb, r⟩
theorem OwnN.node {B : Nat} {w : World} {v : Value} {xs : List NodeD} {L : List Value} (h : OwnN B w v xs L) {k : Nat} (hk : v.ownBlock = some k) : ∃ cur, w.heap[k]? = some (.cells cur 50 (0, 0)) := by
  rcases h.2.2 with ⟨hn, _⟩ | ⟨g, cap, cur, hv, _, hg, _⟩
  · rw [hn] at hk; simp [Value.ownBlock] at hk
  · rw [hv] at hk
    simp only [Value.ownBlock, Option.some.injEq] at hk
    subst hk
    exact ⟨cur, hg⟩
theorem OwnN.cases {B : Nat} {w : World} {v : Value} {xs : List NodeD} {L : List Value} (h : OwnN B w v xs L) :
    (v = .slice none 0 0 ∧ xs = [] ∧ L = []) ∨ ∃ g cap, v = .slice (some ⟨g, 0, none⟩) xs.length cap ∧ B ≤ g ∧ g < w.heap.size ∧ xs.length ≤ maxLen ∧
      (∀ i, (hi : i < xs.length) → (hL : i < L.length) → w.cell? ⟨g, i * 4, none⟩ = some (.int .i64 xs[i].kind) ∧ w.cell? ⟨g, i * 4 + 1, none⟩ = some (.int .i64 xs[i].a) ∧ w.cell? ⟨g, i * 4 + 2, none⟩ = some (.int .i64 xs[i].b) ∧ w.cell? ⟨g, i * 4 + 3, none⟩ = some L[i]) := by
  obtain ⟨hl, h⟩ := h
  rcases h.2 with ⟨h1, h2⟩ | ⟨g, cap, cur, hv, hB, hg, hn, hm, hs, ht⟩
  · have e : xs = [] := List.eq_nil_of_length_eq_zero h2
    subst e
    exact .inl ⟨h1, rfl, List.eq_nil_of_length_eq_zero hl⟩
  · refine .inr ⟨g, cap, hv, hB, (Array.getElem?_eq_some_iff.1 hg).1, by omega, fun i hi hL => ?_⟩
    have hh : w.ownsRow B 50 4 (.slice (some ⟨g, 0, none⟩) xs.length cap) xs.length (nodeCells xs L) := by rw [← hv]; exact h
    obtain ⟨c0, c1, c2, c3⟩ := nodeCells_get xs L i hi hL
    exact ⟨(hh.cellAt _ (by omega)).trans c0, (hh.cellAt _ (by omega)).trans c1, (hh.cellAt _ (by omega)).trans c2, (hh.cellAt _ (by omega)).trans c3⟩
theorem OwnN.nil (B : Nat) (w : World) : OwnN B w (.slice none 0 0) [] [] := ⟨rfl, World.ownsRow_nil w B _ 4⟩
/-- a slice of nodes of its own; M: the row itself, and the slices of its nodes -/
def OwnNodeS (B : Nat) (w : World) (v : Value) (xs : List NodeD) (M : List Value) : Prop := ∃ L, M = v :: L ∧ OwnN B w v xs L ∧ OwnIs B w L (xs.map NodeD.src) ∧ Dis L
theorem OwnNodeS.blk {B : Nat} {w : World} {v : Value} {xs : List NodeD} {M : List Value} (h : OwnNodeS B w v xs M) {b : Nat} (hb : Blk M b) : B ≤ b ∧ b < w.heap.size := by
  obtain ⟨L, rfl, ho, hs, hd⟩ := h
  obtain ⟨u, hu, hb⟩ := hb
  rcases List.mem_cons.1 hu with rfl | hu
  · exact ho.lt hb
  · exact ⟨(hs.blk ⟨u, hu, hb⟩).1, (hs.blk ⟨u, hu, hb⟩).2.1⟩
theorem OwnN.off {B B' : Nat} {w : World} {v : Value} {xs : List NodeD} {L M : List Value} {xss : List (List Int)} (h : OwnN B w v xs L) (hs : OwnIs B' w M xss) {k : Nat} (hk : v.ownBlock = some k) : ¬ Blk M k := by
  intro hb
  obtain ⟨_, _, cur, hg⟩ := hs.blk hb
  obtain ⟨cur', hg'⟩ := h.node hk
  rw [hg] at hg'
  simp only [Option.some.injEq, Obj.cells.injEq] at hg'
  exact absurd hg'.2.1 (by decide)
theorem OwnNodeS.dis {B : Nat} {w : World} {v : Value} {xs : List NodeD} {M : List Value} (h : OwnNodeS B w v xs M) : Dis M := by
  obtain ⟨L, rfl, ho, hs, hd⟩ := h
  refine List.pairwise_cons.2 ⟨fun u hu b hb hb' => ho.off hs hb ⟨u, hu, hb'⟩, hd⟩
theorem OwnNodeS.rd {B : Nat} {w : World} {v : Value} {xs : List NodeD} {M : List Value} (h : OwnNodeS B w v xs M) : VNodeS w v xs := by
  obtain ⟨L, rfl, ho, hs, hd⟩ := h
  rcases ho.cases with ⟨rfl, rfl, rfl⟩ | ⟨g, cap, rfl, hB, hg, hm, hc⟩
  · exact ⟨none, 0, rfl, RdNodeS.nil _ _⟩
  · refine ⟨_, cap, rfl, hm, .inr ⟨g, 0, rfl, fun i hi => ?_⟩⟩
    have hL : i < L.length := by rw [ho.1]; exact hi
    obtain ⟨c0, c1, c2, c3⟩ := hc i hi hL
    obtain ⟨hL', hu⟩ := hs.at_ (i := i) (by simpa using hi)
    obtain ⟨q, d, e, hr⟩ := hu.rd
    rw [List.getElem_map] at e hr
    rw [Nat.zero_add]
    exact ⟨c0, c1, c2, q, d, by rw [c3, e], hr⟩
theorem OwnNodeS.mono {B B' : Nat} {w : World} {v : Value} {xs : List NodeD} {M : List Value} (h : OwnNodeS B w v xs M) (hB : B' ≤ B) : OwnNodeS B' w v xs M := by
  obtain ⟨L, rfl, ho, hs, hd⟩ := h
  exact ⟨L, rfl, ho.mono hB, hs.mono hB, hd⟩
theorem OwnNodeS.keeps {B : Nat} {w w' : World} {v : Value} {xs : List NodeD} {M : List Value} (h : OwnNodeS B w v xs M) (hk : ∀ k, B ≤ k → k < w.heap.size → w'.heap[k]? = w.heap[k]?) : OwnNodeS B w' v xs M := by
  obtain ⟨L, rfl, ho, hs, hd⟩ := h
  exact ⟨L, rfl, ho.keep fun k hb => hk k (ho.lt hb).1 (ho.lt hb).2, hs.keep fun k hb => hk k (hs.blk hb).1 (hs.blk hb).2.1, hd⟩
theorem OwnNodeS.below {B : Nat} {w w' : World} {v : Value} {xs : List NodeD} {M : List Value} (h : OwnNodeS B w v xs M) (hb : Below w.heap.size w w') : OwnNodeS B w' v xs M := h.keeps fun k _ hk => hb.block k hk
theorem OwnNodeS.offBlk {B : Nat} {w w' : World} {v : Value} {xs : List NodeD} {M M' : List Value} (h : OwnNodeS B w v xs M) (_hi : IntBlks w M') (hd : ∀ b, Blk M b → ¬ Blk M' b) (hf : Off (Blk M') w w') : OwnNodeS B w' v xs M := by
  have hb := fun b (hb : Blk M b) => h.blk hb
  obtain ⟨L, rfl, ho, hs, hds⟩ := h
  exact ⟨L, rfl, ho.keep fun k hk => hf.block k (ho.lt hk).2 (hd k ⟨v, List.mem_cons_self .., hk⟩),
    hs.keep fun k hk => hf.block k (hs.blk hk).2.1 (hd k (by obtain ⟨u, hu, hb⟩ := hk; exact ⟨u, List.mem_cons_of_mem _ hu, hb⟩)), hds⟩
/-- sizes and marks -/
def wtNodeS (xs : List NodeD) : Nat := xs.length + lens (xs.map NodeD.src)
def cntNodeS (xs : List NodeD) : Nat := 3 * xs.length + lens (xs.map NodeD.src)
theorem cntNodeS_le (xs : List NodeD) : cntNodeS xs ≤ 6 * wtNodeS xs := by unfold cntNodeS wtNodeS; omega
def markNodeS (m : Int) : List NodeD → List NodeD
  | [] => []
  | x :: xs => ⟨m, m + 1, m + 1 + 1, markI (m + 1 + 1 + 1) x.src⟩ :: markNodeS (m + 1 + 1 + 1 + x.src.length) xs
theorem markNodeS_length : ∀ (xs : List NodeD) (m : Int), (markNodeS m xs).length = xs.length
  | [], _ => rfl
  | x :: xs, m => by rw [markNodeS, List.length_cons, List.length_cons, markNodeS_length xs]
section
variable {H : Type} {enc : TypeId × Value → H} {W : World}
set_option maxRecDepth 100000 in
theorem rdNodeS_trod {fuel : Nat} {cs : List Value} {x : DataW H × List MemPlace} (h : DataW.trod enc Tryd.prog W 0 (fun _ => true) true fuel 63 cs = some x) :
    ∃ p c xs, cs = [.slice p (List.length xs) c] ∧ RdNodeS W p xs := by
  obtain ⟨p, n, c, rfl, hn, hc⟩ := slice_fields_trod Tryd.underlying63 Tryd.underlying47 (by kernel_rfl) (by kernel_rfl) h
  rcases hc with rfl | ⟨a, rfl, hc⟩
  · exact ⟨p, c, [], rfl, RdNodeS.nil _ _⟩
  · by_cases h0 : n = 0
    · subst h0
      exact ⟨_, c, [], rfl, RdNodeS.nil _ _⟩
    obtain ⟨u0, _, _, e0, _⟩ := hc 0 (by omega) 0 _ rfl
    have hs : a = ⟨a.block, a.off, none⟩ := by
      obtain ⟨b, o, s⟩ := a
      cases s with
      | none => rfl
      | some s => simp [Addr.add, World.cell?] at e0; split at e0 <;> simp at e0
    have each : ∀ i, i < n → ∃ x, PNode W a.block (a.off + i * 4) x := by
      intro i hi
      obtain ⟨a0, n0, y0, e0, t0⟩ := hc i hi 0 _ rfl
      obtain ⟨a1, n1, y1, e1, t1⟩ := hc i hi 1 _ rfl
      obtain ⟨a2, n2, y2, e2, t2⟩ := hc i hi 2 _ rfl
      obtain ⟨a3, n3, y3, e3, t3⟩ := hc i hi 3 _ rfl
      obtain ⟨m0, h0, -, -⟩ := DataW.trod_int Tryd.underlying2 t0
      obtain ⟨m1, h1, -, -⟩ := DataW.trod_int Tryd.underlying2 t1
      obtain ⟨m2, h2, -, -⟩ := DataW.trod_int Tryd.underlying2 t2
      obtain ⟨p3, c3, m3, h3, r3, -⟩ := rdI_trod Tryd.underlying45 Tryd.underlying2 (by kernel_rfl) t3
      simp only [List.cons.injEq, and_true] at h0 h1 h2 h3
      subst h0 h1 h2 h3
      rw [hs, Addr.add_lit] at e0 e1 e2 e3
      exact ⟨⟨m0, m1, m2, m3⟩, e0, by rw [Nat.add_assoc]; exact e1, by rw [Nat.add_assoc]; exact e2, p3, c3, by rw [Nat.add_assoc]; exact e3, r3⟩
    haveI : Inhabited NodeD := ⟨⟨0, 0, 0, []⟩⟩
    obtain ⟨F, hF⟩ := Deep.choose_lt each
    refine ⟨some a, c, (List.range n).map F, by simp, by simpa using hn, .inr ⟨a.block, a.off, by rw [← hs], fun i hi => ?_⟩⟩
    simp only [List.length_map, List.length_range] at hi
    simpa using hF i hi
end
theorem lens_nodes (xs : List NodeD) {k : Nat} (h : k < xs.length) : lens ((xs.take (k + 1)).map NodeD.src) = lens ((xs.take k).map NodeD.src) + xs[k].src.length := by
  have := lens_take_succ (xs.map NodeD.src) k (by simpa using h)
  rw [← List.map_take, ← List.map_take, List.getElem_map] at this
  exact this
theorem lens_nodes_le (xs : List NodeD) (k : Nat) : lens ((xs.take k).map NodeD.src) ≤ lens (xs.map NodeD.src) := by
  have := lens_take_le (xs.map NodeD.src) k
  rwa [← List.map_take] at this
set_option maxHeartbeats 800000 in
theorem szNodeS_v {v : Value} {xs : List NodeD} (left : Int) (w : World) (h : VNodeS w v xs) (h0 : 0 ≤ left) (h1 : left ≤ 1048576) :
    Calls Tryd.prog 74 #[v, .int .i64 left] w fun e w' => e = .returned (.int .i64 (szF left (wtNodeS xs))) ∧ Below w.heap.size w w' := by
  obtain ⟨p, c, rfl, h⟩ := h
  have hl := h.len
  unfold maxLen at hl
  by_cases hlt0 : left - (xs.length : Int) < 0
  · have hs : szF left (wtNodeS xs) = -1 := szF_lt (by unfold wtNodeS; omega)
    rw [hs]
    clear hs
    go_enter Tryd.func74, Tryd.ntmps74
    go_wp2_with fail
    go_ret
    exact ⟨rfl, Below.refl _ _⟩
  · go_enter Tryd.func74, Tryd.ntmps74
    go_wp2_with fail
    go_loopw [1, 5] (fun q i wr => ∃ k : Nat, k ≤ xs.length ∧ i = .int .i64 k ∧ ∃ S : Nat, S = lens ((xs.take k).map NodeD.src) ∧ q = .int .i64 (left - xs.length - S) ∧ (xs.length : Int) + S ≤ left ∧ Below w.heap.size w wr) (fun _ i _ => xs.length - (intOf i).toNat)
    case atStart => exact ⟨0, Nat.zero_le _, rfl, 0, by simp [lens], by simp, by simp; omega, Below.refl _ _⟩
    case round =>
      obtain ⟨k, hk, rfl, S, hS, rfl, hle, hbel⟩ := hrel
      by_cases hlt : k < xs.length
      · obtain ⟨b, o, rfl, hb, hc⟩ := (h.below hbel).pos hlt
        have hts := lens_nodes xs hlt
        have hle2 := lens_nodes_le xs (k + 1)
        have hn := hc k hlt
        obtain ⟨z0, z1, z2, q, d, z3, hr⟩ := hn
        rw [← hS] at hts
        generalize hx : xs[k] = x at *
        have HX := Lib.hid hx; have HS := Lib.hid hS; have HT := Lib.hid hts; have HL2 := Lib.hid hle2
        clear hx hS hts hle2 hc
        have SZ := Lib.hid (szNode_v (left - (xs.length : Int) - (S : Int)) wr ⟨q, d, rfl, hr⟩ (by omega) (by omega))
        have hrl := hr.len
        unfold maxLen at hrl
        by_cases hov : left - (xs.length : Int) - (S : Int) < x.src.length
        · have hz : szF (left - (xs.length : Int) - (S : Int)) (wtNode x) = -1 := szF_lt hov
          rw [hz] at SZ
          clear hz
          go_wp2_with (go_at_call 29; refine SZ.out.mono ?_; rintro e w1 ⟨rfl, hb1⟩)
          go_ret
          refine ⟨ret_int ?_, hbel.trans (hb1.mono hbel.size)⟩
          rw [szF_lt]; unfold wtNodeS; have h1 := HT.out; have h2 := HL2.out; omega
        · have hz : szF (left - (xs.length : Int) - (S : Int)) (wtNode x) = left - (xs.length : Int) - (S : Int) - x.src.length := szF_ge (by unfold wtNode wtI; omega)
          rw [hz] at SZ
          clear hz
          have hd : ¬ left - (xs.length : Int) - (S : Int) - x.src.length < 0 := by omega
          go_wp2_with (go_at_call 29; refine SZ.out.mono ?_; rintro e w1 ⟨rfl, hb1⟩)
          go_roundw
          case rel => exact ⟨k + 1, by omega, by go_num, S + x.src.length, HT.out.symm, by simp only [Int.natCast_add]; congr 1; omega, by omega, hbel.trans (hb1.mono hbel.size)⟩
          case measure => simp [intOf] <;> omega
      · obtain rfl : k = xs.length := by omega
        rw [List.take_length] at hS
        go_wp2_with fail
        go_ret
        exact ⟨ret_int (by rw [szF_ge (by unfold wtNodeS; omega)]; unfold wtNodeS; omega), hbel⟩
theorem infoN : (Tryd.prog.info? 50).map (fun i => (i.zero, i.size, i.bytes)) = some (some (.agg #[.int .i64 0, .int .i64 0, .int .i64 0, .slice none 0 0]), 4, 48) := by kernel_rfl
def zNode : NodeD := ⟨0, 0, 0, []⟩
theorem nodeCells_put : ∀ (xs : List NodeD) (L : List Value) (k : Nat) (y : NodeD) (u : Value), k < xs.length → L.length = xs.length →
    ((((nodeCells xs L).set (k * 4) (.int .i64 y.kind)).set (k * 4 + 1) (.int .i64 y.a)).set (k * 4 + 2) (.int .i64 y.b)).set (k * 4 + 3) u = nodeCells (xs.set k y) (L.set k u)
  | [], _, k, _, _, h, _ => by simp at h
  | _ :: _, [], _, _, _, _, h => by simp at h
  | x :: xs, v :: us, 0, y, u, _, _ => rfl
  | x :: xs, v :: us, k + 1, y, u, h, hL => by
    have := nodeCells_put xs us k y u (by simpa using h) (by simpa using hL)
    rw [nodeCells, show (k + 1) * 4 = k * 4 + 1 + 1 + 1 + 1 by omega]
    simp only [List.set_cons_succ, nodeCells]
    rw [this]
theorem madeNodes : ∀ n : Nat, (madeCells #[.int .i64 0, .int .i64 0, .int .i64 0, .slice none 0 0] (n * 4)).toList = nodeCells (List.replicate n zNode) (List.replicate n (.slice none 0 0)) := by
  intro n
  refine List.ext_getElem (by rw [nodeCells_length _ _ (by simp)]; simp [madeCells]) fun i h1 h2 => ?_
  have hi : i < n * 4 := by simpa [madeCells] using h1
  obtain ⟨q, r, hr, rfl⟩ : ∃ q r, r < 4 ∧ i = q * 4 + r := ⟨i / 4, i % 4, Nat.mod_lt _ (by omega), by omega⟩
  have hq : q < n := by omega
  obtain ⟨c0, c1, c2, c3⟩ := nodeCells_get (List.replicate n zNode) (List.replicate n (.slice none 0 0)) q (by simpa using hq) (by simpa using hq)
  have hm : (q * 4 + r) % 4 = r := by omega
  rw [← Option.some_inj, ← List.getElem?_eq_getElem h2]
  rcases (show r = 0 ∨ r = 1 ∨ r = 2 ∨ r = 3 by omega) with rfl | rfl | rfl | rfl
  · refine Eq.trans ?_ c0.symm; simp [madeCells, zNode]
  · refine Eq.trans ?_ c1.symm; simp [madeCells, zNode, hm]
  · refine Eq.trans ?_ c2.symm; simp [madeCells, zNode, hm]
  · refine Eq.trans ?_ c3.symm; simp [madeCells, hm]
theorem run_make_nodes (n : Nat) (hn : n ≤ 1048576) (w : World) :
    (Instr.makeSlice 68 (.int .i64 (n : Int)) (.int .i64 (n : Int))).run Tryd.prog w = .ok (.slice (some ⟨w.heap.size, 0, none⟩) n n) (w.alloc (.cells (madeCells #[.int .i64 0, .int .i64 0, .int .i64 0, .slice none 0 0] (n * 4)) 50)) := by
  obtain ⟨i, hi, hz0, hz1, hz2⟩ := info_parts infoN
  have hr := run_make (P := Tryd.prog) w 68 50 i _ Tryd.underlying68 hi hz0 .i64 .i64 n n (by omega) (Int.le_refl _) (by rw [hz2]; omega) (by omega)
  simp only [Int.toNat_natCast, hz1] at hr
  exact hr
theorem OwnN.made {B : Nat} (w : World) (n : Nat) (hB : B ≤ w.heap.size) (hn : n ≤ 1048576) : OwnN B (w.alloc (.cells (madeCells #[.int .i64 0, .int .i64 0, .int .i64 0, .slice none 0 0] (n * 4)) 50)) (.slice (some ⟨w.heap.size, 0, none⟩) n n) (List.replicate n zNode) (List.replicate n (.slice none 0 0)) := by
  have h := World.ownsRow_lit (base := B) (e := 50) (size := 4) w (madeCells #[.int .i64 0, .int .i64 0, .int .i64 0, .slice none 0 0] (n * 4)) n hB (by unfold maxLen; omega) (by rw [size_madeCells])
  rw [madeNodes] at h
  exact ⟨by simp, by simpa using h⟩
theorem OwnN.storing {B : Nat} {w : World} {g n cap : Nat} {xs : List NodeD} {L : List Value} (h : OwnN B w (.slice (some ⟨g, 0, none⟩) n cap) xs L) {k : Nat} (hk : k < xs.length) :
    n = xs.length ∧ B ≤ g ∧ g < w.heap.size ∧ (∃ u0 u1 u2 u3, w.cell? ⟨g, k * 4, none⟩ = some u0 ∧ w.cell? ⟨g, k * 4 + 1, none⟩ = some u1 ∧ w.cell? ⟨g, k * 4 + 2, none⟩ = some u2 ∧ w.cell? ⟨g, k * 4 + 3, none⟩ = some u3) ∧ (∀ j, w.frozen? ⟨g, j, none⟩ = false) ∧
      ∀ (y : NodeD) u, OwnN B ((((w.setCell ⟨g, k * 4, none⟩ (.int .i64 y.kind)).setCell ⟨g, k * 4 + 1, none⟩ (.int .i64 y.a)).setCell ⟨g, k * 4 + 2, none⟩ (.int .i64 y.b)).setCell ⟨g, k * 4 + 3, none⟩ u) (.slice (some ⟨g, 0, none⟩) n cap) (xs.set k y) (L.set k u) := by
  have hl := h.lt (k := g) rfl
  rcases h.cases with ⟨h1, _⟩ | ⟨g', cap', h1, hB, hlt, _, hc⟩
  · simp at h1
  · simp only [Value.slice.injEq, Option.some.injEq, Addr.mk.injEq, and_true] at h1
    obtain ⟨rfl, rfl, rfl⟩ := h1
    obtain ⟨c0, c1, c2, c3⟩ := hc k hk (by rw [h.1]; exact hk)
    refine ⟨rfl, hl.1, hl.2, ⟨_, _, _, _, c0, c1, c2, c3⟩, fun j => World.ownsRow.frozenAt h.2 j, fun y u => ⟨by simp [h.1], ?_⟩⟩
    have h0 := (World.ownsRow.stored h.2 (k * 4) (.int .i64 y.kind)).1
    have h1 := (World.ownsRow.stored h0 (k * 4 + 1) (.int .i64 y.a)).1
    have h2 := (World.ownsRow.stored h1 (k * 4 + 2) (.int .i64 y.b)).1
    have h3 := (World.ownsRow.stored h2 (k * 4 + 3) u).1
    rw [nodeCells_put _ _ _ _ _ hk h.1] at h3
    simpa using h3
theorem filledN (xs ys : List NodeD) {n k : Nat} (hx : xs.length = k) (hk : k < n) (y : NodeD) : (xs ++ List.replicate (n - k) zNode).set k y = (xs ++ [y]) ++ List.replicate (n - (k + 1)) zNode := by
  rw [List.set_append_right _ _ (by omega), hx, Nat.sub_self, show n - k = (n - (k + 1)) + 1 by omega, List.replicate_succ, List.set_cons_zero, List.append_assoc]
  rfl
set_option maxHeartbeats 1600000 in
theorem toNodeS_v {v : Value} {xs : List NodeD} (w : World) (h : VNodeS w v xs) (hn : wtNodeS xs ≤ 1048576) :
    Calls Tryd.prog 78 #[v] w fun e w' => ∃ u M, e = .returned u ∧ OwnNodeS w.heap.size w' u xs M ∧ Dis M ∧ Below w.heap.size w w' := by
  obtain ⟨p, c, rfl, h⟩ := h
  have hn1 : xs.length ≤ 1048576 := by unfold wtNodeS at hn; omega
  have hmk := run_make_nodes xs.length hn1
  have h0 := OwnN.made (B := w.heap.size) w xs.length (Nat.le_refl _) hn1
  go_enter Tryd.func78, Tryd.ntmps78
  go_wp2_with fail
  go_loopw [4] (fun i wr => ∃ k : Nat, k ≤ xs.length ∧ i = .int .i64 k ∧ ∃ L : List Value, L.length = k ∧ OwnN w.heap.size wr (.slice (some ⟨w.heap.size, 0, none⟩) xs.length xs.length) (xs.take k ++ List.replicate (xs.length - k) zNode) (L ++ List.replicate (xs.length - k) (.slice none 0 0)) ∧
      OwnIs w.heap.size wr L ((xs.take k).map NodeD.src) ∧ Dis L ∧ Below w.heap.size w wr) (fun i _ => xs.length - (intOf i).toNat)
  case atStart =>
    exact ⟨0, Nat.zero_le _, rfl, [], rfl, by simpa using h0, by simpa using OwnIs.nil _ _, List.Pairwise.nil, (Below.refl _ _).alloc (Nat.le_refl _) _⟩
  case round =>
    obtain ⟨k, hk, rfl, L, hLk, hown, hin, hdis, hbel⟩ := hrel
    have HL := Lib.hid hLk
    clear h0 hLk
    obtain ⟨wi, rfl⟩ : ∃ wi : World, wi = wr := ⟨_, rfl⟩
    by_cases hlt : k < xs.length
    · obtain ⟨b, o, rfl, hb, hc⟩ := (h.below hbel).pos hlt
      have hnd := hc k hlt
      have hwt : wtNode xs[k] ≤ 1048576 := by
        have h1 := lens_nodes xs hlt
        have h2 := lens_nodes_le xs (k + 1)
        unfold wtNode wtI; unfold wtNodeS at hn; omega
      have HTK : Hid (xs.take (k + 1) = xs.take k ++ [xs[k]]) := List.take_succ_eq_append_getElem hlt
      obtain ⟨z0, z1, z2, q, d, z3, hr⟩ := hnd
      generalize hx : xs[k] = x at *
      have HX := Lib.hid hx
      clear hx hc hn
      have TO := Lib.hid (toNode_v wi ⟨q, d, rfl, hr⟩ hwt)
      clear hr
      go_wp2_with fail
      refine TO.out.mono ?_
      rintro e w1 ⟨u, L1, rfl, hu, -, hb1⟩
      obtain ⟨u3, L3, rfl, rfl, o3⟩ := hu
      have o3 := o3.1
      have hown1 := hown.below hb1
      have hin1 := hin.below hb1
      have hbel1 := hbel.trans (hb1.mono hbel.size)
      have hlk : (xs.take k).length = k := by rw [List.length_take]; omega
      have hlen : k < (xs.take k ++ List.replicate (xs.length - k) zNode).length := by rw [List.length_append, hlk, List.length_replicate]; omega
      obtain ⟨-, hgB, hgs, ⟨y0, y1, y2, y3, g0, g1, g2, g3⟩, hfr, hst⟩ := hown1.storing hlen
      have f0 := hfr (k * 4)
      have f1 := hfr (k * 4 + 1)
      have f2 := hfr (k * 4 + 2)
      have f3 := hfr (k * 4 + 3)
      have hst' := hst x u3
      rw [filledN _ xs hlk hlt, filled L _ u3 xs.length k HL.out hlt, ← HTK.out] at hst'
      have hoff := hown1.off hin1 (k := w.heap.size) rfl
      have hoff2 : u3.ownBlock ≠ some w.heap.size := fun e => by have := (o3.lt e).1; have := (hown.lt (k := w.heap.size) rfl).2; omega
      have hdis2 : Dis (L ++ [u3]) := hdis.snoc fun b hb hbl => by have := (o3.lt hb).1; have := (hin.blk hbl).2.1; omega
      have hkeep : ∀ j, j ≠ w.heap.size → ((((w1.setCell ⟨w.heap.size, k * 4, none⟩ (.int .i64 x.kind)).setCell ⟨w.heap.size, k * 4 + 1, none⟩ (.int .i64 x.a)).setCell ⟨w.heap.size, k * 4 + 2, none⟩ (.int .i64 x.b)).setCell ⟨w.heap.size, k * 4 + 3, none⟩ u3).heap[j]? = w1.heap[j]? := fun j hj =>
        (Below.heap_setCell _ _ _ _ hj).trans ((Below.heap_setCell _ _ _ _ hj).trans ((Below.heap_setCell _ _ _ _ hj).trans (Below.heap_setCell _ _ _ _ hj)))
      have hin2 : OwnIs w.heap.size ((((w1.setCell ⟨w.heap.size, k * 4, none⟩ (.int .i64 x.kind)).setCell ⟨w.heap.size, k * 4 + 1, none⟩ (.int .i64 x.a)).setCell ⟨w.heap.size, k * 4 + 2, none⟩ (.int .i64 x.b)).setCell ⟨w.heap.size, k * 4 + 3, none⟩ u3) (L ++ [u3]) ((xs.take (k + 1)).map NodeD.src) := by
        rw [HTK.out, List.map_append]
        exact OwnIs.snoc (hin1.keep fun j hj => hkeep j fun (e : j = w.heap.size) => hoff (e ▸ hj)) ((o3.mono hbel.size).keep fun j hj => hkeep j fun (e : j = w.heap.size) => hoff2 (e ▸ hj))
      have HO := Lib.hid hst'
      have HI := Lib.hid hin2
      have HD := Lib.hid hdis2
      obtain ⟨q', c', rfl, -⟩ := o3.rd
      clear hst hst' hown hin hdis hown1 hin1 hoff hoff2 hlen hb1 hgB hin2 hdis2 hkeep hfr o3 hlk
      go_wp2_with fail
      go_roundw
      case rel => exact ⟨k + 1, by omega, by go_num, _, by rw [List.length_append, HL.out]; rfl, HO.out, HI.out, HD.out, (((hbel1.setCell (Nat.le_refl _) _).setCell (Nat.le_refl _) _).setCell (Nat.le_refl _) _).setCell (Nat.le_refl _) _⟩
      case measure => simp [intOf] <;> omega
    · obtain rfl : k = xs.length := by omega
      have hL := HL.out
      go_wp2_with fail
      go_ret
      have ho : OwnNodeS w.heap.size wi (.slice (some ⟨w.heap.size, 0, none⟩) xs.length xs.length) xs (.slice (some ⟨w.heap.size, 0, none⟩) xs.length xs.length :: L) := ⟨L, rfl, by simpa using hown, by simpa using hin, hdis⟩
      exact ⟨_, _, rfl, ho, ho.dis, hbel⟩
set_option maxHeartbeats 1600000 in
theorem eqNodeS_v {v v' : Value} {xs : List NodeD} (w : World) (h : VNodeS w v xs) (h' : VNodeS w v' xs) :
    Calls Tryd.prog 82 #[v, v'] w fun e w' => e = .returned (.bool true) ∧ Below w.heap.size w w' := by
  obtain ⟨p, c, rfl, h⟩ := h
  obtain ⟨p', c', rfl, h'⟩ := h'
  have hl := h.len
  unfold maxLen at hl
  go_enter Tryd.func82, Tryd.ntmps82
  go_wp2_with fail
  go_loopw [5] (fun i wr => ∃ k : Nat, k ≤ xs.length ∧ i = .int .i64 k ∧ Below w.heap.size w wr) (fun i _ => xs.length - (intOf i).toNat)
  case atStart => exact ⟨0, Nat.zero_le _, rfl, Below.refl _ _⟩
  case round =>
    obtain ⟨k, hk, rfl, hbel⟩ := hrel
    obtain ⟨wi, rfl⟩ : ∃ wi : World, wi = wr := ⟨_, rfl⟩
    by_cases hlt : k < xs.length
    · obtain ⟨b, o, rfl, hb, hc⟩ := (h.below hbel).pos hlt
      obtain ⟨b', o', rfl, hb', hc'⟩ := (h'.below hbel).pos hlt
      obtain ⟨z0, z1, z2, q, d, z3, hr⟩ := hc k hlt
      obtain ⟨y0, y1, y2, q', d', y3, hr'⟩ := hc' k hlt
      generalize xs[k] = x at z0 z1 z2 z3 hr y0 y1 y2 y3 hr'
      have r0 := cell_regrown z0
      have r1 := cell_regrown z1
      have r2 := cell_regrown z2
      have r3 := cell_regrown z3
      have s0 := cell_regrown y0
      have s1 := cell_regrown y1
      have s2 := cell_regrown y2
      have s3 := cell_regrown y3
      have K1 : Hid (∀ n os, Calls Tryd.prog 33 #[.agg #[.int .i64 x.kind, .int .i64 x.a, .int .i64 x.b, .slice q x.src.length d], .agg #[.int .i64 x.kind, .int .i64 x.a, .int .i64 x.b, .slice q' x.src.length d']] (grow (redrawn wi n) os) fun e w'' => e = .returned (.bool true) ∧ ∃ p : Regrown, w'' = grow (redrawn wi p.d) p.os) := fun n os => Calls.regrown_of (eqNode_v (x := x) _ ⟨q, d, rfl, hr.below (below_regrown wi n os)⟩ ⟨q', d', rfl, hr'.below (below_regrown wi n os)⟩)
      clear hc hc' hr hr' z0 z1 z2 z3 y0 y1 y2 y3
      go_wp2_with fail
      refine wp_region_quiet_below (by kernel_rfl) (by kernel_rfl) ?_
      repeat (first | go_big_quiet_step ((go_at_call 33; exact K1.out _ _)) | quiet_step ((go_at_call 33; exact K1.out _ _)))
      refine wpQuiet_nil ?_
      intro _ hw'
      obtain ⟨⟨dq, osq⟩, hw''⟩ := hw'
      subst hw''
      have hq := hbel.trans ((below_regrown wi dq osq).mono hbel.size)
      generalize grow (redrawn wi dq) osq = F at hq ⊢
      go_wp2_with fail
      go_roundw
      case rel => exact ⟨k + 1, by omega, by go_num, hq⟩
      case measure => simp [intOf] <;> omega
    · obtain rfl : k = xs.length := by omega
      go_wp2_with fail
      go_ret
      exact ⟨rfl, hbel⟩
end Go.Proofs.YtnhhghilejeegaaDoor
