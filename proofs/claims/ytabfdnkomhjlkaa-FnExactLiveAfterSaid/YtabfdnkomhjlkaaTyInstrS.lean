/-
  Slices of instructions: how they lie in memory; contracts of the laws' helpers for them.
-/
import Derived.Test.YtabfdnkomhjlkaaPInstr
import Derived.Lib.QuietBelow
namespace Go.Proofs.Ytabfdnkomhjlkaa
open Go.ChangeShapes Go.WideShapes Go.ChangeAt Go.RowKit Go.Sort
set_option linter.unusedVariables false

/-- the slice of nodes at p reads xs -/
structure RdInstrS (w : World) (p : Option Addr) (xs : List InstrD) : Prop where
  len : xs.length ≤ maxLen
  cells : xs = [] ∨ ∃ b o, p = some ⟨b, o, none⟩ ∧ ∀ i, (h : i < xs.length) → PInstr w b (o + i * 6) xs[i]
theorem RdInstrS.pos {w : World} {p : Option Addr} {xs : List InstrD} (h : RdInstrS w p xs) {k : Nat} (hk : k < xs.length) :
    ∃ b o, p = some ⟨b, o, none⟩ ∧ b < w.heap.size ∧ ∀ i, (h : i < xs.length) → PInstr w b (o + i * 6) xs[i] := by
  rcases h.cells with rfl | ⟨b, o, e, hc⟩
  · simp at hk
  · exact ⟨b, o, e, (hc k hk).lt, hc⟩
theorem RdInstrS.nil (w : World) (p : Option Addr) : RdInstrS w p [] := ⟨by simp [maxLen], .inl rfl⟩
theorem RdInstrS.below {w w' : World} {p : Option Addr} {xs : List InstrD} (h : RdInstrS w p xs) (hb : Below w.heap.size w w') : RdInstrS w' p xs := by
  refine ⟨h.len, ?_⟩
  rcases h.cells with rfl | ⟨b, o, e, hc⟩
  · exact .inl rfl
  · exact .inr ⟨b, o, e, fun i hi => (hc i hi).below hb⟩
def VInstrS (w : World) (v : Value) (xs : List InstrD) : Prop := ∃ p c, v = .slice p xs.length c ∧ RdInstrS w p xs
theorem VInstrS.below {w w' : World} {v : Value} {xs : List InstrD} (h : VInstrS w v xs) (hb : Below w.heap.size w w') : VInstrS w' v xs := by
  obtain ⟨p, c, rfl, hr⟩ := h
  exact ⟨p, c, rfl, hr.below hb⟩
/-- the cells of nodes, the values L in the place of their slices -/
def instrCells : List InstrD → List Value → List Value
  | x :: xs, u :: us => .int .i64 x.kind :: .int .i64 x.a :: .int .i64 x.b :: .int .i64 x.node :: u :: .int .i64 x.dest :: instrCells xs us
  | _, _ => []
theorem instrCells_length : ∀ (xs : List InstrD) (L : List Value), L.length = xs.length → (instrCells xs L).length = xs.length * 6
  | [], L, h => by rw [instrCells]; simp; intros; simp_all
  | x :: xs, [], h => by simp at h
  | x :: xs, u :: us, h => by
    rw [instrCells]
    simp only [List.length_cons] at h ⊢
    rw [instrCells_length xs us (by omega)]
    omega
theorem instrCells_get : ∀ (xs : List InstrD) (L : List Value) (i : Nat) (h : i < xs.length) (hL : i < L.length),
    (instrCells xs L)[i * 6]? = some (.int .i64 xs[i].kind) ∧ (instrCells xs L)[i * 6 + 1]? = some (.int .i64 xs[i].a) ∧ (instrCells xs L)[i * 6 + 2]? = some (.int .i64 xs[i].b) ∧ (instrCells xs L)[i * 6 + 3]? = some (.int .i64 xs[i].node) ∧ (instrCells xs L)[i * 6 + 4]? = some L[i] ∧ (instrCells xs L)[i * 6 + 5]? = some (.int .i64 xs[i].dest)
  | [], _, i, h, _ => by simp at h
  | _ :: _, [], i, _, h => by simp at h
  | x :: xs, u :: us, 0, _, _ => ⟨rfl, rfl, rfl, rfl, rfl, rfl⟩
  | x :: xs, u :: us, i + 1, h, hL => by
    have := instrCells_get xs us i (by simpa using h) (by simpa using hL)
    rw [instrCells, show (i + 1) * 6 = i * 6 + 1 + 1 + 1 + 1 + 1 + 1 by omega]
    simpa using this
theorem instrCells_append : ∀ (xs ys : List InstrD) (L M : List Value), L.length = xs.length → instrCells (xs ++ ys) (L ++ M) = instrCells xs L ++ instrCells ys M
  | [], ys, L, M, h => by
    have : L = [] := List.eq_nil_of_length_eq_zero h
    subst this
    simp [instrCells]
  | x :: xs, ys, [], M, h => by simp at h
  | x :: xs, ys, u :: us, M, h => by
    rw [List.cons_append, List.cons_append, instrCells, instrCells, instrCells_append xs ys us M (by simpa using h)]
    rfl
/-- an outer row of nodes of its own, the values L in the place of their slices -/
def OwnJ (B : Nat) (w : World) (v : Value) (xs : List InstrD) (L : List Value) : Prop := L.length = xs.length ∧ w.ownsRow B 54 6 v xs.length (instrCells xs L)
theorem OwnJ.lt {B : Nat} {w : World} {v : Value} {xs : List InstrD} {L : List Value} (h : OwnJ B w v xs L) {k : Nat} (hk : v.ownBlock = some k) : B ≤ k ∧ k < w.heap.size := World.ownsRow.lt h.2 k hk
theorem OwnJ.keep {B : Nat} {w w' : World} {v : Value} {xs : List InstrD} {L : List Value} (h : OwnJ B w v xs L) (hk : ∀ k, v.ownBlock = some k → w'.heap[k]? = w.heap[k]?) : OwnJ B w' v xs L := by
  refine ⟨h.1, h.2.1, ?_⟩
  rcases h.2.2 with hn | ⟨g, cap, cur, rfl, hb, hgg, rest⟩
  · exact .inl hn
  · exact .inr ⟨g, cap, cur, rfl, hb, (hk g rfl).trans hgg, rest⟩
theorem OwnJ.below {B : Nat} {w w' : World} {v : Value} {xs : List InstrD} {L : List Value} (h : OwnJ B w v xs L) (hb : Below w.heap.size w w') : OwnJ B w' v xs L := h.keep fun k hk => hb.block k (h.lt hk).2
theorem OwnJ.mono {B B' : Nat} {w : World} {v : Value} {xs : List InstrD} {L : List Value} (h : OwnJ B w v xs L) (hB : B' ≤ B) : OwnJ B' w v xs L := by
  refine ⟨h.1, h.2.1, ?_⟩
  rcases h.2.2 with h2 | ⟨g, cap, cur, hv, hb, r⟩
  · exact .inl h2
  · exact .inr ⟨g, cap, cur, hv, Nat.le_trans hB hb, r⟩
theorem OwnJ.node {B : Nat} {w : World} {v : Value} {xs : List InstrD} {L : List Value} (h : OwnJ B w v xs L) {k : Nat} (hk : v.ownBlock = some k) : ∃ cur, w.heap[k]? = some (.cells cur 54 (0, 0)) := by
  rcases h.2.2 with ⟨hn, _⟩ | ⟨g, cap, cur, hv, _, hg, _⟩
  · rw [hn] at hk; simp [Value.ownBlock] at hk
  · rw [hv] at hk
    simp only [Value.ownBlock, Option.some.injEq] at hk
    subst hk
    exact ⟨cur, hg⟩
theorem OwnJ.cases {B : Nat} {w : World} {v : Value} {xs : List InstrD} {L : List Value} (h : OwnJ B w v xs L) :
    (v = .slice none 0 0 ∧ xs = [] ∧ L = []) ∨ ∃ g cap, v = .slice (some ⟨g, 0, none⟩) xs.length cap ∧ B ≤ g ∧ g < w.heap.size ∧ xs.length ≤ maxLen ∧
      (∀ i, (hi : i < xs.length) → (hL : i < L.length) → w.cell? ⟨g, i * 6, none⟩ = some (.int .i64 xs[i].kind) ∧ w.cell? ⟨g, i * 6 + 1, none⟩ = some (.int .i64 xs[i].a) ∧ w.cell? ⟨g, i * 6 + 2, none⟩ = some (.int .i64 xs[i].b) ∧ w.cell? ⟨g, i * 6 + 3, none⟩ = some (.int .i64 xs[i].node) ∧ w.cell? ⟨g, i * 6 + 4, none⟩ = some L[i] ∧ w.cell? ⟨g, i * 6 + 5, none⟩ = some (.int .i64 xs[i].dest)) := by
  obtain ⟨hl, h⟩ := h
  rcases h.2 with ⟨h1, h2⟩ | ⟨g, cap, cur, hv, hB, hg, hn, hm, hs, ht⟩
  · have e : xs = [] := List.eq_nil_of_length_eq_zero h2
    subst e
    exact .inl ⟨h1, rfl, List.eq_nil_of_length_eq_zero hl⟩
  · refine .inr ⟨g, cap, hv, hB, (Array.getElem?_eq_some_iff.1 hg).1, by omega, fun i hi hL => ?_⟩
    have hh : w.ownsRow B 54 6 (.slice (some ⟨g, 0, none⟩) xs.length cap) xs.length (instrCells xs L) := by rw [← hv]; exact h
    obtain ⟨c0, c1, c2, c3, c4, c5⟩ := instrCells_get xs L i hi hL
    exact ⟨(hh.cellAt _ (by omega)).trans c0, (hh.cellAt _ (by omega)).trans c1, (hh.cellAt _ (by omega)).trans c2, (hh.cellAt _ (by omega)).trans c3, (hh.cellAt _ (by omega)).trans c4, (hh.cellAt _ (by omega)).trans c5⟩
theorem OwnJ.nil (B : Nat) (w : World) : OwnJ B w (.slice none 0 0) [] [] := ⟨rfl, World.ownsRow_nil w B _ 6⟩
/-- a slice of nodes of its own; M: the row itself, and the slices of its nodes -/
def OwnInstrS (B : Nat) (w : World) (v : Value) (xs : List InstrD) (M : List Value) : Prop := ∃ L, M = v :: L ∧ OwnJ B w v xs L ∧ OwnIs B w L (xs.map InstrD.src) ∧ Dis L
theorem OwnInstrS.blk {B : Nat} {w : World} {v : Value} {xs : List InstrD} {M : List Value} (h : OwnInstrS B w v xs M) {b : Nat} (hb : Blk M b) : B ≤ b ∧ b < w.heap.size := by
  obtain ⟨L, rfl, ho, hs, hd⟩ := h
  obtain ⟨u, hu, hb⟩ := hb
  rcases List.mem_cons.1 hu with rfl | hu
  · exact ho.lt hb
  · exact ⟨(hs.blk ⟨u, hu, hb⟩).1, (hs.blk ⟨u, hu, hb⟩).2.1⟩
theorem OwnJ.off {B B' : Nat} {w : World} {v : Value} {xs : List InstrD} {L M : List Value} {xss : List (List Int)} (h : OwnJ B w v xs L) (hs : OwnIs B' w M xss) {k : Nat} (hk : v.ownBlock = some k) : ¬ Blk M k := by
  intro hb
  obtain ⟨_, _, cur, hg⟩ := hs.blk hb
  obtain ⟨cur', hg'⟩ := h.node hk
  rw [hg] at hg'
  simp only [Option.some.injEq, Obj.cells.injEq] at hg'
  exact absurd hg'.2.1 (by decide)
theorem OwnInstrS.dis {B : Nat} {w : World} {v : Value} {xs : List InstrD} {M : List Value} (h : OwnInstrS B w v xs M) : Dis M := by
  obtain ⟨L, rfl, ho, hs, hd⟩ := h
  refine List.pairwise_cons.2 ⟨fun u hu b hb hb' => ho.off hs hb ⟨u, hu, hb'⟩, hd⟩
theorem OwnInstrS.rd {B : Nat} {w : World} {v : Value} {xs : List InstrD} {M : List Value} (h : OwnInstrS B w v xs M) : VInstrS w v xs := by
  obtain ⟨L, rfl, ho, hs, hd⟩ := h
  rcases ho.cases with ⟨rfl, rfl, rfl⟩ | ⟨g, cap, rfl, hB, hg, hm, hc⟩
  · exact ⟨none, 0, rfl, RdInstrS.nil _ _⟩
  · refine ⟨_, cap, rfl, hm, .inr ⟨g, 0, rfl, fun i hi => ?_⟩⟩
    have hL : i < L.length := by rw [ho.1]; exact hi
    obtain ⟨c0, c1, c2, c3, c4, c5⟩ := hc i hi hL
    obtain ⟨hL', hu⟩ := hs.at_ (i := i) (by simpa using hi)
    obtain ⟨q, d, e, hr⟩ := hu.rd
    rw [List.getElem_map] at e hr
    rw [Nat.zero_add]
    exact ⟨c0, c1, c2, c3, ⟨q, d, by rw [c4, e], hr⟩, c5⟩
theorem OwnInstrS.mono {B B' : Nat} {w : World} {v : Value} {xs : List InstrD} {M : List Value} (h : OwnInstrS B w v xs M) (hB : B' ≤ B) : OwnInstrS B' w v xs M := by
  obtain ⟨L, rfl, ho, hs, hd⟩ := h
  exact ⟨L, rfl, ho.mono hB, hs.mono hB, hd⟩
theorem OwnInstrS.keeps {B : Nat} {w w' : World} {v : Value} {xs : List InstrD} {M : List Value} (h : OwnInstrS B w v xs M) (hk : ∀ k, B ≤ k → k < w.heap.size → w'.heap[k]? = w.heap[k]?) : OwnInstrS B w' v xs M := by
  obtain ⟨L, rfl, ho, hs, hd⟩ := h
  exact ⟨L, rfl, ho.keep fun k hb => hk k (ho.lt hb).1 (ho.lt hb).2, hs.keep fun k hb => hk k (hs.blk hb).1 (hs.blk hb).2.1, hd⟩
theorem OwnInstrS.below {B : Nat} {w w' : World} {v : Value} {xs : List InstrD} {M : List Value} (h : OwnInstrS B w v xs M) (hb : Below w.heap.size w w') : OwnInstrS B w' v xs M := h.keeps fun k _ hk => hb.block k hk
theorem OwnInstrS.offBlk {B : Nat} {w w' : World} {v : Value} {xs : List InstrD} {M M' : List Value} (h : OwnInstrS B w v xs M) (_hi : IntBlks w M') (hd : ∀ b, Blk M b → ¬ Blk M' b) (hf : Off (Blk M') w w') : OwnInstrS B w' v xs M := by
  have hb := fun b (hb : Blk M b) => h.blk hb
  obtain ⟨L, rfl, ho, hs, hds⟩ := h
  exact ⟨L, rfl, ho.keep fun k hk => hf.block k (ho.lt hk).2 (hd k ⟨v, List.mem_cons_self .., hk⟩),
    hs.keep fun k hk => hf.block k (hs.blk hk).2.1 (hd k (by obtain ⟨u, hu, hb⟩ := hk; exact ⟨u, List.mem_cons_of_mem _ hu, hb⟩)), hds⟩
theorem OwnInstrS.ints {B : Nat} {w : World} {v : Value} {xs : List InstrD} {M : List Value} (h : OwnInstrS B w v xs M) : IntBlks w M := by
  obtain ⟨L, rfl, ho, hs, hd⟩ := h
  rintro b ⟨u, hu, hb⟩
  rcases List.mem_cons.1 hu with rfl | hu
  · obtain ⟨cur, hg⟩ := ho.node hb
    exact ⟨cur, _, hg, by first | exact .inr (.inl rfl) | exact .inr (.inr (.inl rfl))⟩
  · obtain ⟨_, _, cur, hg⟩ := hs.blk ⟨u, hu, hb⟩
    exact ⟨cur, _, hg, .inl rfl⟩
/-- sizes and marks -/
def wtInstrS (xs : List InstrD) : Nat := xs.length + lens (xs.map InstrD.src)
def cntInstrS (xs : List InstrD) : Nat := 5 * xs.length + lens (xs.map InstrD.src)
theorem cntInstrS_le (xs : List InstrD) : cntInstrS xs ≤ 6 * wtInstrS xs := by unfold cntInstrS wtInstrS; omega
def markInstrS (m : Int) : List InstrD → List InstrD
  | [] => []
  | x :: xs => ⟨m, m + 1, m + 1 + 1, m + 1 + 1 + 1, markI (m + 1 + 1 + 1 + 1) x.src, m + 1 + 1 + 1 + 1 + x.src.length⟩ :: markInstrS (m + 1 + 1 + 1 + 1 + x.src.length + 1) xs
section
variable {H : Type} {enc : TypeId × Value → H} {W : World}
set_option maxRecDepth 100000 in
theorem rdInstrS_trod {fuel : Nat} {cs : List Value} {x : DataW H × List MemPlace} (h : DataW.trod enc Try.prog W 0 (fun _ => true) true fuel 23 cs = some x) :
    ∃ p c xs, cs = [.slice p (List.length xs) c] ∧ RdInstrS W p xs := by
  obtain ⟨p, n, c, rfl, hn, hc⟩ := slice_fields_trod Try.underlying23 Try.underlying58 (by kernel_rfl) (by kernel_rfl) h
  rcases hc with rfl | ⟨a, rfl, hc⟩
  · exact ⟨p, c, [], rfl, RdInstrS.nil _ _⟩
  · by_cases h0 : n = 0
    · subst h0
      exact ⟨_, c, [], rfl, RdInstrS.nil _ _⟩
    obtain ⟨u0, _, _, e0, _⟩ := hc 0 (by omega) 0 _ rfl
    have hs : a = ⟨a.block, a.off, none⟩ := by
      obtain ⟨b, o, s⟩ := a
      cases s with
      | none => rfl
      | some s => simp [Addr.add, World.cell?] at e0; split at e0 <;> simp at e0
    have each : ∀ i, i < n → ∃ x, PInstr W a.block (a.off + i * 6) x := by
      intro i hi
      obtain ⟨a0, n0, y0, e0, t0⟩ := hc i hi 0 _ rfl
      obtain ⟨a1, n1, y1, e1, t1⟩ := hc i hi 1 _ rfl
      obtain ⟨a2, n2, y2, e2, t2⟩ := hc i hi 2 _ rfl
      obtain ⟨a3, n3, y3, e3, t3⟩ := hc i hi 3 _ rfl
      obtain ⟨a4, n4, y4, e4, t4⟩ := hc i hi 4 _ rfl
      obtain ⟨a5, n5, y5, e5, t5⟩ := hc i hi 5 _ rfl
      obtain ⟨m0, h0, -, -⟩ := DataW.trod_int Try.underlying2 t0
      obtain ⟨m1, h1, -, -⟩ := DataW.trod_int Try.underlying2 t1
      obtain ⟨m2, h2, -, -⟩ := DataW.trod_int Try.underlying2 t2
      obtain ⟨m3, h3, -, -⟩ := DataW.trod_int Try.underlying2 t3
      obtain ⟨p4, c4, m4, h4, r4, -⟩ := rdI_trod Try.underlying24 Try.underlying2 (by kernel_rfl) t4
      obtain ⟨m5, h5, -, -⟩ := DataW.trod_int Try.underlying2 t5
      simp only [List.cons.injEq, and_true] at h0 h1 h2 h3 h4 h5
      subst h0 h1 h2 h3 h4 h5
      rw [hs, Addr.add_lit] at e0 e1 e2 e3 e4 e5
      exact ⟨⟨m0, m1, m2, m3, m4, m5⟩, e0, by rw [Nat.add_assoc]; exact e1, by rw [Nat.add_assoc]; exact e2, by rw [Nat.add_assoc]; exact e3, ⟨p4, c4, by rw [Nat.add_assoc]; exact e4, r4⟩, by rw [Nat.add_assoc]; exact e5⟩
    haveI : Inhabited InstrD := ⟨⟨0, 0, 0, 0, [], 0⟩⟩
    obtain ⟨F, hF⟩ := Deep.choose_lt each
    refine ⟨some a, c, (List.range n).map F, by simp, by simpa using hn, .inr ⟨a.block, a.off, by rw [← hs], fun i hi => ?_⟩⟩
    simp only [List.length_map, List.length_range] at hi
    simpa using hF i hi
end
theorem lens_instrs (xs : List InstrD) {k : Nat} (h : k < xs.length) : lens ((xs.take (k + 1)).map InstrD.src) = lens ((xs.take k).map InstrD.src) + xs[k].src.length := by
  have := lens_take_succ (xs.map InstrD.src) k (by simpa using h)
  rw [← List.map_take, ← List.map_take, List.getElem_map] at this
  exact this
theorem lens_instrs_le (xs : List InstrD) (k : Nat) : lens ((xs.take k).map InstrD.src) ≤ lens (xs.map InstrD.src) := by
  have := lens_take_le (xs.map InstrD.src) k
  rwa [← List.map_take] at this
set_option maxHeartbeats 800000 in
theorem szInstrS_v {v : Value} {xs : List InstrD} (left : Int) (w : World) (h : VInstrS w v xs) (h0 : 0 ≤ left) (h1 : left ≤ 1048576) :
    Calls Try.prog 17 #[v, .int .i64 left] w fun e w' => e = .returned (.int .i64 (szF left (wtInstrS xs))) ∧ Below w.heap.size w w' := by
  obtain ⟨p, c, rfl, h⟩ := h
  have hl := h.len
  unfold maxLen at hl
  by_cases hlt0 : left - (xs.length : Int) < 0
  · have hs : szF left (wtInstrS xs) = -1 := szF_lt (by unfold wtInstrS; omega)
    rw [hs]
    clear hs
    go_enter Try.func17, Try.ntmps17
    go_wp2_with fail
    go_ret
    exact ⟨rfl, Below.refl _ _⟩
  · go_enter Try.func17, Try.ntmps17
    go_wp2_with fail
    go_loopw [1, 5] (fun q i wr => ∃ k : Nat, k ≤ xs.length ∧ i = .int .i64 k ∧ ∃ S : Nat, S = lens ((xs.take k).map InstrD.src) ∧ q = .int .i64 (left - xs.length - S) ∧ (xs.length : Int) + S ≤ left ∧ Below w.heap.size w wr) (fun _ i _ => xs.length - (intOf i).toNat)
    case atStart => exact ⟨0, Nat.zero_le _, rfl, 0, by simp [lens], by simp, by simp; omega, Below.refl _ _⟩
    case round =>
      obtain ⟨k, hk, rfl, S, hS, rfl, hle, hbel⟩ := hrel
      by_cases hlt : k < xs.length
      · obtain ⟨b, o, rfl, hb, hc⟩ := (h.below hbel).pos hlt
        have hts := lens_instrs xs hlt
        have hle2 := lens_instrs_le xs (k + 1)
        have hn := hc k hlt
        obtain ⟨z0, z1, z2, z3, ⟨q, d, z4, hr⟩, z5⟩ := hn
        rw [← hS] at hts
        generalize hx : xs[k] = x at *
        have HX := Lib.hid hx; have HS := Lib.hid hS; have HT := Lib.hid hts; have HL2 := Lib.hid hle2
        clear hx hS hts hle2 hc
        have SZ := Lib.hid (szInstr_v (left - (xs.length : Int) - (S : Int)) wr ⟨q, d, rfl, hr⟩ (by omega) (by omega))
        have hrl := hr.len
        unfold maxLen at hrl
        by_cases hov : left - (xs.length : Int) - (S : Int) < x.src.length
        · have hz : szF (left - (xs.length : Int) - (S : Int)) (wtInstr x) = -1 := szF_lt hov
          rw [hz] at SZ
          clear hz
          go_wp2_with (go_at_call 32; refine SZ.out.mono ?_; rintro e w1 ⟨rfl, hb1⟩)
          go_ret
          refine ⟨ret_int ?_, hbel.trans (hb1.mono hbel.size)⟩
          rw [szF_lt]; unfold wtInstrS; have h1 := HT.out; have h2 := HL2.out; omega
        · have hz : szF (left - (xs.length : Int) - (S : Int)) (wtInstr x) = left - (xs.length : Int) - (S : Int) - x.src.length := szF_ge (by unfold wtInstr wtI; omega)
          rw [hz] at SZ
          clear hz
          have hd : ¬ left - (xs.length : Int) - (S : Int) - x.src.length < 0 := by omega
          go_wp2_with (go_at_call 32; refine SZ.out.mono ?_; rintro e w1 ⟨rfl, hb1⟩)
          go_roundw
          case rel => exact ⟨k + 1, by omega, by go_num, S + x.src.length, HT.out.symm, by simp only [Int.natCast_add]; congr 1; omega, by omega, hbel.trans (hb1.mono hbel.size)⟩
          case measure => simp [intOf] <;> omega
      · obtain rfl : k = xs.length := by omega
        rw [List.take_length] at hS
        go_wp2_with fail
        go_ret
        exact ⟨ret_int (by rw [szF_ge (by unfold wtInstrS; omega)]; unfold wtInstrS; omega), hbel⟩
theorem infoJ : (Try.prog.info? 54).map (fun i => (i.zero, i.size, i.bytes)) = some (some (.agg #[.int .i64 0, .int .i64 0, .int .i64 0, .int .i64 0, .slice none 0 0, .int .i64 0]), 6, 64) := by kernel_rfl
def zInstr : InstrD := ⟨0, 0, 0, 0, [], 0⟩
theorem instrCells_put : ∀ (xs : List InstrD) (L : List Value) (k : Nat) (y : InstrD) (u : Value), k < xs.length → L.length = xs.length →
    ((((((instrCells xs L).set (k * 6) (.int .i64 y.kind)).set (k * 6 + 1) (.int .i64 y.a)).set (k * 6 + 2) (.int .i64 y.b)).set (k * 6 + 3) (.int .i64 y.node)).set (k * 6 + 4) u).set (k * 6 + 5) (.int .i64 y.dest) = instrCells (xs.set k y) (L.set k u)
  | [], _, k, _, _, h, _ => by simp at h
  | _ :: _, [], _, _, _, _, h => by simp at h
  | x :: xs, v :: us, 0, y, u, _, _ => rfl
  | x :: xs, v :: us, k + 1, y, u, h, hL => by
    have := instrCells_put xs us k y u (by simpa using h) (by simpa using hL)
    rw [instrCells, show (k + 1) * 6 = k * 6 + 1 + 1 + 1 + 1 + 1 + 1 by omega]
    simp only [List.set_cons_succ, instrCells]
    rw [this]
theorem madeInstrs : ∀ n : Nat, (madeCells #[.int .i64 0, .int .i64 0, .int .i64 0, .int .i64 0, .slice none 0 0, .int .i64 0] (n * 6)).toList = instrCells (List.replicate n zInstr) (List.replicate n (.slice none 0 0)) := by
  intro n
  refine List.ext_getElem (by rw [instrCells_length _ _ (by simp)]; simp [madeCells]) fun i h1 h2 => ?_
  have hi : i < n * 6 := by simpa [madeCells] using h1
  obtain ⟨q, r, hr, rfl⟩ : ∃ q r, r < 6 ∧ i = q * 6 + r := ⟨i / 6, i % 6, Nat.mod_lt _ (by omega), by omega⟩
  have hq : q < n := by omega
  obtain ⟨c0, c1, c2, c3, c4, c5⟩ := instrCells_get (List.replicate n zInstr) (List.replicate n (.slice none 0 0)) q (by simpa using hq) (by simpa using hq)
  have hm : (q * 6 + r) % 6 = r := by omega
  rw [← Option.some_inj, ← List.getElem?_eq_getElem h2]
  rcases (show r = 0 ∨ r = 1 ∨ r = 2 ∨ r = 3 ∨ r = 4 ∨ r = 5 by omega) with rfl | rfl | rfl | rfl | rfl | rfl
  · refine Eq.trans ?_ c0.symm; simp [madeCells, zInstr]
  · refine Eq.trans ?_ c1.symm; simp [madeCells, zInstr, hm]
  · refine Eq.trans ?_ c2.symm; simp [madeCells, zInstr, hm]
  · refine Eq.trans ?_ c3.symm; simp [madeCells, zInstr, hm]
  · refine Eq.trans ?_ c4.symm; simp [madeCells, hm]
  · refine Eq.trans ?_ c5.symm; simp [madeCells, zInstr, hm]
theorem run_make_instrs (n : Nat) (hn : n ≤ 1048576) (w : World) :
    (Instr.makeSlice 29 (.int .i64 (n : Int)) (.int .i64 (n : Int))).run Try.prog w = .ok (.slice (some ⟨w.heap.size, 0, none⟩) n n) (w.alloc (.cells (madeCells #[.int .i64 0, .int .i64 0, .int .i64 0, .int .i64 0, .slice none 0 0, .int .i64 0] (n * 6)) 54)) := by
  obtain ⟨i, hi, hz0, hz1, hz2⟩ := info_parts infoJ
  have hr := run_make (P := Try.prog) w 29 54 i _ Try.underlying29 hi hz0 .i64 .i64 n n (by omega) (Int.le_refl _) (by rw [hz2]; omega) (by omega)
  simp only [Int.toNat_natCast, hz1] at hr
  exact hr
theorem OwnJ.made {B : Nat} (w : World) (n : Nat) (hB : B ≤ w.heap.size) (hn : n ≤ 1048576) : OwnJ B (w.alloc (.cells (madeCells #[.int .i64 0, .int .i64 0, .int .i64 0, .int .i64 0, .slice none 0 0, .int .i64 0] (n * 6)) 54)) (.slice (some ⟨w.heap.size, 0, none⟩) n n) (List.replicate n zInstr) (List.replicate n (.slice none 0 0)) := by
  have h := World.ownsRow_lit (base := B) (e := 54) (size := 6) w (madeCells #[.int .i64 0, .int .i64 0, .int .i64 0, .int .i64 0, .slice none 0 0, .int .i64 0] (n * 6)) n hB (by unfold maxLen; omega) (by rw [size_madeCells])
  rw [madeInstrs] at h
  exact ⟨by simp, by simpa using h⟩
theorem OwnJ.storing {B : Nat} {w : World} {g n cap : Nat} {xs : List InstrD} {L : List Value} (h : OwnJ B w (.slice (some ⟨g, 0, none⟩) n cap) xs L) {k : Nat} (hk : k < xs.length) :
    n = xs.length ∧ B ≤ g ∧ g < w.heap.size ∧ (∃ u0 u1 u2 u3 u4 u5, w.cell? ⟨g, k * 6, none⟩ = some u0 ∧ w.cell? ⟨g, k * 6 + 1, none⟩ = some u1 ∧ w.cell? ⟨g, k * 6 + 2, none⟩ = some u2 ∧ w.cell? ⟨g, k * 6 + 3, none⟩ = some u3 ∧ w.cell? ⟨g, k * 6 + 4, none⟩ = some u4 ∧ w.cell? ⟨g, k * 6 + 5, none⟩ = some u5) ∧ (∀ j, w.frozen? ⟨g, j, none⟩ = false) ∧
      ∀ (y : InstrD) u, OwnJ B ((((((w.setCell ⟨g, k * 6, none⟩ (.int .i64 y.kind)).setCell ⟨g, k * 6 + 1, none⟩ (.int .i64 y.a)).setCell ⟨g, k * 6 + 2, none⟩ (.int .i64 y.b)).setCell ⟨g, k * 6 + 3, none⟩ (.int .i64 y.node)).setCell ⟨g, k * 6 + 4, none⟩ u).setCell ⟨g, k * 6 + 5, none⟩ (.int .i64 y.dest)) (.slice (some ⟨g, 0, none⟩) n cap) (xs.set k y) (L.set k u) := by
  have hl := h.lt (k := g) rfl
  rcases h.cases with ⟨h1, _⟩ | ⟨g', cap', h1, hB, hlt, _, hc⟩
  · simp at h1
  · simp only [Value.slice.injEq, Option.some.injEq, Addr.mk.injEq, and_true] at h1
    obtain ⟨rfl, rfl, rfl⟩ := h1
    obtain ⟨c0, c1, c2, c3, c4, c5⟩ := hc k hk (by rw [h.1]; exact hk)
    refine ⟨rfl, hl.1, hl.2, ⟨_, _, _, _, _, _, c0, c1, c2, c3, c4, c5⟩, fun j => World.ownsRow.frozenAt h.2 j, fun y u => ⟨by simp [h.1], ?_⟩⟩
    have h0 := (World.ownsRow.stored h.2 (k * 6) (.int .i64 y.kind)).1
    have h1 := (World.ownsRow.stored h0 (k * 6 + 1) (.int .i64 y.a)).1
    have h2 := (World.ownsRow.stored h1 (k * 6 + 2) (.int .i64 y.b)).1
    have h3 := (World.ownsRow.stored h2 (k * 6 + 3) (.int .i64 y.node)).1
    have h4 := (World.ownsRow.stored h3 (k * 6 + 4) u).1
    have h5 := (World.ownsRow.stored h4 (k * 6 + 5) (.int .i64 y.dest)).1
    rw [instrCells_put _ _ _ _ _ hk h.1] at h5
    simpa using h5
theorem filledJ (xs ys : List InstrD) {n k : Nat} (hx : xs.length = k) (hk : k < n) (y : InstrD) : (xs ++ List.replicate (n - k) zInstr).set k y = (xs ++ [y]) ++ List.replicate (n - (k + 1)) zInstr := by
  rw [List.set_append_right _ _ (by omega), hx, Nat.sub_self, show n - k = (n - (k + 1)) + 1 by omega, List.replicate_succ, List.set_cons_zero, List.append_assoc]
  rfl
set_option maxHeartbeats 1600000 in
theorem toInstrS_v {v : Value} {xs : List InstrD} (w : World) (h : VInstrS w v xs) (hn : wtInstrS xs ≤ 1048576) :
    Calls Try.prog 21 #[v] w fun e w' => ∃ u M, e = .returned u ∧ OwnInstrS w.heap.size w' u xs M ∧ Dis M ∧ Below w.heap.size w w' := by
  obtain ⟨p, c, rfl, h⟩ := h
  have hn1 : xs.length ≤ 1048576 := by unfold wtInstrS at hn; omega
  have hmk := run_make_instrs xs.length hn1
  have h0 := OwnJ.made (B := w.heap.size) w xs.length (Nat.le_refl _) hn1
  go_enter Try.func21, Try.ntmps21
  go_wp2_with fail
  go_loopw [4] (fun i wr => ∃ k : Nat, k ≤ xs.length ∧ i = .int .i64 k ∧ ∃ L : List Value, L.length = k ∧ OwnJ w.heap.size wr (.slice (some ⟨w.heap.size, 0, none⟩) xs.length xs.length) (xs.take k ++ List.replicate (xs.length - k) zInstr) (L ++ List.replicate (xs.length - k) (.slice none 0 0)) ∧
      OwnIs w.heap.size wr L ((xs.take k).map InstrD.src) ∧ Dis L ∧ Below w.heap.size w wr) (fun i _ => xs.length - (intOf i).toNat)
  case atStart =>
    exact ⟨0, Nat.zero_le _, rfl, [], rfl, by simpa using h0, by simpa using OwnIs.nil _ _, List.Pairwise.nil, (Below.refl _ _).alloc (Nat.le_refl _) _⟩
  case round =>
    obtain ⟨k, hk, rfl, L, hLk, hown, hin, hdis, hbel⟩ := hrel
    have HL := Lib.hid hLk
    clear h0 hLk
    obtain ⟨wi, rfl⟩ : ∃ wi : World, wi = wr := ⟨_, rfl⟩
    by_cases hlt : k < xs.length
    · obtain ⟨b, o, rfl, hb, hc⟩ := (h.below hbel).pos hlt
      have hnd := hc k hlt
      have hwt : wtInstr xs[k] ≤ 1048576 := by
        have h1 := lens_instrs xs hlt
        have h2 := lens_instrs_le xs (k + 1)
        unfold wtInstr wtI; unfold wtInstrS at hn; omega
      have HTK : Hid (xs.take (k + 1) = xs.take k ++ [xs[k]]) := List.take_succ_eq_append_getElem hlt
      obtain ⟨z0, z1, z2, z3, ⟨q, d, z4, hr⟩, z5⟩ := hnd
      generalize hx : xs[k] = x at *
      have HX := Lib.hid hx
      clear hx hc hn
      have TO := Lib.hid (toInstr_v wi ⟨q, d, rfl, hr⟩ hwt)
      clear hr
      go_wp2_with fail
      refine TO.out.mono ?_
      rintro e w1 ⟨u, L1, rfl, hu, -, hb1⟩
      obtain ⟨u4, L4, rfl, rfl, o4⟩ := hu
      have o4 := o4.1
      have hown1 := hown.below hb1
      have hin1 := hin.below hb1
      have hbel1 := hbel.trans (hb1.mono hbel.size)
      have hlk : (xs.take k).length = k := by rw [List.length_take]; omega
      have hlen : k < (xs.take k ++ List.replicate (xs.length - k) zInstr).length := by rw [List.length_append, hlk, List.length_replicate]; omega
      obtain ⟨-, hgB, hgs, ⟨y0, y1, y2, y3, y4, y5, g0, g1, g2, g3, g4, g5⟩, hfr, hst⟩ := hown1.storing hlen
      have f0 := hfr (k * 6)
      have f1 := hfr (k * 6 + 1)
      have f2 := hfr (k * 6 + 2)
      have f3 := hfr (k * 6 + 3)
      have f4 := hfr (k * 6 + 4)
      have f5 := hfr (k * 6 + 5)
      have hst' := hst x u4
      rw [filledJ _ xs hlk hlt, filled L _ u4 xs.length k HL.out hlt, ← HTK.out] at hst'
      have hoff := hown1.off hin1 (k := w.heap.size) rfl
      have hoff2 : u4.ownBlock ≠ some w.heap.size := fun e => by have := (o4.lt e).1; have := (hown.lt (k := w.heap.size) rfl).2; omega
      have hdis2 : Dis (L ++ [u4]) := hdis.snoc fun b hb hbl => by have := (o4.lt hb).1; have := (hin.blk hbl).2.1; omega
      have hkeep : ∀ j, j ≠ w.heap.size → ((((((w1.setCell ⟨w.heap.size, k * 6, none⟩ (.int .i64 x.kind)).setCell ⟨w.heap.size, k * 6 + 1, none⟩ (.int .i64 x.a)).setCell ⟨w.heap.size, k * 6 + 2, none⟩ (.int .i64 x.b)).setCell ⟨w.heap.size, k * 6 + 3, none⟩ (.int .i64 x.node)).setCell ⟨w.heap.size, k * 6 + 4, none⟩ u4).setCell ⟨w.heap.size, k * 6 + 5, none⟩ (.int .i64 x.dest)).heap[j]? = w1.heap[j]? := fun j hj =>
        (Below.heap_setCell _ _ _ _ hj).trans ((Below.heap_setCell _ _ _ _ hj).trans ((Below.heap_setCell _ _ _ _ hj).trans ((Below.heap_setCell _ _ _ _ hj).trans ((Below.heap_setCell _ _ _ _ hj).trans (Below.heap_setCell _ _ _ _ hj)))))
      have hin2 : OwnIs w.heap.size ((((((w1.setCell ⟨w.heap.size, k * 6, none⟩ (.int .i64 x.kind)).setCell ⟨w.heap.size, k * 6 + 1, none⟩ (.int .i64 x.a)).setCell ⟨w.heap.size, k * 6 + 2, none⟩ (.int .i64 x.b)).setCell ⟨w.heap.size, k * 6 + 3, none⟩ (.int .i64 x.node)).setCell ⟨w.heap.size, k * 6 + 4, none⟩ u4).setCell ⟨w.heap.size, k * 6 + 5, none⟩ (.int .i64 x.dest)) (L ++ [u4]) ((xs.take (k + 1)).map InstrD.src) := by
        rw [HTK.out, List.map_append]
        exact OwnIs.snoc (hin1.keep fun j hj => hkeep j fun (e : j = w.heap.size) => hoff (e ▸ hj)) ((o4.mono hbel.size).keep fun j hj => hkeep j fun (e : j = w.heap.size) => hoff2 (e ▸ hj))
      have HO := Lib.hid hst'
      have HI := Lib.hid hin2
      have HD := Lib.hid hdis2
      obtain ⟨q', c', rfl, -⟩ := o4.rd
      clear hst hst' hown hin hdis hown1 hin1 hoff hoff2 hlen hb1 hgB hin2 hdis2 hkeep hfr o4 hlk
      go_wp2_with fail
      go_roundw
      case rel => exact ⟨k + 1, by omega, by go_num, _, by rw [List.length_append, HL.out]; rfl, HO.out, HI.out, HD.out, (((((hbel1.setCell (Nat.le_refl _) _).setCell (Nat.le_refl _) _).setCell (Nat.le_refl _) _).setCell (Nat.le_refl _) _).setCell (Nat.le_refl _) _).setCell (Nat.le_refl _) _⟩
      case measure => simp [intOf] <;> omega
    · obtain rfl : k = xs.length := by omega
      have hL := HL.out
      go_wp2_with fail
      go_ret
      have ho : OwnInstrS w.heap.size wi (.slice (some ⟨w.heap.size, 0, none⟩) xs.length xs.length) xs (.slice (some ⟨w.heap.size, 0, none⟩) xs.length xs.length :: L) := ⟨L, rfl, by simpa using hown, by simpa using hin, hdis⟩
      exact ⟨_, _, rfl, ho, ho.dis, hbel⟩
set_option maxHeartbeats 1600000 in
theorem eqInstrS_v {v v' : Value} {xs : List InstrD} (w : World) (h : VInstrS w v xs) (h' : VInstrS w v' xs) :
    Calls Try.prog 25 #[v, v'] w fun e w' => e = .returned (.bool true) ∧ Below w.heap.size w w' := by
  obtain ⟨p, c, rfl, h⟩ := h
  obtain ⟨p', c', rfl, h'⟩ := h'
  have hl := h.len
  unfold maxLen at hl
  go_enter Try.func25, Try.ntmps25
  go_wp2_with fail
  go_loopw [5] (fun i wr => ∃ k : Nat, k ≤ xs.length ∧ i = .int .i64 k ∧ Below w.heap.size w wr) (fun i _ => xs.length - (intOf i).toNat)
  case atStart => exact ⟨0, Nat.zero_le _, rfl, Below.refl _ _⟩
  case round =>
    obtain ⟨k, hk, rfl, hbel⟩ := hrel
    obtain ⟨wi, rfl⟩ : ∃ wi : World, wi = wr := ⟨_, rfl⟩
    by_cases hlt : k < xs.length
    · obtain ⟨b, o, rfl, hb, hc⟩ := (h.below hbel).pos hlt
      obtain ⟨b', o', rfl, hb', hc'⟩ := (h'.below hbel).pos hlt
      obtain ⟨z0, z1, z2, z3, ⟨q, d, z4, hr⟩, z5⟩ := hc k hlt
      obtain ⟨y0, y1, y2, y3, ⟨q', d', y4, hr'⟩, y5⟩ := hc' k hlt
      generalize xs[k] = x at z0 z1 z2 z3 z4 z5 hr y0 y1 y2 y3 y4 y5 hr'
      have r0 := cell_regrown z0
      have r1 := cell_regrown z1
      have r2 := cell_regrown z2
      have r3 := cell_regrown z3
      have r4 := cell_regrown z4
      have r5 := cell_regrown z5
      have s0 := cell_regrown y0
      have s1 := cell_regrown y1
      have s2 := cell_regrown y2
      have s3 := cell_regrown y3
      have s4 := cell_regrown y4
      have s5 := cell_regrown y5
      have K1 : Hid (∀ n os, Calls Try.prog 44 #[.agg #[.int .i64 x.kind, .int .i64 x.a, .int .i64 x.b, .int .i64 x.node, .slice q x.src.length d, .int .i64 x.dest], .agg #[.int .i64 x.kind, .int .i64 x.a, .int .i64 x.b, .int .i64 x.node, .slice q' x.src.length d', .int .i64 x.dest]] (grow (redrawn wi n) os) fun e w'' => e = .returned (.bool true) ∧ ∃ p : Regrown, w'' = grow (redrawn wi p.d) p.os) := fun n os => Calls.regrown_of (eqInstr_v (x := x) _ ⟨q, d, rfl, hr.below (below_regrown wi n os)⟩ ⟨q', d', rfl, hr'.below (below_regrown wi n os)⟩)
      clear hc hc' hr hr' z0 z1 z2 z3 z4 z5 y0 y1 y2 y3 y4 y5
      go_wp2_with fail
      refine wp_region_quiet_below (by kernel_rfl) (by kernel_rfl) ?_
      repeat (first | go_big_quiet_step ((go_at_call 44; exact K1.out _ _)) | quiet_step ((go_at_call 44; exact K1.out _ _)))
      refine wpQuiet_nil ?_
      intro _ hw'
      obtain ⟨⟨dq, osq⟩, hw''⟩ := hw'
      subst hw''
      have hq := hbel.trans ((below_regrown wi dq osq).mono hbel.size)
      generalize grow (redrawn wi dq) osq = F at hq ⊢
      go_wp2_with fail
      go_roundw
      case rel => exact ⟨k + 1, by omega, by go_num, hq⟩
      case measure => simp [intOf] <;> omega
    · obtain rfl : k = xs.length := by omega
      go_wp2_with fail
      go_ret
      exact ⟨rfl, hbel⟩
def mixJ {α : Type} (A B : List α) (k : Nat) : List α := A.take k ++ B.drop k
theorem mixJ_length {α : Type} {A B : List α} (h : A.length = B.length) {k : Nat} (hk : k ≤ B.length) : (mixJ A B k).length = B.length := by
  unfold mixJ; rw [List.length_append, List.length_take, List.length_drop]; omega
theorem mixJ_get {α : Type} {A B : List α} (h : A.length = B.length) {k : Nat} (hk : k < B.length) : (mixJ A B k)[k]'(by rw [mixJ_length h (by omega)]; exact hk) = B[k] := by
  unfold mixJ
  rw [List.getElem_append_right (by rw [List.length_take]; omega)]
  simp only [List.length_take, List.getElem_drop]
  congr 1; omega
theorem mixJ_succ {α : Type} {A B : List α} (h : A.length = B.length) {k : Nat} (hk : k < B.length) : mixJ A B (k + 1) = (mixJ A B k).set k (A[k]'(by omega)) := by
  unfold mixJ
  rw [List.set_append_right _ _ (by rw [List.length_take]; omega), List.length_take, show k - min k A.length = 0 by omega, List.drop_eq_getElem_cons hk, List.set_cons_zero, List.take_succ_eq_append_getElem (by omega), List.append_assoc]
  rfl
theorem mixJ_zero {α : Type} (A B : List α) : mixJ A B 0 = B := by simp [mixJ]
theorem mixJ_all {α : Type} {A B : List α} (h : A.length = B.length) : mixJ A B B.length = A := by
  unfold mixJ; rw [List.drop_length, List.append_nil, ← h, List.take_length]
theorem OwnIs.setJ {B : Nat} {w w1 : World} {L : List Value} {xss : List (List Int)} (h : OwnIs B w L xss) (hd : Dis L) {k : Nat} (hk : k < L.length) {ys : List Int} (hu : OwnI B w1 L[k] ys) (hf : Off (fun b => L[k].ownBlock = some b) w w1) : OwnIs B w1 L (xss.set k ys) := by
  refine ⟨by rw [List.length_set]; exact h.1, fun i hi => ?_⟩
  have hi' : i < xss.length := by rw [List.length_set] at hi; exact hi
  have hiL : i < L.length := by rw [h.1]; exact hi'
  refine ⟨L[i], List.getElem?_eq_getElem hiL, ?_⟩
  rw [List.getElem_set]
  by_cases e : k = i
  · subst e; rw [if_pos rfl]; exact hu
  · rw [if_neg e]
    obtain ⟨_, ho⟩ := h.at_ hi'
    exact ho.keep fun j hj => hf.block j (ho.lt hj).2 fun hk' => hd.at_ hk hiL e hk' hj
theorem lens_instrs' (xs : List InstrD) {k : Nat} (h : k < xs.length) : lens ((xs.take (k + 1)).map InstrD.src) = lens ((xs.take k).map InstrD.src) + xs[k].src.length := by
  rw [List.take_succ_eq_append_getElem h, List.map_append, lens_append]
  simp [lens]
theorem cntInstrS_succ (xs : List InstrD) {k : Nat} (h : k < xs.length) : cntInstrS (xs.take (k + 1)) = cntInstrS (xs.take k) + 5 + xs[k].src.length := by
  have := lens_instrs' xs h
  unfold cntInstrS
  rw [this, List.length_take, List.length_take]; omega
theorem cntInstrS_take (xs : List InstrD) (k : Nat) : cntInstrS (xs.take k) ≤ cntInstrS xs := by
  have : lens ((xs.take k).map InstrD.src) ≤ lens (xs.map InstrD.src) := by
    have h : lens (xs.map InstrD.src) = lens ((xs.take k).map InstrD.src) + lens ((xs.drop k).map InstrD.src) := by rw [← lens_append, ← List.map_append, List.take_append_drop]
    omega
  unfold cntInstrS
  rw [List.length_take]; omega
theorem markInstrS_length : ∀ (xs : List InstrD) (m : Int), (markInstrS m xs).length = xs.length
  | [], _ => rfl
  | x :: xs, m => by simp [markInstrS, markInstrS_length xs]
theorem markInstrS_get : ∀ (xs : List InstrD) (m : Int) (k : Nat) (h : k < xs.length) (h' : k < (markInstrS m xs).length) (t : Int), t = m + cntInstrS (xs.take k) →
    (markInstrS m xs)[k] = ⟨t, t + 1, t + 1 + 1, t + 1 + 1 + 1, markI (t + 1 + 1 + 1 + 1) xs[k].src, t + 1 + 1 + 1 + 1 + xs[k].src.length⟩
  | [], _, _, h, _, _, _ => by simp at h
  | x :: xs, m, 0, _, _, t, ht => by
    have : t = m := by rw [ht]; simp [cntInstrS, lens]
    subst this
    rfl
  | x :: xs, m, k + 1, h, h', t, ht => by
    have h2 : k < xs.length := by simpa using h
    have := markInstrS_get xs (m + 1 + 1 + 1 + 1 + x.src.length + 1) k h2 (by rw [markInstrS_length]; exact h2) t (by
      rw [ht, List.take_succ_cons]
      simp only [cntInstrS, List.length_cons, List.map_cons, lens_cons]
      simp only [Int.natCast_add, Int.natCast_mul]
      omega)
    simpa [markInstrS] using this
theorem instrCells_put4 : ∀ (xs : List InstrD) (L : List Value) (k : Nat) (y : InstrD), k < xs.length → L.length = xs.length → (∀ z, xs[k]? = some z → y.dest = z.dest) →
    ((((instrCells xs L).set (k * 6) (.int .i64 y.kind)).set (k * 6 + 1) (.int .i64 y.a)).set (k * 6 + 2) (.int .i64 y.b)).set (k * 6 + 3) (.int .i64 y.node) = instrCells (xs.set k y) L
  | [], _, k, _, h, _, _ => by simp at h
  | _ :: _, [], _, _, _, h, _ => by simp at h
  | x :: xs, v :: us, 0, y, _, _, hd => by
    have := hd x rfl
    simp only [instrCells, Nat.zero_mul, Nat.zero_add, List.set_cons_zero, List.set_cons_succ, this]
  | x :: xs, v :: us, k + 1, y, h, hL, hd => by
    have := instrCells_put4 xs us k y (by simpa using h) (by simpa using hL) (by simpa using hd)
    rw [instrCells, show (k + 1) * 6 = k * 6 + 1 + 1 + 1 + 1 + 1 + 1 by omega]
    simp only [List.set_cons_succ, instrCells]
    rw [this]
theorem instrCells_put5 : ∀ (xs : List InstrD) (L : List Value) (k : Nat) (y : InstrD), k < xs.length → L.length = xs.length → (∀ z, xs[k]? = some z → y.kind = z.kind ∧ y.a = z.a ∧ y.b = z.b ∧ y.node = z.node) →
    (instrCells xs L).set (k * 6 + 5) (.int .i64 y.dest) = instrCells (xs.set k y) L
  | [], _, k, _, h, _, _ => by simp at h
  | _ :: _, [], _, _, _, h, _ => by simp at h
  | x :: xs, v :: us, 0, y, _, _, hd => by
    obtain ⟨h1, h2, h3, h4⟩ := hd x rfl
    simp only [instrCells, Nat.zero_mul, Nat.zero_add, List.set_cons_zero, List.set_cons_succ, h1, h2, h3, h4]
  | x :: xs, v :: us, k + 1, y, h, hL, hd => by
    have := instrCells_put5 xs us k y (by simpa using h) (by simpa using hL) (by simpa using hd)
    rw [instrCells, show (k + 1) * 6 + 5 = k * 6 + 5 + 1 + 1 + 1 + 1 + 1 + 1 by omega]
    simp only [List.set_cons_succ, instrCells]
    rw [this]
theorem OwnJ.mark4 {B : Nat} {w : World} {g n cap : Nat} {xs : List InstrD} {L : List Value} (h : OwnJ B w (.slice (some ⟨g, 0, none⟩) n cap) xs L) {k : Nat} (hk : k < xs.length) (hn : n = xs.length) (y : InstrD) (hd : ∀ z, xs[k]? = some z → y.dest = z.dest) :
    OwnJ B ((((w.setCell ⟨g, k * 6, none⟩ (.int .i64 y.kind)).setCell ⟨g, k * 6 + 1, none⟩ (.int .i64 y.a)).setCell ⟨g, k * 6 + 2, none⟩ (.int .i64 y.b)).setCell ⟨g, k * 6 + 3, none⟩ (.int .i64 y.node)) (.slice (some ⟨g, 0, none⟩) n cap) (xs.set k y) L := by
  subst hn
  have h0 := (World.ownsRow.stored h.2 (k * 6) (.int .i64 y.kind)).1
  have h1 := (World.ownsRow.stored h0 (k * 6 + 1) (.int .i64 y.a)).1
  have h2 := (World.ownsRow.stored h1 (k * 6 + 2) (.int .i64 y.b)).1
  have h3 := (World.ownsRow.stored h2 (k * 6 + 3) (.int .i64 y.node)).1
  rw [instrCells_put4 _ _ _ _ hk h.1 hd] at h3
  exact ⟨by simp [h.1], by simpa using h3⟩
theorem OwnJ.mark5 {B : Nat} {w : World} {g n cap : Nat} {xs : List InstrD} {L : List Value} (h : OwnJ B w (.slice (some ⟨g, 0, none⟩) n cap) xs L) {k : Nat} (hk : k < xs.length) (hn : n = xs.length) (y : InstrD) (hd : ∀ z, xs[k]? = some z → y.kind = z.kind ∧ y.a = z.a ∧ y.b = z.b ∧ y.node = z.node) :
    OwnJ B (w.setCell ⟨g, k * 6 + 5, none⟩ (.int .i64 y.dest)) (.slice (some ⟨g, 0, none⟩) n cap) (xs.set k y) L := by
  subst hn
  have h0 := (World.ownsRow.stored h.2 (k * 6 + 5) (.int .i64 y.dest)).1
  rw [instrCells_put5 _ _ _ _ hk h.1 hd] at h0
  exact ⟨by simp [h.1], by simpa using h0⟩
set_option maxHeartbeats 3200000 in
theorem markInstrS_v {B : Nat} {v : Value} {xs : List InstrD} {M : List Value} (m : Int) (w : World) (h : OwnInstrS B w v xs M) (hd : Dis M) (hm0 : 0 ≤ m) (hm : m + cntInstrS xs ≤ 1099511627776) :
    Calls Try.prog 31 #[v, .int .i64 m] w fun e w' => e = .returned (.int .i64 (m + cntInstrS xs)) ∧ OwnInstrS B w' v (markInstrS m xs) M ∧ Off (Blk M) w w' := by
  have hrd := h.rd
  obtain ⟨p, c, rfl, hr⟩ := hrd
  have hl := hr.len
  unfold maxLen at hl
  clear hr
  obtain ⟨L, rfl, ho, hs, hdis⟩ := h
  have HA := Lib.hid (markInstrS_length xs m)
  have HLn := Lib.hid ho.1
  have HD := Lib.hid hdis
  clear hd hdis
  go_enter Try.func31, Try.ntmps31
  go_wp2_with fail
  go_loopw [1, 5] (fun q i wr => ∃ k : Nat, k ≤ xs.length ∧ i = .int .i64 k ∧ ∃ t : Int, t = m + cntInstrS (xs.take k) ∧ q = .int .i64 t ∧ OwnJ B wr (.slice p xs.length c) (mixJ (markInstrS m xs) xs k) L ∧ OwnIs B wr L ((mixJ (markInstrS m xs) xs k).map InstrD.src) ∧ Off (Blk (.slice p xs.length c :: L)) w wr) (fun _ i _ => xs.length - (intOf i).toNat)
  case atStart => exact ⟨0, Nat.zero_le _, rfl, m, by simp [cntInstrS, lens], rfl, by rw [mixJ_zero]; exact ho, by rw [mixJ_zero]; exact hs, Off.refl _ _⟩
  case round =>
    obtain ⟨k, hk, rfl, t, ht, rfl, hown, hin, hof⟩ := hrel
    obtain ⟨wi, rfl⟩ : ∃ wi : World, wi = wr := ⟨_, rfl⟩
    clear ho hs
    by_cases hlt : k < xs.length
    · have hml : (mixJ (markInstrS m xs) xs k).length = xs.length := mixJ_length HA.out hk
      have hgt := cntInstrS_succ xs hlt
      have hle := cntInstrS_take xs (k + 1)
      have hY := markInstrS_get xs m k hlt (by rw [HA.out]; exact hlt) t ht
      have hmx := mixJ_succ HA.out hlt
      rw [hY] at hmx
      have hkL : k < L.length := by rw [HLn.out]; exact hlt
      have hmg := mixJ_get HA.out hlt
      obtain ⟨hL', hu⟩ := hin.at_ (i := k) (by rw [List.length_map, hml]; exact hlt)
      rw [List.getElem_map, hmg] at hu
      rcases hown.cases with ⟨e, _⟩ | ⟨g, cap, e, hB, hg, _, hc⟩
      · simp only [Value.slice.injEq] at e
        omega
      simp only [Value.slice.injEq] at e
      obtain ⟨rfl, -, rfl⟩ := e
      obtain ⟨z0, z1, z2, z3, z4, z5⟩ := hc k (by rw [hml]; exact hlt) hkL
      rw [hmg] at z0 z1 z2 z3 z5
      obtain ⟨-, -, -, -, hfr, -⟩ := hown.storing (k := k) (by rw [hml]; exact hlt)
      have f0 := hfr (k * 6)
      have f1 := hfr (k * 6 + 1)
      have f2 := hfr (k * 6 + 2)
      have f3 := hfr (k * 6 + 3)
      have hN := hown.mark4 (k := k) (by rw [hml]; exact hlt) hml.symm ⟨t, t + 1, t + 1 + 1, t + 1 + 1 + 1, markI (t + 1 + 1 + 1 + 1) xs[k].src, xs[k].dest⟩ (fun z hz => by
        rw [List.getElem?_eq_getElem (by rw [hml]; exact hlt), hmg] at hz
        obtain rfl := Option.some.inj hz
        rfl)
      have hoff := hown.off hin (k := g) rfl
      obtain ⟨E1, hE1⟩ : ∃ E, E = (((wi.setCell ⟨g, k * 6, none⟩ (.int .i64 t)).setCell ⟨g, k * 6 + 1, none⟩ (.int .i64 (t + 1))).setCell ⟨g, k * 6 + 2, none⟩ (.int .i64 (t + 1 + 1))).setCell ⟨g, k * 6 + 3, none⟩ (.int .i64 (t + 1 + 1 + 1)) := ⟨_, rfl⟩
      have hk4 : ∀ j, j ≠ g → E1.heap[j]? = wi.heap[j]? := fun j hne => by
        rw [hE1]
        exact (Below.heap_setCell _ _ _ _ hne).trans ((Below.heap_setCell _ _ _ _ hne).trans ((Below.heap_setCell _ _ _ _ hne).trans (Below.heap_setCell _ _ _ _ hne)))
      rw [← hE1] at hN
      have hI : OwnIs B E1 L ((mixJ (markInstrS m xs) xs k).map InstrD.src) := hin.keep fun j hj => hk4 j (fun e => hoff (e ▸ hj))
      have hu1 : OwnI B E1 L[k] xs[k].src := hu.keep fun j hj => hk4 j (fun e => hoff (e ▸ ⟨L[k], List.getElem_mem hkL, hj⟩))
      have hF : Off (Blk (.slice (some ⟨g, 0, none⟩) xs.length c :: L)) w E1 := by
        refine hof.trans ⟨by rw [hE1]; rfl, by rw [hE1]; rfl, by rw [hE1]; rfl, by rw [hE1]; simp, fun j hj hn => hk4 j (fun e => hn ⟨_, List.mem_cons_self .., by simp [Value.ownBlock, e]⟩)⟩
      have HG : Hid (L[k].ownBlock ≠ some g) := fun e => hoff ⟨L[k], List.getElem_mem hkL, e⟩
      have HMX : Hid ((mixJ (markInstrS m xs) xs (k + 1)).map InstrD.src = ((mixJ (markInstrS m xs) xs k).map InstrD.src).set k (markI (t + 1 + 1 + 1 + 1) xs[k].src)) := by unfold Hid; rw [hmx, List.map_set]
      have hMem : ∀ b, L[k].ownBlock = some b → Blk (.slice (some ⟨g, 0, none⟩) xs.length c :: L) b := fun b hb => ⟨L[k], List.mem_cons_of_mem _ (List.getElem_mem hkL), hb⟩
      have HT : Hid (t = m + cntInstrS (xs.take k)) := ht
      have hb1 : 0 ≤ t := by omega
      have hb2 : t + 5 + xs[k].src.length ≤ 1099511627776 := by omega
      obtain ⟨uq, ud, hur, -⟩ := hu.rd
      have HS : Hid (∀ w1, OwnI B w1 L[k] (markI (t + 1 + 1 + 1 + 1) xs[k].src) → Off (fun b => L[k].ownBlock = some b) E1 w1 → OwnIs B w1 L ((mixJ (markInstrS m xs) xs (k + 1)).map InstrD.src)) := fun w1 h1 h2 => by
        rw [HMX.out]
        exact hI.setJ HD.out hkL h1 h2
      have H5 : Hid (∀ w1, Off (fun b => L[k].ownBlock = some b) E1 w1 → OwnJ B (w1.setCell ⟨g, k * 6 + 5, none⟩ (.int .i64 (t + 1 + 1 + 1 + 1 + xs[k].src.length))) (.slice (some ⟨g, 0, none⟩) xs.length c) (mixJ (markInstrS m xs) xs (k + 1)) L ∧
          w1.frozen? ⟨g, k * 6 + 5, none⟩ = false ∧ w1.cell? ⟨g, k * 6 + 5, none⟩ = some (.int .i64 xs[k].dest)) := fun w1 h2 => by
        have o1 := hN.keep (w' := w1) fun j hj => h2.block j (hN.lt hj).2 (by
          simp only [Value.ownBlock, Option.some.injEq] at hj
          subst hj
          exact HG.out)
        have hl1 : k < ((mixJ (markInstrS m xs) xs k).set k ⟨t, t + 1, t + 1 + 1, t + 1 + 1 + 1, markI (t + 1 + 1 + 1 + 1) xs[k].src, xs[k].dest⟩).length := by rw [List.length_set, hml]; exact hlt
        have o2 := o1.mark5 (k := k) hl1 (by rw [List.length_set, hml]) ⟨t, t + 1, t + 1 + 1, t + 1 + 1 + 1, markI (t + 1 + 1 + 1 + 1) xs[k].src, t + 1 + 1 + 1 + 1 + xs[k].src.length⟩ (fun z hz => by
          rw [List.getElem?_set_self (by rw [hml]; exact hlt)] at hz
          obtain rfl := Option.some.inj hz
          exact ⟨rfl, rfl, rfl, rfl⟩)
        rw [List.set_set, ← hmx] at o2
        obtain ⟨-, -, -, -, hfr2, -⟩ := o1.storing hl1
        rcases o1.cases with ⟨e, _⟩ | ⟨g2, cap2, e, -, -, -, hc2⟩
        · simp only [Value.slice.injEq] at e
          exact absurd e.1 (by simp)
        · simp only [Value.slice.injEq, Option.some.injEq, Addr.mk.injEq, and_true] at e
          obtain ⟨rfl, -, rfl⟩ := e
          obtain ⟨-, -, -, -, -, y5⟩ := hc2 k hl1 hkL
          rw [List.getElem_set_self] at y5
          exact ⟨o2, hfr2 _, y5⟩
      have HOF : Hid (¬ Blk L g) := hoff
      have HF := Lib.hid hF
      have HM := Lib.hid hMem
      have HGT := Lib.hid hgt
      have HE1 := Lib.hid hE1
      clear ht hgt hle hY hmx hmg hu hc hfr hN hoff hI hF hMem HMX hown hin hof hml hE1 hk4
      rw [hur] at z4 hu1 HG HS HM H5
      generalize xs[k] = x at *
      clear hur z5
      go_wp2_with fail
      rw [← HE1.out]
      refine (markInt64S_any _ _ hu1 (by omega) (by omega)).mono ?_
      rintro e w1 ⟨rfl, h1, h2⟩
      have h3 := HS.out w1 h1 h2
      have h4 := HF.out.trans (h2.mono HM.out)
      obtain ⟨h5, f5, z5⟩ := H5.out w1 h2
      have h3' := h3.keep (w' := w1.setCell ⟨g, k * 6 + 5, none⟩ (.int .i64 (t + 1 + 1 + 1 + 1 + x.src.length))) fun j hj => Below.heap_setCell _ _ _ _ (fun e => HOF.out (by rw [← show j = g from e]; exact hj))
      have h4' : Off (Blk (.slice (some ⟨g, 0, none⟩) xs.length c :: L)) w (w1.setCell ⟨g, k * 6 + 5, none⟩ (.int .i64 (t + 1 + 1 + 1 + 1 + x.src.length))) :=
        h4.trans ⟨rfl, rfl, rfl, by simp [World.setCell], fun j hj hn => Below.heap_setCell _ _ _ _ (fun e => hn ⟨_, List.mem_cons_self .., by simp [Value.ownBlock, show j = g from e]⟩)⟩
      have H3 := Lib.hid h3'
      have H4 := Lib.hid h4'
      have H5' := Lib.hid h5
      clear h1 h2 hu1 HS HF h3 h3' h4 h4' h5 H5
      go_wp2_with fail
      go_roundw
      case rel => exact ⟨k + 1, by omega, by go_num, _, by rw [HGT.out, Int.natCast_add, Int.natCast_add]; have := HT.out; show t + 1 + 1 + 1 + 1 + (x.src.length : Int) + 1 = _; omega, rfl, H5'.out, H3.out, H4.out⟩
      case measure => simp [intOf] <;> omega
    · obtain rfl : k = xs.length := by omega
      rw [List.take_length] at ht
      rw [mixJ_all HA.out] at hown hin
      subst ht
      go_wp2_with fail
      go_ret
      exact ⟨rfl, ⟨L, rfl, by rw [← HA.out] at hown ⊢; exact hown, hin, HD.out⟩, hof⟩
end Go.Proofs.Ytabfdnkomhjlkaa
