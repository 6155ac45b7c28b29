/-
  Slices of integers that a call has made itself; append; make.
-/
import Derived.Test.YtljlcbichimhaaaGreatDoorMem
import Derived.Deep.QuietTactic
import Derived.BigQuiet
namespace Go.Proofs.YtljlcbichimhaaaGreatDoor
open Go.ChangeShapes Go.WideShapes Go.ChangeAt Go.RowKit
set_option linter.unusedVariables false

theorem infoI : (Tryz.prog.info? 2).map (fun i => (i.zero, i.size, i.bytes)) = some (some (.int .i64 0), 1, 8) := by kernel_rfl

/-- a slice of integers in a block of its own from block B on -/
def OwnI (B : Nat) (w : World) (v : Value) (xs : List Int) : Prop := w.ownsRow B 2 1 v xs.length (xs.map (Value.int .i64))

theorem OwnI.cases {B : Nat} {w : World} {v : Value} {xs : List Int} (h : OwnI B w v xs) :
    (v = .slice none 0 0 ∧ xs = []) ∨ ∃ g cap, v = .slice (some ⟨g, 0, none⟩) xs.length cap ∧ B ≤ g ∧ g < w.heap.size ∧ xs.length ≤ maxLen ∧ RdI w (some ⟨g, 0, none⟩) xs := by
  rcases h.2 with ⟨h1, h2⟩ | ⟨g, cap, cur, hv, hB, hg, hn, hm, hs, ht⟩
  · exact .inl ⟨h1, List.eq_nil_of_length_eq_zero h2⟩
  · refine .inr ⟨g, cap, hv, hB, (Array.getElem?_eq_some_iff.1 hg).1, by omega, ⟨by omega, .inr ⟨g, 0, rfl, fun i hi => ?_⟩⟩⟩
    have hh : w.ownsRow B 2 1 (.slice (some ⟨g, 0, none⟩) xs.length cap) xs.length (xs.map (Value.int .i64)) := by rw [← hv]; exact h
    rw [Nat.zero_add, hh.cellAt i (by omega), List.getElem?_map, List.getElem?_eq_getElem hi]
    rfl

theorem OwnI.rd {B : Nat} {w : World} {v : Value} {xs : List Int} (h : OwnI B w v xs) : ∃ p c, v = .slice p xs.length c ∧ RdI w p xs := by
  rcases h.cases with ⟨rfl, rfl⟩ | ⟨g, cap, rfl, _, _, _, hr⟩
  · exact ⟨none, 0, rfl, RdI.nil _ _⟩
  · exact ⟨_, cap, rfl, hr⟩

theorem OwnI.cap {B : Nat} {w : World} {p : Option Addr} {n c : Nat} {xs : List Int} (h : OwnI B w (.slice p n c) xs) : n ≤ c := by
  rcases h.2 with ⟨h1, h2⟩ | ⟨g, cap, cur, hv, _, _, hn, _⟩
  · simp only [Value.slice.injEq] at h1
    omega
  · simp only [Value.slice.injEq] at hv
    omega

theorem OwnI.len {B : Nat} {w : World} {v : Value} {xs : List Int} (h : OwnI B w v xs) : xs.length ≤ maxLen := by
  obtain ⟨_, _, _, hr⟩ := h.rd
  exact hr.len

theorem OwnI.nil (B : Nat) (w : World) : OwnI B w (.slice none 0 0) [] := World.ownsRow_nil w B _ 1

theorem OwnI.mono {B B' : Nat} {w : World} {v : Value} {xs : List Int} (h : OwnI B w v xs) (hB : B' ≤ B) : OwnI B' w v xs := by
  refine ⟨h.1, ?_⟩
  rcases h.2 with h2 | ⟨g, cap, cur, hv, hb, r⟩
  · exact .inl h2
  · exact .inr ⟨g, cap, cur, hv, Nat.le_trans hB hb, r⟩

theorem OwnI.lt {B : Nat} {w : World} {v : Value} {xs : List Int} (h : OwnI B w v xs) {k : Nat} (hk : v.ownBlock = some k) : B ≤ k ∧ k < w.heap.size := World.ownsRow.lt h k hk

theorem OwnI.keep {B : Nat} {w w' : World} {v : Value} {xs : List Int} (h : OwnI B w v xs) (hk : ∀ k, v.ownBlock = some k → w'.heap[k]? = w.heap[k]?) : OwnI B w' v xs := by
  refine ⟨h.1, ?_⟩
  rcases h.2 with hn | ⟨g, cap, cur, rfl, hb, hgg, rest⟩
  · exact .inl hn
  · exact .inr ⟨g, cap, cur, rfl, hb, (hk g rfl).trans hgg, rest⟩

theorem OwnI.below {B : Nat} {w w' : World} {v : Value} {xs : List Int} (h : OwnI B w v xs) (hb : Below w.heap.size w w') : OwnI B w' v xs :=
  h.keep fun k hk => hb.block k (h.lt hk).2

theorem OwnI.grown {B : Nat} {w w' : World} {v : Value} {xs : List Int} {row : Option Nat} (h : OwnI B w v xs) (hg : w.grownBy w' row) (hne : v.ownBlock = none ∨ v.ownBlock ≠ row) : OwnI B w' v xs := World.ownsRow.kept h hg hne

theorem OwnI.alloc {B : Nat} {w : World} {v : Value} {xs : List Int} (h : OwnI B w v xs) (o : Obj) : OwnI B (w.alloc o) v xs := World.ownsRow.alloc h o
theorem OwnI.drew {B : Nat} {w : World} {v : Value} {xs : List Int} (h : OwnI B w v xs) : OwnI B w.drew v xs := h

/-- 'Below' behind an append to a slice of the call's own -/
theorem below_appended {B : Nat} {w0 w w' : World} {v : Value} {xs : List Int} (h : Below B w0 w) (hown : OwnI B w v xs) (hB : B ≤ w.heap.size) (hg : w.grownBy w' v.ownBlock) : Below B w0 w' :=
  h.grown hg hB fun k hk => (hown.lt hk).1

/-- a literal slice of integers at the heap's end -/
theorem OwnI.lit {B : Nat} (w : World) (xs : List Int) (hB : B ≤ w.heap.size) (hm : xs.length ≤ maxLen) : OwnI B (w.alloc (.cells (xs.map (Value.int .i64)).toArray 2)) (.slice (some ⟨w.heap.size, 0, none⟩) xs.length xs.length) xs := by
  have h := World.ownsRow_lit (base := B) (e := 2) (size := 1) w (xs.map (Value.int .i64)).toArray xs.length hB hm (by simp)
  simpa [OwnI] using h

/-- what make lays -/
theorem OwnI.made {B : Nat} (w : World) (n : Nat) (hB : B ≤ w.heap.size) (hm : n ≤ maxLen) : OwnI B (w.alloc (.cells (madeCells #[.int .i64 0] n) 2)) (.slice (some ⟨w.heap.size, 0, none⟩) n n) (List.replicate n 0) := by
  have h := World.ownsRow_lit (base := B) (e := 2) (size := 1) w (madeCells #[.int .i64 0] n) n hB hm (by rw [size_madeCells, Nat.mul_one])
  rw [toList_madeCells_one] at h
  simpa [OwnI] using h

theorem OwnI.storing {B : Nat} {w : World} {g n cap : Nat} {xs : List Int} (h : OwnI B w (.slice (some ⟨g, 0, none⟩) n cap) xs) {k : Nat} (hk : k < xs.length) :
    n = xs.length ∧ B ≤ g ∧ g < w.heap.size ∧ w.cell? ⟨g, k, none⟩ = some (.int .i64 xs[k]) ∧ w.frozen? ⟨g, k, none⟩ = false ∧
      ∀ y, OwnI B (w.setCell ⟨g, k, none⟩ (.int .i64 y)) (.slice (some ⟨g, 0, none⟩) n cap) (xs.set k y) := by
  have hl := h.lt (k := g) rfl
  rcases h.cases with ⟨h1, _⟩ | ⟨g', cap', h1, hB, hlt, _, hr⟩
  · simp at h1
  · simp only [Value.slice.injEq, Option.some.injEq, Addr.mk.injEq, and_true] at h1
    obtain ⟨rfl, rfl, rfl⟩ := h1
    refine ⟨rfl, hl.1, hl.2, ?_, World.ownsRow.frozenAt h k, fun y => ?_⟩
    · rw [World.ownsRow.cellAt h k (by omega), List.getElem?_map, List.getElem?_eq_getElem hk]
      rfl
    · have := (World.ownsRow.stored h k (.int .i64 y)).1
      simpa [OwnI, List.map_set] using this

theorem rdI_one (w : World) (x : Int) : RdI (w.alloc (.cells #[.int .i64 x] 2)) (some ⟨w.heap.size, 0, none⟩) [x] := by
  refine ⟨by simp [maxLen], .inr ⟨w.heap.size, 0, rfl, fun i hi => ?_⟩⟩
  simp at hi
  subst hi
  rw [World.cell?_alloc_at _ _ _ _ rfl]
  rfl

section
variable {H : Type}

theorem run_append_int (w : World) (ty : TypeId) {B : Nat} {v : Value} {xs ys : List Int} (hown : OwnI B w v xs) {p : Option Addr} {c : Nat} (hr : RdI w p ys) (hlen : xs.length + ys.length ≤ 17592186044415) (hB : B ≤ w.heap.size) :
    ∃ v' w', (Builtin.append_ #[24, 24] ty #[v, .slice p ys.length c]).run Tryz.prog w = .ok v' w' ∧ OwnI B w' v' (xs ++ ys) ∧ w.grownBy w' v.ownBlock := by
  obtain ⟨i0, hi, hz0, hz1, hz2⟩ := info_parts infoI
  have e1 : (xs ++ ys).length = xs.length + ys.length := by simp
  have e2 : (xs ++ ys).map (Value.int .i64) = xs.map (Value.int .i64) ++ ys.map (Value.int .i64) := by simp
  rcases hr.cells with rfl | ⟨b, o, rfl, hc⟩
  · cases p with
    | none =>
      refine ⟨v, w, ?_, by simpa [OwnI] using hown, ⟨rfl, rfl, rfl, Nat.le_refl _, fun _ _ _ => rfl⟩⟩
      rcases hown.2 with ⟨rfl, h0⟩ | ⟨g, cap, cur, rfl, _, _, hnc, _⟩
      · simp [Builtin.append_, run_underlying Tryz.underlying24, sizeOf, typeInfo, hi, Builtin.lenOf, Builtin.firstCells]
      · simp [Builtin.append_, run_underlying Tryz.underlying24, sizeOf, typeInfo, hi, Builtin.lenOf, Builtin.firstCells, hnc, storeCells]
    | some a =>
      obtain ⟨v', w', h1, h2, h3, _⟩ := run_append_own (P := Tryz.prog) w B 24 ty 2 i0 (.int .i64 0) 1 8 Tryz.underlying24 hi hz0 hz1 hz2 rfl (by decide) v xs.length (xs.map (Value.int .i64)) hown a 0 c [] rfl (by simp) (by simp) (by simp only [maxLen]; omega) (by omega) hB
      exact ⟨v', w', h1, by simpa [OwnI] using h2, h3⟩
  · obtain ⟨v', w', h1, h2, h3, _⟩ := run_append_own (P := Tryz.prog) w B 24 ty 2 i0 (.int .i64 0) 1 8 Tryz.underlying24 hi hz0 hz1 hz2 rfl (by decide) v xs.length (xs.map (Value.int .i64)) hown ⟨b, o, none⟩ ys.length c (ys.map (Value.int .i64)) (by simp)
      (by
        intro j u hu
        rw [List.getElem?_map] at hu
        rcases hj : ys[j]? with _ | y
        · rw [hj] at hu; simp at hu
        · rw [hj] at hu
          obtain ⟨hjl, hjy⟩ := List.getElem?_eq_some_iff.1 hj
          rw [Addr.add_lit, hc j hjl, hjy]
          simpa using hu)
      (by intro u hu; simp only [List.mem_map] at hu; obtain ⟨y, _, rfl⟩ := hu; rfl) (by simp only [maxLen]; omega) (by omega) hB
    exact ⟨v', w', h1, by rw [OwnI, e1, e2]; exact h2, h3⟩

theorem wpList_append_int {ops : Array Oper} {rest : List Oper} {o : Oper} {a : Act} {Q : Exit → Act → World → Prop} {w : World} (hgd : o.guard = none) (s x : Operand)
    (ho : o.op = .call { callee := .builtin .append, args := #[s, x], argTypes := #[24, 24] })
    {B : Nat} {v : Value} {xs ys : List Int} (hs : a.eval s = v) (hown : OwnI B w v xs) {p : Option Addr} {m c : Nat} (hr : RdI w p ys) (hx : a.eval x = .slice p m c) (hm : m = ys.length) (hlen : xs.length + ys.length ≤ 17592186044415) (hB : B ≤ w.heap.size)
    (h : ∀ v' w', OwnI B w' v' (xs ++ ys) → w.grownBy w' v.ownBlock → wpList Tryz.prog ops Q rest (a.put o.dst v') w') : wpList Tryz.prog ops Q (o :: rest) a w := by
  subst hm
  refine wpList_plain hgd fun K hK => ?_
  obtain ⟨v', w', h1, h2, h3⟩ := run_append_int w o.type hown (c := c) hr hlen hB
  unfold Oper.wp execOp
  simp only [ho, resolve, invoke, builtin, Sem.run_bind, Sem.run_pure, Result.andThen_ok, List.map_toArray, List.map_cons, List.map_nil, hs, hx, h1]
  exact hK _ _ (h v' w' h2 h3)

/-- append of one number, as one step of a region that draws its order -/
theorem step_append_one {ops : Array Oper} {o : Oper} {a : Act} {K : Act → World → Prop} {Q : Exit → Act → World → Prop} {E : Prop} {w : World} {y : Int} (hgd : o.guard = none) (s x : Operand)
    (ho : o.op = .call { callee := .builtin .append, args := #[s, x], argTypes := #[24, 24] })
    {B : Nat} {v : Value} {xs : List Int} (hs : a.eval s = v) (hown : OwnI B w v xs) (hx : a.eval x = .slice (some ⟨w.heap.size, 0, none⟩) 1 1) (hlen : xs.length < 17592186044415) (hB : B ≤ w.heap.size)
    (h : ∀ q c w', OwnI B w' (.slice q (xs.length + 1) c) (xs ++ [y]) → w.os = w'.os → w.tape = w'.tape → w.output = w'.output → w.heap.size ≤ w'.heap.size → (∀ k, k < w.heap.size → v.ownBlock ≠ some k → w'.heap[k]? = w.heap[k]?) → K (a.put o.dst (.slice q (xs.length + 1) c)) w') :
    if Region.wanted o (yielded ops a.tmps) = true then Oper.wp Tryz.prog o a (w.alloc (.cells #[.int .i64 y] 2)) K Q else E := by
  have hw : Region.wanted o (yielded ops a.tmps) = true := by simp [Region.wanted, hgd]
  rw [if_pos hw]
  obtain ⟨v', w', h1, h2, h3⟩ := run_append_int (w.alloc (.cells #[.int .i64 y] 2)) o.type (hown.alloc _) (c := 1) (rdI_one w y) (by simp only [List.length_cons, List.length_nil]; omega) (by simp; omega)
  obtain ⟨q, c, rfl, -⟩ := h2.rd
  have e : (xs ++ [y]).length = xs.length + 1 := by simp
  rw [e] at h1 h2
  unfold Oper.wp execOp
  simp only [List.length_cons, List.length_nil] at h1
  simp only [ho, resolve, invoke, builtin, Sem.run_bind, Sem.run_pure, Result.andThen_ok, List.map_toArray, List.map_cons, List.map_nil, hs, hx, h1]
  refine h q c w' h2 h3.os.symm h3.tape.symm h3.output.symm ?_ fun k hk hne => (h3.block k (by simp; omega) (fun e => hne e.symm)).trans (Below.heap_alloc _ _ _ hk)
  have := h3.size; simp at this; omega

theorem step_append_drew {ops : Array Oper} {o : Oper} {a : Act} {K : Act → World → Prop} {Q : Exit → Act → World → Prop} {E : Prop} {w : World} {y : Int} (hgd : o.guard = none) (s x : Operand)
    (ho : o.op = .call { callee := .builtin .append, args := #[s, x], argTypes := #[24, 24] })
    {B : Nat} {v : Value} {xs : List Int} (hs : a.eval s = v) (hown : OwnI B w v xs) (hx : a.eval x = .slice (some ⟨w.heap.size, 0, none⟩) 1 1) (hlen : xs.length < 17592186044415) (hB : B ≤ w.heap.size)
    (h : ∀ q c w', OwnI B w' (.slice q (xs.length + 1) c) (xs ++ [y]) → w.os = w'.os → w.tape = w'.tape → w.output = w'.output → w.heap.size ≤ w'.heap.size → (∀ k, k < w.heap.size → v.ownBlock ≠ some k → w'.heap[k]? = w.heap[k]?) → K (a.put o.dst (.slice q (xs.length + 1) c)) w') :
    if Region.wanted o (yielded ops a.tmps) = true then Oper.wp Tryz.prog o a (w.alloc (.cells #[.int .i64 y] 2)).drew K Q else E :=
  step_append_one (w := w.drew) hgd s x ho hs hown.drew hx hlen hB fun q c w' h1 h2 h3 h4 h5 h6 => h q c w' h1 h2 h3 h4 h5 h6

/-- append of one number that has just been laid in a block of its own -/
theorem wpList_append_one {ops : Array Oper} {rest : List Oper} {o : Oper} {a : Act} {Q : Exit → Act → World → Prop} {w : World} {y : Int} (hgd : o.guard = none) (s x : Operand)
    (ho : o.op = .call { callee := .builtin .append, args := #[s, x], argTypes := #[24, 24] })
    {B B0 : Nat} {w0 : World} {v : Value} {xs : List Int} (hs : a.eval s = v) (hown : OwnI B w v xs) (hx : a.eval x = .slice (some ⟨w.heap.size, 0, none⟩) 1 1) (hbel : Below B0 w0 w) (hlen : xs.length < 17592186044415) (hB : B ≤ w.heap.size) (hB0 : B0 ≤ B)
    (h : ∀ v' w', OwnI B w' v' (xs ++ [y]) → Below B0 w0 w' → w.heap.size ≤ w'.heap.size → (∀ k, k < w.heap.size → v.ownBlock ≠ some k → w'.heap[k]? = w.heap[k]?) → wpList Tryz.prog ops Q rest (a.put o.dst v') w') : wpList Tryz.prog ops Q (o :: rest) a (w.alloc (.cells #[.int .i64 y] 2)) := by
  refine wpList_append_int hgd s x ho hs (hown.alloc _) (rdI_one w y) hx rfl (by simp only [List.length_cons, List.length_nil]; omega) (by simp; omega) fun v' w' h1 h2 => h v' w' h1 ((hbel.alloc (by omega) _).grown h2 (by simp; omega) fun k hk => ?_) ?_ fun k hk hne => ?_
  · have := (hown.lt hk).1; omega
  · have := h2.size; simp at this; omega
  · exact (h2.block k (by simp; omega) (fun e => hne e.symm)).trans (Below.heap_alloc _ _ _ hk)
end

/-! ### slices of slices -/

theorem infoII : (Tryz.prog.info? 24).map (fun i => (i.zero, i.size, i.bytes)) = some (some (.slice none 0 0), 1, 24) := by kernel_rfl

/-- the values of L are slices of integers of their own, that read xss -/
def OwnIs (B : Nat) (w : World) (L : List Value) (xss : List (List Int)) : Prop :=
  L.length = xss.length ∧ ∀ i, (h : i < xss.length) → ∃ u, L[i]? = some u ∧ OwnI B w u xss[i]

/-- block b is one of those of L -/
def Blk (L : List Value) (b : Nat) : Prop := ∃ u ∈ L, u.ownBlock = some b

/-- no two of L lie in one block -/
def Dis (L : List Value) : Prop := L.Pairwise fun u u' => ∀ b, u.ownBlock = some b → u'.ownBlock ≠ some b

theorem OwnIs.at_ {B : Nat} {w : World} {L : List Value} {xss : List (List Int)} (h : OwnIs B w L xss) {i : Nat} (hi : i < xss.length) : ∃ hL : i < L.length, OwnI B w L[i] xss[i] := by
  obtain ⟨u, hu, ho⟩ := h.2 i hi
  obtain ⟨hl, he⟩ := List.getElem?_eq_some_iff.1 hu
  exact ⟨hl, by rw [he]; exact ho⟩

theorem OwnIs.nil (B : Nat) (w : World) : OwnIs B w [] [] := ⟨rfl, fun i h => by simp at h⟩

theorem OwnIs.snoc {B : Nat} {w : World} {L : List Value} {xss : List (List Int)} (h : OwnIs B w L xss) {u : Value} {xs : List Int} (hu : OwnI B w u xs) : OwnIs B w (L ++ [u]) (xss ++ [xs]) := by
  refine ⟨by simp [h.1], fun i hi => ?_⟩
  by_cases e : i < xss.length
  · obtain ⟨v, hv, ho⟩ := h.2 i e
    refine ⟨v, ?_, by rw [List.getElem_append_left e]; exact ho⟩
    rw [List.getElem?_append_left (by rw [h.1]; exact e), hv]
  · have e' : i = xss.length := by simp at hi; omega
    subst e'
    refine ⟨u, by rw [← h.1, List.getElem?_append_right (Nat.le_refl _)]; simp, ?_⟩
    simpa using hu

theorem OwnIs.append {B : Nat} {w : World} {L L' : List Value} {xss yss : List (List Int)} (h : OwnIs B w L xss) (h' : OwnIs B w L' yss) : OwnIs B w (L ++ L') (xss ++ yss) := by
  refine ⟨by simp [h.1, h'.1], fun i hi => ?_⟩
  by_cases e : i < xss.length
  · obtain ⟨v, hv, ho⟩ := h.2 i e
    refine ⟨v, ?_, by rw [List.getElem_append_left e]; exact ho⟩
    rw [List.getElem?_append_left (by rw [h.1]; exact e), hv]
  · have hi' : i - xss.length < yss.length := by simp at hi; omega
    obtain ⟨v, hv, ho⟩ := h'.2 _ hi'
    refine ⟨v, ?_, ?_⟩
    · rw [List.getElem?_append_right (by rw [h.1]; omega), h.1, hv]
    · rw [List.getElem_append_right (by omega)]; exact ho

theorem OwnIs.mono {B B' : Nat} {w : World} {L : List Value} {xss : List (List Int)} (h : OwnIs B w L xss) (hB : B' ≤ B) : OwnIs B' w L xss :=
  ⟨h.1, fun i hi => by obtain ⟨u, hu, ho⟩ := h.2 i hi; exact ⟨u, hu, ho.mono hB⟩⟩

theorem OwnIs.keep {B : Nat} {w w' : World} {L : List Value} {xss : List (List Int)} (h : OwnIs B w L xss) (hk : ∀ k, Blk L k → w'.heap[k]? = w.heap[k]?) : OwnIs B w' L xss :=
  ⟨h.1, fun i hi => by obtain ⟨u, hu, ho⟩ := h.2 i hi; exact ⟨u, hu, ho.keep fun k hb => hk k ⟨u, List.mem_of_getElem? hu, hb⟩⟩⟩

theorem OwnIs.blk {B : Nat} {w : World} {L : List Value} {xss : List (List Int)} (h : OwnIs B w L xss) {b : Nat} (hb : Blk L b) : B ≤ b ∧ b < w.heap.size ∧ ∃ cur, w.heap[b]? = some (.cells cur 2 (0, 0)) := by
  obtain ⟨u, hu, hb⟩ := hb
  obtain ⟨i, hi, rfl⟩ := List.mem_iff_getElem.1 hu
  obtain ⟨hL, ho⟩ := h.at_ (i := i) (by rw [← h.1]; exact hi)
  refine ⟨(ho.lt hb).1, (ho.lt hb).2, ?_⟩
  rcases ho.2 with ⟨hn, _⟩ | ⟨g, cap, cur, hv, _, hg, _⟩
  · rw [hn] at hb; simp [Value.ownBlock] at hb
  · rw [hv] at hb
    simp only [Value.ownBlock, Option.some.injEq] at hb
    subst hb
    exact ⟨cur, hg⟩

theorem OwnIs.below {B : Nat} {w w' : World} {L : List Value} {xss : List (List Int)} (h : OwnIs B w L xss) (hb : Below w.heap.size w w') : OwnIs B w' L xss :=
  h.keep fun k hk => hb.block k (h.blk hk).2.1

/-- the slice at p reads the values of L, one cell each -/
structure RdV (w : World) (p : Option Addr) (L : List Value) : Prop where
  len : L.length ≤ maxLen
  cells : L = [] ∨ ∃ b o, p = some ⟨b, o, none⟩ ∧ ∀ i, (h : i < L.length) → w.cell? ⟨b, o + i, none⟩ = some L[i]

theorem RdV.pos {w : World} {p : Option Addr} {L : List Value} (h : RdV w p L) {k : Nat} (hk : k < L.length) :
    ∃ b o, p = some ⟨b, o, none⟩ ∧ b < w.heap.size ∧ ∀ i, (h : i < L.length) → w.cell? ⟨b, o + i, none⟩ = some L[i] := by
  rcases h.cells with rfl | ⟨b, o, e, hc⟩
  · simp at hk
  · exact ⟨b, o, e, World.block_lt_of_cell? w _ (hc k hk), hc⟩

theorem RdV.keep {w w' : World} {p : Option Addr} {L : List Value} (h : RdV w p L) (hk : ∀ b o, p = some ⟨b, o, none⟩ → b < w.heap.size → w'.heap[b]? = w.heap[b]?) : RdV w' p L := by
  refine ⟨h.len, ?_⟩
  rcases h.cells with rfl | ⟨b, o, e, hc⟩
  · exact .inl rfl
  · by_cases h0 : L = []
    · exact .inl h0
    · have hpos : 0 < L.length := List.length_pos_iff.2 h0
      have hb := World.block_lt_of_cell? w _ (hc 0 hpos)
      exact .inr ⟨b, o, e, fun i hi => (World.cell?_of_block (w := w) (a := ⟨b, o + i, none⟩) (hk b o e hb)).trans (hc i hi)⟩

/-- an outer row of its own, of values of one cell -/
def OwnV (B : Nat) (w : World) (E : TypeId) (v : Value) (L : List Value) : Prop := w.ownsRow B E 1 v L.length L

theorem OwnV.cases {B : Nat} {w : World} {E : TypeId} {v : Value} {L : List Value} (h : OwnV B w E v L) :
    (v = .slice none 0 0 ∧ L = []) ∨ ∃ g cap, v = .slice (some ⟨g, 0, none⟩) L.length cap ∧ B ≤ g ∧ g < w.heap.size ∧ (∃ cur, w.heap[g]? = some (.cells cur E (0, 0))) ∧ RdV w (some ⟨g, 0, none⟩) L := by
  rcases h.2 with ⟨h1, h2⟩ | ⟨g, cap, cur, hv, hB, hg, hn, hm, hs, ht⟩
  · exact .inl ⟨h1, List.eq_nil_of_length_eq_zero h2⟩
  · refine .inr ⟨g, cap, hv, hB, (Array.getElem?_eq_some_iff.1 hg).1, ⟨cur, hg⟩, ⟨by omega, .inr ⟨g, 0, rfl, fun i hi => ?_⟩⟩⟩
    have hh : w.ownsRow B E 1 (.slice (some ⟨g, 0, none⟩) L.length cap) L.length L := by rw [← hv]; exact h
    rw [Nat.zero_add, hh.cellAt i (by omega), List.getElem?_eq_getElem hi]

theorem OwnV.lt {B : Nat} {w : World} {E : TypeId} {v : Value} {L : List Value} (h : OwnV B w E v L) {k : Nat} (hk : v.ownBlock = some k) : B ≤ k ∧ k < w.heap.size := World.ownsRow.lt h k hk
theorem OwnV.keep {B : Nat} {w w' : World} {E : TypeId} {v : Value} {L : List Value} (h : OwnV B w E v L) (hk : ∀ k, v.ownBlock = some k → w'.heap[k]? = w.heap[k]?) : OwnV B w' E v L := by
  refine ⟨h.1, ?_⟩
  rcases h.2 with hn | ⟨g, cap, cur, rfl, hb, hgg, rest⟩
  · exact .inl hn
  · exact .inr ⟨g, cap, cur, rfl, hb, (hk g rfl).trans hgg, rest⟩
theorem OwnV.below {B : Nat} {w w' : World} {E : TypeId} {v : Value} {L : List Value} (h : OwnV B w E v L) (hb : Below w.heap.size w w') : OwnV B w' E v L := h.keep fun k hk => hb.block k (h.lt hk).2
theorem OwnV.mono {B B' : Nat} {w : World} {E : TypeId} {v : Value} {L : List Value} (h : OwnV B w E v L) (hB : B' ≤ B) : OwnV B' w E v L := by
  refine ⟨h.1, ?_⟩
  rcases h.2 with h2 | ⟨g, cap, cur, hv, hb, r⟩
  · exact .inl h2
  · exact .inr ⟨g, cap, cur, hv, Nat.le_trans hB hb, r⟩

theorem OwnV.made {B : Nat} (w : World) (E : TypeId) (z : Value) (n : Nat) (hB : B ≤ w.heap.size) (hm : n ≤ maxLen) : OwnV B (w.alloc (.cells (madeCells #[z] n) E)) E (.slice (some ⟨w.heap.size, 0, none⟩) n n) (List.replicate n z) := by
  have h := World.ownsRow_lit (base := B) (e := E) (size := 1) w (madeCells #[z] n) n hB hm (by rw [size_madeCells, Nat.mul_one])
  rw [toList_madeCells_one] at h
  simpa [OwnV] using h

theorem OwnV.storing {B : Nat} {w : World} {E : TypeId} {g n cap : Nat} {L : List Value} (h : OwnV B w E (.slice (some ⟨g, 0, none⟩) n cap) L) {k : Nat} (hk : k < L.length) :
    n = L.length ∧ B ≤ g ∧ g < w.heap.size ∧ w.cell? ⟨g, k, none⟩ = some L[k] ∧ w.frozen? ⟨g, k, none⟩ = false ∧ ∀ y, OwnV B (w.setCell ⟨g, k, none⟩ y) E (.slice (some ⟨g, 0, none⟩) n cap) (L.set k y) := by
  have hl := h.lt (k := g) rfl
  rcases h.cases with ⟨h1, _⟩ | ⟨g', cap', h1, hB, hlt, _, hr⟩
  · simp at h1
  · simp only [Value.slice.injEq, Option.some.injEq, Addr.mk.injEq, and_true] at h1
    obtain ⟨rfl, rfl, rfl⟩ := h1
    refine ⟨rfl, hl.1, hl.2, ?_, World.ownsRow.frozenAt h k, fun y => ?_⟩
    · rw [World.ownsRow.cellAt h k (by omega), List.getElem?_eq_getElem hk]
    · have := (World.ownsRow.stored h k y).1
      simpa [OwnV] using this

/-- the outer row lies in none of the inner blocks: its cells are of another type -/
theorem OwnV.off {B B' : Nat} {w : World} {E : TypeId} {v : Value} {L M : List Value} {xss : List (List Int)} (h : OwnV B w E v L) (hE : E ≠ 2) (hs : OwnIs B' w M xss) {k : Nat} (hk : v.ownBlock = some k) : ¬ Blk M k := by
  intro hb
  obtain ⟨_, _, cur, hg⟩ := hs.blk hb
  rcases h.cases with ⟨rfl, _⟩ | ⟨g, cap, rfl, _, _, ⟨cur', hg'⟩, _⟩
  · simp [Value.ownBlock] at hk
  · simp only [Value.ownBlock, Option.some.injEq] at hk
    subst hk
    rw [hg] at hg'
    simp only [Option.some.injEq, Obj.cells.injEq] at hg'
    exact hE hg'.2.1.symm

/-- a slice of slices of its own: L are the inner slices -/
def OwnII (B : Nat) (w : World) (v : Value) (xss : List (List Int)) (L : List Value) : Prop := OwnV B w 24 v L ∧ OwnIs B w L xss ∧ Dis L

theorem OwnII.rd {B : Nat} {w : World} {v : Value} {xss : List (List Int)} {L : List Value} (h : OwnII B w v xss L) : ∃ p c, v = .slice p xss.length c ∧ RdII w p xss := by
  obtain ⟨hv, hs, _⟩ := h
  rcases hv.cases with ⟨rfl, rfl⟩ | ⟨g, cap, rfl, _, _, _, hr⟩
  · have : xss = [] := List.eq_nil_of_length_eq_zero (by rw [← hs.1]; rfl)
    subst this
    exact ⟨none, 0, rfl, RdII.nil _ _⟩
  · refine ⟨_, cap, by rw [hs.1], ⟨by rw [← hs.1]; exact hr.len, ?_, fun b o i q l c hp hi hcl => ?_⟩⟩
    rotate_left
    · obtain ⟨hL, ho⟩ := hs.at_ hi
      obtain ⟨b', o', e', _, hc'⟩ := hr.pos hL
      rw [hp] at e'
      simp only [Option.some.injEq, Addr.mk.injEq, and_true] at e'
      obtain ⟨rfl, rfl⟩ := e'
      rw [hc' i hL, Option.some.injEq] at hcl
      rw [hcl] at ho
      exact ho.cap
    rcases hr.cells with rfl | ⟨b, o, e, hc⟩
    · left
      exact List.eq_nil_of_length_eq_zero (by rw [← hs.1]; rfl)
    · right
      refine ⟨b, o, e, fun i hi => ?_⟩
      obtain ⟨hL, ho⟩ := hs.at_ hi
      obtain ⟨q, c, hq, hrd⟩ := ho.rd
      exact ⟨q, c, by rw [hc i hL, hq], hrd⟩

theorem OwnII.below {B : Nat} {w w' : World} {v : Value} {xss : List (List Int)} {L : List Value} (h : OwnII B w v xss L) (hb : Below w.heap.size w w') : OwnII B w' v xss L := ⟨h.1.below hb, h.2.1.below hb, h.2.2⟩
theorem OwnII.mono {B B' : Nat} {w : World} {v : Value} {xss : List (List Int)} {L : List Value} (h : OwnII B w v xss L) (hB : B' ≤ B) : OwnII B' w v xss L := ⟨h.1.mono hB, h.2.1.mono hB, h.2.2⟩

theorem Dis.snoc {L : List Value} (h : Dis L) {u : Value} (hu : ∀ b, u.ownBlock = some b → ¬ Blk L b) : Dis (L ++ [u]) := by
  refine List.pairwise_append.2 ⟨h, by simp, fun a ha c hc b hb hcb => ?_⟩
  simp only [List.mem_singleton] at hc
  subst hc
  exact hu b hcb ⟨a, ha, hb⟩

theorem Dis.append {L M : List Value} (h : Dis L) (h' : Dis M) (hd : ∀ b, Blk L b → ¬ Blk M b) : Dis (L ++ M) :=
  List.pairwise_append.2 ⟨h, h', fun a ha c hc b hb hcb => hd b ⟨a, ha, hb⟩ ⟨c, hc, hcb⟩⟩

theorem Dis.at_ {L : List Value} (h : Dis L) {i j : Nat} (hi : i < L.length) (hj : j < L.length) (hne : i ≠ j) {b : Nat} (hb : L[i].ownBlock = some b) : L[j].ownBlock ≠ some b := by
  rcases Nat.lt_or_gt_of_ne hne with hlt | hgt
  · exact (List.pairwise_iff_getElem.1 h i j hi hj hlt) b hb
  · exact fun hb' => (List.pairwise_iff_getElem.1 h j i hj hi hgt) b hb' hb

section
theorem run_append_val (w : World) (ty E T bytes : Nat) (z : Value) (hT : Tryz.prog.underlying T = some (.slice E)) (hinfo : (Tryz.prog.info? E).map (fun i => (i.zero, i.size, i.bytes)) = some (some z, 1, bytes)) (hz : z.cells.size = 1) (hby : bytes ≤ 64)
    {B : Nat} {v u : Value} {L : List Value} (hown : OwnV B w E v L) (h1 : u.oneCell' = true) (hlen : L.length < 1099511627776) (hB : B ≤ w.heap.size) :
    ∃ v' w', (Builtin.append_ #[T, T] ty #[v, .slice (some ⟨w.heap.size, 0, none⟩) 1 1]).run Tryz.prog (w.alloc (.cells #[u] E)) = .ok v' w' ∧ OwnV B w' E v' (L ++ [u]) ∧ (w.alloc (.cells #[u] E)).grownBy w' v.ownBlock := by
  obtain ⟨i0, hi, hz0, hz1, hz2⟩ := info_parts hinfo
  obtain ⟨v', w', h1, h2, h3, _⟩ := run_append_own (P := Tryz.prog) (w.alloc (.cells #[u] E)) B T ty E i0 z 1 bytes hT hi hz0 hz1 hz2 hz (by decide) v L.length L (hown.keep fun k hk => Below.heap_alloc _ _ _ (hown.lt hk).2) ⟨w.heap.size, 0, none⟩ 1 1 [u] rfl
    (by
      intro j x hx
      match j, hx with
      | 0, hx =>
        simp only [List.getElem?_cons_zero, Option.some.injEq] at hx
        subst hx
        rw [Addr.add_lit, World.cell?_alloc_at _ _ _ _ rfl]
        rfl)
    (by intro x hx; simp only [List.mem_singleton] at hx; subst hx; exact h1) (by simp only [maxLen]; omega)
    (by have : (L.length + 1) * bytes ≤ 1099511627776 * 64 := Nat.mul_le_mul (by omega) hby
        omega) (by simp; omega)
  exact ⟨v', w', h1, by simpa [OwnV] using h2, h3⟩

theorem wpList_append_val {ops : Array Oper} {rest : List Oper} {o : Oper} {a : Act} {Q : Exit → Act → World → Prop} {w : World} {u : Value} {E T : Nat} (hgd : o.guard = none) (s x : Operand)
    (ho : o.op = .call { callee := .builtin .append, args := #[s, x], argTypes := #[T, T] }) (bytes : Nat) (z : Value) (hT : Tryz.prog.underlying T = some (.slice E)) (hinfo : (Tryz.prog.info? E).map (fun i => (i.zero, i.size, i.bytes)) = some (some z, 1, bytes)) (hz : z.cells.size = 1) (hby : bytes ≤ 64)
    {B B0 : Nat} {w0 : World} {v : Value} {L : List Value} (hs : a.eval s = v) (hown : OwnV B w E v L) (hx : a.eval x = .slice (some ⟨w.heap.size, 0, none⟩) 1 1) (h1 : u.oneCell' = true) (hbel : Below B0 w0 w) (hlen : L.length < 1099511627776) (hB : B ≤ w.heap.size) (hB0 : B0 ≤ B)
    (h : ∀ v' w', OwnV B w' E v' (L ++ [u]) → Below B0 w0 w' → w.heap.size ≤ w'.heap.size → (∀ k, k < w.heap.size → v.ownBlock ≠ some k → w'.heap[k]? = w.heap[k]?) → wpList Tryz.prog ops Q rest (a.put o.dst v') w') : wpList Tryz.prog ops Q (o :: rest) a (w.alloc (.cells #[u] E)) := by
  refine wpList_plain hgd fun K hK => ?_
  obtain ⟨v', w', e1, e2, e3⟩ := run_append_val w o.type E T bytes z hT hinfo hz hby hown h1 hlen hB
  unfold Oper.wp execOp
  simp only [ho, resolve, invoke, builtin, Sem.run_bind, Sem.run_pure, Result.andThen_ok, List.map_toArray, List.map_cons, List.map_nil, hs, hx, e1]
  refine hK _ _ (h v' w' e2 ((hbel.alloc (by omega) _).grown e3 (by simp; omega) fun k hk => ?_) ?_ fun k hk hne => ?_)
  · have := (hown.lt hk).1; omega
  · have := e3.size; simp at this; omega
  · exact (e3.block k (by simp; omega) (fun e => hne e.symm)).trans (Below.heap_alloc _ _ _ hk)
end

theorem OwnI.oneCell {B : Nat} {w : World} {v : Value} {xs : List Int} (h : OwnI B w v xs) : v.oneCell' = true := by
  rcases h.cases with ⟨rfl, _⟩ | ⟨_, _, rfl, _⟩ <;> rfl

/-- a row more -/
theorem OwnII.snoc {B : Nat} {w w' : World} {v v' u : Value} {xss : List (List Int)} {xs : List Int} {L : List Value} (h : OwnII B w v xss L) (hu : OwnI B w u xs) (hnew : ∀ b, u.ownBlock = some b → ¬ Blk L b)
    (hv : OwnV B w' 24 v' (L ++ [u])) (hk : ∀ k, k < w.heap.size → v.ownBlock ≠ some k → w'.heap[k]? = w.heap[k]?) : OwnII B w' v' (xss ++ [xs]) (L ++ [u]) := by
  obtain ⟨h1, h2, h3⟩ := h
  refine ⟨hv, ?_, h3.snoc hnew⟩
  refine ((h2.keep fun k hb => hk k (h2.blk hb).2.1 fun e => h1.off (by decide) h2 e hb)).snoc (hu.keep fun k hb => hk k (hu.lt hb).2 fun e => ?_)
  exact h1.off (by decide) (OwnIs.snoc (OwnIs.nil B w) hu) e ⟨u, by simp, hb⟩
theorem OwnII.empty {B : Nat} (w : World) (hB : B ≤ w.heap.size) : OwnII B (w.alloc (.cells #[] 24)) (.slice (some ⟨w.heap.size, 0, none⟩) 0 0) [] [] := by
  refine ⟨?_, OwnIs.nil _ _, List.Pairwise.nil⟩
  have h := World.ownsRow_lit (base := B) (e := 24) (size := 1) w #[] 0 hB (by simp [maxLen]) (by simp)
  simpa [OwnV] using h
end Go.Proofs.YtljlcbichimhaaaGreatDoor
