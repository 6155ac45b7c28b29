/-
  Slices of integers that a call has made itself; append; make.
-/
import Derived.Test.YtbjpianbeebmeaaMem
import Derived.Deep.QuietTactic
import Derived.BigQuiet
namespace Go.Proofs.Ytbjpianbeebmeaa
open Go.ChangeShapes Go.WideShapes Go.ChangeAt Go.RowKit
set_option linter.unusedVariables false

theorem infoI : (Try.prog.info? 2).map (fun i => (i.zero, i.size, i.bytes)) = some (some (.int .i64 0), 1, 8) := by kernel_rfl

/-- a slice of integers in a block of its own from block B on -/
def OwnI (B : Nat) (w : World) (v : Value) (xs : List Int) : Prop := w.ownsRow B 2 1 v xs.length (xs.map (Value.int .i64))

theorem OwnI.cases {B : Nat} {w : World} {v : Value} {xs : List Int} (h : OwnI B w v xs) :
    (v = .slice none 0 0 ∧ xs = []) ∨ ∃ g cap, v = .slice (some ⟨g, 0, none⟩) xs.length cap ∧ B ≤ g ∧ g < w.heap.size ∧ xs.length ≤ maxLen ∧ RdI w (some ⟨g, 0, none⟩) xs := by
  rcases h.2 with ⟨h1, h2⟩ | ⟨g, cap, cur, hv, hB, hg, hn, hm, hs, ht⟩
  · exact .inl ⟨h1, List.eq_nil_of_length_eq_zero h2⟩
  · refine .inr ⟨g, cap, hv, hB, (Array.getElem?_eq_some_iff.1 hg).1, by omega, ⟨by omega, .inr ⟨g, 0, rfl, fun i hi => ?_⟩⟩⟩
    have hh : w.ownsRow B 2 1 (.slice (some ⟨g, 0, none⟩) xs.length cap) xs.length (xs.map (Value.int .i64)) := by rw [← hv]; exact h
    rw [Nat.zero_add, hh.cellAt i (by omega), List.getElem?_map, List.getElem?_eq_getElem hi]
    rfl

theorem OwnI.rd {B : Nat} {w : World} {v : Value} {xs : List Int} (h : OwnI B w v xs) : ∃ p c, v = .slice p xs.length c ∧ RdI w p xs := by
  rcases h.cases with ⟨rfl, rfl⟩ | ⟨g, cap, rfl, _, _, _, hr⟩
  · exact ⟨none, 0, rfl, RdI.nil _ _⟩
  · exact ⟨_, cap, rfl, hr⟩

theorem OwnI.cap {B : Nat} {w : World} {p : Option Addr} {n c : Nat} {xs : List Int} (h : OwnI B w (.slice p n c) xs) : n ≤ c := by
  rcases h.2 with ⟨h1, h2⟩ | ⟨g, cap, cur, hv, _, _, hn, _⟩
  · simp only [Value.slice.injEq] at h1
    omega
  · simp only [Value.slice.injEq] at hv
    omega

theorem OwnI.len {B : Nat} {w : World} {v : Value} {xs : List Int} (h : OwnI B w v xs) : xs.length ≤ maxLen := by
  obtain ⟨_, _, _, hr⟩ := h.rd
  exact hr.len

theorem OwnI.nil (B : Nat) (w : World) : OwnI B w (.slice none 0 0) [] := World.ownsRow_nil w B _ 1

theorem OwnI.mono {B B' : Nat} {w : World} {v : Value} {xs : List Int} (h : OwnI B w v xs) (hB : B' ≤ B) : OwnI B' w v xs := by
  refine ⟨h.1, ?_⟩
  rcases h.2 with h2 | ⟨g, cap, cur, hv, hb, r⟩
  · exact .inl h2
  · exact .inr ⟨g, cap, cur, hv, Nat.le_trans hB hb, r⟩

theorem OwnI.lt {B : Nat} {w : World} {v : Value} {xs : List Int} (h : OwnI B w v xs) {k : Nat} (hk : v.ownBlock = some k) : B ≤ k ∧ k < w.heap.size := World.ownsRow.lt h k hk

theorem OwnI.keep {B : Nat} {w w' : World} {v : Value} {xs : List Int} (h : OwnI B w v xs) (hk : ∀ k, v.ownBlock = some k → w'.heap[k]? = w.heap[k]?) : OwnI B w' v xs := by
  refine ⟨h.1, ?_⟩
  rcases h.2 with hn | ⟨g, cap, cur, rfl, hb, hgg, rest⟩
  · exact .inl hn
  · exact .inr ⟨g, cap, cur, rfl, hb, (hk g rfl).trans hgg, rest⟩

theorem OwnI.below {B : Nat} {w w' : World} {v : Value} {xs : List Int} (h : OwnI B w v xs) (hb : Below w.heap.size w w') : OwnI B w' v xs :=
  h.keep fun k hk => hb.block k (h.lt hk).2

theorem OwnI.grown {B : Nat} {w w' : World} {v : Value} {xs : List Int} {row : Option Nat} (h : OwnI B w v xs) (hg : w.grownBy w' row) (hne : v.ownBlock = none ∨ v.ownBlock ≠ row) : OwnI B w' v xs := World.ownsRow.kept h hg hne

theorem OwnI.alloc {B : Nat} {w : World} {v : Value} {xs : List Int} (h : OwnI B w v xs) (o : Obj) : OwnI B (w.alloc o) v xs := World.ownsRow.alloc h o
theorem OwnI.drew {B : Nat} {w : World} {v : Value} {xs : List Int} (h : OwnI B w v xs) : OwnI B w.drew v xs := h

/-- 'Below' behind an append to a slice of the call's own -/
theorem below_appended {B : Nat} {w0 w w' : World} {v : Value} {xs : List Int} (h : Below B w0 w) (hown : OwnI B w v xs) (hB : B ≤ w.heap.size) (hg : w.grownBy w' v.ownBlock) : Below B w0 w' :=
  h.grown hg hB fun k hk => (hown.lt hk).1

/-- a literal slice of integers at the heap's end -/
theorem OwnI.lit {B : Nat} (w : World) (xs : List Int) (hB : B ≤ w.heap.size) (hm : xs.length ≤ maxLen) : OwnI B (w.alloc (.cells (xs.map (Value.int .i64)).toArray 2)) (.slice (some ⟨w.heap.size, 0, none⟩) xs.length xs.length) xs := by
  have h := World.ownsRow_lit (base := B) (e := 2) (size := 1) w (xs.map (Value.int .i64)).toArray xs.length hB hm (by simp)
  simpa [OwnI] using h

/-- what make lays -/
theorem OwnI.made {B : Nat} (w : World) (n : Nat) (hB : B ≤ w.heap.size) (hm : n ≤ maxLen) : OwnI B (w.alloc (.cells (madeCells #[.int .i64 0] n) 2)) (.slice (some ⟨w.heap.size, 0, none⟩) n n) (List.replicate n 0) := by
  have h := World.ownsRow_lit (base := B) (e := 2) (size := 1) w (madeCells #[.int .i64 0] n) n hB hm (by rw [size_madeCells, Nat.mul_one])
  rw [toList_madeCells_one] at h
  simpa [OwnI] using h

theorem OwnI.storing {B : Nat} {w : World} {g n cap : Nat} {xs : List Int} (h : OwnI B w (.slice (some ⟨g, 0, none⟩) n cap) xs) {k : Nat} (hk : k < xs.length) :
    n = xs.length ∧ B ≤ g ∧ g < w.heap.size ∧ w.cell? ⟨g, k, none⟩ = some (.int .i64 xs[k]) ∧ w.frozen? ⟨g, k, none⟩ = false ∧
      ∀ y, OwnI B (w.setCell ⟨g, k, none⟩ (.int .i64 y)) (.slice (some ⟨g, 0, none⟩) n cap) (xs.set k y) := by
  have hl := h.lt (k := g) rfl
  rcases h.cases with ⟨h1, _⟩ | ⟨g', cap', h1, hB, hlt, _, hr⟩
  · simp at h1
  · simp only [Value.slice.injEq, Option.some.injEq, Addr.mk.injEq, and_true] at h1
    obtain ⟨rfl, rfl, rfl⟩ := h1
    refine ⟨rfl, hl.1, hl.2, ?_, World.ownsRow.frozenAt h k, fun y => ?_⟩
    · rw [World.ownsRow.cellAt h k (by omega), List.getElem?_map, List.getElem?_eq_getElem hk]
      rfl
    · have := (World.ownsRow.stored h k (.int .i64 y)).1
      simpa [OwnI, List.map_set] using this

theorem rdI_one (w : World) (x : Int) : RdI (w.alloc (.cells #[.int .i64 x] 2)) (some ⟨w.heap.size, 0, none⟩) [x] := by
  refine ⟨by simp [maxLen], .inr ⟨w.heap.size, 0, rfl, fun i hi => ?_⟩⟩
  simp at hi
  subst hi
  rw [World.cell?_alloc_at _ _ _ _ rfl]
  rfl

section
variable {H : Type}

theorem run_append_int (w : World) (ty : TypeId) {B : Nat} {v : Value} {xs ys : List Int} (hown : OwnI B w v xs) {p : Option Addr} {c : Nat} (hr : RdI w p ys) (hlen : xs.length + ys.length ≤ 17592186044415) (hB : B ≤ w.heap.size) :
    ∃ v' w', (Builtin.append_ #[28, 28] ty #[v, .slice p ys.length c]).run Try.prog w = .ok v' w' ∧ OwnI B w' v' (xs ++ ys) ∧ w.grownBy w' v.ownBlock := by
  obtain ⟨i0, hi, hz0, hz1, hz2⟩ := info_parts infoI
  have e1 : (xs ++ ys).length = xs.length + ys.length := by simp
  have e2 : (xs ++ ys).map (Value.int .i64) = xs.map (Value.int .i64) ++ ys.map (Value.int .i64) := by simp
  rcases hr.cells with rfl | ⟨b, o, rfl, hc⟩
  · cases p with
    | none =>
      refine ⟨v, w, ?_, by simpa [OwnI] using hown, ⟨rfl, rfl, rfl, Nat.le_refl _, fun _ _ _ => rfl⟩⟩
      rcases hown.2 with ⟨rfl, h0⟩ | ⟨g, cap, cur, rfl, _, _, hnc, _⟩
      · simp [Builtin.append_, run_underlying Try.underlying28, sizeOf, typeInfo, hi, Builtin.lenOf, Builtin.firstCells]
      · simp [Builtin.append_, run_underlying Try.underlying28, sizeOf, typeInfo, hi, Builtin.lenOf, Builtin.firstCells, hnc, storeCells]
    | some a =>
      obtain ⟨v', w', h1, h2, h3, _⟩ := run_append_own (P := Try.prog) w B 28 ty 2 i0 (.int .i64 0) 1 8 Try.underlying28 hi hz0 hz1 hz2 rfl (by decide) v xs.length (xs.map (Value.int .i64)) hown a 0 c [] rfl (by simp) (by simp) (by simp only [maxLen]; omega) (by omega) hB
      exact ⟨v', w', h1, by simpa [OwnI] using h2, h3⟩
  · obtain ⟨v', w', h1, h2, h3, _⟩ := run_append_own (P := Try.prog) w B 28 ty 2 i0 (.int .i64 0) 1 8 Try.underlying28 hi hz0 hz1 hz2 rfl (by decide) v xs.length (xs.map (Value.int .i64)) hown ⟨b, o, none⟩ ys.length c (ys.map (Value.int .i64)) (by simp)
      (by
        intro j u hu
        rw [List.getElem?_map] at hu
        rcases hj : ys[j]? with _ | y
        · rw [hj] at hu; simp at hu
        · rw [hj] at hu
          obtain ⟨hjl, hjy⟩ := List.getElem?_eq_some_iff.1 hj
          rw [Addr.add_lit, hc j hjl, hjy]
          simpa using hu)
      (by intro u hu; simp only [List.mem_map] at hu; obtain ⟨y, _, rfl⟩ := hu; rfl) (by simp only [maxLen]; omega) (by omega) hB
    exact ⟨v', w', h1, by rw [OwnI, e1, e2]; exact h2, h3⟩

theorem wpList_append_int {ops : Array Oper} {rest : List Oper} {o : Oper} {a : Act} {Q : Exit → Act → World → Prop} {w : World} (hgd : o.guard = none) (s x : Operand)
    (ho : o.op = .call { callee := .builtin .append, args := #[s, x], argTypes := #[28, 28] })
    {B : Nat} {v : Value} {xs ys : List Int} (hs : a.eval s = v) (hown : OwnI B w v xs) {p : Option Addr} {m c : Nat} (hr : RdI w p ys) (hx : a.eval x = .slice p m c) (hm : m = ys.length) (hlen : xs.length + ys.length ≤ 17592186044415) (hB : B ≤ w.heap.size)
    (h : ∀ v' w', OwnI B w' v' (xs ++ ys) → w.grownBy w' v.ownBlock → wpList Try.prog ops Q rest (a.put o.dst v') w') : wpList Try.prog ops Q (o :: rest) a w := by
  subst hm
  refine wpList_plain hgd fun K hK => ?_
  obtain ⟨v', w', h1, h2, h3⟩ := run_append_int w o.type hown (c := c) hr hlen hB
  unfold Oper.wp execOp
  simp only [ho, resolve, invoke, builtin, Sem.run_bind, Sem.run_pure, Result.andThen_ok, List.map_toArray, List.map_cons, List.map_nil, hs, hx, h1]
  exact hK _ _ (h v' w' h2 h3)

/-- append of one number, as one step of a region that draws its order -/
theorem step_append_one {ops : Array Oper} {o : Oper} {a : Act} {K : Act → World → Prop} {Q : Exit → Act → World → Prop} {E : Prop} {w : World} {y : Int} (hgd : o.guard = none) (s x : Operand)
    (ho : o.op = .call { callee := .builtin .append, args := #[s, x], argTypes := #[28, 28] })
    {B : Nat} {v : Value} {xs : List Int} (hs : a.eval s = v) (hown : OwnI B w v xs) (hx : a.eval x = .slice (some ⟨w.heap.size, 0, none⟩) 1 1) (hlen : xs.length < 17592186044415) (hB : B ≤ w.heap.size)
    (h : ∀ q c w', OwnI B w' (.slice q (xs.length + 1) c) (xs ++ [y]) → w.os = w'.os → w.tape = w'.tape → w.output = w'.output → w.heap.size ≤ w'.heap.size → (∀ k, k < w.heap.size → v.ownBlock ≠ some k → w'.heap[k]? = w.heap[k]?) → K (a.put o.dst (.slice q (xs.length + 1) c)) w') :
    if Region.wanted o (yielded ops a.tmps) = true then Oper.wp Try.prog o a (w.alloc (.cells #[.int .i64 y] 2)) K Q else E := by
  have hw : Region.wanted o (yielded ops a.tmps) = true := by simp [Region.wanted, hgd]
  rw [if_pos hw]
  obtain ⟨v', w', h1, h2, h3⟩ := run_append_int (w.alloc (.cells #[.int .i64 y] 2)) o.type (hown.alloc _) (c := 1) (rdI_one w y) (by simp only [List.length_cons, List.length_nil]; omega) (by simp; omega)
  obtain ⟨q, c, rfl, -⟩ := h2.rd
  have e : (xs ++ [y]).length = xs.length + 1 := by simp
  rw [e] at h1 h2
  unfold Oper.wp execOp
  simp only [List.length_cons, List.length_nil] at h1
  simp only [ho, resolve, invoke, builtin, Sem.run_bind, Sem.run_pure, Result.andThen_ok, List.map_toArray, List.map_cons, List.map_nil, hs, hx, h1]
  refine h q c w' h2 h3.os.symm h3.tape.symm h3.output.symm ?_ fun k hk hne => (h3.block k (by simp; omega) (fun e => hne e.symm)).trans (Below.heap_alloc _ _ _ hk)
  have := h3.size; simp at this; omega

theorem step_append_drew {ops : Array Oper} {o : Oper} {a : Act} {K : Act → World → Prop} {Q : Exit → Act → World → Prop} {E : Prop} {w : World} {y : Int} (hgd : o.guard = none) (s x : Operand)
    (ho : o.op = .call { callee := .builtin .append, args := #[s, x], argTypes := #[28, 28] })
    {B : Nat} {v : Value} {xs : List Int} (hs : a.eval s = v) (hown : OwnI B w v xs) (hx : a.eval x = .slice (some ⟨w.heap.size, 0, none⟩) 1 1) (hlen : xs.length < 17592186044415) (hB : B ≤ w.heap.size)
    (h : ∀ q c w', OwnI B w' (.slice q (xs.length + 1) c) (xs ++ [y]) → w.os = w'.os → w.tape = w'.tape → w.output = w'.output → w.heap.size ≤ w'.heap.size → (∀ k, k < w.heap.size → v.ownBlock ≠ some k → w'.heap[k]? = w.heap[k]?) → K (a.put o.dst (.slice q (xs.length + 1) c)) w') :
    if Region.wanted o (yielded ops a.tmps) = true then Oper.wp Try.prog o a (w.alloc (.cells #[.int .i64 y] 2)).drew K Q else E :=
  step_append_one (w := w.drew) hgd s x ho hs hown.drew hx hlen hB fun q c w' h1 h2 h3 h4 h5 h6 => h q c w' h1 h2 h3 h4 h5 h6

/-- append of one number that has just been laid in a block of its own -/
theorem wpList_append_one {ops : Array Oper} {rest : List Oper} {o : Oper} {a : Act} {Q : Exit → Act → World → Prop} {w : World} {y : Int} (hgd : o.guard = none) (s x : Operand)
    (ho : o.op = .call { callee := .builtin .append, args := #[s, x], argTypes := #[28, 28] })
    {B B0 : Nat} {w0 : World} {v : Value} {xs : List Int} (hs : a.eval s = v) (hown : OwnI B w v xs) (hx : a.eval x = .slice (some ⟨w.heap.size, 0, none⟩) 1 1) (hbel : Below B0 w0 w) (hlen : xs.length < 17592186044415) (hB : B ≤ w.heap.size) (hB0 : B0 ≤ B)
    (h : ∀ v' w', OwnI B w' v' (xs ++ [y]) → Below B0 w0 w' → w.heap.size ≤ w'.heap.size → (∀ k, k < w.heap.size → v.ownBlock ≠ some k → w'.heap[k]? = w.heap[k]?) → wpList Try.prog ops Q rest (a.put o.dst v') w') : wpList Try.prog ops Q (o :: rest) a (w.alloc (.cells #[.int .i64 y] 2)) := by
  refine wpList_append_int hgd s x ho hs (hown.alloc _) (rdI_one w y) hx rfl (by simp only [List.length_cons, List.length_nil]; omega) (by simp; omega) fun v' w' h1 h2 => h v' w' h1 ((hbel.alloc (by omega) _).grown h2 (by simp; omega) fun k hk => ?_) ?_ fun k hk hne => ?_
  · have := (hown.lt hk).1; omega
  · have := h2.size; simp at this; omega
  · exact (h2.block k (by simp; omega) (fun e => hne e.symm)).trans (Below.heap_alloc _ _ _ hk)
end

end Go.Proofs.Ytbjpianbeebmeaa
