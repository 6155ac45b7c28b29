/-
  A queue of numbers: a slice of the call's own that begins anywhere in its block: append, taking off its head.
-/
import Derived.Test.YtonkdndpfnapjaaGreatCopy
import Derived.Deep.AppendSrc
import Derived.Deep.Upon
import Derived.Deep.MidRow
namespace Go.Proofs.YtonkdndpfnapjaaGreat
open Go.ChangeShapes Go.WideShapes Go.ChangeAt Go.RowKit
set_option linter.unusedVariables false

/-! ### a slice of integers of the call's own that may begin within its block -/
def OwnQ (B : Nat) (w : World) (v : Value) (xs : List Int) : Prop :=
  ∃ p c, v = .slice p xs.length c ∧ xs.length ≤ c ∧ c ≤ maxLen ∧ (c = 0 ∨ ∃ g o, p = some ⟨g, o, none⟩ ∧ B ≤ g ∧ g < w.heap.size ∧ w.there g o c ∧ ∀ i (h : i < xs.length), w.cell? ⟨g, o + i, none⟩ = some (.int .i64 xs[i]))
theorem OwnQ.of {B : Nat} {w : World} {v : Value} {xs : List Int} (h : OwnI B w v xs) : OwnQ B w v xs := by
  have h' := h
  rcases h'.2 with ⟨rfl, h0⟩ | ⟨g, cap, cur, rfl, hb, hg, hn, hm, hs, ht⟩
  · obtain rfl : xs = [] := List.eq_nil_of_length_eq_zero h0
    exact ⟨none, 0, rfl, Nat.le_refl _, by simp [maxLen], .inl rfl⟩
  · have hgl : g < w.heap.size := (Array.getElem?_eq_some_iff.1 hg).1
    refine ⟨_, cap, rfl, hn, hm, .inr ⟨g, 0, rfl, hb, hgl, fun j hj => ⟨?_, World.ownsRow.frozenAt h _⟩, fun i hi => ?_⟩⟩
    · rw [cell_of_row w g _ cur _ (0, 0) hg]
      simp [hs, hj]
    · rw [Nat.zero_add, World.ownsRow.cellAt h i (by omega), List.getElem?_map, List.getElem?_eq_getElem hi]; rfl
theorem OwnQ.keep {B : Nat} {w w' : World} {v : Value} {xs : List Int} (h : OwnQ B w v xs) (hs : w.heap.size ≤ w'.heap.size) (hk : ∀ k, B ≤ k → k < w.heap.size → v.ownBlock = some k → w'.heap[k]? = w.heap[k]?) : OwnQ B w' v xs := by
  obtain ⟨p, c, rfl, h1, h2, h3⟩ := h
  refine ⟨p, c, rfl, h1, h2, h3.imp id fun ⟨g, o, e, hB, hg, ht, hc⟩ => ?_⟩
  subst e
  have hh := hk g hB hg rfl
  exact ⟨g, o, rfl, hB, by omega, fun j hj => ⟨by rw [World.cell?_of_block (a := ⟨g, o + j, none⟩) hh]; exact (ht j hj).1, by rw [World.frozen?_of_block (a := ⟨g, o + j, none⟩) hh]; exact (ht j hj).2⟩, fun i hi => (World.cell?_of_block (a := ⟨g, o + i, none⟩) hh).trans (hc i hi)⟩
theorem OwnQ.below {B : Nat} {w w' : World} {v : Value} {xs : List Int} (h : OwnQ B w v xs) (hb : Below w.heap.size w w') : OwnQ B w' v xs := h.keep hb.size fun k _ hk _ => hb.block k hk
theorem OwnQ.cons {B : Nat} {w : World} {v : Value} {x : Int} {xs : List Int} (h : OwnQ B w v (x :: xs)) :
    ∃ g o c, v = .slice (some ⟨g, o, none⟩) (xs.length + 1) (c + 1) ∧ xs.length ≤ c ∧ c + 1 ≤ maxLen ∧ B ≤ g ∧ g < w.heap.size ∧ w.cell? ⟨g, o, none⟩ = some (.int .i64 x) ∧
      OwnQ B w (.slice (if c + 1 = 1 then some ⟨g, o, none⟩ else some ⟨g, o + 1, none⟩) xs.length c) xs := by
  obtain ⟨p, c, rfl, h1, h2, h3⟩ := h
  simp only [List.length_cons] at h1
  obtain ⟨c, rfl⟩ : ∃ c', c = c' + 1 := ⟨c - 1, by omega⟩
  rcases h3 with h3 | ⟨g, o, rfl, hB, hg, ht, hc⟩
  · omega
  refine ⟨g, o, c, rfl, by omega, h2, hB, hg, hc 0 (by simp), ?_⟩
  refine ⟨_, c, rfl, by omega, by omega, ?_⟩
  by_cases e : c = 0
  · exact .inl e
  · refine .inr ⟨g, o + 1, by rw [if_neg (by omega)], hB, hg, fun j hj => ?_, fun i hi => ?_⟩
    · have := ht (j + 1) (by omega)
      rwa [show o + (j + 1) = o + 1 + j by omega] at this
    · have := hc (i + 1) (by simp; omega)
      rw [show o + (i + 1) = o + 1 + i by omega] at this
      rw [this]; simp
theorem setCells_frame (g : Nat) : ∀ (vs : List Value) (o : Nat) (w : World), (w.setCells g o vs).os = w.os ∧ (w.setCells g o vs).tape = w.tape ∧ (w.setCells g o vs).output = w.output ∧ (w.setCells g o vs).heap.size = w.heap.size ∧ ∀ k, k ≠ g → (w.setCells g o vs).heap[k]? = w.heap[k]?
  | [], _, _ => ⟨rfl, rfl, rfl, rfl, fun _ _ => rfl⟩
  | v :: vs, o, w => by
    obtain ⟨h1, h2, h3, h4, h5⟩ := setCells_frame g vs (o + 1) (w.setCell ⟨g, o, none⟩ v)
    exact ⟨h1, h2, h3, h4.trans (by simp [World.setCell]), fun k hk => (h5 k hk).trans (Below.heap_setCell _ _ _ _ hk)⟩
theorem srcI {w : World} {p : Option Addr} {ys : List Int} (h : RdI w p ys) (c : Nat) : Src Tryz.prog 1 24 (.slice p ys.length c) ys.length (ys.map (Value.int .i64)) w := by
  have one : ∀ u ∈ ys.map (Value.int .i64), u.oneCell' = true := by
    intro u hu
    simp only [List.mem_map] at hu
    obtain ⟨y, _, rfl⟩ := hu
    rfl
  rcases h.cells with rfl | ⟨b, o, rfl, hc⟩
  · cases p with
    | none => exact Src.ofNil w Tryz.underlying24 c
    | some a => exact Src.ofSlice w Tryz.underlying24 a 0 c [] (by simp) (by simp) (by simp)
  · refine Src.ofSlice w Tryz.underlying24 ⟨b, o, none⟩ ys.length c _ (by simp) (fun j u hu => ?_) one
    rw [List.getElem?_map] at hu
    rcases hj : ys[j]? with _ | y
    · rw [hj] at hu; simp at hu
    · rw [hj] at hu
      obtain ⟨hjl, hjy⟩ := List.getElem?_eq_some_iff.1 hj
      rw [Addr.add_lit, hc j hjl, hjy]
      simpa using hu
/-- append of a list to such a slice -/
theorem run_append_q (w : World) (ty : TypeId) {B : Nat} {v : Value} {xs ys : List Int} (hq : OwnQ B w v xs) {p : Option Addr} {c : Nat} (hr : RdI w p ys) (hlen : xs.length + ys.length ≤ 17592186044415) (hB : B ≤ w.heap.size) :
    ∃ v' w', (Builtin.append_ #[24, 24] ty #[v, .slice p ys.length c]).run Tryz.prog w = .ok v' w' ∧ OwnQ B w' v' (xs ++ ys) ∧ w.grownBy w' v.ownBlock := by
  obtain ⟨i0, hi, hz0, hz1, hz2⟩ := info_parts infoI
  have hS := srcI hr c
  obtain ⟨q, cc, rfl, h1, h2, h3⟩ := hq
  have e1 : (xs ++ ys).length = xs.length + ys.length := by simp
  by_cases hroom : xs.length + ys.length ≤ cc
  · rcases h3 with h3 | ⟨g, o, rfl, hBg, hg, ht, hc⟩
    · have hx : xs = [] := List.eq_nil_of_length_eq_zero (by omega)
      have hy : ys = [] := List.eq_nil_of_length_eq_zero (by omega)
      subst hx hy h3
      refine ⟨.slice q 0 0, w, ?_, ⟨q, 0, rfl, Nat.le_refl _, by simp [maxLen], .inl rfl⟩, ⟨rfl, rfl, rfl, Nat.le_refl _, fun _ _ _ => rfl⟩⟩
      cases q <;> cases p <;> simp [Builtin.append_, run_underlying Tryz.underlying24, sizeOf, typeInfo, hi, Builtin.lenOf, Builtin.firstCells, loadCells, loadCellsFrom, storeCells]
    · have hh := run_append_room_src w 24 24 ty 2 i0 Tryz.underlying24 hi g o xs.length cc (.slice p ys.length c) ys.length (ys.map (Value.int .i64)) (by rw [hz1]; exact hS) hroom
        (fun j hj => by rw [hz1, Nat.mul_one, Nat.add_assoc]; exact (ht _ (by simp at hj; omega)).1) (fun j hj => by rw [hz1, Nat.mul_one, Nat.add_assoc]; exact (ht _ (by simp at hj; omega)).2)
      rw [hz1, Nat.mul_one] at hh
      obtain ⟨f1, f2, f3, f4, f5⟩ := setCells_frame g (ys.map (Value.int .i64)) (o + xs.length) w
      refine ⟨_, _, hh, ⟨_, cc, by rw [e1], by omega, h2, .inr ⟨g, o, rfl, hBg, by omega, World.there_setCells ht _ _ _, fun i hi => ?_⟩⟩, ⟨f1, f2, f3, by omega, fun k _ hk => f5 k fun e => hk (by rw [e]; rfl)⟩⟩
      by_cases hix : i < xs.length
      · rw [World.cell?_setCells_out g _ _ _ _ (fun _ _ => Or.inl (by simp; omega)), hc i hix, List.getElem_append_left hix]
      · rw [e1] at hi
        have := World.cell?_setCells_in g (ys.map (Value.int .i64)) (o + xs.length) w (fun j hj => by rw [Nat.add_assoc]; exact (ht _ (by simp at hj; omega)).1) (i - xs.length) (by simp; omega)
        rw [show o + xs.length + (i - xs.length) = o + i by omega] at this
        rw [this, List.getElem_map, List.getElem_append_right (by omega)]
  · have hold : (Builtin.firstCells i0.size xs.length (.slice q xs.length cc)).run Tryz.prog w.drew = .ok (xs.map (Value.int .i64)).toArray w.drew := by
      rw [hz1]
      rcases h3 with h3 | ⟨g, o, rfl, hBg, hg, ht, hc⟩
      · have hx : xs = [] := List.eq_nil_of_length_eq_zero (by omega)
        subst hx
        cases q with
        | none => exact run_firstCells_none w.drew 1 0 0 cc
        | some a => exact run_firstCells_some w.drew 1 0 a 0 cc [] (by simp) (by simp)
      · refine run_firstCells_some w.drew 1 xs.length ⟨g, o, none⟩ xs.length cc _ (by simp) (fun j u hu => ?_)
        rw [List.getElem?_map] at hu
        rcases hj : xs[j]? with _ | y
        · rw [hj] at hu; simp at hu
        · rw [hj] at hu
          obtain ⟨hjl, hjy⟩ := List.getElem?_eq_some_iff.1 hj
          rw [Addr.add_lit]
          have := hc j hjl
          rw [hjy] at this
          simp only [Option.map_some, Option.some.injEq] at hu
          rw [← hu]
          exact this
    have hh := run_append_grow_src w 24 24 ty 2 i0 (.int .i64 0) Tryz.underlying24 hi hz0 q xs.length cc _ hold (.slice p ys.length c) ys.length _ (by rw [hz1]; exact hS) (by omega) (by omega)
      (by rw [hz2]; exact growslice_fits (by omega) (by omega))
    have hown : OwnI B (w.drew.alloc (.cells ((xs.map (Value.int .i64) ++ ys.map (Value.int .i64)).toArray ++ Builtin.zeroCells (Value.int .i64 0).cells (grownCap w (xs.length + ys.length) cc 2 - (xs.length + ys.length))) 2)) (.slice (some ⟨w.heap.size, 0, none⟩) (xs.length + ys.length) (grownCap w (xs.length + ys.length) cc 2)) (xs ++ ys) := by
      have hge := grownCap_ge w (xs.length + ys.length) cc 2
      have hcm : grownCap w (xs.length + ys.length) cc 2 ≤ maxLen := grownCap_le_maxLen w _ cc _ (by simp only [maxLen]; omega)
      unfold OwnI
      rw [e1]
      refine ⟨by simp, .inr ⟨w.heap.size, _, _, rfl, hB, heap_alloc_new w.drew _, hge, hcm, ?_, ?_⟩⟩
      · simp only [Array.size_append, List.size_toArray, size_zeroCells, List.length_append, List.length_map]
        show _ + _ * 1 = _
        omega
      · simp only [Array.toList_append, List.map_append]
        rw [show (xs.length + ys.length) * 1 = (xs.map (Value.int .i64) ++ ys.map (Value.int .i64)).length by simp]
        exact List.take_left
    exact ⟨_, _, hh, OwnQ.of hown, ⟨rfl, rfl, rfl, by simp, fun k hk _ => Below.heap_alloc w.drew _ k hk⟩⟩
theorem wpList_append_q {ops : Array Oper} {rest : List Oper} {o : Oper} {a : Act} {Q : Exit → Act → World → Prop} {w : World} (hgd : o.guard = none) (s x : Operand)
    (ho : o.op = .call { callee := .builtin .append, args := #[s, x], argTypes := #[24, 24] })
    {B : Nat} {v : Value} {xs ys : List Int} (hs : a.eval s = v) (hown : OwnQ B w v xs) {p : Option Addr} {m c : Nat} (hr : RdI w p ys) (hx : a.eval x = .slice p m c) (hm : m = ys.length) (hlen : xs.length + ys.length ≤ 17592186044415) (hB : B ≤ w.heap.size)
    (h : ∀ v' w', OwnQ B w' v' (xs ++ ys) → w.grownBy w' v.ownBlock → wpList Tryz.prog ops Q rest (a.put o.dst v') w') : wpList Tryz.prog ops Q (o :: rest) a w := by
  subst hm
  refine wpList_plain hgd fun K hK => ?_
  obtain ⟨v', w', h1, h2, h3⟩ := run_append_q w o.type hown (c := c) hr hlen hB
  unfold Oper.wp execOp
  simp only [ho, resolve, invoke, builtin, Sem.run_bind, Sem.run_pure, Result.andThen_ok, List.map_toArray, List.map_cons, List.map_nil, hs, hx, h1]
  exact hK _ _ (h v' w' h2 h3)
end Go.Proofs.YtonkdndpfnapjaaGreat
