/-
  An append whose new row is told: in its old block or in a new one.
-/
import Derived.Test.YtljlcbichimhaaaGreatDoorOwn
import Derived.ArgAppend
import Derived.Deep.DeepAppendRoom
namespace Go.Proofs.YtljlcbichimhaaaGreatDoor
open Go.ChangeShapes Go.WideShapes Go.ChangeAt Go.RowKit
set_option linter.unusedVariables false
set_option linter.unusedSimpArgs false

theorem run_append_new (w : World) (ty : TypeId) {B : Nat} {v : Value} {xs : List Int} {y : Int} (hown : OwnI B w v xs) {b o : Nat} (hr : w.cell? ⟨b, o, none⟩ = some (.int .i64 y)) (hlen : xs.length < 17592186044415) (hB : B ≤ w.heap.size) :
    ∃ v' w', (Builtin.append_ #[24, 24] ty #[v, .slice (some ⟨b, o, none⟩) 1 1]).run Tryz.prog w = .ok v' w' ∧ OwnI B w' v' (xs ++ [y]) ∧ w.grownBy w' v.ownBlock ∧ (∀ k, v'.ownBlock = some k → v.ownBlock = some k ∨ w.heap.size ≤ k) := by
  obtain ⟨i0, hi, hz0, hz1, hz2⟩ := info_parts infoI
  have e1 : (xs ++ [y]).length = xs.length + 1 := by simp
  have e2 : (xs ++ [y]).map (Value.int .i64) = xs.map (Value.int .i64) ++ [.int .i64 y] := by simp
  have hnews : ∀ j u, ([Value.int .i64 y] : List Value)[j]? = some u → w.cell? ((⟨b, o, none⟩ : Addr).add j) = some u := by
    intro j u hu
    cases j with
    | zero => simp at hu; subst hu; rw [Addr.add_lit, Nat.add_zero]; exact hr
    | succ j => simp at hu
  have hone : ∀ u ∈ ([Value.int .i64 y] : List Value), u.oneCell' = true := by
    intro u hu; obtain rfl := List.mem_singleton.1 hu; rfl
  rcases hown.cases with ⟨rfl, rfl⟩ | ⟨g, cap, rfl, hBg, hgl, hml, hrd⟩
  · obtain ⟨v', w', h1, h2, h3, _⟩ := run_append_own (P := Tryz.prog) w w.heap.size 24 ty 2 i0 (.int .i64 0) 1 8 Tryz.underlying24 hi hz0 hz1 hz2 rfl (by decide) (.slice none 0 0) 0 [] (World.ownsRow_nil w w.heap.size _ 1) ⟨b, o, none⟩ 1 1 [.int .i64 y] (by simp) hnews hone (by simp [maxLen]) (by omega) (Nat.le_refl _)
    have ho : OwnI w.heap.size w' v' [y] := by simpa [OwnI] using h2
    exact ⟨v', w', h1, by simpa using ho.mono hB, h3, fun k hk => .inr (ho.lt hk).1⟩
  · by_cases hroom : xs.length + 1 ≤ cap
    · obtain ⟨w', h1, h2, h3⟩ := run_append_own_spare (P := Tryz.prog) w B 24 ty 2 i0 1 Tryz.underlying24 hi hz1 g xs.length cap (xs.map (Value.int .i64)) hown ⟨b, o, none⟩ 1 1 [.int .i64 y] (by simp) hnews hone hroom
      exact ⟨_, w', h1, by rw [OwnI, e1, e2]; exact h2, h3, fun k hk => .inl hk⟩
    · have hc := hown.cells (g := g) rfl
      obtain ⟨v', w', h1, h2, h3⟩ := run_append_arg_grows (P := Tryz.prog) w 24 ty 2 i0 (.int .i64 0) 1 8 Tryz.underlying24 hi hz0 hz1 hz2 rfl (by decide) ⟨g, 0, none⟩ xs.length cap (xs.map (Value.int .i64)) (by simp) hc ⟨b, o, none⟩ 1 1 [.int .i64 y] (by simp) hnews (by omega) (by simp only [maxLen]; omega) (by omega)
      have ho : OwnI w.heap.size w' v' (xs ++ [y]) := by rw [OwnI, e1, e2]; exact h2
      exact ⟨v', w', h1, ho.mono hB, ⟨h3.os, h3.tape, h3.output, h3.size, fun k hk _ => h3.block k hk (by simp)⟩, fun k hk => .inr (ho.lt hk).1⟩

theorem wpList_append_new {ops : Array Oper} {rest : List Oper} {o : Oper} {a : Act} {Q : Exit → Act → World → Prop} {w : World} {y : Int} (hgd : o.guard = none) (s x : Operand)
    (ho : o.op = .call { callee := .builtin .append, args := #[s, x], argTypes := #[24, 24] })
    {B B0 : Nat} {w0 : World} {v : Value} {xs : List Int} (hs : a.eval s = v) (hown : OwnI B w v xs) (hx : a.eval x = .slice (some ⟨w.heap.size, 0, none⟩) 1 1) (hbel : Below B0 w0 w) (hlen : xs.length < 17592186044415) (hB : B ≤ w.heap.size) (hB0 : B0 ≤ B)
    (h : ∀ v' w', OwnI B w' v' (xs ++ [y]) → Below B0 w0 w' → w.heap.size ≤ w'.heap.size → (∀ k, k < w.heap.size → v.ownBlock ≠ some k → w'.heap[k]? = w.heap[k]?) → (∀ k, v'.ownBlock = some k → v.ownBlock = some k ∨ w.heap.size ≤ k) → wpList Tryz.prog ops Q rest (a.put o.dst v') w') : wpList Tryz.prog ops Q (o :: rest) a (w.alloc (.cells #[.int .i64 y] 2)) := by
  refine wpList_plain hgd fun K hK => ?_
  obtain ⟨v', w', h1, h2, h3, h4⟩ := run_append_new (w.alloc (.cells #[.int .i64 y] 2)) o.type (hown.alloc _) (b := w.heap.size) (o := 0) (y := y) ((Box.new w [.int .i64 y] 2).cell 0 rfl) hlen (by simp; omega)
  unfold Oper.wp execOp
  simp only [ho, resolve, invoke, builtin, Sem.run_bind, Sem.run_pure, Result.andThen_ok, List.map_toArray, List.map_cons, List.map_nil, hs, hx, h1]
  refine hK _ _ (h v' w' h2 ((hbel.alloc (by omega) _).grown h3 (by simp; omega) fun k hk => ?_) ?_ (fun k hk hne => ?_) fun k hk => ?_)
  · have := (hown.lt hk).1; omega
  · have := h3.size; simp at this; omega
  · exact (h3.block k (by simp; omega) (fun e => hne e.symm)).trans (Below.heap_alloc _ _ _ hk)
  · rcases h4 k hk with h | h
    · exact .inl h
    · exact .inr (by simp at h; omega)
end Go.Proofs.YtljlcbichimhaaaGreatDoor
