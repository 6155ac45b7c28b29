/-
  A patch that the call makes for itself, part by part: its slices lie in blocks of their own; nodes are appended.
-/
import Derived.Test.YtdcacmmglkcliaaGreatDoorTyPatch
import Derived.Test.YtdcacmmglkcliaaGreatDoorCopy
namespace Go.Proofs.YtdcacmmglkcliaaGreatDoor
open Go.ChangeShapes Go.WideShapes Go.ChangeAt Go.RowKit
set_option linter.unusedVariables false

/-! ### blocks of different types differ -/
/-- the block of v, if there is one, holds cells of type E -/
def Typed (w : World) (E : TypeId) (v : Value) : Prop := ∀ k, v.ownBlock = some k → ∃ cur, w.heap[k]? = some (.cells cur E (0, 0))
theorem Typed.of {w : World} {B n size : Nat} {E : TypeId} {v : Value} {xs : List Value} (h : w.ownsRow B E size v n xs) : Typed w E v := by
  intro k hk
  rcases h.2 with ⟨rfl, _⟩ | ⟨g, cap, cur, rfl, _, hg, _⟩
  · simp [Value.ownBlock] at hk
  · simp only [Value.ownBlock, Option.some.injEq] at hk
    subst hk
    exact ⟨cur, hg⟩
theorem Typed.ne {w : World} {E E' : TypeId} {v v' : Value} (h : Typed w E v) (h' : Typed w E' v') (hE : E ≠ E') {k : Nat} (hk : v.ownBlock = some k) : v'.ownBlock ≠ some k := by
  intro hk'
  obtain ⟨cur, hg⟩ := h k hk
  obtain ⟨cur', hg'⟩ := h' k hk'
  rw [hg] at hg'
  simp only [Option.some.injEq, Obj.cells.injEq] at hg'
  exact hE hg'.2.1
theorem Typed.neBox {w : World} {E T : TypeId} {v : Value} {cs : List Value} {s : Nat} (h : Typed w E v) (hb : Box w s cs T) (hT : E ≠ T) : v.ownBlock ≠ some s := by
  intro hk
  obtain ⟨cur, hg⟩ := h s hk
  unfold Box at hb
  rw [hg] at hb
  simp only [Option.some.injEq, Obj.cells.injEq] at hb
  exact hT hb.2.1
theorem OwnIs.typed {B : Nat} {w : World} {L : List Value} {xss : List (List Int)} (h : OwnIs B w L xss) {u : Value} (hu : u ∈ L) : Typed w 2 u := by
  obtain ⟨i, hi, rfl⟩ := List.mem_iff_getElem.1 hu
  obtain ⟨hL, ho⟩ := h.at_ (i := i) (by rw [← h.1]; exact hi)
  exact Typed.of ho
theorem Blk.one {u : Value} {b : Nat} : Blk [u] b ↔ u.ownBlock = some b := by
  constructor
  · rintro ⟨v, hv, hb⟩
    rw [List.mem_singleton.1 hv] at hb; exact hb
  · intro h
    exact ⟨u, by simp, h⟩
theorem Dis.insert {A C : List Value} (h : Dis (A ++ C)) {u : Value} (hu : ∀ b, u.ownBlock = some b → ¬ Blk (A ++ C) b) : Dis (A ++ ([u] ++ C)) := by
  refine Dis.append h.left (Dis.append (List.pairwise_singleton _ _) h.right fun b hb hb' => hu b (Blk.one.1 hb) (blk_append.2 (.inr hb'))) fun b hb hb' => ?_
  rcases blk_append.1 hb' with h1 | h1
  · exact hu b (Blk.one.1 h1) (blk_append.2 (.inl hb))
  · exact h.sep b hb h1
theorem Dis.drop1 {A C : List Value} {u : Value} (h : Dis (A ++ ([u] ++ C))) : Dis (A ++ C) :=
  Dis.append h.left h.right.right fun b hb hb' => h.sep b hb (blk_append.2 (.inr hb'))

/-! ### a patch, part by part -/
structure OwnP (B : Nat) (w : World) (v1 v2 v3 : Value) (ts : List (List Int)) (ns : List NodeD) (os : List Int) (L1 L : List Value) : Prop where
  o1 : OwnV B w 24 v1 L1
  s1 : OwnIs B w L1 ts
  o2 : OwnN B w v2 ns L
  s2 : OwnIs B w L (ns.map NodeD.src)
  o3 : OwnI B w v3 os
  dis : Dis (L1 ++ (L ++ [v3]))
section
variable {B : Nat} {w : World} {v1 v2 v3 : Value} {ts : List (List Int)} {ns : List NodeD} {os : List Int} {L1 L : List Value}
theorem OwnP.blk (h : OwnP B w v1 v2 v3 ts ns os L1 L) {b : Nat} (hb : Blk (L1 ++ (L ++ [v3])) b) : B ≤ b ∧ b < w.heap.size := by
  rcases blk_append.1 hb with hb | hb
  · exact ⟨(h.s1.blk hb).1, (h.s1.blk hb).2.1⟩
  rcases blk_append.1 hb with hb | hb
  · exact ⟨(h.s2.blk hb).1, (h.s2.blk hb).2.1⟩
  · exact h.o3.lt (Blk.one.1 hb)
/-- the relation looks at its own blocks alone -/
theorem OwnP.keep {w' : World} (h : OwnP B w v1 v2 v3 ts ns os L1 L) (hk : ∀ k, B ≤ k → k < w.heap.size → (v1.ownBlock = some k ∨ v2.ownBlock = some k ∨ Blk (L1 ++ (L ++ [v3])) k) → w'.heap[k]? = w.heap[k]?) : OwnP B w' v1 v2 v3 ts ns os L1 L :=
  ⟨h.o1.keep fun k e => hk k (h.o1.lt e).1 (h.o1.lt e).2 (.inl e), h.s1.keep fun k e => hk k (h.s1.blk e).1 (h.s1.blk e).2.1 (.inr (.inr (blk_append.2 (.inl e)))), h.o2.keep fun k e => hk k (h.o2.lt e).1 (h.o2.lt e).2 (.inr (.inl e)),
    h.s2.keep fun k e => hk k (h.s2.blk e).1 (h.s2.blk e).2.1 (.inr (.inr (blk_append.2 (.inr (blk_append.2 (.inl e)))))), h.o3.keep fun k e => hk k (h.o3.lt e).1 (h.o3.lt e).2 (.inr (.inr (blk_append.2 (.inr (blk_append.2 (.inr (Blk.one.2 e))))))), h.dis⟩
theorem OwnP.below {w' : World} (h : OwnP B w v1 v2 v3 ts ns os L1 L) (hb : Below w.heap.size w w') : OwnP B w' v1 v2 v3 ts ns os L1 L := h.keep fun k _ hk _ => hb.block k hk
theorem OwnP.mono {B' : Nat} (h : OwnP B w v1 v2 v3 ts ns os L1 L) (hB : B' ≤ B) : OwnP B' w v1 v2 v3 ts ns os L1 L := ⟨h.o1.mono hB, h.s1.mono hB, h.o2.mono hB, h.s2.mono hB, h.o3.mono hB, h.dis⟩
/-- its blocks hold cells of these types -/
theorem OwnP.typed (h : OwnP B w v1 v2 v3 ts ns os L1 L) {k : Nat} (hk : v1.ownBlock = some k ∨ v2.ownBlock = some k ∨ Blk (L1 ++ (L ++ [v3])) k) : ∃ cur T, w.heap[k]? = some (.cells cur T (0, 0)) ∧ (T = 24 ∨ T = 26 ∨ T = 2) := by
  rcases hk with hk | hk | hk
  · obtain ⟨cur, hg⟩ := Typed.of h.o1 k hk
    exact ⟨cur, _, hg, .inl rfl⟩
  · obtain ⟨cur, hg⟩ := Typed.of h.o2.2 k hk
    exact ⟨cur, _, hg, .inr (.inl rfl)⟩
  · rcases blk_append.1 hk with hk | hk
    · obtain ⟨_, _, cur, hg⟩ := h.s1.blk hk
      exact ⟨cur, _, hg, .inr (.inr rfl)⟩
    rcases blk_append.1 hk with hk | hk
    · obtain ⟨_, _, cur, hg⟩ := h.s2.blk hk
      exact ⟨cur, _, hg, .inr (.inr rfl)⟩
    · obtain ⟨cur, hg⟩ := Typed.of h.o3 k (Blk.one.1 hk)
      exact ⟨cur, _, hg, .inr (.inr rfl)⟩
/-- a store into a box of another type -/
theorem OwnP.setBox {s : Nat} {cs : List Value} {T : TypeId} (h : OwnP B w v1 v2 v3 ts ns os L1 L) (hb : Box w s cs T) (hT : ¬ (T = 24 ∨ T = 26 ∨ T = 2)) (i : Nat) (u : Value) : OwnP B (w.setCell ⟨s, i, none⟩ u) v1 v2 v3 ts ns os L1 L :=
  h.keep fun k _ _ hk => Below.heap_setCell _ _ _ _ (by
    rintro rfl
    obtain ⟨cur, T', hg, hT'⟩ := h.typed hk
    unfold Box at hb
    rw [hg] at hb
    simp only [Option.some.injEq, Obj.cells.injEq] at hb
    exact hT (hb.2.1 ▸ hT'))
/-- no part lies in such a box -/
theorem OwnP.neBox {s : Nat} {cs : List Value} {T : TypeId} (h : OwnP B w v1 v2 v3 ts ns os L1 L) (hb : Box w s cs T) (hT : ¬ (T = 24 ∨ T = 26 ∨ T = 2)) : v1.ownBlock ≠ some s ∧ v2.ownBlock ≠ some s ∧ ¬ Blk (L1 ++ (L ++ [v3])) s := by
  have H : ¬ (v1.ownBlock = some s ∨ v2.ownBlock = some s ∨ Blk (L1 ++ (L ++ [v3])) s) := fun hk => by
    obtain ⟨cur, T', hg, hT'⟩ := h.typed hk
    unfold Box at hb
    rw [hg] at hb
    simp only [Option.some.injEq, Obj.cells.injEq] at hb
    exact hT (hb.2.1 ▸ hT')
  exact ⟨fun e => H (.inl e), fun e => H (.inr (.inl e)), fun e => H (.inr (.inr e))⟩
/-- a node more: v2' is the row behind an append, u the node's own slice -/
theorem OwnP.node {w' : World} {v2' u : Value} {y : NodeD} (h : OwnP B w v1 v2 v3 ts ns os L1 L) (hu : OwnI B w u y.src) (hnew : ∀ b, u.ownBlock = some b → ¬ Blk (L1 ++ (L ++ [v3])) b) (hv : OwnN B w' v2' (ns ++ [y]) (L ++ [u]))
    (hk : ∀ k, k < w.heap.size → v2.ownBlock ≠ some k → w'.heap[k]? = w.heap[k]?) : OwnP B w' v1 v2' v3 ts (ns ++ [y]) os L1 (L ++ [u]) := by
  have t2 := Typed.of h.o2.2
  refine ⟨h.o1.keep fun k e => hk k (h.o1.lt e).2 fun e' => t2.ne (Typed.of h.o1) (by decide) e' e, h.s1.keep fun k hb => hk k (h.s1.blk hb).2.1 fun e => ?_, hv, ?_, h.o3.keep fun k e => hk k (h.o3.lt e).2 fun e' => t2.ne (Typed.of h.o3) (by decide) e' e, ?_⟩
  · obtain ⟨v, hv, hb⟩ := hb
    exact t2.ne (h.s1.typed hv) (by decide) e hb
  · rw [List.map_append]
    refine (h.s2.keep fun k hb => hk k (h.s2.blk hb).2.1 fun e => ?_).snoc (hu.keep fun k hb => hk k (hu.lt hb).2 fun e => t2.ne (Typed.of hu) (by decide) e hb)
    obtain ⟨v, hv, hb⟩ := hb
    exact t2.ne (h.s2.typed hv) (by decide) e hb
  · have := Dis.insert (A := L1 ++ L) (C := [v3]) (by rw [List.append_assoc]; exact h.dis) (u := u) (fun b hb => by rw [List.append_assoc]; exact hnew b hb)
    rw [List.append_assoc] at this
    rw [List.append_assoc]; exact this
/-- a table more -/
theorem OwnP.table {w' : World} {v1' u : Value} {y : List Int} (h : OwnP B w v1 v2 v3 ts ns os L1 L) (hu : OwnI B w u y) (hnew : ∀ b, u.ownBlock = some b → ¬ Blk (L1 ++ (L ++ [v3])) b) (hv : OwnV B w' 24 v1' (L1 ++ [u]))
    (hk : ∀ k, k < w.heap.size → v1.ownBlock ≠ some k → w'.heap[k]? = w.heap[k]?) : OwnP B w' v1' v2 v3 (ts ++ [y]) ns os (L1 ++ [u]) L := by
  have t1 := Typed.of h.o1
  refine ⟨hv, ?_, h.o2.keep fun k e => hk k (h.o2.lt e).2 fun e' => t1.ne (Typed.of h.o2.2) (by decide) e' e, h.s2.keep fun k hb => hk k (h.s2.blk hb).2.1 fun e => ?_, h.o3.keep fun k e => hk k (h.o3.lt e).2 fun e' => t1.ne (Typed.of h.o3) (by decide) e' e, ?_⟩
  · refine (h.s1.keep fun k hb => hk k (h.s1.blk hb).2.1 fun e => ?_).snoc (hu.keep fun k hb => hk k (hu.lt hb).2 fun e => t1.ne (Typed.of hu) (by decide) e hb)
    obtain ⟨v, hv, hb⟩ := hb
    exact t1.ne (h.s1.typed hv) (by decide) e hb
  · obtain ⟨v, hv, hb⟩ := hb
    exact t1.ne (h.s2.typed hv) (by decide) e hb
  · have := Dis.insert (A := L1) (C := L ++ [v3]) h.dis (u := u) hnew
    rw [List.append_assoc]; exact this
/-- other outputs -/
theorem OwnP.outs {u : Value} {os' : List Int} (h : OwnP B w v1 v2 v3 ts ns os L1 L) (hu : OwnI B w u os') (hnew : ∀ b, u.ownBlock = some b → ¬ Blk (L1 ++ (L ++ [v3])) b) : OwnP B w v1 v2 u ts ns os' L1 L := by
  refine ⟨h.o1, h.s1, h.o2, h.s2, hu, ?_⟩
  have h1 : Dis (L1 ++ L) := by
    have := h.dis
    rw [← List.append_assoc] at this
    exact this.left
  rw [← List.append_assoc]
  refine h1.snoc fun b hb hb' => hnew b hb ?_
  rw [← List.append_assoc]
  exact blk_append.2 (.inl hb')
/-- no nodes -/
theorem OwnP.bare {u : Value} (h : OwnP B w v1 v2 v3 ts ns os L1 L) (hu : OwnN B w u [] []) : OwnP B w v1 u v3 ts [] os L1 [] := by
  refine ⟨h.o1, h.s1, hu, OwnIs.nil _ _, h.o3, ?_⟩
  rw [List.nil_append]
  exact Dis.append h.dis.left h.dis.right.right fun b hb hb' => h.dis.sep b hb (blk_append.2 (.inr hb'))
theorem OwnP.patch (h : OwnP B w v1 v2 v3 ts ns os L1 L) (inp : Int) : OwnPatch B w (.agg #[.int .i64 inp, v1, v2, v3]) ⟨inp, ts, ns, os⟩ (L1 ++ (v2 :: L) ++ [v3]) ∧ Dis (L1 ++ (v2 :: L) ++ [v3]) := by
  have hd := h.dis
  have t2 := Typed.of h.o2.2
  refine ⟨⟨v1, v2, v3, L1, v2 :: L, [v3], rfl, rfl, ⟨h.o1, h.s1, hd.left⟩, ⟨L, rfl, h.o2, h.s2, hd.right.left⟩, ⟨h.o3, rfl⟩⟩, ?_⟩
  have := Dis.insert (A := L1) (C := L ++ [v3]) hd (u := v2) fun b hb hb' => by
    rcases blk_append.1 hb' with h1 | h1
    · obtain ⟨v, hv, h1⟩ := h1
      exact t2.ne (h.s1.typed hv) (by decide) hb h1
    rcases blk_append.1 h1 with h1 | h1
    · obtain ⟨v, hv, h1⟩ := h1
      exact t2.ne (h.s2.typed hv) (by decide) hb h1
    · exact t2.ne (Typed.of h.o3) (by decide) hb (Blk.one.1 h1)
  rw [List.append_assoc]
  exact this
theorem OwnP.ofPatch {v : Value} {x : PatchD} {M : List Value} (h : OwnPatch B w v x M) (hd : Dis M) : ∃ v1 v2 v3 L1 L, v = .agg #[.int .i64 x.inputs, v1, v2, v3] ∧ OwnP B w v1 v2 v3 x.tables x.nodes x.outputs L1 L := by
  obtain ⟨u1, u2, u3, L1, L2, L3, rfl, rfl, ⟨a1, a2, a3⟩, ⟨L, rfl, b1, b2, b3⟩, ⟨c1, rfl⟩⟩ := h
  rw [List.append_assoc] at hd
  exact ⟨u1, u2, u3, L1, L, rfl, a1, a2, b1, b2, c1, Dis.drop1 (u := u2) hd⟩
theorem OwnP.nil (w : World) {v3 : Value} {os : List Int} (h : OwnI B w v3 os) : OwnP B w (.slice none 0 0) (.slice none 0 0) v3 [] [] os [] [] :=
  ⟨World.ownsRow_nil w B _ 1, OwnIs.nil _ _, OwnN.nil _ _, OwnIs.nil _ _, h, List.pairwise_singleton _ _⟩
/-- two parts made one after the other -/
theorem OwnP.two13 {W : World} (h1 : OwnII B W v1 ts L1) (h3 : OwnI W.heap.size w v3 os) (hb : Below W.heap.size W w) (hB : B ≤ W.heap.size) : OwnP B w v1 (.slice none 0 0) v3 ts [] os L1 [] := by
  have h1' := h1.below hb
  refine ⟨h1'.1, h1'.2.1, OwnN.nil _ _, OwnIs.nil _ _, h3.mono hB, ?_⟩
  rw [List.nil_append]
  refine Dis.append h1.2.2 (List.pairwise_singleton _ _) fun b hb1 hb3 => ?_
  have e1 := (h1.2.1.blk hb1).2.1
  have e3 := (h3.lt (Blk.one.1 hb3)).1
  omega
theorem OwnP.two31 {W : World} (h3 : OwnI B W v3 os) (h1 : OwnII W.heap.size w v1 ts L1) (hb : Below W.heap.size W w) (hB : B ≤ W.heap.size) : OwnP B w v1 (.slice none 0 0) v3 ts [] os L1 [] := by
  have h1' := h1.mono hB
  refine ⟨h1'.1, h1'.2.1, OwnN.nil _ _, OwnIs.nil _ _, h3.below hb, ?_⟩
  rw [List.nil_append]
  refine Dis.append h1.2.2 (List.pairwise_singleton _ _) fun b hb1 hb3 => ?_
  have e1 := (h1.2.1.blk hb1).1
  have e3 := (h3.lt (Blk.one.1 hb3)).2
  omega
end
theorem allocB_of {B : Nat} {a X : World} (_ : Below B a X) (o : Obj) : Below X.heap.size X (X.alloc o) := (Below.refl _ _).alloc (Nat.le_refl _) o
theorem newBox_of {B : Nat} {a X : World} (_ : Below B a X) (L : List Value) (T : TypeId) : Box (X.alloc (.cells L.toArray T)) X.heap.size L T := Box.newAt X L T rfl
/-! ### a node is appended -/
theorem OwnN.sl {B : Nat} {w : World} {v : Value} {xs : List NodeD} {L : List Value} (h : OwnN B w v xs L) : ∃ q c, v = .slice q xs.length c := by
  rcases h.cases with ⟨rfl, rfl, -⟩ | ⟨_, _, rfl, _⟩
  · exact ⟨none, 0, rfl⟩
  · exact ⟨_, _, rfl⟩
theorem OwnV.sl' {B : Nat} {w : World} {E : TypeId} {v : Value} {L : List Value} (h : OwnV B w E v L) : ∃ q c, v = .slice q L.length c := by
  rcases h.cases with ⟨rfl, rfl⟩ | ⟨_, _, rfl, _⟩
  · exact ⟨none, 0, rfl⟩
  · exact ⟨_, _, rfl⟩
theorem OwnN.slS {B : Nat} {w : World} {v : Value} {xs : List NodeD} {y : NodeD} {L : List Value} (h : OwnN B w v (xs ++ [y]) L) : ∃ q c, v = .slice q (xs.length + 1) c := by
  obtain ⟨q, c, e⟩ := h.sl
  exact ⟨q, c, by rw [e, List.length_append, List.length_singleton]⟩
theorem OwnV.slS {B : Nat} {w : World} {E : TypeId} {v u : Value} {L : List Value} (h : OwnV B w E v (L ++ [u])) : ∃ q c, v = .slice q (L.length + 1) c := by
  obtain ⟨q, c, e⟩ := h.sl'
  exact ⟨q, c, by rw [e, List.length_append, List.length_singleton]⟩
theorem infoNd : (Tryz.prog.info? 26).map (fun i => (i.zero, i.size, i.bytes)) = some (some (.agg #[.int .i64 0, .int .i64 0, .int .i64 0, .slice none 0 0]), 4, 48) := by kernel_rfl
theorem run_append_node (w : World) (ty : TypeId) {B : Nat} {v u : Value} {xs : List NodeD} {L : List Value} (y : NodeD) (hown : OwnN B w v xs L) (h1 : u.oneCell' = true) (hlen : xs.length < 1099511627776) (hB : B ≤ w.heap.size) :
    ∃ v' w', (Builtin.append_ #[44, 44] ty #[v, .slice (some ⟨w.heap.size, 0, none⟩) 1 1]).run Tryz.prog (w.alloc (.cells #[.int .i64 y.kind, .int .i64 y.a, .int .i64 y.b, u] 26)) = .ok v' w' ∧ OwnN B w' v' (xs ++ [y]) (L ++ [u]) ∧
      (w.alloc (.cells #[.int .i64 y.kind, .int .i64 y.a, .int .i64 y.b, u] 26)).grownBy w' v.ownBlock := by
  obtain ⟨i0, hi, hz0, hz1, hz2⟩ := info_parts infoNd
  have hown' : OwnN B (w.alloc (.cells #[.int .i64 y.kind, .int .i64 y.a, .int .i64 y.b, u] 26)) v xs L := hown.keep fun k hk => Below.heap_alloc _ _ _ (hown.lt hk).2
  obtain ⟨v', w', h1, h2, h3, _⟩ := run_append_own (P := Tryz.prog) (w.alloc (.cells #[.int .i64 y.kind, .int .i64 y.a, .int .i64 y.b, u] 26)) B 44 ty 26 i0 _ 4 48 Tryz.underlying44 hi hz0 hz1 hz2 (by rfl) (by decide) v xs.length (nodeCells xs L) hown'.2
    ⟨w.heap.size, 0, none⟩ 1 1 [.int .i64 y.kind, .int .i64 y.a, .int .i64 y.b, u] rfl
    (by
      intro j x hx
      rw [Addr.add_lit, World.cell?_alloc_at _ _ _ _ rfl]
      simp only [Nat.zero_add]
      rw [List.getElem?_toArray.symm] at hx
      exact hx)
    (by intro x hx; simp only [List.mem_cons, List.not_mem_nil, or_false] at hx; rcases hx with rfl | rfl | rfl | rfl <;> first | rfl | exact h1) (by simp only [maxLen]; omega) (by omega) (by simp; omega)
  refine ⟨v', w', h1, ⟨by simp [hown.1], ?_⟩, h3⟩
  rw [nodeCells_append _ _ _ _ hown.1]
  simpa [nodeCells] using h2
theorem wpList_append_node {ops : Array Oper} {rest : List Oper} {o : Oper} {a : Act} {Q : Exit → Act → World → Prop} {w : World} {u : Value} (hgd : o.guard = none) (s x : Operand)
    (ho : o.op = .call { callee := .builtin .append, args := #[s, x], argTypes := #[44, 44] })
    {B : Nat} {v : Value} {xs : List NodeD} {L : List Value} (y : NodeD) {y0 y1 y2 : Int} (e0 : y0 = y.kind) (e1 : y1 = y.a) (e2 : y2 = y.b) (hs : a.eval s = v) (hown : OwnN B w v xs L) (hx : a.eval x = .slice (some ⟨w.heap.size, 0, none⟩) 1 1) (h1 : u.oneCell' = true) (hlen : xs.length < 1099511627776) (hB : B ≤ w.heap.size)
    (h : ∀ v' w', OwnN B w' v' (xs ++ [y]) (L ++ [u]) → w.grownBy w' v.ownBlock → (∀ k, k < w.heap.size → v.ownBlock ≠ some k → w'.heap[k]? = w.heap[k]?) → wpList Tryz.prog ops Q rest (a.put o.dst v') w') : wpList Tryz.prog ops Q (o :: rest) a (w.alloc (.cells #[.int .i64 y0, .int .i64 y1, .int .i64 y2, u] 26)) := by
  subst e0 e1 e2
  refine wpList_plain hgd fun K hK => ?_
  obtain ⟨v', w', e1, e2, e3⟩ := run_append_node w o.type y hown h1 hlen hB
  unfold Oper.wp execOp
  simp only [ho, resolve, invoke, builtin, Sem.run_bind, Sem.run_pure, Result.andThen_ok, List.map_toArray, List.map_cons, List.map_nil, hs, hx, e1]
  have hk : ∀ k, k < w.heap.size → v.ownBlock ≠ some k → w'.heap[k]? = w.heap[k]? := fun k hk hne => (e3.block k (by simp; omega) (fun e => hne e.symm)).trans (Below.heap_alloc _ _ _ hk)
  exact hK _ _ (h v' w' e2 ⟨e3.os, e3.tape, e3.output, by have := e3.size; simp at this; omega, fun k h1 h2 => hk k h1 (fun e => h2 e.symm)⟩ hk)
end Go.Proofs.YtdcacmmglkcliaaGreatDoor
