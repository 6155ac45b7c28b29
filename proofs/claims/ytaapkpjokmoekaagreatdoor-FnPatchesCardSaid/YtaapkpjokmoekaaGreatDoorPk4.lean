/-
  Several texts in one: OwnP, Mapped, PB, PatF, StepA, CopyP, AppN, DpA.
-/
import Derived.Test.YtaapkpjokmoekaaGreatDoorPk3
import Derived.Test.YtaapkpjokmoekaaGreatDoorPk1
import Derived.Deep.RegionLaw
import Derived.Deep.RegionHeld3
import Derived.ArgAppend
import Derived.Deep.DeepAppendRoom
import Derived.StillTailTactics
namespace Go.Proofs.YtaapkpjokmoekaaGreatDoor
open Go.ChangeShapes Go.WideShapes Go.ChangeAt Go.RowKit
set_option linter.unusedVariables false

/-! ### blocks of different types differ -/
/-- the block of v, if there is one, holds cells of type E -/
def Typed (w : World) (E : TypeId) (v : Value) : Prop := ∀ k, v.ownBlock = some k → ∃ cur, w.heap[k]? = some (.cells cur E (0, 0))
theorem Typed.of {w : World} {B n size : Nat} {E : TypeId} {v : Value} {xs : List Value} (h : w.ownsRow B E size v n xs) : Typed w E v := by
  intro k hk
  rcases h.2 with ⟨rfl, _⟩ | ⟨g, cap, cur, rfl, _, hg, _⟩
  · simp [Value.ownBlock] at hk
  · simp only [Value.ownBlock, Option.some.injEq] at hk
    subst hk
    exact ⟨cur, hg⟩
theorem Typed.ne {w : World} {E E' : TypeId} {v v' : Value} (h : Typed w E v) (h' : Typed w E' v') (hE : E ≠ E') {k : Nat} (hk : v.ownBlock = some k) : v'.ownBlock ≠ some k := by
  intro hk'
  obtain ⟨cur, hg⟩ := h k hk
  obtain ⟨cur', hg'⟩ := h' k hk'
  rw [hg] at hg'
  simp only [Option.some.injEq, Obj.cells.injEq] at hg'
  exact hE hg'.2.1
theorem Typed.neBox {w : World} {E T : TypeId} {v : Value} {cs : List Value} {s : Nat} (h : Typed w E v) (hb : Box w s cs T) (hT : E ≠ T) : v.ownBlock ≠ some s := by
  intro hk
  obtain ⟨cur, hg⟩ := h s hk
  unfold Box at hb
  rw [hg] at hb
  simp only [Option.some.injEq, Obj.cells.injEq] at hb
  exact hT hb.2.1
theorem OwnIs.typed {B : Nat} {w : World} {L : List Value} {xss : List (List Int)} (h : OwnIs B w L xss) {u : Value} (hu : u ∈ L) : Typed w 2 u := by
  obtain ⟨i, hi, rfl⟩ := List.mem_iff_getElem.1 hu
  obtain ⟨hL, ho⟩ := h.at_ (i := i) (by rw [← h.1]; exact hi)
  exact Typed.of ho
theorem Blk.one {u : Value} {b : Nat} : Blk [u] b ↔ u.ownBlock = some b := by
  constructor
  · rintro ⟨v, hv, hb⟩
    rw [List.mem_singleton.1 hv] at hb; exact hb
  · intro h
    exact ⟨u, by simp, h⟩
theorem Dis.insert {A C : List Value} (h : Dis (A ++ C)) {u : Value} (hu : ∀ b, u.ownBlock = some b → ¬ Blk (A ++ C) b) : Dis (A ++ ([u] ++ C)) := by
  refine Dis.append h.left (Dis.append (List.pairwise_singleton _ _) h.right fun b hb hb' => hu b (Blk.one.1 hb) (blk_append.2 (.inr hb'))) fun b hb hb' => ?_
  rcases blk_append.1 hb' with h1 | h1
  · exact hu b (Blk.one.1 h1) (blk_append.2 (.inl hb))
  · exact h.sep b hb h1
theorem Dis.drop1 {A C : List Value} {u : Value} (h : Dis (A ++ ([u] ++ C))) : Dis (A ++ C) :=
  Dis.append h.left h.right.right fun b hb hb' => h.sep b hb (blk_append.2 (.inr hb'))

/-! ### a patch, part by part -/
structure OwnP (B : Nat) (w : World) (v1 v2 v3 : Value) (ts : List (List Int)) (ns : List NodeD) (os : List Int) (L1 L : List Value) : Prop where
  o1 : OwnV B w 26 v1 L1
  s1 : OwnIs B w L1 ts
  o2 : OwnN B w v2 ns L
  s2 : OwnIs B w L (ns.map NodeD.src)
  o3 : OwnI B w v3 os
  dis : Dis (L1 ++ (L ++ [v3]))
section
variable {B : Nat} {w : World} {v1 v2 v3 : Value} {ts : List (List Int)} {ns : List NodeD} {os : List Int} {L1 L : List Value}
theorem OwnP.blk (h : OwnP B w v1 v2 v3 ts ns os L1 L) {b : Nat} (hb : Blk (L1 ++ (L ++ [v3])) b) : B ≤ b ∧ b < w.heap.size := by
  rcases blk_append.1 hb with hb | hb
  · exact ⟨(h.s1.blk hb).1, (h.s1.blk hb).2.1⟩
  rcases blk_append.1 hb with hb | hb
  · exact ⟨(h.s2.blk hb).1, (h.s2.blk hb).2.1⟩
  · exact h.o3.lt (Blk.one.1 hb)
/-- the relation looks at its own blocks alone -/
theorem OwnP.keep {w' : World} (h : OwnP B w v1 v2 v3 ts ns os L1 L) (hk : ∀ k, B ≤ k → k < w.heap.size → (v1.ownBlock = some k ∨ v2.ownBlock = some k ∨ Blk (L1 ++ (L ++ [v3])) k) → w'.heap[k]? = w.heap[k]?) : OwnP B w' v1 v2 v3 ts ns os L1 L :=
  ⟨h.o1.keep fun k e => hk k (h.o1.lt e).1 (h.o1.lt e).2 (.inl e), h.s1.keep fun k e => hk k (h.s1.blk e).1 (h.s1.blk e).2.1 (.inr (.inr (blk_append.2 (.inl e)))), h.o2.keep fun k e => hk k (h.o2.lt e).1 (h.o2.lt e).2 (.inr (.inl e)),
    h.s2.keep fun k e => hk k (h.s2.blk e).1 (h.s2.blk e).2.1 (.inr (.inr (blk_append.2 (.inr (blk_append.2 (.inl e)))))), h.o3.keep fun k e => hk k (h.o3.lt e).1 (h.o3.lt e).2 (.inr (.inr (blk_append.2 (.inr (blk_append.2 (.inr (Blk.one.2 e))))))), h.dis⟩
theorem OwnP.below {w' : World} (h : OwnP B w v1 v2 v3 ts ns os L1 L) (hb : Below w.heap.size w w') : OwnP B w' v1 v2 v3 ts ns os L1 L := h.keep fun k _ hk _ => hb.block k hk
theorem OwnP.mono {B' : Nat} (h : OwnP B w v1 v2 v3 ts ns os L1 L) (hB : B' ≤ B) : OwnP B' w v1 v2 v3 ts ns os L1 L := ⟨h.o1.mono hB, h.s1.mono hB, h.o2.mono hB, h.s2.mono hB, h.o3.mono hB, h.dis⟩
/-- its blocks hold cells of these types -/
theorem OwnP.typed (h : OwnP B w v1 v2 v3 ts ns os L1 L) {k : Nat} (hk : v1.ownBlock = some k ∨ v2.ownBlock = some k ∨ Blk (L1 ++ (L ++ [v3])) k) : ∃ cur T, w.heap[k]? = some (.cells cur T (0, 0)) ∧ (T = 26 ∨ T = 35 ∨ T = 2) := by
  rcases hk with hk | hk | hk
  · obtain ⟨cur, hg⟩ := Typed.of h.o1 k hk
    exact ⟨cur, _, hg, .inl rfl⟩
  · obtain ⟨cur, hg⟩ := Typed.of h.o2.2 k hk
    exact ⟨cur, _, hg, .inr (.inl rfl)⟩
  · rcases blk_append.1 hk with hk | hk
    · obtain ⟨_, _, cur, hg⟩ := h.s1.blk hk
      exact ⟨cur, _, hg, .inr (.inr rfl)⟩
    rcases blk_append.1 hk with hk | hk
    · obtain ⟨_, _, cur, hg⟩ := h.s2.blk hk
      exact ⟨cur, _, hg, .inr (.inr rfl)⟩
    · obtain ⟨cur, hg⟩ := Typed.of h.o3 k (Blk.one.1 hk)
      exact ⟨cur, _, hg, .inr (.inr rfl)⟩
/-- a store into a box of another type -/
theorem OwnP.setBox {s : Nat} {cs : List Value} {T : TypeId} (h : OwnP B w v1 v2 v3 ts ns os L1 L) (hb : Box w s cs T) (hT : ¬ (T = 26 ∨ T = 35 ∨ T = 2)) (i : Nat) (u : Value) : OwnP B (w.setCell ⟨s, i, none⟩ u) v1 v2 v3 ts ns os L1 L :=
  h.keep fun k _ _ hk => Below.heap_setCell _ _ _ _ (by
    rintro rfl
    obtain ⟨cur, T', hg, hT'⟩ := h.typed hk
    unfold Box at hb
    rw [hg] at hb
    simp only [Option.some.injEq, Obj.cells.injEq] at hb
    exact hT (hb.2.1 ▸ hT'))
/-- no part lies in such a box -/
theorem OwnP.neBox {s : Nat} {cs : List Value} {T : TypeId} (h : OwnP B w v1 v2 v3 ts ns os L1 L) (hb : Box w s cs T) (hT : ¬ (T = 26 ∨ T = 35 ∨ T = 2)) : v1.ownBlock ≠ some s ∧ v2.ownBlock ≠ some s ∧ ¬ Blk (L1 ++ (L ++ [v3])) s := by
  have H : ¬ (v1.ownBlock = some s ∨ v2.ownBlock = some s ∨ Blk (L1 ++ (L ++ [v3])) s) := fun hk => by
    obtain ⟨cur, T', hg, hT'⟩ := h.typed hk
    unfold Box at hb
    rw [hg] at hb
    simp only [Option.some.injEq, Obj.cells.injEq] at hb
    exact hT (hb.2.1 ▸ hT')
  exact ⟨fun e => H (.inl e), fun e => H (.inr (.inl e)), fun e => H (.inr (.inr e))⟩
/-- a node more: v2' is the row behind an append, u the node's own slice -/
theorem OwnP.node {w' : World} {v2' u : Value} {y : NodeD} (h : OwnP B w v1 v2 v3 ts ns os L1 L) (hu : OwnI B w u y.src) (hnew : ∀ b, u.ownBlock = some b → ¬ Blk (L1 ++ (L ++ [v3])) b) (hv : OwnN B w' v2' (ns ++ [y]) (L ++ [u]))
    (hk : ∀ k, k < w.heap.size → v2.ownBlock ≠ some k → w'.heap[k]? = w.heap[k]?) : OwnP B w' v1 v2' v3 ts (ns ++ [y]) os L1 (L ++ [u]) := by
  have t2 := Typed.of h.o2.2
  refine ⟨h.o1.keep fun k e => hk k (h.o1.lt e).2 fun e' => t2.ne (Typed.of h.o1) (by decide) e' e, h.s1.keep fun k hb => hk k (h.s1.blk hb).2.1 fun e => ?_, hv, ?_, h.o3.keep fun k e => hk k (h.o3.lt e).2 fun e' => t2.ne (Typed.of h.o3) (by decide) e' e, ?_⟩
  · obtain ⟨v, hv, hb⟩ := hb
    exact t2.ne (h.s1.typed hv) (by decide) e hb
  · rw [List.map_append]
    refine (h.s2.keep fun k hb => hk k (h.s2.blk hb).2.1 fun e => ?_).snoc (hu.keep fun k hb => hk k (hu.lt hb).2 fun e => t2.ne (Typed.of hu) (by decide) e hb)
    obtain ⟨v, hv, hb⟩ := hb
    exact t2.ne (h.s2.typed hv) (by decide) e hb
  · have := Dis.insert (A := L1 ++ L) (C := [v3]) (by rw [List.append_assoc]; exact h.dis) (u := u) (fun b hb => by rw [List.append_assoc]; exact hnew b hb)
    rw [List.append_assoc] at this
    rw [List.append_assoc]; exact this
/-- a table more -/
theorem OwnP.table {w' : World} {v1' u : Value} {y : List Int} (h : OwnP B w v1 v2 v3 ts ns os L1 L) (hu : OwnI B w u y) (hnew : ∀ b, u.ownBlock = some b → ¬ Blk (L1 ++ (L ++ [v3])) b) (hv : OwnV B w' 26 v1' (L1 ++ [u]))
    (hk : ∀ k, k < w.heap.size → v1.ownBlock ≠ some k → w'.heap[k]? = w.heap[k]?) : OwnP B w' v1' v2 v3 (ts ++ [y]) ns os (L1 ++ [u]) L := by
  have t1 := Typed.of h.o1
  refine ⟨hv, ?_, h.o2.keep fun k e => hk k (h.o2.lt e).2 fun e' => t1.ne (Typed.of h.o2.2) (by decide) e' e, h.s2.keep fun k hb => hk k (h.s2.blk hb).2.1 fun e => ?_, h.o3.keep fun k e => hk k (h.o3.lt e).2 fun e' => t1.ne (Typed.of h.o3) (by decide) e' e, ?_⟩
  · refine (h.s1.keep fun k hb => hk k (h.s1.blk hb).2.1 fun e => ?_).snoc (hu.keep fun k hb => hk k (hu.lt hb).2 fun e => t1.ne (Typed.of hu) (by decide) e hb)
    obtain ⟨v, hv, hb⟩ := hb
    exact t1.ne (h.s1.typed hv) (by decide) e hb
  · obtain ⟨v, hv, hb⟩ := hb
    exact t1.ne (h.s2.typed hv) (by decide) e hb
  · have := Dis.insert (A := L1) (C := L ++ [v3]) h.dis (u := u) hnew
    rw [List.append_assoc]; exact this
/-- other outputs -/
theorem OwnP.outs {u : Value} {os' : List Int} (h : OwnP B w v1 v2 v3 ts ns os L1 L) (hu : OwnI B w u os') (hnew : ∀ b, u.ownBlock = some b → ¬ Blk (L1 ++ (L ++ [v3])) b) : OwnP B w v1 v2 u ts ns os' L1 L := by
  refine ⟨h.o1, h.s1, h.o2, h.s2, hu, ?_⟩
  have h1 : Dis (L1 ++ L) := by
    have := h.dis
    rw [← List.append_assoc] at this
    exact this.left
  rw [← List.append_assoc]
  refine h1.snoc fun b hb hb' => hnew b hb ?_
  rw [← List.append_assoc]
  exact blk_append.2 (.inl hb')
/-- no nodes -/
theorem OwnP.bare {u : Value} (h : OwnP B w v1 v2 v3 ts ns os L1 L) (hu : OwnN B w u [] []) : OwnP B w v1 u v3 ts [] os L1 [] := by
  refine ⟨h.o1, h.s1, hu, OwnIs.nil _ _, h.o3, ?_⟩
  rw [List.nil_append]
  exact Dis.append h.dis.left h.dis.right.right fun b hb hb' => h.dis.sep b hb (blk_append.2 (.inr hb'))
theorem OwnP.patch (h : OwnP B w v1 v2 v3 ts ns os L1 L) (inp : Int) : OwnPatch B w (.agg #[.int .i64 inp, v1, v2, v3]) ⟨inp, ts, ns, os⟩ (L1 ++ (v2 :: L) ++ [v3]) ∧ Dis (L1 ++ (v2 :: L) ++ [v3]) := by
  have hd := h.dis
  have t2 := Typed.of h.o2.2
  refine ⟨⟨v1, v2, v3, L1, v2 :: L, [v3], rfl, rfl, ⟨h.o1, h.s1, hd.left⟩, ⟨L, rfl, h.o2, h.s2, hd.right.left⟩, ⟨h.o3, rfl⟩⟩, ?_⟩
  have := Dis.insert (A := L1) (C := L ++ [v3]) hd (u := v2) fun b hb hb' => by
    rcases blk_append.1 hb' with h1 | h1
    · obtain ⟨v, hv, h1⟩ := h1
      exact t2.ne (h.s1.typed hv) (by decide) hb h1
    rcases blk_append.1 h1 with h1 | h1
    · obtain ⟨v, hv, h1⟩ := h1
      exact t2.ne (h.s2.typed hv) (by decide) hb h1
    · exact t2.ne (Typed.of h.o3) (by decide) hb (Blk.one.1 h1)
  rw [List.append_assoc]
  exact this
theorem OwnP.ofPatch {v : Value} {x : PatchD} {M : List Value} (h : OwnPatch B w v x M) (hd : Dis M) : ∃ v1 v2 v3 L1 L, v = .agg #[.int .i64 x.inputs, v1, v2, v3] ∧ OwnP B w v1 v2 v3 x.tables x.nodes x.outputs L1 L := by
  obtain ⟨u1, u2, u3, L1, L2, L3, rfl, rfl, ⟨a1, a2, a3⟩, ⟨L, rfl, b1, b2, b3⟩, ⟨c1, rfl⟩⟩ := h
  rw [List.append_assoc] at hd
  exact ⟨u1, u2, u3, L1, L, rfl, a1, a2, b1, b2, c1, Dis.drop1 (u := u2) hd⟩
theorem OwnP.nil (w : World) {v3 : Value} {os : List Int} (h : OwnI B w v3 os) : OwnP B w (.slice none 0 0) (.slice none 0 0) v3 [] [] os [] [] :=
  ⟨World.ownsRow_nil w B _ 1, OwnIs.nil _ _, OwnN.nil _ _, OwnIs.nil _ _, h, List.pairwise_singleton _ _⟩
/-- two parts made one after the other -/
theorem OwnP.two13 {W : World} (h1 : OwnII B W v1 ts L1) (h3 : OwnI W.heap.size w v3 os) (hb : Below W.heap.size W w) (hB : B ≤ W.heap.size) : OwnP B w v1 (.slice none 0 0) v3 ts [] os L1 [] := by
  have h1' := h1.below hb
  refine ⟨h1'.1, h1'.2.1, OwnN.nil _ _, OwnIs.nil _ _, h3.mono hB, ?_⟩
  rw [List.nil_append]
  refine Dis.append h1.2.2 (List.pairwise_singleton _ _) fun b hb1 hb3 => ?_
  have e1 := (h1.2.1.blk hb1).2.1
  have e3 := (h3.lt (Blk.one.1 hb3)).1
  omega
theorem OwnP.two31 {W : World} (h3 : OwnI B W v3 os) (h1 : OwnII W.heap.size w v1 ts L1) (hb : Below W.heap.size W w) (hB : B ≤ W.heap.size) : OwnP B w v1 (.slice none 0 0) v3 ts [] os L1 [] := by
  have h1' := h1.mono hB
  refine ⟨h1'.1, h1'.2.1, OwnN.nil _ _, OwnIs.nil _ _, h3.below hb, ?_⟩
  rw [List.nil_append]
  refine Dis.append h1.2.2 (List.pairwise_singleton _ _) fun b hb1 hb3 => ?_
  have e1 := (h1.2.1.blk hb1).1
  have e3 := (h3.lt (Blk.one.1 hb3)).2
  omega
end
theorem allocB_of {B : Nat} {a X : World} (_ : Below B a X) (o : Obj) : Below X.heap.size X (X.alloc o) := (Below.refl _ _).alloc (Nat.le_refl _) o
theorem newBox_of {B : Nat} {a X : World} (_ : Below B a X) (L : List Value) (T : TypeId) : Box (X.alloc (.cells L.toArray T)) X.heap.size L T := Box.newAt X L T rfl
/-! ### a node is appended -/
theorem OwnN.sl {B : Nat} {w : World} {v : Value} {xs : List NodeD} {L : List Value} (h : OwnN B w v xs L) : ∃ q c, v = .slice q xs.length c := by
  rcases h.cases with ⟨rfl, rfl, -⟩ | ⟨_, _, rfl, _⟩
  · exact ⟨none, 0, rfl⟩
  · exact ⟨_, _, rfl⟩
theorem OwnV.sl' {B : Nat} {w : World} {E : TypeId} {v : Value} {L : List Value} (h : OwnV B w E v L) : ∃ q c, v = .slice q L.length c := by
  rcases h.cases with ⟨rfl, rfl⟩ | ⟨_, _, rfl, _⟩
  · exact ⟨none, 0, rfl⟩
  · exact ⟨_, _, rfl⟩
theorem OwnN.slS {B : Nat} {w : World} {v : Value} {xs : List NodeD} {y : NodeD} {L : List Value} (h : OwnN B w v (xs ++ [y]) L) : ∃ q c, v = .slice q (xs.length + 1) c := by
  obtain ⟨q, c, e⟩ := h.sl
  exact ⟨q, c, by rw [e, List.length_append, List.length_singleton]⟩
theorem OwnV.slS {B : Nat} {w : World} {E : TypeId} {v u : Value} {L : List Value} (h : OwnV B w E v (L ++ [u])) : ∃ q c, v = .slice q (L.length + 1) c := by
  obtain ⟨q, c, e⟩ := h.sl'
  exact ⟨q, c, by rw [e, List.length_append, List.length_singleton]⟩
theorem infoNd : (Tryz.prog.info? 35).map (fun i => (i.zero, i.size, i.bytes)) = some (some (.agg #[.int .i64 0, .int .i64 0, .int .i64 0, .slice none 0 0]), 4, 48) := by kernel_rfl
theorem run_append_node (w : World) (ty : TypeId) {B : Nat} {v u : Value} {xs : List NodeD} {L : List Value} (y : NodeD) (hown : OwnN B w v xs L) (h1 : u.oneCell' = true) (hlen : xs.length < 1099511627776) (hB : B ≤ w.heap.size) :
    ∃ v' w', (Builtin.append_ #[25, 25] ty #[v, .slice (some ⟨w.heap.size, 0, none⟩) 1 1]).run Tryz.prog (w.alloc (.cells #[.int .i64 y.kind, .int .i64 y.a, .int .i64 y.b, u] 35)) = .ok v' w' ∧ OwnN B w' v' (xs ++ [y]) (L ++ [u]) ∧
      (w.alloc (.cells #[.int .i64 y.kind, .int .i64 y.a, .int .i64 y.b, u] 35)).grownBy w' v.ownBlock := by
  obtain ⟨i0, hi, hz0, hz1, hz2⟩ := info_parts infoNd
  have hown' : OwnN B (w.alloc (.cells #[.int .i64 y.kind, .int .i64 y.a, .int .i64 y.b, u] 35)) v xs L := hown.keep fun k hk => Below.heap_alloc _ _ _ (hown.lt hk).2
  obtain ⟨v', w', h1, h2, h3, _⟩ := run_append_own (P := Tryz.prog) (w.alloc (.cells #[.int .i64 y.kind, .int .i64 y.a, .int .i64 y.b, u] 35)) B 25 ty 35 i0 _ 4 48 Tryz.underlying25 hi hz0 hz1 hz2 (by rfl) (by decide) v xs.length (nodeCells xs L) hown'.2
    ⟨w.heap.size, 0, none⟩ 1 1 [.int .i64 y.kind, .int .i64 y.a, .int .i64 y.b, u] rfl
    (by
      intro j x hx
      rw [Addr.add_lit, World.cell?_alloc_at _ _ _ _ rfl]
      simp only [Nat.zero_add]
      rw [List.getElem?_toArray.symm] at hx
      exact hx)
    (by intro x hx; simp only [List.mem_cons, List.not_mem_nil, or_false] at hx; rcases hx with rfl | rfl | rfl | rfl <;> first | rfl | exact h1) (by simp only [maxLen]; omega) (by omega) (by simp; omega)
  refine ⟨v', w', h1, ⟨by simp [hown.1], ?_⟩, h3⟩
  rw [nodeCells_append _ _ _ _ hown.1]
  simpa [nodeCells] using h2
theorem wpList_append_node {ops : Array Oper} {rest : List Oper} {o : Oper} {a : Act} {Q : Exit → Act → World → Prop} {w : World} {u : Value} (hgd : o.guard = none) (s x : Operand)
    (ho : o.op = .call { callee := .builtin .append, args := #[s, x], argTypes := #[25, 25] })
    {B : Nat} {v : Value} {xs : List NodeD} {L : List Value} (y : NodeD) {y0 y1 y2 : Int} (e0 : y0 = y.kind) (e1 : y1 = y.a) (e2 : y2 = y.b) (hs : a.eval s = v) (hown : OwnN B w v xs L) (hx : a.eval x = .slice (some ⟨w.heap.size, 0, none⟩) 1 1) (h1 : u.oneCell' = true) (hlen : xs.length < 1099511627776) (hB : B ≤ w.heap.size)
    (h : ∀ v' w', OwnN B w' v' (xs ++ [y]) (L ++ [u]) → w.grownBy w' v.ownBlock → (∀ k, k < w.heap.size → v.ownBlock ≠ some k → w'.heap[k]? = w.heap[k]?) → wpList Tryz.prog ops Q rest (a.put o.dst v') w') : wpList Tryz.prog ops Q (o :: rest) a (w.alloc (.cells #[.int .i64 y0, .int .i64 y1, .int .i64 y2, u] 35)) := by
  subst e0 e1 e2
  refine wpList_plain hgd fun K hK => ?_
  obtain ⟨v', w', e1, e2, e3⟩ := run_append_node w o.type y hown h1 hlen hB
  unfold Oper.wp execOp
  simp only [ho, resolve, invoke, builtin, Sem.run_bind, Sem.run_pure, Result.andThen_ok, List.map_toArray, List.map_cons, List.map_nil, hs, hx, e1]
  have hk : ∀ k, k < w.heap.size → v.ownBlock ≠ some k → w'.heap[k]? = w.heap[k]? := fun k hk hne => (e3.block k (by simp; omega) (fun e => hne e.symm)).trans (Below.heap_alloc _ _ _ hk)
  exact hK _ _ (h v' w' e2 ⟨e3.os, e3.tape, e3.output, by have := e3.size; simp at this; omega, fun k h1 h2 => hk k h1 (fun e => h2 e.symm)⟩ hk)
end Go.Proofs.YtaapkpjokmoekaaGreatDoor

namespace Go.Proofs.YtaapkpjokmoekaaGreatDoor
open Go.ChangeShapes Go.WideShapes Go.ChangeAt Go.RowKit
set_option linter.unusedVariables false

def mapL (by_ xs : List Int) : List Int := xs.map fun i => by_.getD i.toNat 0
theorem mapL_length (by_ xs : List Int) : (mapL by_ xs).length = xs.length := by simp [mapL]
theorem mapL_succ {by_ xs : List Int} {k m : Nat} (h : k < xs.length) (hm : xs[k] = (m : Int)) (hb : m < by_.length) : mapL by_ (xs.take (k + 1)) = mapL by_ (xs.take k) ++ [by_[m]] := by
  unfold mapL
  rw [List.take_succ_eq_append_getElem h, List.map_append]
  congr 1
  simp only [List.map_cons, List.map_nil]
  rw [hm, Int.toNat_natCast, List.getD_eq_getElem?_getD, List.getElem?_eq_getElem hb]; rfl
set_option maxHeartbeats 800000 in
theorem mapped_any {p q : Option Addr} {c d : Nat} {xs by_ : List Int} (w : World) (h : RdI w p xs) (h' : RdI w q by_) (hl : xs.length ≤ 1048576) (hr : ∀ i ∈ xs, 0 ≤ i ∧ i < (by_.length : Int)) :
    Calls Tryz.prog 63 #[.slice p xs.length c, .slice q by_.length d] w fun e w' => ∃ v, e = .returned v ∧ OwnI w.heap.size w' v (mapL by_ xs) ∧ Below w.heap.size w w' := by
  have h0 := OwnI.lit (B := w.heap.size) w [] (Nat.le_refl _) (by simp [maxLen])
  have hb0 := (Below.refl w.heap.size w).alloc (Nat.le_refl _) (.cells #[] 2)
  have HR := Lib.hid hr
  clear hr
  go_enter Tryz.func63, Tryz.ntmps63
  go_wp2_with fail
  go_loopw [5, 7, 11] (fun ov _ iv wr => ∃ k : Nat, k ≤ xs.length ∧ iv = .int .i64 k ∧ OwnI w.heap.size wr ov (mapL by_ (xs.take k)) ∧ Below w.heap.size w wr) (fun _ _ iv _ => xs.length - (intOf iv).toNat)
  case atStart => exact ⟨0, Nat.zero_le _, rfl, by simpa [mapL] using h0, hb0⟩
  case round =>
    obtain ⟨k, hk, rfl, hown, hbel⟩ := hrel
    clear h0 hb0
    obtain ⟨wi, rfl⟩ : ∃ wi : World, wi = wr := ⟨_, rfl⟩
    have hsz := hbel.size
    by_cases hlt : k < xs.length
    · obtain ⟨b, o, rfl, hb, hc⟩ := (h.below hbel).pos hlt
      have hck := hc k hlt
      have hrk := HR.out _ (List.getElem_mem hlt)
      obtain ⟨m, hm⟩ : ∃ m : Nat, xs[k] = m := ⟨xs[k].toNat, by omega⟩
      rw [hm] at hck hrk
      have hmb : m < by_.length := by omega
      have HS := Lib.hid (mapL_succ hlt hm hmb)
      obtain ⟨b2, o2, rfl, hb2, hc2⟩ := (h'.below hbel).pos hmb
      have hcm := hc2 m hmb
      have hll : (mapL by_ (xs.take k)).length < 17592186044415 := by rw [mapL_length, List.length_take]; omega
      generalize mapL by_ (xs.take k) = cur at hown HS hll
      generalize by_[m] = y at hcm HS
      clear hc hc2 hm hrk
      go_wp2_with (at_builtin; refine wpList_append_one rfl _ _ rfl rfl hown rfl hbel hll hsz (Nat.le_refl _) ?_; intro v' w4 hown4 hb4 hz4 hk4)
      go_roundw
      case rel => exact ⟨k + 1, by omega, by go_num, by rw [HS.out]; exact hown4, hb4⟩
      case measure => simp [intOf] <;> omega
    · obtain rfl : k = xs.length := by omega
      rw [List.take_length] at hown
      go_wp2_with fail
      go_ret
      exact ⟨_, rfl, hown, hbel⟩
set_option maxHeartbeats 800000 in
theorem l07Map_any {p q : Option Addr} {c d : Nat} {xs by_ : List Int} (w : World) (h : RdI w p xs) (h' : RdI w q by_) (hl : xs.length ≤ 1048576) (hr : ∀ i ∈ xs, 0 ≤ i ∧ i < (by_.length : Int)) :
    Calls Tryz.prog 135 #[.slice p xs.length c, .slice q by_.length d] w fun e w' => ∃ v, e = .returned v ∧ OwnI w.heap.size w' v (mapL by_ xs) ∧ Below w.heap.size w w' := by
  have h0 := OwnI.lit (B := w.heap.size) w [] (Nat.le_refl _) (by simp [maxLen])
  have hb0 := (Below.refl w.heap.size w).alloc (Nat.le_refl _) (.cells #[] 2)
  have HR := Lib.hid hr
  clear hr
  go_enter Tryz.func135, Tryz.ntmps135
  go_wp2_with fail
  go_loopw [5, 6] (fun ov iv wr => ∃ k : Nat, k ≤ xs.length ∧ iv = .int .i64 k ∧ OwnI w.heap.size wr ov (mapL by_ (xs.take k)) ∧ Below w.heap.size w wr) (fun _ iv _ => xs.length - (intOf iv).toNat)
  case atStart => exact ⟨0, Nat.zero_le _, rfl, by simpa [mapL] using h0, hb0⟩
  case round =>
    obtain ⟨k, hk, rfl, hown, hbel⟩ := hrel
    clear h0 hb0
    obtain ⟨wi, rfl⟩ : ∃ wi : World, wi = wr := ⟨_, rfl⟩
    have hsz := hbel.size
    by_cases hlt : k < xs.length
    · obtain ⟨b, o, rfl, hb, hc⟩ := (h.below hbel).pos hlt
      have hck := hc k hlt
      have hrk := HR.out _ (List.getElem_mem hlt)
      obtain ⟨m, hm⟩ : ∃ m : Nat, xs[k] = m := ⟨xs[k].toNat, by omega⟩
      rw [hm] at hck hrk
      have hmb : m < by_.length := by omega
      have HS := Lib.hid (mapL_succ hlt hm hmb)
      obtain ⟨b2, o2, rfl, hb2, hc2⟩ := (h'.below hbel).pos hmb
      have hcm := hc2 m hmb
      have hll : (mapL by_ (xs.take k)).length < 17592186044415 := by rw [mapL_length, List.length_take]; omega
      generalize mapL by_ (xs.take k) = cur at hown HS hll
      generalize by_[m] = y at hcm HS
      clear hc hc2 hm hrk
      go_wp2_with (at_builtin; refine wpList_append_one rfl _ _ rfl rfl hown rfl hbel hll hsz (Nat.le_refl _) ?_; intro v' w4 hown4 hb4 hz4 hk4)
      go_roundw
      case rel => exact ⟨k + 1, by omega, by go_num, by rw [HS.out]; exact hown4, hb4⟩
      case measure => simp [intOf] <;> omega
    · obtain rfl : k = xs.length := by omega
      rw [List.take_length] at hown
      go_wp2_with fail
      go_ret
      exact ⟨_, rfl, hown, hbel⟩
set_option maxHeartbeats 800000 in
theorem clones_any {p : Option Addr} {c : Nat} {xss : List (List Int)} (w : World) (h : RdII w p xss) (hl : xss.length ≤ 1048576) (hr : ∀ xs ∈ xss, xs.length ≤ 1048576) :
    Calls Tryz.prog 62 #[.slice p xss.length c] w fun e w' => ∃ v L, e = .returned v ∧ OwnII w.heap.size w' v xss L ∧ Below w.heap.size w w' := by
  have h0 := OwnII.empty (B := w.heap.size) w (Nat.le_refl _)
  have hb0 := (Below.refl w.heap.size w).alloc (Nat.le_refl _) (.cells #[] 26)
  have HR := Lib.hid hr
  clear hr
  go_enter Tryz.func62, Tryz.ntmps62
  go_wp2_with fail
  go_loopw [3, 5, 9] (fun ov _ iv wr => ∃ (k : Nat) (L : List Value), k ≤ xss.length ∧ iv = .int .i64 k ∧ OwnII w.heap.size wr ov (xss.take k) L ∧ Below w.heap.size w wr) (fun _ _ iv _ => xss.length - (intOf iv).toNat)
  case atStart => exact ⟨0, [], Nat.zero_le _, rfl, by simpa using h0, hb0⟩
  case round =>
    obtain ⟨k, L, hk, rfl, hown, hbel⟩ := hrel
    clear h0 hb0
    obtain ⟨wi, rfl⟩ : ∃ wi : World, wi = wr := ⟨_, rfl⟩
    have hsz := hbel.size
    by_cases hlt : k < xss.length
    · obtain ⟨b, o, rfl, hb, hc⟩ := (h.below hbel).pos hlt
      obtain ⟨q, d, hck, hrk⟩ := hc k hlt
      have hlk := HR.out _ (List.getElem_mem hlt)
      have HS : Hid (xss.take (k + 1) = xss.take k ++ [xss[k]]) := List.take_succ_eq_append_getElem hlt
      have hlL : L.length < 1099511627776 := by have := hown.2.1.1; rw [List.length_take] at this; omega
      generalize xss[k] = xs at hck hrk hlk HS
      clear hc
      have CL := Lib.hid (clone_any (c := d) wi hrk hlk)
      obtain ⟨oq, oc, e⟩ := hown.1.sl'
      subst e
      have HOW := Lib.hid hown
      clear hown
      go_wp2_with fail
      refine CL.out.mono ?_
      rintro e W1 ⟨u, rfl, hu, hb1⟩
      have hown1 := HOW.out.below hb1
      have hbel1 := hbel.trans (hb1.mono hbel.size)
      have huc := hu.oneCell
      have hnew : ∀ b, u.ownBlock = some b → ¬ Blk L b := fun b hb' hbk => by
        have h1 := (hu.lt hb').1
        have h2 := (HOW.out.2.1.blk hbk).2.1
        omega
      have HNW := Lib.hid hnew
      have hs1 := hb1.size
      have hs2 : w.heap.size ≤ W1.heap.size := by omega
      clear hnew CL HOW
      obtain ⟨uq, ucc, rfl, -⟩ := hu.rd
      go_wp2_with (at_builtin; refine wpList_append_val rfl _ _ rfl 24 (.slice none 0 0) Tryz.underlying24 infoII rfl (by omega) rfl hown1.1 rfl huc hbel1 hlL hs2 (Nat.le_refl _) ?_; intro v' w4 ho4 hb4 hz4 hk4)
      have ho5 := hown1.snoc (hu.mono hsz) HNW.out ho4 hk4
      go_roundw
      case rel => exact ⟨k + 1, L ++ [_], by omega, by go_num, by rw [HS.out]; exact ho5, hb4⟩
      case measure => simp [intOf] <;> omega
    · obtain rfl : k = xss.length := by omega
      rw [List.take_length] at hown
      go_wp2_with fail
      go_ret
      exact ⟨_, _, rfl, hown, hbel⟩
end Go.Proofs.YtaapkpjokmoekaaGreatDoor

namespace Go.Proofs.YtaapkpjokmoekaaGreatDoor
open Go.ChangeShapes Go.WideShapes Go.ChangeAt Go.RowKit
set_option linter.unusedVariables false

structure Small (x : PatchD) : Prop where
  tables : x.tables.length ≤ 1000
  rows : ∀ t ∈ x.tables, t.length ≤ 1000
  nodes : x.nodes.length ≤ 1000
  srcs : ∀ n ∈ x.nodes, n.src.length ≤ 1000
  outs : x.outputs.length ≤ 1000
theorem belowDrew0 (w : World) : Below w.heap.size w w.drew := ⟨rfl, rfl, rfl, Nat.le_refl _, fun _ _ => rfl⟩
theorem Below.via {a W F : World} (h : Below a.heap.size a W) (hb : Below W.heap.size W F) : Below a.heap.size a F := h.trans (hb.mono h.size)
abbrev zPatch : List Value := [.int .i64 0, .slice none 0 0, .slice none 0 0, .slice none 0 0]
structure PB (B : Nat) (w0 w : World) (s : Nat) (inp : Int) (v1 v2 v3 : Value) (ts : List (List Int)) (ns : List NodeD) (os : List Int) (L1 L : List Value) : Prop where
  own : OwnP B w v1 v2 v3 ts ns os L1 L
  out : Box w s [.int .i64 inp, v1, v2, v3] 28
  bel : Below w0.heap.size w0 w
  hB : w0.heap.size ≤ B
  hs : w0.heap.size ≤ s
theorem patchT : ¬ ((28 : TypeId) = 26 ∨ (28 : TypeId) = 35 ∨ (28 : TypeId) = 2) := by decide
section
variable {B : Nat} {w0 w : World} {s : Nat} {inp : Int} {v1 v2 v3 : Value} {ts : List (List Int)} {ns : List NodeD} {os : List Int} {L1 L : List Value}
theorem PB.below {w' : World} (h : PB B w0 w s inp v1 v2 v3 ts ns os L1 L) (hb : Below w.heap.size w w') : PB B w0 w' s inp v1 v2 v3 ts ns os L1 L :=
  ⟨h.own.below hb, h.out.below hb, h.bel.trans (hb.mono h.bel.size), h.hB, h.hs⟩
theorem PB.node {w' : World} {v2' u : Value} {y : NodeD} (h : PB B w0 w s inp v1 v2 v3 ts ns os L1 L) (hu : OwnI B w u y.src) (hnew : ∀ b, u.ownBlock = some b → ¬ Blk (L1 ++ (L ++ [v3])) b) (hv : OwnN B w' v2' (ns ++ [y]) (L ++ [u])) (hg : w.grownBy w' v2.ownBlock) :
    (w'.cell? ⟨s, 2, none⟩ = some v2 ∧ w'.frozen? ⟨s, 2, none⟩ = false) ∧ PB B w0 (w'.setCell ⟨s, 2, none⟩ v2') s inp v1 v2' v3 ts (ns ++ [y]) os L1 (L ++ [u]) := by
  have hk : ∀ k, k < w.heap.size → v2.ownBlock ≠ some k → w'.heap[k]? = w.heap[k]? := fun k hk hne => hg.block k hk fun e => hne e.symm
  have o' := h.own.node hu hnew hv hk
  have n1 := (h.own.neBox h.out patchT).2.1
  have out' := h.out.keep (hk _ h.out.lt n1)
  have bel' : Below w0.heap.size w0 w' := h.bel.grown hg h.bel.size fun k hk => by have := (h.own.o2.lt hk).1; have := h.hB; omega
  exact ⟨⟨out'.cell 2 rfl, out'.frozen 2⟩, o'.setBox out' patchT 2 _, by simpa using out'.set 2 v2', bel'.setCell (by simpa using h.hs) _, h.hB, h.hs⟩
theorem PB.table {w' : World} {v1' u : Value} {y : List Int} (h : PB B w0 w s inp v1 v2 v3 ts ns os L1 L) (hu : OwnI B w u y) (hnew : ∀ b, u.ownBlock = some b → ¬ Blk (L1 ++ (L ++ [v3])) b) (hv : OwnV B w' 26 v1' (L1 ++ [u])) (hg : w.grownBy w' v1.ownBlock) :
    (w'.cell? ⟨s, 1, none⟩ = some v1 ∧ w'.frozen? ⟨s, 1, none⟩ = false) ∧ PB B w0 (w'.setCell ⟨s, 1, none⟩ v1') s inp v1' v2 v3 (ts ++ [y]) ns os (L1 ++ [u]) L := by
  have hk : ∀ k, k < w.heap.size → v1.ownBlock ≠ some k → w'.heap[k]? = w.heap[k]? := fun k hk hne => hg.block k hk fun e => hne e.symm
  have o' := h.own.table hu hnew hv hk
  have n1 := (h.own.neBox h.out patchT).1
  have out' := h.out.keep (hk _ h.out.lt n1)
  have bel' : Below w0.heap.size w0 w' := h.bel.grown hg h.bel.size fun k hk => by have := (h.own.o1.lt hk).1; have := h.hB; omega
  exact ⟨⟨out'.cell 1 rfl, out'.frozen 1⟩, o'.setBox out' patchT 1 _, by simpa using out'.set 1 v1', bel'.setCell (by simpa using h.hs) _, h.hB, h.hs⟩
theorem PB.outs {u : Value} {os' : List Int} (h : PB B w0 w s inp v1 v2 v3 ts ns os L1 L) (hu : OwnI B w u os') (hnew : ∀ b, u.ownBlock = some b → ¬ Blk (L1 ++ (L ++ [v3])) b) : PB B w0 (w.setCell ⟨s, 3, none⟩ u) s inp v1 v2 u ts ns os' L1 L :=
  ⟨(h.own.outs hu hnew).setBox h.out patchT 3 _, by simpa using h.out.set 3 u, h.bel.setCell (by simpa using h.hs) _, h.hB, h.hs⟩
theorem PB.bare {u : Value} (h : PB B w0 w s inp v1 v2 v3 ts ns os L1 L) (hu : OwnN B w u [] []) : PB B w0 (w.setCell ⟨s, 2, none⟩ u) s inp v1 u v3 ts [] os L1 [] :=
  ⟨(h.own.bare hu).setBox h.out patchT 2 _, by simpa using h.out.set 2 u, h.bel.setCell (by simpa using h.hs) _, h.hB, h.hs⟩
theorem PB.new {E F : World} {v1 v2 v3 : Value} {ts : List (List Int)} {ns : List NodeD} {os : List Int} {L1 L : List Value} {inp : Int} (h : OwnP E.heap.size F v1 v2 v3 ts ns os L1 L) (hc : Below E.heap.size E F) :
    PB E.heap.size E (F.alloc (.cells #[.int .i64 inp, v1, v2, v3] 28)) F.heap.size inp v1 v2 v3 ts ns os L1 L :=
  ⟨h.below ((Below.refl _ _).alloc (Nat.le_refl _) _), Box.newAt _ [.int .i64 inp, v1, v2, v3] _ rfl, hc.alloc hc.size _, Nat.le_refl _, hc.size⟩
theorem PB.newB {E F : World} {s : Nat} {v1 v2 v3 : Value} {ts : List (List Int)} {ns : List NodeD} {os : List Int} {L1 L : List Value} {inp : Int} (h : OwnP E.heap.size F v1 v2 v3 ts ns os L1 L) (hc : Below E.heap.size E F) (bq : Box F s zPatch 28) (hs : E.heap.size ≤ s) :
    PB E.heap.size E ((((F.setCell ⟨s, 0, none⟩ (.int .i64 inp)).setCell ⟨s, 1, none⟩ v1).setCell ⟨s, 2, none⟩ v2).setCell ⟨s, 3, none⟩ v3) s inp v1 v2 v3 ts ns os L1 L := by
  have b0 := bq.set 0 (.int .i64 inp)
  have b1 := b0.set 1 v1
  have b2 := b1.set 2 v2
  have b3 := b2.set 3 v3
  exact ⟨((((h.setBox bq patchT 0 _).setBox b0 patchT 1 _).setBox b1 patchT 2 _).setBox b2 patchT 3 _), by simpa [zPatch] using b3,
    (((hc.setCell (p := ⟨s, 0, none⟩) hs _).setCell (p := ⟨s, 1, none⟩) hs _).setCell (p := ⟨s, 2, none⟩) hs _).setCell (p := ⟨s, 3, none⟩) hs _, Nat.le_refl _, hs⟩
/-- all that it holds is older -/
theorem PB.fresh {W : World} {u : Value} {xs : List Int} {B' : Nat} (h : PB B w0 w s inp v1 v2 v3 ts ns os L1 L) (hu : OwnI B' W u xs) (hB' : w.heap.size ≤ B') : ∀ b, u.ownBlock = some b → ¬ Blk (L1 ++ (L ++ [v3])) b := fun b hb hbk => by
  have h1 := (hu.lt hb).1
  have h2 := (h.own.blk hbk).2
  omega
/-- the patch as a result -/
def RetP0 (w : World) (x : PatchD) (e : Ending) (w' : World) : Prop := ∃ v1 v2 v3 L1 L, e = .returned (.agg #[.int .i64 x.inputs, v1, v2, v3]) ∧ OwnP w.heap.size w' v1 v2 v3 x.tables x.nodes x.outputs L1 L ∧ Below w.heap.size w w'
theorem PB.done {W0 : World} {r : Nat} (h : PB B w0 w s inp v1 v2 v3 ts ns os L1 L) (hres : Box w r zPatch 28) (hb : Below W0.heap.size W0 w) (hr : W0.heap.size ≤ r) (hB : W0.heap.size ≤ B) :
    ∃ W', W' = (((w.setCell ⟨r, 0, none⟩ (.int .i64 inp)).setCell ⟨r, 1, none⟩ v1).setCell ⟨r, 2, none⟩ v2).setCell ⟨r, 3, none⟩ v3 ∧ Box W' r [.int .i64 inp, v1, v2, v3] 28 ∧ RetP0 W0 ⟨inp, ts, ns, os⟩ (.returned (.agg #[.int .i64 inp, v1, v2, v3])) W' := by
  have b0 := hres.set 0 (.int .i64 inp)
  have b1 := b0.set 1 v1
  have b2 := b1.set 2 v2
  have b3 := b2.set 3 v3
  refine ⟨_, rfl, by simpa [zPatch] using b3, v1, v2, v3, L1, L, rfl, (((((h.own.setBox hres patchT 0 _).setBox b0 patchT 1 _).setBox b1 patchT 2 _).setBox b2 patchT 3 _)).mono hB, ?_⟩
  exact (((hb.setCell (p := ⟨r, 0, none⟩) hr _).setCell (p := ⟨r, 1, none⟩) hr _).setCell (p := ⟨r, 2, none⟩) hr _).setCell (p := ⟨r, 3, none⟩) hr _
end
end Go.Proofs.YtaapkpjokmoekaaGreatDoor

namespace Go.Proofs.YtaapkpjokmoekaaGreatDoor
open Go.ChangeShapes Go.WideShapes Go.ChangeAt Go.RowKit Go.Sort
set_option linter.unusedVariables false

/-- a patch lies in a block -/
def PPatch (w : World) (g : Nat) (x : PatchD) : Prop := ∃ p1 c1 p2 c2 p3 c3, Box w g [.int .i64 x.inputs, .slice p1 x.tables.length c1, .slice p2 x.nodes.length c2, .slice p3 x.outputs.length c3] 28 ∧ RdII w p1 x.tables ∧ RdNodeS w p2 x.nodes ∧ RdI w p3 x.outputs
theorem PPatch.lt {w : World} {g : Nat} {x : PatchD} (h : PPatch w g x) : g < w.heap.size := by
  obtain ⟨_, _, _, _, _, _, hb, _⟩ := h
  exact hb.lt
theorem PPatch.below {w w' : World} {g : Nat} {x : PatchD} (h : PPatch w g x) (hb : Below w.heap.size w w') : PPatch w' g x := by
  obtain ⟨p1, c1, p2, c2, p3, c3, b, r1, r2, r3⟩ := h
  exact ⟨p1, c1, p2, c2, p3, c3, b.below hb, r1.below hb, r2.below hb, r3.below hb⟩
theorem nodeB_src {x : NodeD} {t : Int} (h : nodeB x t = true) : ∀ f ∈ x.src, 0 ≤ f := by
  unfold nodeB at h
  simp only [Bool.and_eq_true, List.all_eq_true, inB_iff] at h
  intro f hf
  exact (h.1.1.2 f hf).1
set_option maxHeartbeats 6400000 in
set_option maxRecDepth 100000 in
theorem l07Formed_any {g : Nat} {x : PatchD} (w : World) (h : PPatch w g x) :
    Calls Tryz.prog 50 #[.pointer (some ⟨g, 0, none⟩)] w fun e w' => e = .returned (.bool (formedB x)) ∧ Below w.heap.size w w' := by
  have hlt := h.lt
  obtain ⟨p1, c1, p2, c2, p3, c3, bx, r1, r2, r3⟩ := h
  have hl1 := r1.len
  have hl2 := r2.len
  have hl3 := r3.len
  unfold maxLen at hl1 hl2 hl3
  have HR : Hid (∀ b1 b2 b3 b4 b5 b6, inB x.inputs 0 4 = b1 → tablesB x.tables = b2 → decide (x.nodes.length ≤ 24) = b3 → decide (x.outputs.length ≤ 4) = b4 → x.nodes.all (ndB x.inputs x.tables.length x.nodes.length) = b5 → x.outputs.all (fun f => inB f 0 (x.nodes.length - 1)) = b6 → formedB x = (b1 && b2 && b3 && b4 && b5 && b6)) := by
    intro b1 b2 b3 b4 b5 b6 h1 h2 h3 h4 h5 h6
    subst h1 h2 h3 h4 h5 h6; rfl
  generalize formedB x = R at HR ⊢
  have z0 := bx.cell 0 rfl
  have z1 := bx.cell 1 rfl
  have z2 := bx.cell 2 rfl
  have z3 := bx.cell 3 rfl
  have TB := Lib.hid (l06Tables_any (c := c1) w r1)
  cases e1 : inB x.inputs 0 4
  case false =>
    have hR : R = false := by rw [HR.out _ _ _ _ _ _ e1 rfl rfl rfl rfl rfl]; rfl
    subst hR
    go_enter Tryz.func50, Tryz.ntmps50
    go_wp2_with (go_at_call 31; refine (l00In_any _ _ _ _).mono ?_; rintro e w' ⟨rfl, rfl⟩)
    go_ret
    exact ⟨rfl, Below.refl _ _⟩
  cases e2 : tablesB x.tables
  case false =>
    rw [e2] at TB
    have hR : R = false := by rw [HR.out _ _ _ _ _ _ e1 e2 rfl rfl rfl rfl]; rfl
    subst hR
    go_enter Tryz.func50, Tryz.ntmps50
    go_wp2_with (first | (go_at_call 31; refine (l00In_any _ _ _ _).mono ?_; rintro e w' ⟨rfl, rfl⟩) | (go_at_call 80; refine TB.out.mono ?_; rintro e W1 ⟨rfl, hb1⟩))
    go_ret
    exact ⟨rfl, hb1⟩
  rw [e2] at TB
  by_cases h3 : x.nodes.length ≤ 24
  case neg =>
    have hR : R = false := by rw [HR.out _ _ _ _ _ _ e1 e2 (decide_eq_false h3) rfl rfl rfl]; rfl
    subst hR
    clear e2
    go_enter Tryz.func50, Tryz.ntmps50
    go_wp2_with (first | (go_at_call 31; refine (l00In_any _ _ _ _).mono ?_; rintro e w' ⟨rfl, rfl⟩) | (go_at_call 80; refine TB.out.mono ?_; rintro e W1 ⟨rfl, hb1⟩))
    go_ret
    exact ⟨rfl, hb1⟩
  by_cases h4 : x.outputs.length ≤ 4
  case neg =>
    have hR : R = false := by rw [HR.out _ _ _ _ _ _ e1 e2 (decide_eq_true h3) (decide_eq_false h4) rfl rfl]; rfl
    subst hR
    clear e2
    go_enter Tryz.func50, Tryz.ntmps50
    go_wp2_with (first | (go_at_call 31; refine (l00In_any _ _ _ _).mono ?_; rintro e w' ⟨rfl, rfl⟩) | (go_at_call 80; refine TB.out.mono ?_; rintro e W1 ⟨rfl, hb1⟩; have y3 := (bx.below hb1).cell 3 rfl))
    go_ret
    exact ⟨rfl, hb1⟩
  have HR2 : Hid (∀ b5 b6, x.nodes.all (ndB x.inputs x.tables.length x.nodes.length) = b5 → x.outputs.all (fun f => inB f 0 (x.nodes.length - 1)) = b6 → R = (b5 && b6)) := by
    intro b5 b6 h5 h6
    rw [HR.out _ _ _ _ _ _ e1 e2 (decide_eq_true h3) (decide_eq_true h4) h5 h6]; simp
  clear e2 HR
  go_enter Tryz.func50, Tryz.ntmps50
  go_wp2_with (first | (go_at_call 31; refine (l00In_any _ _ _ _).mono ?_; rintro e w' ⟨rfl, rfl⟩) | (go_at_call 80; refine TB.out.mono ?_; rintro e W1 ⟨rfl, hb1⟩; have y3 := (bx.below hb1).cell 3 rfl))
  replace bx := bx.below hb1
  replace r2 := r2.below hb1
  replace r3 := r3.below hb1
  clear z0 z1 z2 z3 y3 TB r1 e1
  go_loopw [4] (fun i wr => ∃ k : Nat, k ≤ x.nodes.length ∧ i = .int .i64 k ∧ (x.nodes.take k).all (ndB x.inputs x.tables.length x.nodes.length) = true ∧ Below W1.heap.size W1 wr) (fun i _ => x.nodes.length - (intOf i).toNat)
  case atStart => exact ⟨0, Nat.zero_le _, rfl, by simp, Below.refl _ _⟩
  case round =>
    obtain ⟨k, hk, rfl, hall, hbel⟩ := hrel
    have HA := Lib.hid hall; clear hall
    obtain ⟨wi, rfl⟩ : ∃ wi : World, wi = wr := ⟨_, rfl⟩
    have bx1 := bx.below hbel
    have z0 := bx1.cell 0 rfl
    have z1 := bx1.cell 1 rfl
    have z2 := bx1.cell 2 rfl
    by_cases hlt2 : k < x.nodes.length
    · obtain ⟨b, o, rfl, hb, hc⟩ := (r2.below hbel).pos hlt2
      have hnd := hc k hlt2
      clear hc
      generalize hx : x.nodes[k] = nd at hnd
      have HX := Lib.hid hx; clear hx
      have HND := Lib.hid hnd
      obtain ⟨y0, y1, y2, q, d, y3, hr⟩ := hnd
      have s0 := cell_regrown z0
      have s1 := cell_regrown z1
      have t0 := cell_regrown y0
      have t1 := cell_regrown y1
      have K1 : Hid (∀ bb, nodeB nd (x.tables.length : Int) = bb → ∀ n os, Calls Tryz.prog 81 #[.pointer (some ⟨b, o + k * 4, none⟩), .int .i64 (x.tables.length : Int)] (grow (redrawn wi n) os) fun e w'' => e = .returned (.bool bb) ∧ ∃ p : Regrown, w'' = grow (redrawn wi p.d) p.os) := fun bb hbb n os => Calls.regrown_of (by rw [← hbb]; exact l06Ok_any _ _ (HND.out.below (below_regrown wi n os)))
      clear z0 z1 y0 y1 y2 y3 hr
      cases eN : nodeB nd (x.tables.length : Int)
      case false =>
        have K2 := Lib.hid (K1.out _ eN)
        have hR : R = false := by rw [HR2.out _ _ (all_false hlt2 (by rw [HX.out]; unfold ndB; rw [eN]; rfl)) rfl]; rfl
        subst hR
        clear eN K1
        go_wp2_with fail
        refine wp_region_quiet_below (by kernel_rfl) (by kernel_rfl) ?_
        repeat (first | go_big_quiet_step ((go_at_call 81; exact K2.out _ _)) | quiet_step ((go_at_call 81; exact K2.out _ _)))
        refine wpQuiet_nil ?_
        intro _ hw'
        obtain ⟨⟨dq, osq⟩, hw''⟩ := hw'
        subst hw''
        have hq := hbel.trans ((below_regrown wi dq osq).mono hbel.size)
        go_wp2_with fail
        go_ret
        exact ⟨rfl, hb1.trans (hq.mono hb1.size)⟩
      have K2 := Lib.hid (K1.out _ eN)
      have HN := Lib.hid eN
      clear eN K1
      by_cases hin : nd.kind = 1 ∧ x.inputs ≤ nd.a
      · have q1 : (nd.kind == 1) = true := by rw [beq_iff_eq]; exact hin.1
        have q2 := hin.2
        have hR : R = false := by
          rw [HR2.out _ _ (all_false hlt2 (by rw [HX.out]; unfold ndB; rw [HN.out, q1, decide_eq_true q2]; rfl)) rfl]; rfl
        subst hR
        clear hin
        go_wp2_with fail
        refine wp_region_quiet_below (by kernel_rfl) (by kernel_rfl) ?_
        repeat (first | go_big_quiet_step ((go_at_call 81; exact K2.out _ _)) | quiet_step ((go_at_call 81; exact K2.out _ _)))
        refine wpQuiet_nil ?_
        intro _ hw'
        obtain ⟨⟨dq, osq⟩, hw''⟩ := hw'
        subst hw''
        have hq := hbel.trans ((below_regrown wi dq osq).mono hbel.size)
        go_wp2_with fail
        go_ret
        exact ⟨rfl, hb1.trans (hq.mono hb1.size)⟩
      have HQ : ((nd.kind == 1) = true ∧ nd.a < x.inputs) ∨ (nd.kind == 1) = false := by
        by_cases k1 : nd.kind = 1
        · exact .inl ⟨by rw [beq_iff_eq]; exact k1, by have := fun h => hin ⟨k1, h⟩; omega⟩
        · exact .inr (by rw [beq_eq_false_iff_ne]; exact k1)
      have HIN : Hid ((!(nd.kind == 1 && decide (x.inputs ≤ nd.a))) = true) := by
        unfold Hid
        rw [Bool.not_eq_true', Bool.and_eq_false_iff]
        rcases HQ with ⟨_, h⟩ | h
        · exact .inr (decide_eq_false (by omega))
        · exact .inl h
      clear hin
      rcases HQ with ⟨q1, q2⟩ | q1
      all_goals
        go_wp2_with fail
        refine wp_region_quiet_below (by kernel_rfl) (by kernel_rfl) ?_
        repeat (first | go_big_quiet_step ((go_at_call 81; exact K2.out _ _)) | quiet_step ((go_at_call 81; exact K2.out _ _)))
        refine wpQuiet_nil ?_
        intro _ hw'
        obtain ⟨⟨dq, osq⟩, hw''⟩ := hw'
        subst hw''
        have hbF := below_regrown wi dq osq
        have hq := hbel.trans (hbF.mono hbel.size)
        have hnF := HND.out.below hbF
        clear hbF s0 s1 t0 t1 z2 bx1 K2 hbel
        generalize grow (redrawn wi dq) osq = F at hq hnF ⊢
        obtain ⟨y0, y1, y2, q', d', y3, hr⟩ := hnF
        have hrl := hr.len
        unfold maxLen at hrl
        go_wp2_with fail
        go_loop [6] (fun j => ∃ jj : Nat, jj ≤ nd.src.length ∧ j = .int .i64 jj ∧ (nd.src.take jj).all (fun f => inB f 0 (x.nodes.length - 1)) = true) (fun j => nd.src.length - (intOf j).toNat)
        case atStart => exact ⟨0, Nat.zero_le _, rfl, by simp⟩
        case round =>
          obtain ⟨jj, hjj, rfl, hal2⟩ := hrel
          have HA2 := Lib.hid hal2; clear hal2
          by_cases hlt3 : jj < nd.src.length
          · obtain ⟨b2, o2, rfl, hb2, hc2⟩ := hr.pos hlt3
            have hck := hc2 jj hlt3
            have hf0 := nodeB_src HN.out _ (List.getElem_mem hlt3)
            clear hc2
            generalize hxf : nd.src[jj] = f at hck hf0
            have HXF := Lib.hid hxf; clear hxf
            by_cases hfn : f < (x.nodes.length : Int)
            · have HS2 := Lib.hid (all_step (f := fun f => inB f 0 ((x.nodes.length : Int) - 1)) hlt3 HA2.out (by rw [HXF.out]; exact inB_true (by omega)))
              go_wp2_with fail
              go_round
              case rel => exact ⟨jj + 1, by omega, by go_num, HS2.out⟩
              case measure => simp [intOf] <;> omega
            · have hR : R = false := by
                rw [HR2.out _ _ (all_false hlt2 (by rw [HX.out]; unfold ndB; rw [all_false hlt3 (by rw [HXF.out]; exact inB_false (by omega)), Bool.and_false])) rfl]; rfl
              subst hR
              go_wp2_with fail
              go_ret
              exact ⟨rfl, hb1.trans (hq.mono hb1.size)⟩
          · obtain rfl : jj = nd.src.length := by omega
            have HS := Lib.hid (all_step (f := ndB x.inputs x.tables.length x.nodes.length) hlt2 HA.out (by rw [HX.out]; unfold ndB; rw [HN.out, HIN.out, all_done HA2.out]; rfl))
            go_wp2_with fail
            go_roundw
            case rel => exact ⟨k + 1, by omega, by go_num, HS.out, hq⟩
            case measure => simp [intOf] <;> omega
    · obtain rfl : k = x.nodes.length := by omega
      have hB2 := hb1.trans (hbel.mono hb1.size)
      have z3 := bx1.cell 3 rfl
      replace r3 := r3.below hbel
      have HN5 := Lib.hid (all_done HA.out)
      go_wp2_with fail
      go_loop [7] (fun j => ∃ jj : Nat, jj ≤ x.outputs.length ∧ j = .int .i64 jj ∧ (x.outputs.take jj).all (fun f => inB f 0 (x.nodes.length - 1)) = true) (fun j => x.outputs.length - (intOf j).toNat)
      case atStart => exact ⟨0, Nat.zero_le _, rfl, by simp⟩
      case round =>
        obtain ⟨jj, hjj, rfl, hal2⟩ := hrel
        have HA2 := Lib.hid hal2; clear hal2
        by_cases hlt3 : jj < x.outputs.length
        · obtain ⟨b2, o2, rfl, hb2, hc2⟩ := r3.pos hlt3
          have hck := hc2 jj hlt3
          clear hc2
          generalize hxf : x.outputs[jj] = f at hck
          have HXF := Lib.hid hxf; clear hxf
          have IN := Lib.hid (l00In_any f 0 ((x.nodes.length : Int) - 1) wi)
          cases hfn : inB f 0 ((x.nodes.length : Int) - 1)
          · rw [hfn] at IN
            have hR : R = false := by rw [HR2.out _ _ HN5.out (all_false hlt3 (by rw [HXF.out]; exact hfn))]; rfl
            subst hR
            clear hfn
            go_wp2_with (go_at_call 31; refine IN.out.mono ?_; rintro e w' ⟨rfl, rfl⟩)
            go_ret
            exact ⟨rfl, hB2⟩
          · rw [hfn] at IN
            have HS2 := Lib.hid (all_step (f := fun f => inB f 0 ((x.nodes.length : Int) - 1)) hlt3 HA2.out (by rw [HXF.out]; exact hfn))
            clear hfn
            go_wp2_with (go_at_call 31; refine IN.out.mono ?_; rintro e w' ⟨rfl, rfl⟩)
            go_round
            case rel => exact ⟨jj + 1, by omega, by go_num, HS2.out⟩
            case measure => simp [intOf] <;> omega
        · obtain rfl : jj = x.outputs.length := by omega
          have hR : R = true := by rw [HR2.out _ _ HN5.out (all_done HA2.out)]; rfl
          subst hR
          go_wp2_with fail
          go_ret
          exact ⟨rfl, hB2⟩
end Go.Proofs.YtaapkpjokmoekaaGreatDoor

namespace Go.Proofs.YtaapkpjokmoekaaGreatDoor
open Go.ChangeShapes Go.WideShapes Go.ChangeAt Go.RowKit
set_option linter.unusedVariables false

/-- append of one value, as one step of a region that draws its order -/
theorem step_append_val {ops : Array Oper} {o : Oper} {a : Act} {K : Act → World → Prop} {Q : Exit → Act → World → Prop} {X : Prop} {w : World} {u : Value} {E T : Nat} (hgd : o.guard = none) (s x : Operand)
    (ho : o.op = .call { callee := .builtin .append, args := #[s, x], argTypes := #[T, T] }) (bytes : Nat) (z : Value) (hT : Tryz.prog.underlying T = some (.slice E)) (hinfo : (Tryz.prog.info? E).map (fun i => (i.zero, i.size, i.bytes)) = some (some z, 1, bytes)) (hz : z.cells.size = 1) (hby : bytes ≤ 64)
    {B : Nat} {v : Value} {L : List Value} (hs : a.eval s = v) (hown : OwnV B w E v L) (hx : a.eval x = .slice (some ⟨w.heap.size, 0, none⟩) 1 1) (h1 : u.oneCell' = true) (hlen : L.length < 1099511627776) (hB : B ≤ w.heap.size)
    (h : ∀ v' w', OwnV B w' E v' (L ++ [u]) → w.os = w'.os → w.tape = w'.tape → w.output = w'.output → w.heap.size ≤ w'.heap.size → (∀ k, k < w.heap.size → v.ownBlock ≠ some k → w'.heap[k]? = w.heap[k]?) → K (a.put o.dst v') w') :
    if Region.wanted o (yielded ops a.tmps) = true then Oper.wp Tryz.prog o a (w.alloc (.cells #[u] E)) K Q else X := by
  have hw : Region.wanted o (yielded ops a.tmps) = true := by simp [Region.wanted, hgd]
  rw [if_pos hw]
  obtain ⟨v', w', e1, e2, e3⟩ := run_append_val w o.type E T bytes z hT hinfo hz hby hown h1 hlen hB
  unfold Oper.wp execOp
  simp only [ho, resolve, invoke, builtin, Sem.run_bind, Sem.run_pure, Result.andThen_ok, List.map_toArray, List.map_cons, List.map_nil, hs, hx, e1]
  refine h v' w' e2 e3.os.symm e3.tape.symm e3.output.symm ?_ fun k hk hne => (e3.block k (by simp; omega) (fun e => hne e.symm)).trans (Below.heap_alloc _ _ _ hk)
  have := e3.size; simp at this; omega
end Go.Proofs.YtaapkpjokmoekaaGreatDoor

namespace Go.Proofs.YtaapkpjokmoekaaGreatDoor
open Go.ChangeShapes Go.WideShapes Go.ChangeAt Go.RowKit
set_option linter.unusedVariables false

end Go.Proofs.YtaapkpjokmoekaaGreatDoor

namespace Go.Proofs.YtaapkpjokmoekaaGreatDoor
open Go.ChangeShapes Go.WideShapes Go.ChangeAt Go.RowKit
set_option linter.unusedVariables false
set_option linter.unusedSimpArgs false

theorem run_append_new (w : World) (ty : TypeId) {B : Nat} {v : Value} {xs : List Int} {y : Int} (hown : OwnI B w v xs) {b o : Nat} (hr : w.cell? ⟨b, o, none⟩ = some (.int .i64 y)) (hlen : xs.length < 17592186044415) (hB : B ≤ w.heap.size) :
    ∃ v' w', (Builtin.append_ #[26, 26] ty #[v, .slice (some ⟨b, o, none⟩) 1 1]).run Tryz.prog w = .ok v' w' ∧ OwnI B w' v' (xs ++ [y]) ∧ w.grownBy w' v.ownBlock ∧ (∀ k, v'.ownBlock = some k → v.ownBlock = some k ∨ w.heap.size ≤ k) := by
  obtain ⟨i0, hi, hz0, hz1, hz2⟩ := info_parts infoI
  have e1 : (xs ++ [y]).length = xs.length + 1 := by simp
  have e2 : (xs ++ [y]).map (Value.int .i64) = xs.map (Value.int .i64) ++ [.int .i64 y] := by simp
  have hnews : ∀ j u, ([Value.int .i64 y] : List Value)[j]? = some u → w.cell? ((⟨b, o, none⟩ : Addr).add j) = some u := by
    intro j u hu
    cases j with
    | zero => simp at hu; subst hu; rw [Addr.add_lit, Nat.add_zero]; exact hr
    | succ j => simp at hu
  have hone : ∀ u ∈ ([Value.int .i64 y] : List Value), u.oneCell' = true := by
    intro u hu; obtain rfl := List.mem_singleton.1 hu; rfl
  rcases hown.cases with ⟨rfl, rfl⟩ | ⟨g, cap, rfl, hBg, hgl, hml, hrd⟩
  · obtain ⟨v', w', h1, h2, h3, _⟩ := run_append_own (P := Tryz.prog) w w.heap.size 26 ty 2 i0 (.int .i64 0) 1 8 Tryz.underlying26 hi hz0 hz1 hz2 rfl (by decide) (.slice none 0 0) 0 [] (World.ownsRow_nil w w.heap.size _ 1) ⟨b, o, none⟩ 1 1 [.int .i64 y] (by simp) hnews hone (by simp [maxLen]) (by omega) (Nat.le_refl _)
    have ho : OwnI w.heap.size w' v' [y] := by simpa [OwnI] using h2
    exact ⟨v', w', h1, by simpa using ho.mono hB, h3, fun k hk => .inr (ho.lt hk).1⟩
  · by_cases hroom : xs.length + 1 ≤ cap
    · obtain ⟨w', h1, h2, h3⟩ := run_append_own_spare (P := Tryz.prog) w B 26 ty 2 i0 1 Tryz.underlying26 hi hz1 g xs.length cap (xs.map (Value.int .i64)) hown ⟨b, o, none⟩ 1 1 [.int .i64 y] (by simp) hnews hone hroom
      exact ⟨_, w', h1, by rw [OwnI, e1, e2]; exact h2, h3, fun k hk => .inl hk⟩
    · have hc := hown.cells (g := g) rfl
      obtain ⟨v', w', h1, h2, h3⟩ := run_append_arg_grows (P := Tryz.prog) w 26 ty 2 i0 (.int .i64 0) 1 8 Tryz.underlying26 hi hz0 hz1 hz2 rfl (by decide) ⟨g, 0, none⟩ xs.length cap (xs.map (Value.int .i64)) (by simp) hc ⟨b, o, none⟩ 1 1 [.int .i64 y] (by simp) hnews (by omega) (by simp only [maxLen]; omega) (by omega)
      have ho : OwnI w.heap.size w' v' (xs ++ [y]) := by rw [OwnI, e1, e2]; exact h2
      exact ⟨v', w', h1, ho.mono hB, ⟨h3.os, h3.tape, h3.output, h3.size, fun k hk _ => h3.block k hk (by simp)⟩, fun k hk => .inr (ho.lt hk).1⟩

theorem wpList_append_new {ops : Array Oper} {rest : List Oper} {o : Oper} {a : Act} {Q : Exit → Act → World → Prop} {w : World} {y : Int} (hgd : o.guard = none) (s x : Operand)
    (ho : o.op = .call { callee := .builtin .append, args := #[s, x], argTypes := #[26, 26] })
    {B B0 : Nat} {w0 : World} {v : Value} {xs : List Int} (hs : a.eval s = v) (hown : OwnI B w v xs) (hx : a.eval x = .slice (some ⟨w.heap.size, 0, none⟩) 1 1) (hbel : Below B0 w0 w) (hlen : xs.length < 17592186044415) (hB : B ≤ w.heap.size) (hB0 : B0 ≤ B)
    (h : ∀ v' w', OwnI B w' v' (xs ++ [y]) → Below B0 w0 w' → w.heap.size ≤ w'.heap.size → (∀ k, k < w.heap.size → v.ownBlock ≠ some k → w'.heap[k]? = w.heap[k]?) → (∀ k, v'.ownBlock = some k → v.ownBlock = some k ∨ w.heap.size ≤ k) → wpList Tryz.prog ops Q rest (a.put o.dst v') w') : wpList Tryz.prog ops Q (o :: rest) a (w.alloc (.cells #[.int .i64 y] 2)) := by
  refine wpList_plain hgd fun K hK => ?_
  obtain ⟨v', w', h1, h2, h3, h4⟩ := run_append_new (w.alloc (.cells #[.int .i64 y] 2)) o.type (hown.alloc _) (b := w.heap.size) (o := 0) (y := y) ((Box.new w [.int .i64 y] 2).cell 0 rfl) hlen (by simp; omega)
  unfold Oper.wp execOp
  simp only [ho, resolve, invoke, builtin, Sem.run_bind, Sem.run_pure, Result.andThen_ok, List.map_toArray, List.map_cons, List.map_nil, hs, hx, h1]
  refine hK _ _ (h v' w' h2 ((hbel.alloc (by omega) _).grown h3 (by simp; omega) fun k hk => ?_) ?_ (fun k hk hne => ?_) fun k hk => ?_)
  · have := (hown.lt hk).1; omega
  · have := h3.size; simp at this; omega
  · exact (h3.block k (by simp; omega) (fun e => hne e.symm)).trans (Below.heap_alloc _ _ _ hk)
  · rcases h4 k hk with h | h
    · exact .inl h
    · exact .inr (by simp at h; omega)
end Go.Proofs.YtaapkpjokmoekaaGreatDoor

namespace Go.Proofs.YtaapkpjokmoekaaGreatDoor
open Go.ChangeShapes Go.WideShapes Go.ChangeAt Go.RowKit
set_option linter.unusedVariables false
set_option linter.unusedSimpArgs false

theorem OwnI.offD {B g : Nat} {w w' : World} {v : Value} {xs : List Int} (h : OwnI B w v xs) (ho : Off (· = g) w w') (hg : g < B) : OwnI B w' v xs :=
  h.keep fun k hk => ho.block k (h.lt hk).2 (by have := (h.lt hk).1; show ¬ k = g; omega)
theorem OwnII.offD {B g : Nat} {w w' : World} {v : Value} {xss : List (List Int)} {L : List Value} (h : OwnII B w v xss L) (ho : Off (· = g) w w') (hg : g < B) : OwnII B w' v xss L :=
  h.keeps fun k h1 h2 => ho.block k h2 (by show ¬ k = g; omega)
theorem Off.afterD {S : Nat → Prop} {w a b : World} (h : Off S w a) (hb : Below w.heap.size a b) : Off S w b :=
  ⟨hb.os.trans h.os, hb.tape.trans h.tape, hb.output.trans h.output, Nat.le_trans h.size hb.size, fun k hk hs => (hb.block k hk).trans (h.block k hk hs)⟩
/-- some drawn tables -/
def DrewT (g m : Nat) (w : World) (e : Ending) (w' : World) : Prop := ∃ v xss L, e = .returned v ∧ 1 ≤ xss.length ∧ xss.length ≤ 2 ∧ (∀ r ∈ xss, r.length ≤ 8) ∧ OwnII w.heap.size w' v xss L ∧ SrcAt w' g m ∧ Off (· = g) w w'
set_option maxHeartbeats 4000000 in
set_option maxRecDepth 100000 in
theorem l06DrawTables_any {g m : Nat} (w : World) (h : SrcAt w g m) (hm : m + 2000 ≤ 1099511627776) :
    Calls Tryz.prog 68 #[.pointer (some ⟨g, 0, none⟩)] w (DrewT g (m + 1000) w) := by
  have hg := h.lt
  have h0 := OwnII.empty (B := w.heap.size) w (Nat.le_refl _)
  have hb := (Below.refl w.heap.size w).alloc (Nat.le_refl _) (.cells #[] 26)
  have hs0 := h.below hb
  have HO0 := Lib.hid (Off.of_below (· = g) hb)
  go_enter Tryz.func68, Tryz.ntmps68
  go_wp2_with fail
  refine (pick_any 2 _ hs0 (by omega) (by omega)).mono ?_
  rintro e w1 ⟨x, hx, rfl, hs1, ho1⟩
  have hx1 := (pickP_pos hx (by omega)).1
  have hx2 := (pickP_pos hx (by omega)).2
  have hown1 := h0.offD ho1 hg
  have HO1 := Lib.hid (HO0.out.trans ho1)
  have HS1 := Lib.hid hs1
  clear h hb hs0 HO0 ho1 hs1 hx h0
  go_wp2_with fail
  go_loopw [3, 4] (fun v i wr => ∃ (j : Int) (xss : List (List Int)) (L : List Value), i = .int .i64 j ∧ 0 ≤ j ∧ (xss.length : Int) + j = x + 1 ∧ (∀ r ∈ xss, r.length ≤ 8) ∧ OwnII w.heap.size wr v xss L ∧ SrcAt wr g (m + 30 + 300 * xss.length) ∧ Off (· = g) w wr) (fun _ i _ => (intOf i).toNat)
  case atStart => exact ⟨1 + x, [], [], by go_num, by omega, by simp; omega, (by intro r hr; simp at hr), hown1, HS1.out.mono (by simp), HO1.out⟩
  case round =>
    obtain ⟨j, xss, L, rfl, hj, hxl, hrs, hown, hs, ho⟩ := hrel
    have HRS := Lib.hid hrs
    clear hown1 HS1 HO1 hrs
    obtain ⟨wo, rfl⟩ : ∃ wo : World, wo = wr := ⟨_, rfl⟩
    have hB : w.heap.size ≤ wo.heap.size := ho.size
    have HO := Lib.hid ho
    have HOW := Lib.hid hown
    clear ho hown
    by_cases hlt : 0 < j
    · have r0 := OwnI.lit (B := wo.heap.size) wo [] (Nat.le_refl _) (by simp [maxLen])
      have rb := (Below.refl wo.heap.size wo).alloc (Nat.le_refl _) (.cells #[] 2)
      have HRB := Lib.hid (Off.of_below (· = g) rb)
      have rs := hs.below rb
      have hgo : g < wo.heap.size := hs.lt
      have hx3 : xss.length ≤ 2 := by omega
      obtain ⟨wp, hwp⟩ : ∃ W, W = wo.alloc (.cells #[] 2) := ⟨_, rfl⟩
      rw [show (wo.alloc (.cells ((([] : List Int).map (Value.int .i64)).toArray) 2)) = wp from hwp.symm] at r0
      rw [← hwp] at rs HRB
      have HWP := Lib.hid hwp
      have A1 := Lib.hid (amongLit_any [2, 4, 8, 4] wp rs (by simp) (by simp) (by omega))
      clear hs rb rs hwp
      go_upto_region 6 with fail
      rw [← HWP.out]
      go_wp2_with (first | (go_at_call 34; refine A1.out.mono ?_; rintro e w3 ⟨y, hy, rfl, hs3, ho3⟩; have hy1 : 0 ≤ y ∧ y ≤ 8 := (by simp only [List.mem_cons, List.not_mem_nil, or_false] at hy; omega); have r3 := r0.offD ho3 hgo; have HO3 := Lib.hid (HRB.out.trans ho3); have HS3 := Lib.hid hs3; clear hy ho3 hs3 r0) | fail)
      obtain ⟨hy0, hy8⟩ := hy1
      go_loopw [5, 6] (fun v i wr => ∃ (k : Int) (xs : List Int), i = .int .i64 k ∧ 0 ≤ k ∧ (xs.length : Int) + k = y ∧ OwnI wo.heap.size wr v xs ∧ SrcAt wr g (m + 40 + 300 * xss.length + 25 * xs.length) ∧ Off (· = g) wo wr) (fun _ i _ => (intOf i).toNat)
      case atStart => exact ⟨y, [], rfl, hy0, by simp, r3, HS3.out.mono (by simp; omega), HO3.out⟩
      case round =>
        obtain ⟨k, xs, rfl, hk, hkl, hrow, hs, hor⟩ := hrel
        have HOR := Lib.hid hor
        have hz0 : wo.heap.size ≤ wr.heap.size := hor.size
        clear r3 HS3 HO3 HRB hor A1
        obtain ⟨wi, rfl⟩ : ∃ wi : World, wi = wr := ⟨_, rfl⟩
        by_cases hkt : 0 < k
        · have hl5 : xs.length < 17592186044415 := by omega
          go_wp2_with fail
          refine (l01Draw_any wi hs (by omega)).mono ?_
          rintro e w2 ⟨z, hz, rfl, hs2, ho2⟩
          have hrow2 := hrow.offD ho2 hgo
          have HO2 := Lib.hid (HOR.out.trans ho2)
          have hz2 : wo.heap.size ≤ w2.heap.size := HO2.out.size
          clear hrow hs ho2 hz
          go_wp2_with (first | (at_builtin; refine wpList_append_one rfl _ _ rfl rfl hrow2 rfl (Below.refl wo.heap.size w2) hl5 hz2 (Nat.le_refl _) ?_; intro v' w4 hown4 hb4 hz4 hk4) | fail)
          have hs4 := hs2.stay hgo (fun k h1 _ => hb4.block k h1)
          have HO4 := HO2.out.afterD hb4
          go_roundw
          case rel => exact ⟨k - 1, xs ++ [z], by go_num, by omega, by simp; omega, hown4, hs4.mono (by simp; omega), HO4⟩
          case measure => simp [intOf] <;> omega
        · obtain rfl : k = 0 := by omega
          have hown := HOW.out.keeps (w' := wi) fun k h1 h2 => HOR.out.block k h2 (by show ¬ k = g; omega)
          have hgw : g < w.heap.size := hg
          obtain ⟨qv, cv, rfl, -⟩ := hrow.rd
          have hrow2 := hrow.mono hB
          have hnew : ∀ x, (Value.slice qv xs.length cv).ownBlock = some x → ¬ Blk L x := fun x hx hbk => by have := (hrow.lt hx).1; have := (HOW.out.2.1.blk hbk).2.1; omega
          have HNEW := Lib.hid hnew
          have HOf := Lib.hid (HO.out.trans HOR.out)
          have hsz : w.heap.size ≤ wi.heap.size := HOf.out.size
          have hlen : L.length < 1099511627776 := by have := hown.2.1.1; omega
          have hone := hrow.oneCell
          have hxs8 : xs.length ≤ 8 := by omega
          have HR2 : Hid (∀ r ∈ xss ++ [xs], r.length ≤ 8) := fun r hr => by
            rcases List.mem_append.1 hr with h1 | h1
            · exact HRS.out r h1
            · rw [List.mem_singleton.1 h1]; exact hxs8
          clear hnew hrow
          go_wp2_with (first | (at_builtin; refine wpList_append_val rfl _ _ rfl 24 (.slice none 0 0) Tryz.underlying24 infoII rfl (by omega) rfl hown.1 rfl hone (Below.refl w.heap.size wi) hlen hsz (Nat.le_refl _) ?_; intro v' w1 hown1 hbel1 _ hk1) | fail)
          have hfin := hown.snoc hrow2 HNEW.out hown1 hk1
          have HF := Lib.hid hfin
          have hs5 := hs.stay hg (fun k h1 _ => hbel1.block k h1)
          have HO5 := Lib.hid (HOf.out.afterD hbel1)
          clear hfin hk1 hown1 hown
          go_roundw
          case rel => exact ⟨j - 1, _, _, by go_num, by omega, by simp; omega, HR2.out, HF.out, hs5.mono (by simp; omega), HO5.out⟩
          case measure => simp [intOf] <;> omega
    · obtain rfl : j = 0 := by omega
      go_wp2_with fail
      go_ret
      exact ⟨_, xss, L, rfl, by omega, by omega, HRS.out, HOW.out, hs.mono (by omega), HO.out⟩
theorem l06DrawA_any {g m : Nat} (kind nt : Int) (w : World) (h : SrcAt w g m) (hn : nt ≤ 1000) (hm : m + 100 ≤ 1099511627776) :
    Calls Tryz.prog 100 #[.pointer (some ⟨g, 0, none⟩), .int .i64 kind, .int .i64 nt] w (Draws w g (m + 40) fun _ => True) := by
  have hg := h.lt
  by_cases k1 : kind = 1
  · subst k1
    go_enter Tryz.func100, Tryz.ntmps100
    go_wp2_with fail
    refine (pick_any 2 w h (by omega) (by omega)).mono ?_
    rintro e w1 ⟨x, hx, rfl, hs1, ho1⟩
    go_wp2_with fail
    go_ret
    exact ⟨_, trivial, rfl, hs1.mono (by omega), ho1⟩
  by_cases k6 : kind = 6
  · subst k6
    go_enter Tryz.func100, Tryz.ntmps100
    go_wp2_with fail
    refine (pick_any 4 w h (by omega) (by omega)).mono ?_
    rintro e w1 ⟨x, hx, rfl, hs1, ho1⟩
    go_wp2_with fail
    go_ret
    exact ⟨_, trivial, rfl, hs1.mono (by omega), ho1⟩
  by_cases k10 : kind = 10
  · subst k10
    have A1 := Lib.hid (amongLit_any [1, 2, 0, 16, 31] w h (by simp) (by simp) (by omega))
    clear h
    go_enter Tryz.func100, Tryz.ntmps100
    go_wp2_with (first | (go_at_call 34; refine A1.out.mono ?_; rintro e w3 ⟨y, hy, rfl, hs3, ho3⟩; clear hy) | fail)
    go_ret
    exact ⟨_, trivial, rfl, hs3.mono (by omega), ho3⟩
  by_cases k11 : kind = 11
  · subst k11
    have A1 := Lib.hid (amongLit_any [10, 0, 100, 2147483647] w h (by simp) (by simp) (by omega))
    clear h
    go_enter Tryz.func100, Tryz.ntmps100
    go_wp2_with (first | (go_at_call 34; refine A1.out.mono ?_; rintro e w3 ⟨y, hy, rfl, hs3, ho3⟩; clear hy) | fail)
    go_ret
    exact ⟨_, trivial, rfl, hs3.mono (by omega), ho3⟩
  by_cases k13 : kind = 13
  · subst k13
    go_enter Tryz.func100, Tryz.ntmps100
    go_wp2_with fail
    refine (pick_any nt w h (by omega) (by omega)).mono ?_
    rintro e w1 ⟨x, hx, rfl, hs1, ho1⟩
    go_wp2_with fail
    go_ret
    exact ⟨_, trivial, rfl, hs1.mono (by omega), ho1⟩
  have q1 : (kind == 1) = false := by rw [beq_eq_false_iff_ne]; exact k1
  have q6 : (kind == 6) = false := by rw [beq_eq_false_iff_ne]; exact k6
  have q10 : (kind == 10) = false := by rw [beq_eq_false_iff_ne]; exact k10
  have q11 : (kind == 11) = false := by rw [beq_eq_false_iff_ne]; exact k11
  have q13 : (kind == 13) = false := by rw [beq_eq_false_iff_ne]; exact k13
  go_enter Tryz.func100, Tryz.ntmps100
  go_wp2_with fail
  refine (l06HasA_any kind w).mono ?_
  rintro e w1 ⟨rfl, hb1⟩
  generalize hasAB kind = b
  have hs1 := h.below hb1
  have HO1 := Lib.hid (Off.of_below (· = g) hb1)
  clear h hb1
  cases b
  · go_wp2_with fail
    go_ret
    exact ⟨_, trivial, rfl, hs1.mono (by omega), HO1.out⟩
  · go_wp2_with fail
    refine (l01Draw_any w1 hs1 (by omega)).mono ?_
    rintro e w2 ⟨z, hz, rfl, hs2, ho2⟩
    go_wp2_with fail
    go_ret
    exact ⟨_, trivial, rfl, hs2.mono (by omega), HO1.out.trans ho2⟩
end Go.Proofs.YtaapkpjokmoekaaGreatDoor
namespace Go.Proofs.YtaapkpjokmoekaaGreatDoor
open Go.ChangeShapes Go.WideShapes Go.ChangeAt Go.RowKit
set_option linter.unusedVariables false
set_option linter.unusedSimpArgs false

theorem Off.setD {S : Nat → Prop} {w0 w : World} {s i : Nat} (h : Off S w0 w) (hs : w0.heap.size ≤ s) (v : Value) : Off S w0 (w.setCell ⟨s, i, none⟩ v) :=
  ⟨h.os, h.tape, h.output, by simpa [World.setCell] using h.size, fun k hk hn => (Below.heap_setCell _ _ _ _ (show k ≠ s by omega)).trans (h.block k hk hn)⟩
theorem OwnI.typD {B : Nat} {w : World} {v : Value} {xs : List Int} (h : OwnI B w v xs) : OwnV B w 2 v (xs.map (Value.int .i64)) := by simpa [OwnV, OwnI] using h
theorem OwnV.notBoxD {B : Nat} {w : World} {E T : TypeId} {v : Value} {L cs : List Value} {g : Nat} (h : OwnV B w E v L) (hb : Box w g cs T) (hT : E ≠ T) : v.ownBlock ≠ Option.some g := by
  intro e
  rcases OwnV.cases h with ⟨rfl, -⟩ | ⟨k, cap, rfl, -, -, ⟨cur, hc⟩, -⟩
  · simp [Value.ownBlock] at e
  · have hk : k = g := by simpa [Value.ownBlock] using e
    subst hk
    unfold Box at hb
    rw [hc] at hb
    simp at hb
    exact hT hb.2
/-- while a node is drawn: the result's box, the node's box, its inputs, the source -/
structure NB (g m : Nat) (w0 w : World) (r s : Nat) (k a b : Int) (u : Value) (f : List Int) : Prop where
  res : Box w r [.int .i64 0, .int .i64 0, .int .i64 0, .slice none 0 0] 35
  box : Box w s [.int .i64 k, .int .i64 a, .int .i64 b, u] 35
  own : OwnI w0.heap.size w u f
  off : Off (· = g) w0 w
  src : SrcAt w g m
  hr : w0.heap.size ≤ r
  hs : w0.heap.size ≤ s
  ne : r ≠ s
  hg : g < w0.heap.size
section
variable {g m m' : Nat} {w0 w : World} {r s : Nat} {k a b : Int} {u : Value} {f : List Int}
theorem NB.step {w' : World} (h : NB g m w0 w r s k a b u f) (ho : Off (· = g) w w') (hs : SrcAt w' g m') : NB g m' w0 w' r s k a b u f :=
  ⟨h.res.off ho (by have := h.hr; have := h.hg; show ¬ r = g; omega), h.box.off ho (by have := h.hs; have := h.hg; show ¬ s = g; omega), h.own.offD ho h.hg, h.off.trans ho, hs, h.hr, h.hs, h.ne, h.hg⟩
theorem NB.below {w' : World} (h : NB g m w0 w r s k a b u f) (hb : Below w.heap.size w w') : NB g m w0 w' r s k a b u f := h.step (Off.of_below _ hb) (h.src.below hb)
theorem NB.mono (h : NB g m w0 w r s k a b u f) (hm : m ≤ m') : NB g m' w0 w r s k a b u f := ⟨h.res, h.box, h.own, h.off, h.src.mono hm, h.hr, h.hs, h.ne, h.hg⟩
theorem NB.putBox (h : NB g m w0 w r s k a b u f) (i : Nat) (v : Value) : Box (w.setCell ⟨s, i, none⟩ v) r [.int .i64 0, .int .i64 0, .int .i64 0, .slice none 0 0] 35 ∧ OwnI w0.heap.size (w.setCell ⟨s, i, none⟩ v) u f ∧ Off (· = g) w0 (w.setCell ⟨s, i, none⟩ v) ∧ SrcAt (w.setCell ⟨s, i, none⟩ v) g m := by
  have n1 := h.own.typD.notBoxD h.box (by decide)
  exact ⟨h.res.other (by show r ≠ s; exact h.ne) _, h.own.keep fun j hj => Below.heap_setCell _ _ _ _ (fun e => n1 (by rw [hj, e])), h.off.setD h.hs _, h.src.stay (B := w0.heap.size) h.hg fun j h1 _ => Below.heap_setCell _ _ _ _ (by show j ≠ s; have := h.hs; omega)⟩
theorem NB.setK (h : NB g m w0 w r s k a b u f) (n : Int) : NB g m w0 (w.setCell ⟨s, 0, none⟩ (.int .i64 n)) r s n a b u f := by
  obtain ⟨h1, h2, h3, h4⟩ := h.putBox 0 (.int .i64 n)
  exact ⟨h1, by simpa using h.box.set 0 (.int .i64 n), h2, h3, h4, h.hr, h.hs, h.ne, h.hg⟩
theorem NB.setA (h : NB g m w0 w r s k a b u f) (n : Int) : NB g m w0 (w.setCell ⟨s, 1, none⟩ (.int .i64 n)) r s k n b u f := by
  obtain ⟨h1, h2, h3, h4⟩ := h.putBox 1 (.int .i64 n)
  exact ⟨h1, by simpa using h.box.set 1 (.int .i64 n), h2, h3, h4, h.hr, h.hs, h.ne, h.hg⟩
theorem NB.setB (h : NB g m w0 w r s k a b u f) (n : Int) : NB g m w0 (w.setCell ⟨s, 2, none⟩ (.int .i64 n)) r s k a n u f := by
  obtain ⟨h1, h2, h3, h4⟩ := h.putBox 2 (.int .i64 n)
  exact ⟨h1, by simpa using h.box.set 2 (.int .i64 n), h2, h3, h4, h.hr, h.hs, h.ne, h.hg⟩
theorem NB.grow (h : NB g m w0 w r s k a b u f) {w' : World} {u' : Value} {f' : List Int} (hu : OwnI w0.heap.size w' u' f') (hk : Off (fun j => u.ownBlock = Option.some j) w w') :
    (w'.cell? ⟨s, 3, none⟩ = Option.some u ∧ w'.frozen? ⟨s, 3, none⟩ = false) ∧ NB g m w0 (w'.setCell ⟨s, 3, none⟩ u') r s k a b u' f' := by
  have n1 := h.own.typD.notBoxD h.box (by decide)
  have n3 := h.own.typD.notBoxD h.res (by decide)
  have bx := h.box.off hk n1
  have rs := h.res.off hk n3
  have n1' := hu.typD.notBoxD bx (by decide)
  have lo : ∀ j, j < w0.heap.size → ¬ u.ownBlock = Option.some j := fun j hj e => by have := (h.own.lt e).1; omega
  have of : Off (· = g) w0 w' := ⟨hk.os.trans h.off.os, hk.tape.trans h.off.tape, hk.output.trans h.off.output, Nat.le_trans h.off.size hk.size, fun j hj hn => (hk.block j (Nat.lt_of_lt_of_le hj h.off.size) (lo j hj)).trans (h.off.block j hj hn)⟩
  have sr := h.src.stay (w' := w') (B := w0.heap.size) h.hg fun j h1 h2 => hk.block j h2 (lo j h1)
  exact ⟨⟨bx.cell 3 rfl, bx.frozen 3⟩, rs.other (by show r ≠ s; exact h.ne) _, by simpa using bx.set 3 u', hu.keep fun j hj => Below.heap_setCell _ _ _ _ (fun e => n1' (by rw [hj, e])), of.setD h.hs _, sr.stay (B := w0.heap.size) h.hg fun j h1 _ => Below.heap_setCell _ _ _ _ (by show j ≠ s; have := h.hs; omega), h.hr, h.hs, h.ne, h.hg⟩
theorem NB.exit (h : NB g m w0 w r s k a b u f) (x0 x1 x2 x3 : Value) :
    ∃ W', W' = (((w.setCell ⟨r, 0, none⟩ x0).setCell ⟨r, 1, none⟩ x1).setCell ⟨r, 2, none⟩ x2).setCell ⟨r, 3, none⟩ x3 ∧ Box W' r [x0, x1, x2, x3] 35 ∧ Off (· = g) w0 W' ∧ SrcAt W' g m ∧ OwnI w0.heap.size W' u f := by
  have n3 := h.own.typD.notBoxD h.res (by decide)
  have b3 := (((h.res.set 0 x0).set 1 x1).set 2 x2).set 3 x3
  have ho := (((h.off.setD (i := 0) h.hr x0).setD (i := 1) h.hr x1).setD (i := 2) h.hr x2).setD (i := 3) h.hr x3
  have hq : ∀ j, j ≠ r → ((((w.setCell ⟨r, 0, none⟩ x0).setCell ⟨r, 1, none⟩ x1).setCell ⟨r, 2, none⟩ x2).setCell ⟨r, 3, none⟩ x3).heap[j]? = w.heap[j]? := fun j hne =>
    (Below.heap_setCell _ _ _ _ hne).trans ((Below.heap_setCell _ _ _ _ hne).trans ((Below.heap_setCell _ _ _ _ hne).trans (Below.heap_setCell _ _ _ _ hne)))
  exact ⟨_, rfl, by simpa using b3, ho, h.src.stay (B := w0.heap.size) h.hg fun j h1 _ => hq j (by have := h.hr; omega), h.own.keep fun j hj => hq j fun e => n3 (by rw [hj, e])⟩
end
theorem belowDrewD (w : World) : Below w.heap.size w w.drew := ⟨rfl, rfl, rfl, Nat.le_refl _, fun _ _ => rfl⟩
/-- a drawn node -/
def DrewN (g m n : Nat) (w : World) (e : Ending) (w' : World) : Prop := ∃ (x : NodeD) (u : Value), e = .returned (.agg #[.int .i64 x.kind, .int .i64 x.a, .int .i64 x.b, u]) ∧ x.src.length ≤ n ∧ OwnI w.heap.size w' u x.src ∧ SrcAt w' g m ∧ Off (· = g) w w'
/-- a drawn node of a kind -/
def DrewX (g m : Nat) (kind : Int) (w : World) (e : Ending) (w' : World) : Prop := ∃ (x : NodeD) (u : Value), e = .returned (.agg #[.int .i64 x.kind, .int .i64 x.a, .int .i64 x.b, u]) ∧ x.kind = kind ∧ (x.src.length : Int) = kAr (kind - 1).toNat ∧ OwnI w.heap.size w' u x.src ∧ SrcAt w' g m ∧ Off (· = g) w w'
set_option maxHeartbeats 8000000 in
set_option maxRecDepth 100000 in
theorem l06DrawX_any {g m : Nat} (kind nt bl : Int) (w : World) (h : SrcAt w g m) (hk : 1 ≤ kind ∧ kind ≤ 17) (hn : nt ≤ 1000) (hbl : bl ≤ 1000) (hm : m + 1000 ≤ 1099511627776) :
    Calls Tryz.prog 71 #[.pointer (some ⟨g, 0, none⟩), .int .i64 kind, .int .i64 nt, .int .i64 bl] w (DrewX g (m + 200) kind w) := by
  have hg := h.lt
  obtain ⟨r, hr⟩ : ∃ r, r = w.heap.size := ⟨_, rfl⟩
  obtain ⟨E0, hE0⟩ : ∃ E, E = w.alloc (.cells #[.int .i64 0, .int .i64 0, .int .i64 0, .slice none 0 0] 35) := ⟨_, rfl⟩
  have hB0 : Below w.heap.size w E0 := by rw [hE0]; exact (Below.refl _ _).alloc (Nat.le_refl _) _
  have q0 : Box E0 r [.int .i64 0, .int .i64 0, .int .i64 0, .slice none 0 0] 35 := by rw [hE0, hr]; exact Box.newAt w [.int .i64 0, .int .i64 0, .int .i64 0, .slice none 0 0] _ rfl
  have DA := Lib.hid (l06DrawA_any kind nt E0 (h.below hB0) hn (by omega))
  obtain ⟨ar, har⟩ : ∃ ar, ar = kAr (kind - 1).toNat := ⟨_, rfl⟩
  have ha0 : 0 ≤ ar ∧ ar ≤ 3 := by
    have := kinds_of (k := kind) (by simp [inB]; omega)
    rw [har]
    rcases this with rfl | rfl | rfl | rfl | rfl | rfl | rfl | rfl | rfl | rfl | rfl | rfl | rfl | rfl | rfl | rfl | rfl
    all_goals decide
  have AR : Hid (∀ W, Calls Tryz.prog 70 #[.int .i64 kind] W fun e w' => e = .returned (.int .i64 ar) ∧ Below W.heap.size W w') := fun W => by
    have := l06Arity_any (kind - 1).toNat (by omega) W
    rw [show (((kind - 1).toNat : Nat) : Int) + 1 = kind by omega, ← har] at this
    exact this
  obtain ⟨ha1, ha2⟩ := ha0
  have HE0 := Lib.hid hE0
  have HRR := Lib.hid hr
  have HB0 := Lib.hid hB0
  have HQ0 := Lib.hid q0
  have hrw : w.heap.size ≤ r := by omega
  have FIN : Hid (∀ W' a b u f, (f.length : Int) = ar → OwnI w.heap.size W' u f → SrcAt W' g (m + 200) → Off (· = g) w W' → DrewX g (m + 200) kind w (.returned (.agg #[.int .i64 kind, .int .i64 a, .int .i64 b, u])) W') := fun W' a b u f hf ho hs hof => ⟨⟨kind, a, b, f⟩, u, rfl, rfl, by rw [← har]; exact hf, ho, hs, hof⟩
  generalize DrewX g (m + 200) kind w = RR at *
  clear h hE0 hr hB0 q0 har
  go_enter Tryz.func71, Tryz.ntmps71
  go_upto_region 1 with fail
  rw [← HE0.out, ← HRR.out]
  go_upto_region 2 with (first | (go_at_call 100; refine DA.out.mono ?_; rintro e w1 ⟨a, -, rfl, hs1, ho1⟩) | fail)
  obtain ⟨s, hs⟩ : ∃ s, s = w1.heap.size + 1 := ⟨_, rfl⟩
  obtain ⟨e1, he1⟩ : ∃ s, s = w1.heap.size := ⟨_, rfl⟩
  obtain ⟨F, hF⟩ : ∃ F, F = (w1.alloc (.cells #[] 2)).alloc (.cells #[.int .i64 kind, .int .i64 a, .int .i64 0, .slice (some ⟨w1.heap.size, 0, none⟩) 0 0] 35) := ⟨_, rfl⟩
  have hb1 : Below w1.heap.size w1 (w1.alloc (.cells #[] 2)) := (Below.refl _ _).alloc (Nat.le_refl _) _
  have hb2 : Below (w1.alloc (.cells #[] 2)).heap.size (w1.alloc (.cells #[] 2)) F := by rw [hF]; exact (Below.refl _ _).alloc (Nat.le_refl _) _
  have ow0 : OwnI w.heap.size (w1.alloc (.cells #[] 2)) (.slice (some ⟨w1.heap.size, 0, none⟩) 0 0) [] := OwnI.lit (B := w.heap.size) w1 [] (Nat.le_trans HB0.out.size ho1.size) (by simp [maxLen])
  have HN0 : NB g (m + 40) w F r s kind a 0 (.slice (some ⟨e1, 0, none⟩) 0 0) [] := by
    have hof := (Off.of_below (· = g) HB0.out).trans ho1
    refine ⟨((HQ0.out.off ho1 (by show ¬ r = g; omega)).below hb1).below hb2, ?_, ?_, (hof.afterD (hb1.mono hof.size)).afterD (hb2.mono (Nat.le_trans hof.size hb1.size)), (hs1.below hb1).below hb2, hrw, ?_, ?_, hg⟩
    · rw [hF, hs, he1]; exact Box.newAt _ [.int .i64 kind, .int .i64 a, .int .i64 0, .slice (some ⟨w1.heap.size, 0, none⟩) 0 0] _ (by simp)
    · rw [he1]; exact ow0.below hb2
    · have := hof.size; omega
    · have := HQ0.out.lt; have := ho1.size; omega
  rw [← hF, ← hs, ← he1]
  clear hF hb1 hb2 ow0 he1 hs ho1 hs1
  go_wp2_with (first | (go_at_call 70; refine (AR.out _).mono ?_; rintro e w2 ⟨rfl, hb2⟩; have HN1 := Lib.hid (HN0.below hb2); clear hb2 HN0) | fail)
  go_loopw [10] (fun i wr => ∃ (j : Int) (u : Value) (f : List Int), i = .int .i64 j ∧ 0 ≤ j ∧ (f.length : Int) + j = ar ∧ NB g (m + 40 + 4 * f.length) w wr r s kind a 0 u f) (fun i _ => (intOf i).toNat)
  case atStart => exact ⟨ar, _, [], rfl, ha1, by simp, HN1.out.mono (by simp)⟩
  case round =>
    obtain ⟨j, u, f, rfl, hj, hfl, hN⟩ := hrel
    obtain ⟨wi, rfl⟩ : ∃ wi : World, wi = wr := ⟨_, rfl⟩
    obtain ⟨q, c, rfl, -⟩ := hN.own.rd
    by_cases hlt : 0 < j
    · have KP : Hid (∀ W, Below wi.heap.size wi W → Calls Tryz.prog 36 #[.pointer (some ⟨g, 0, none⟩), .int .i64 bl] W fun e W2 => ∃ y, e = .returned (.int .i64 y) ∧ NB g (m + 40 + 4 * f.length + 2) w W2 r s kind a 0 (.slice q f.length c) f) := fun W hW => (pick_any bl W (hN.src.below hW) (by omega) (by omega)).mono fun e W2 ⟨y, _, he, hs2, ho2⟩ => ⟨y, he, (hN.below hW).step ho2 hs2⟩
      have hcur := belowDrewD wi
      have t3 := hN.box.cell 3 rfl
      have lt3 := hN.box.lt
      have hlen : f.length < 17592186044415 := by omega
      clear HN1
      go_wp2_with fail
      go_region_law (first | (go_simp; go_at_call 36; refine (KP.out _ hcur).mono ?_; rintro e W2 ⟨y, rfl, hN2⟩; have t3 := hN2.box.cell 3 rfl; have lt3 := hN2.box.lt; have hown2 := hN2.own; have hz2 : w.heap.size ≤ W2.heap.size := hN2.off.size) | ((first | refine step_append_drew rfl _ _ rfl rfl hown2 rfl hlen hz2 ?_ | refine step_append_one rfl _ _ rfl rfl hown2 rfl hlen hz2 ?_); intro q2 k2 w2 ho2 o1 o2 o3 hs2 hk2; have GR := hN2.grow ho2 ⟨o1.symm, o2.symm, o3.symm, hs2, fun k hk hne => hk2 k hk hne⟩; have c3 := GR.1.1; have f3 := GR.1.2) | fail)
      all_goals
        have G := Lib.hid GR.2
        clear GR c3 f3 t3 hN2 ho2
        go_wp2_with fail
        go_roundw
        case rel => exact ⟨j - 1, _, f ++ [y], by go_num, by omega, by simp; omega, G.out.mono (by simp; omega)⟩
        case measure => simp [intOf] <;> omega
    · obtain rfl : j = 0 := by omega
      have hf3 : (f.length : Int) = ar := by omega
      by_cases k17 : kind = 17
      · subst k17
        clear HN1
        go_wp2_with fail
        refine (pick_any 3 _ hN.src (by omega) (by omega)).mono ?_
        rintro e w3 ⟨y, hy, rfl, hs3, ho3⟩
        have hy1 := (pickP_pos hy (by omega)).1
        have hy2 := (pickP_pos hy (by omega)).2
        have hN3 := hN.step ho3 hs3
        have c2 := hN3.box.cell 2 rfl
        have g2 := hN3.box.frozen 2
        clear hN hy hs3 ho3
        go_upto_region 8 with fail
        clear c2 g2
        have R1 := hN3.setB (1 + y)
        have u0 := R1.res.cell 0 rfl
        have u1 := R1.res.cell 1 rfl
        have u2 := R1.res.cell 2 rfl
        have u3 := R1.res.cell 3 rfl
        have f0 := R1.res.frozen 0
        have f1 := R1.res.frozen 1
        have f2 := R1.res.frozen 2
        have f3 := R1.res.frozen 3
        have x0 := R1.box.cell 0 rfl
        have x1 := R1.box.cell 1 rfl
        have x2 := R1.box.cell 2 rfl
        have x3 := R1.box.cell 3 rfl
        obtain ⟨W', hW, bx, hof, hsr, how⟩ := R1.exit (.int .i64 17) (.int .i64 a) (.int .i64 (1 + y)) (.slice q f.length c)
        have k0' := bx.cell 0 rfl
        have k1' := bx.cell 1 rfl
        have k2' := bx.cell 2 rfl
        have k3' := bx.cell 3 rfl
        have FN := Lib.hid (FIN.out W' a (1 + y) _ f hf3 how (hsr.mono (by omega)) hof)
        have HWW := Lib.hid hW
        clear hW bx hof hsr how R1 hN3
        go_wp2_with fail
        rw [← HWW.out]
        refine bodyPost_ret (v := .agg #[.int .i64 17, .int .i64 a, .int .i64 (1 + y), .slice q f.length c]) (by simp [results, Tryz.results71, go_sem, *]) rfl ?_
        exact FN.out
      · have q17 : (kind == 17) = false := by rw [beq_eq_false_iff_ne]; exact k17
        have R1 := hN
        have u0 := R1.res.cell 0 rfl
        have u1 := R1.res.cell 1 rfl
        have u2 := R1.res.cell 2 rfl
        have u3 := R1.res.cell 3 rfl
        have f0 := R1.res.frozen 0
        have f1 := R1.res.frozen 1
        have f2 := R1.res.frozen 2
        have f3 := R1.res.frozen 3
        have x0 := R1.box.cell 0 rfl
        have x1 := R1.box.cell 1 rfl
        have x2 := R1.box.cell 2 rfl
        have x3 := R1.box.cell 3 rfl
        obtain ⟨W', hW, bx, hof, hsr, how⟩ := R1.exit (.int .i64 kind) (.int .i64 a) (.int .i64 0) (.slice q f.length c)
        have k0' := bx.cell 0 rfl
        have k1' := bx.cell 1 rfl
        have k2' := bx.cell 2 rfl
        have k3' := bx.cell 3 rfl
        have FN := Lib.hid (FIN.out W' a 0 _ f hf3 how (hsr.mono (by omega)) hof)
        have HWW := Lib.hid hW
        clear hW bx hof hsr how R1 hN HN1
        go_wp2_with fail
        rw [← HWW.out]
        refine bodyPost_ret (v := .agg #[.int .i64 kind, .int .i64 a, .int .i64 0, .slice q f.length c]) (by simp [results, Tryz.results71, go_sem, *]) rfl ?_
        exact FN.out
set_option maxHeartbeats 8000000 in
set_option maxRecDepth 100000 in
theorem l06Draw_any {g m : Nat} (kind nt : Int) (w : World) (h : SrcAt w g m) (hk : 1 ≤ kind ∧ kind ≤ 17) (hn : nt ≤ 1000) (hm : m + 1000 ≤ 1099511627776) :
    Calls Tryz.prog 71 #[.pointer (some ⟨g, 0, none⟩), .int .i64 kind, .int .i64 nt, .int .i64 6] w (DrewN g (m + 200) 3 w) := by
  have hg := h.lt
  obtain ⟨r, hr⟩ : ∃ r, r = w.heap.size := ⟨_, rfl⟩
  obtain ⟨E0, hE0⟩ : ∃ E, E = w.alloc (.cells #[.int .i64 0, .int .i64 0, .int .i64 0, .slice none 0 0] 35) := ⟨_, rfl⟩
  have hB0 : Below w.heap.size w E0 := by rw [hE0]; exact (Below.refl _ _).alloc (Nat.le_refl _) _
  have q0 : Box E0 r [.int .i64 0, .int .i64 0, .int .i64 0, .slice none 0 0] 35 := by rw [hE0, hr]; exact Box.newAt w [.int .i64 0, .int .i64 0, .int .i64 0, .slice none 0 0] _ rfl
  have DA := Lib.hid (l06DrawA_any kind nt E0 (h.below hB0) hn (by omega))
  obtain ⟨ar, har⟩ : ∃ ar, ar = kAr (kind - 1).toNat := ⟨_, rfl⟩
  have ha0 : 0 ≤ ar ∧ ar ≤ 3 := by
    have := kinds_of (k := kind) (by simp [inB]; omega)
    rw [har]
    rcases this with rfl | rfl | rfl | rfl | rfl | rfl | rfl | rfl | rfl | rfl | rfl | rfl | rfl | rfl | rfl | rfl | rfl
    all_goals decide
  have AR : Hid (∀ W, Calls Tryz.prog 70 #[.int .i64 kind] W fun e w' => e = .returned (.int .i64 ar) ∧ Below W.heap.size W w') := fun W => by
    have := l06Arity_any (kind - 1).toNat (by omega) W
    rw [show (((kind - 1).toNat : Nat) : Int) + 1 = kind by omega, ← har] at this
    exact this
  obtain ⟨ha1, ha2⟩ := ha0
  have HE0 := Lib.hid hE0
  have HRR := Lib.hid hr
  have HB0 := Lib.hid hB0
  have HQ0 := Lib.hid q0
  have hrw : w.heap.size ≤ r := by omega
  have FIN : Hid (∀ W' a b u f, f.length ≤ 3 → OwnI w.heap.size W' u f → SrcAt W' g (m + 200) → Off (· = g) w W' → DrewN g (m + 200) 3 w (.returned (.agg #[.int .i64 kind, .int .i64 a, .int .i64 b, u])) W') := fun W' a b u f hf ho hs hof => ⟨⟨kind, a, b, f⟩, u, rfl, hf, ho, hs, hof⟩
  generalize DrewN g (m + 200) 3 w = RR at *
  clear h hE0 hr hB0 q0 har
  go_enter Tryz.func71, Tryz.ntmps71
  go_upto_region 1 with fail
  rw [← HE0.out, ← HRR.out]
  go_upto_region 2 with (first | (go_at_call 100; refine DA.out.mono ?_; rintro e w1 ⟨a, -, rfl, hs1, ho1⟩) | fail)
  obtain ⟨s, hs⟩ : ∃ s, s = w1.heap.size + 1 := ⟨_, rfl⟩
  obtain ⟨e1, he1⟩ : ∃ s, s = w1.heap.size := ⟨_, rfl⟩
  obtain ⟨F, hF⟩ : ∃ F, F = (w1.alloc (.cells #[] 2)).alloc (.cells #[.int .i64 kind, .int .i64 a, .int .i64 0, .slice (some ⟨w1.heap.size, 0, none⟩) 0 0] 35) := ⟨_, rfl⟩
  have hb1 : Below w1.heap.size w1 (w1.alloc (.cells #[] 2)) := (Below.refl _ _).alloc (Nat.le_refl _) _
  have hb2 : Below (w1.alloc (.cells #[] 2)).heap.size (w1.alloc (.cells #[] 2)) F := by rw [hF]; exact (Below.refl _ _).alloc (Nat.le_refl _) _
  have ow0 : OwnI w.heap.size (w1.alloc (.cells #[] 2)) (.slice (some ⟨w1.heap.size, 0, none⟩) 0 0) [] := OwnI.lit (B := w.heap.size) w1 [] (Nat.le_trans HB0.out.size ho1.size) (by simp [maxLen])
  have HN0 : NB g (m + 40) w F r s kind a 0 (.slice (some ⟨e1, 0, none⟩) 0 0) [] := by
    have hof := (Off.of_below (· = g) HB0.out).trans ho1
    refine ⟨((HQ0.out.off ho1 (by show ¬ r = g; omega)).below hb1).below hb2, ?_, ?_, (hof.afterD (hb1.mono hof.size)).afterD (hb2.mono (Nat.le_trans hof.size hb1.size)), (hs1.below hb1).below hb2, hrw, ?_, ?_, hg⟩
    · rw [hF, hs, he1]; exact Box.newAt _ [.int .i64 kind, .int .i64 a, .int .i64 0, .slice (some ⟨w1.heap.size, 0, none⟩) 0 0] _ (by simp)
    · rw [he1]; exact ow0.below hb2
    · have := hof.size; omega
    · have := HQ0.out.lt; have := ho1.size; omega
  rw [← hF, ← hs, ← he1]
  clear hF hb1 hb2 ow0 he1 hs ho1 hs1
  go_wp2_with (first | (go_at_call 70; refine (AR.out _).mono ?_; rintro e w2 ⟨rfl, hb2⟩; have HN1 := Lib.hid (HN0.below hb2); clear hb2 HN0) | fail)
  go_loopw [10] (fun i wr => ∃ (j : Int) (u : Value) (f : List Int), i = .int .i64 j ∧ 0 ≤ j ∧ (f.length : Int) + j = ar ∧ NB g (m + 40 + 4 * f.length) w wr r s kind a 0 u f) (fun i _ => (intOf i).toNat)
  case atStart => exact ⟨ar, _, [], rfl, ha1, by simp, HN1.out.mono (by simp)⟩
  case round =>
    obtain ⟨j, u, f, rfl, hj, hfl, hN⟩ := hrel
    obtain ⟨wi, rfl⟩ : ∃ wi : World, wi = wr := ⟨_, rfl⟩
    obtain ⟨q, c, rfl, -⟩ := hN.own.rd
    by_cases hlt : 0 < j
    · have KP : Hid (∀ W, Below wi.heap.size wi W → Calls Tryz.prog 36 #[.pointer (some ⟨g, 0, none⟩), .int .i64 6] W fun e W2 => ∃ y, e = .returned (.int .i64 y) ∧ NB g (m + 40 + 4 * f.length + 2) w W2 r s kind a 0 (.slice q f.length c) f) := fun W hW => (pick_any 6 W (hN.src.below hW) (by omega) (by omega)).mono fun e W2 ⟨y, _, he, hs2, ho2⟩ => ⟨y, he, (hN.below hW).step ho2 hs2⟩
      have hcur := belowDrewD wi
      have t3 := hN.box.cell 3 rfl
      have lt3 := hN.box.lt
      have hlen : f.length < 17592186044415 := by omega
      clear HN1
      go_wp2_with fail
      go_region_law (first | (go_simp; go_at_call 36; refine (KP.out _ hcur).mono ?_; rintro e W2 ⟨y, rfl, hN2⟩; have t3 := hN2.box.cell 3 rfl; have lt3 := hN2.box.lt; have hown2 := hN2.own; have hz2 : w.heap.size ≤ W2.heap.size := hN2.off.size) | ((first | refine step_append_drew rfl _ _ rfl rfl hown2 rfl hlen hz2 ?_ | refine step_append_one rfl _ _ rfl rfl hown2 rfl hlen hz2 ?_); intro q2 k2 w2 ho2 o1 o2 o3 hs2 hk2; have GR := hN2.grow ho2 ⟨o1.symm, o2.symm, o3.symm, hs2, fun k hk hne => hk2 k hk hne⟩; have c3 := GR.1.1; have f3 := GR.1.2) | fail)
      all_goals
        have G := Lib.hid GR.2
        clear GR c3 f3 t3 hN2 ho2
        go_wp2_with fail
        go_roundw
        case rel => exact ⟨j - 1, _, f ++ [y], by go_num, by omega, by simp; omega, G.out.mono (by simp; omega)⟩
        case measure => simp [intOf] <;> omega
    · obtain rfl : j = 0 := by omega
      have hf3 : f.length ≤ 3 := by omega
      by_cases k17 : kind = 17
      · subst k17
        clear HN1
        go_wp2_with fail
        refine (pick_any 3 _ hN.src (by omega) (by omega)).mono ?_
        rintro e w3 ⟨y, hy, rfl, hs3, ho3⟩
        have hy1 := (pickP_pos hy (by omega)).1
        have hy2 := (pickP_pos hy (by omega)).2
        have hN3 := hN.step ho3 hs3
        have c2 := hN3.box.cell 2 rfl
        have g2 := hN3.box.frozen 2
        clear hN hy hs3 ho3
        go_upto_region 8 with fail
        clear c2 g2
        have R1 := hN3.setB (1 + y)
        have u0 := R1.res.cell 0 rfl
        have u1 := R1.res.cell 1 rfl
        have u2 := R1.res.cell 2 rfl
        have u3 := R1.res.cell 3 rfl
        have f0 := R1.res.frozen 0
        have f1 := R1.res.frozen 1
        have f2 := R1.res.frozen 2
        have f3 := R1.res.frozen 3
        have x0 := R1.box.cell 0 rfl
        have x1 := R1.box.cell 1 rfl
        have x2 := R1.box.cell 2 rfl
        have x3 := R1.box.cell 3 rfl
        obtain ⟨W', hW, bx, hof, hsr, how⟩ := R1.exit (.int .i64 17) (.int .i64 a) (.int .i64 (1 + y)) (.slice q f.length c)
        have k0' := bx.cell 0 rfl
        have k1' := bx.cell 1 rfl
        have k2' := bx.cell 2 rfl
        have k3' := bx.cell 3 rfl
        have FN := Lib.hid (FIN.out W' a (1 + y) _ f hf3 how (hsr.mono (by omega)) hof)
        have HWW := Lib.hid hW
        clear hW bx hof hsr how R1 hN3
        go_wp2_with fail
        rw [← HWW.out]
        refine bodyPost_ret (v := .agg #[.int .i64 17, .int .i64 a, .int .i64 (1 + y), .slice q f.length c]) (by simp [results, Tryz.results71, go_sem, *]) rfl ?_
        exact FN.out
      · have q17 : (kind == 17) = false := by rw [beq_eq_false_iff_ne]; exact k17
        have R1 := hN
        have u0 := R1.res.cell 0 rfl
        have u1 := R1.res.cell 1 rfl
        have u2 := R1.res.cell 2 rfl
        have u3 := R1.res.cell 3 rfl
        have f0 := R1.res.frozen 0
        have f1 := R1.res.frozen 1
        have f2 := R1.res.frozen 2
        have f3 := R1.res.frozen 3
        have x0 := R1.box.cell 0 rfl
        have x1 := R1.box.cell 1 rfl
        have x2 := R1.box.cell 2 rfl
        have x3 := R1.box.cell 3 rfl
        obtain ⟨W', hW, bx, hof, hsr, how⟩ := R1.exit (.int .i64 kind) (.int .i64 a) (.int .i64 0) (.slice q f.length c)
        have k0' := bx.cell 0 rfl
        have k1' := bx.cell 1 rfl
        have k2' := bx.cell 2 rfl
        have k3' := bx.cell 3 rfl
        have FN := Lib.hid (FIN.out W' a 0 _ f hf3 how (hsr.mono (by omega)) hof)
        have HWW := Lib.hid hW
        clear hW bx hof hsr how R1 hN HN1
        go_wp2_with fail
        rw [← HWW.out]
        refine bodyPost_ret (v := .agg #[.int .i64 kind, .int .i64 a, .int .i64 0, .slice q f.length c]) (by simp [results, Tryz.results71, go_sem, *]) rfl ?_
        exact FN.out
end Go.Proofs.YtaapkpjokmoekaaGreatDoor
namespace Go.Proofs.YtaapkpjokmoekaaGreatDoor
open Go.ChangeShapes Go.WideShapes Go.ChangeAt Go.RowKit
set_option linter.unusedVariables false
set_option linter.unusedSimpArgs false

set_option maxHeartbeats 8000000 in
set_option maxRecDepth 100000 in
theorem l06Bent_any {g m : Nat} (nt : Int) (w : World) (h : SrcAt w g m) (hn : nt ≤ 1000) (hm : m + 2000 ≤ 1099511627776) :
    Calls Tryz.prog 38 #[.pointer (some ⟨g, 0, none⟩), .int .i64 nt] w (DrewN g (m + 400) 4 w) := by
  have hg := h.lt
  obtain ⟨r, hr⟩ : ∃ r, r = w.heap.size := ⟨_, rfl⟩
  obtain ⟨E0, hE0⟩ : ∃ E, E = w.alloc (.cells #[.int .i64 0, .int .i64 0, .int .i64 0, .slice none 0 0] 35) := ⟨_, rfl⟩
  have hB0 : Below w.heap.size w E0 := by rw [hE0]; exact (Below.refl _ _).alloc (Nat.le_refl _) _
  have q0 : Box E0 r [.int .i64 0, .int .i64 0, .int .i64 0, .slice none 0 0] 35 := by rw [hE0, hr]; exact Box.newAt w [.int .i64 0, .int .i64 0, .int .i64 0, .slice none 0 0] _ rfl
  have hs0 := h.below hB0
  have HE0 := Lib.hid hE0
  have HRR := Lib.hid hr
  have HB0 := Lib.hid hB0
  have HQ0 := Lib.hid q0
  have hrw : w.heap.size ≤ r := by omega
  have FIN : Hid (∀ W' k a b u f, f.length ≤ 4 → OwnI w.heap.size W' u f → SrcAt W' g (m + 400) → Off (· = g) w W' → DrewN g (m + 400) 4 w (.returned (.agg #[.int .i64 k, .int .i64 a, .int .i64 b, u])) W') := fun W' k a b u f hf ho hs hof => ⟨⟨k, a, b, f⟩, u, rfl, hf, ho, hs, hof⟩
  generalize DrewN g (m + 400) 4 w = RR at *
  clear h hE0 hr hB0 q0
  go_enter Tryz.func38, Tryz.ntmps38
  go_upto_region 1 with fail
  rw [← HE0.out, ← HRR.out]
  go_wp2_with fail
  refine (pick_any 17 _ hs0 (by omega) (by omega)).mono ?_
  rintro e w1 ⟨x, hx, rfl, hs1, ho1⟩
  have hx1 := (pickP_pos hx (by omega)).1
  have hx2 := (pickP_pos hx (by omega)).2
  have DW := Lib.hid (l06Draw_any (1 + x) nt w1 hs1 ⟨by omega, by omega⟩ hn (by omega))
  have HO1 := Lib.hid ho1
  clear hx hs0 hs1 ho1
  go_upto_region 2 with (first | (go_at_call 71; refine DW.out.mono ?_; rintro e w2 ⟨⟨kk, aa, bb, f⟩, u, rfl, hsl, how, hs2, ho2⟩; simp only at hsl how; obtain ⟨q, c, rfl, -⟩ := how.rd) | fail)
  obtain ⟨s, hs⟩ : ∃ s, s = w2.heap.size := ⟨_, rfl⟩
  obtain ⟨F, hF⟩ : ∃ F, F = w2.alloc (.cells #[.int .i64 kk, .int .i64 aa, .int .i64 bb, .slice q f.length c] 35) := ⟨_, rfl⟩
  have hb2 : Below w2.heap.size w2 F := by rw [hF]; exact (Below.refl _ _).alloc (Nat.le_refl _) _
  have HN0 : NB g (m + 220) w F r s kk aa bb (.slice q f.length c) f := by
    have ho12 := HO1.out.trans ho2
    have hof := (Off.of_below (· = g) HB0.out).trans ho12
    have h01 : w.heap.size ≤ w1.heap.size := Nat.le_trans HB0.out.size HO1.out.size
    refine ⟨(HQ0.out.off ho12 (by show ¬ r = g; omega)).below hb2, ?_, (how.mono h01).below hb2, hof.afterD (hb2.mono hof.size), (hs2.below hb2).mono (by omega), hrw, ?_, ?_, hg⟩
    · rw [hF, hs]; exact Box.newAt _ [.int .i64 kk, .int .i64 aa, .int .i64 bb, .slice q f.length c] _ rfl
    · have := hof.size; omega
    · have := HQ0.out.lt; have := ho12.size; omega
  rw [← hF, ← hs]
  clear hF hb2 hs hs2 ho2 how DW HO1
  go_wp2_with fail
  refine (pick_any 16 _ HN0.src (by omega) (by omega)).mono ?_
  rintro e w3 ⟨y, -, rfl, hs3, ho3⟩
  have hN3 := HN0.step ho3 hs3
  clear HN0 hs3 ho3
  by_cases y0 : y = 0
  · subst y0
    have A1 := Lib.hid (amongLit_any [0, 18, -1] w3 hN3.src (by simp) (by simp) (by omega))
    have HN3 := Lib.hid hN3
    clear hN3
    go_upto_region 11 with (first | (go_at_call 34; refine A1.out.mono ?_; rintro e w4 ⟨z, hz, rfl, hs4, ho4⟩; have hN4 := HN3.out.step ho4 hs4; have c2 := hN4.box.cell 0 rfl; have g2 := hN4.box.frozen 0; clear hz hs4 ho4) | fail)
    clear c2 g2
    have R1 := hN4.setK z
    have u0 := R1.res.cell 0 rfl
    have u1 := R1.res.cell 1 rfl
    have u2 := R1.res.cell 2 rfl
    have u3 := R1.res.cell 3 rfl
    have f0 := R1.res.frozen 0
    have f1 := R1.res.frozen 1
    have f2 := R1.res.frozen 2
    have f3 := R1.res.frozen 3
    have x0 := R1.box.cell 0 rfl
    have x1 := R1.box.cell 1 rfl
    have x2 := R1.box.cell 2 rfl
    have x3 := R1.box.cell 3 rfl
    obtain ⟨W', hW, bx, hof, hsr, how⟩ := R1.exit (.int .i64 (z)) (.int .i64 (aa)) (.int .i64 (bb)) (Value.slice q f.length c)
    have k0' := bx.cell 0 rfl
    have k1' := bx.cell 1 rfl
    have k2' := bx.cell 2 rfl
    have k3' := bx.cell 3 rfl
    have FN := Lib.hid (FIN.out W' (z) (aa) (bb) _ _ (by omega) how (hsr.mono (by omega)) hof)
    have HWW := Lib.hid hW
    clear hW bx hof hsr how R1
    go_wp2_with fail
    rw [← HWW.out]
    refine bodyPost_ret (v := .agg #[.int .i64 (z), .int .i64 (aa), .int .i64 (bb), Value.slice q f.length c]) (by simp [results, Tryz.results38, go_sem, *]) rfl ?_
    exact FN.out
  have yn0 : (y == 0) = false := by rw [beq_eq_false_iff_ne]; exact y0
  by_cases y1 : y = 1
  · subst y1
    have A1 := Lib.hid (amongLit_any [2147483648, 17, 32, -1, 4] w3 hN3.src (by simp) (by simp) (by omega))
    have HN3 := Lib.hid hN3
    clear hN3
    go_upto_region 11 with (first | (go_at_call 34; refine A1.out.mono ?_; rintro e w4 ⟨z, hz, rfl, hs4, ho4⟩; have hN4 := HN3.out.step ho4 hs4; have c2 := hN4.box.cell 1 rfl; have g2 := hN4.box.frozen 1; clear hz hs4 ho4) | fail)
    clear c2 g2
    have R1 := hN4.setA z
    have u0 := R1.res.cell 0 rfl
    have u1 := R1.res.cell 1 rfl
    have u2 := R1.res.cell 2 rfl
    have u3 := R1.res.cell 3 rfl
    have f0 := R1.res.frozen 0
    have f1 := R1.res.frozen 1
    have f2 := R1.res.frozen 2
    have f3 := R1.res.frozen 3
    have x0 := R1.box.cell 0 rfl
    have x1 := R1.box.cell 1 rfl
    have x2 := R1.box.cell 2 rfl
    have x3 := R1.box.cell 3 rfl
    obtain ⟨W', hW, bx, hof, hsr, how⟩ := R1.exit (.int .i64 (kk)) (.int .i64 (z)) (.int .i64 (bb)) (Value.slice q f.length c)
    have k0' := bx.cell 0 rfl
    have k1' := bx.cell 1 rfl
    have k2' := bx.cell 2 rfl
    have k3' := bx.cell 3 rfl
    have FN := Lib.hid (FIN.out W' (kk) (z) (bb) _ _ (by omega) how (hsr.mono (by omega)) hof)
    have HWW := Lib.hid hW
    clear hW bx hof hsr how R1
    go_wp2_with fail
    rw [← HWW.out]
    refine bodyPost_ret (v := .agg #[.int .i64 (kk), .int .i64 (z), .int .i64 (bb), Value.slice q f.length c]) (by simp [results, Tryz.results38, go_sem, *]) rfl ?_
    exact FN.out
  have yn1 : (y == 1) = false := by rw [beq_eq_false_iff_ne]; exact y1
  by_cases y2 : y = 2
  · subst y2
    have A1 := Lib.hid (amongLit_any [0, 1, 16, 17] w3 hN3.src (by simp) (by simp) (by omega))
    have HN3 := Lib.hid hN3
    clear hN3
    go_upto_region 11 with (first | (go_at_call 34; refine A1.out.mono ?_; rintro e w4 ⟨z, hz, rfl, hs4, ho4⟩; have hN4 := HN3.out.step ho4 hs4; have c2 := hN4.box.cell 2 rfl; have g2 := hN4.box.frozen 2; clear hz hs4 ho4) | fail)
    clear c2 g2
    have R1 := hN4.setB z
    have u0 := R1.res.cell 0 rfl
    have u1 := R1.res.cell 1 rfl
    have u2 := R1.res.cell 2 rfl
    have u3 := R1.res.cell 3 rfl
    have f0 := R1.res.frozen 0
    have f1 := R1.res.frozen 1
    have f2 := R1.res.frozen 2
    have f3 := R1.res.frozen 3
    have x0 := R1.box.cell 0 rfl
    have x1 := R1.box.cell 1 rfl
    have x2 := R1.box.cell 2 rfl
    have x3 := R1.box.cell 3 rfl
    obtain ⟨W', hW, bx, hof, hsr, how⟩ := R1.exit (.int .i64 (kk)) (.int .i64 (aa)) (.int .i64 (z)) (Value.slice q f.length c)
    have k0' := bx.cell 0 rfl
    have k1' := bx.cell 1 rfl
    have k2' := bx.cell 2 rfl
    have k3' := bx.cell 3 rfl
    have FN := Lib.hid (FIN.out W' (kk) (aa) (z) _ _ (by omega) how (hsr.mono (by omega)) hof)
    have HWW := Lib.hid hW
    clear hW bx hof hsr how R1
    go_wp2_with fail
    rw [← HWW.out]
    refine bodyPost_ret (v := .agg #[.int .i64 (kk), .int .i64 (aa), .int .i64 (z), Value.slice q f.length c]) (by simp [results, Tryz.results38, go_sem, *]) rfl ?_
    exact FN.out
  have yn2 : (y == 2) = false := by rw [beq_eq_false_iff_ne]; exact y2
  by_cases y3 : y = 3
  · subst y3
    have hcur := belowDrewD w3
    have KA : Hid (∀ W, Below w3.heap.size w3 W → Calls Tryz.prog 34 #[.pointer (some ⟨g, 0, none⟩), .slice (some ⟨W.heap.size, 0, none⟩) 4 4] (W.alloc (.cells #[.int .i64 0, .int .i64 23, .int .i64 24, .int .i64 (-1)] 2)) fun e W2 => ∃ z, e = .returned (.int .i64 z) ∧ NB g (m + 220 + 4) w W2 r s kk aa bb (.slice q f.length c) f) := fun W hW => (amongLit_any [0, 23, 24, -1] W (hN3.src.below hW) (by simp) (by simp) (by omega)).mono fun e W2 ⟨z, _, he, hs4, ho4⟩ => ⟨z, he, ((hN3.below hW).step ho4 hs4).mono (by omega)⟩
    have t3 := hN3.box.cell 3 rfl
    have lt3 := hN3.box.lt
    have hlen : f.length < 17592186044415 := by omega
    go_wp2_with fail
    go_region_law (first | (go_simp; go_at_call 34; refine (KA.out _ hcur).mono ?_; rintro e W2 ⟨z, rfl, hN4⟩; have t3 := hN4.box.cell 3 rfl; have lt3 := hN4.box.lt; have hown2 := hN4.own; have hz2 : w.heap.size ≤ W2.heap.size := hN4.off.size) | ((first | refine step_append_drew rfl _ _ rfl rfl hown2 rfl hlen hz2 ?_ | refine step_append_one rfl _ _ rfl rfl hown2 rfl hlen hz2 ?_); intro q2 k2 w2 ho2 o1 o2 o3 hs2 hk2; have GR := hN4.grow ho2 ⟨o1.symm, o2.symm, o3.symm, hs2, fun k hk hne => hk2 k hk hne⟩; have c3 := GR.1.1; have f3 := GR.1.2) | fail)
    all_goals
      have G := Lib.hid GR.2
      clear GR c3 f3 t3 hN4 ho2 hN3 lt3 hown2
      go_upto_region 11 with fail
      have R1 := G.out
      have u0 := R1.res.cell 0 rfl
      have u1 := R1.res.cell 1 rfl
      have u2 := R1.res.cell 2 rfl
      have u3 := R1.res.cell 3 rfl
      have f0 := R1.res.frozen 0
      have f1 := R1.res.frozen 1
      have f2 := R1.res.frozen 2
      have f3 := R1.res.frozen 3
      have x0 := R1.box.cell 0 rfl
      have x1 := R1.box.cell 1 rfl
      have x2 := R1.box.cell 2 rfl
      have x3 := R1.box.cell 3 rfl
      obtain ⟨W', hW, bx, hof, hsr, how⟩ := R1.exit (.int .i64 (kk)) (.int .i64 (aa)) (.int .i64 (bb)) (Value.slice q2 (f.length + 1) k2)
      have k0' := bx.cell 0 rfl
      have k1' := bx.cell 1 rfl
      have k2' := bx.cell 2 rfl
      have k3' := bx.cell 3 rfl
      have FN := Lib.hid (FIN.out W' (kk) (aa) (bb) _ _ (by simp; omega) how (hsr.mono (by omega)) hof)
      have HWW := Lib.hid hW
      clear hW bx hof hsr how R1
      go_wp2_with fail
      rw [← HWW.out]
      refine bodyPost_ret (v := .agg #[.int .i64 (kk), .int .i64 (aa), .int .i64 (bb), Value.slice q2 (f.length + 1) k2]) (by simp [results, Tryz.results38, go_sem, *]) rfl ?_
      exact FN.out
  have yn3 : (y == 3) = false := by rw [beq_eq_false_iff_ne]; exact y3
  go_upto_region 11 with fail
  have R1 := hN3
  have u0 := R1.res.cell 0 rfl
  have u1 := R1.res.cell 1 rfl
  have u2 := R1.res.cell 2 rfl
  have u3 := R1.res.cell 3 rfl
  have f0 := R1.res.frozen 0
  have f1 := R1.res.frozen 1
  have f2 := R1.res.frozen 2
  have f3 := R1.res.frozen 3
  have x0 := R1.box.cell 0 rfl
  have x1 := R1.box.cell 1 rfl
  have x2 := R1.box.cell 2 rfl
  have x3 := R1.box.cell 3 rfl
  obtain ⟨W', hW, bx, hof, hsr, how⟩ := R1.exit (.int .i64 (kk)) (.int .i64 (aa)) (.int .i64 (bb)) (Value.slice q f.length c)
  have k0' := bx.cell 0 rfl
  have k1' := bx.cell 1 rfl
  have k2' := bx.cell 2 rfl
  have k3' := bx.cell 3 rfl
  have FN := Lib.hid (FIN.out W' (kk) (aa) (bb) _ _ (by omega) how (hsr.mono (by omega)) hof)
  have HWW := Lib.hid hW
  clear hW bx hof hsr how R1
  go_wp2_with fail
  rw [← HWW.out]
  refine bodyPost_ret (v := .agg #[.int .i64 (kk), .int .i64 (aa), .int .i64 (bb), Value.slice q f.length c]) (by simp [results, Tryz.results38, go_sem, *]) rfl ?_
  exact FN.out
end Go.Proofs.YtaapkpjokmoekaaGreatDoor
