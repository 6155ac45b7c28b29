/-
  A patch that is being made in a variable: its box, the result's box, its parts; what each step does.
-/
import Derived.Test.YtdcacmmglkcliaaGreatDoorMapped
namespace Go.Proofs.YtdcacmmglkcliaaGreatDoor
open Go.ChangeShapes Go.WideShapes Go.ChangeAt Go.RowKit
set_option linter.unusedVariables false

structure Small (x : PatchD) : Prop where
  tables : x.tables.length ≤ 1000
  rows : ∀ t ∈ x.tables, t.length ≤ 1000
  nodes : x.nodes.length ≤ 1000
  srcs : ∀ n ∈ x.nodes, n.src.length ≤ 1000
  outs : x.outputs.length ≤ 1000
theorem belowDrew0 (w : World) : Below w.heap.size w w.drew := ⟨rfl, rfl, rfl, Nat.le_refl _, fun _ _ => rfl⟩
theorem Below.via {a W F : World} (h : Below a.heap.size a W) (hb : Below W.heap.size W F) : Below a.heap.size a F := h.trans (hb.mono h.size)
abbrev zPatch : List Value := [.int .i64 0, .slice none 0 0, .slice none 0 0, .slice none 0 0]
structure PB (B : Nat) (w0 w : World) (s : Nat) (inp : Int) (v1 v2 v3 : Value) (ts : List (List Int)) (ns : List NodeD) (os : List Int) (L1 L : List Value) : Prop where
  own : OwnP B w v1 v2 v3 ts ns os L1 L
  out : Box w s [.int .i64 inp, v1, v2, v3] 46
  bel : Below w0.heap.size w0 w
  hB : w0.heap.size ≤ B
  hs : w0.heap.size ≤ s
theorem patchT : ¬ ((46 : TypeId) = 24 ∨ (46 : TypeId) = 26 ∨ (46 : TypeId) = 2) := by decide
section
variable {B : Nat} {w0 w : World} {s : Nat} {inp : Int} {v1 v2 v3 : Value} {ts : List (List Int)} {ns : List NodeD} {os : List Int} {L1 L : List Value}
theorem PB.below {w' : World} (h : PB B w0 w s inp v1 v2 v3 ts ns os L1 L) (hb : Below w.heap.size w w') : PB B w0 w' s inp v1 v2 v3 ts ns os L1 L :=
  ⟨h.own.below hb, h.out.below hb, h.bel.trans (hb.mono h.bel.size), h.hB, h.hs⟩
theorem PB.node {w' : World} {v2' u : Value} {y : NodeD} (h : PB B w0 w s inp v1 v2 v3 ts ns os L1 L) (hu : OwnI B w u y.src) (hnew : ∀ b, u.ownBlock = some b → ¬ Blk (L1 ++ (L ++ [v3])) b) (hv : OwnN B w' v2' (ns ++ [y]) (L ++ [u])) (hg : w.grownBy w' v2.ownBlock) :
    (w'.cell? ⟨s, 2, none⟩ = some v2 ∧ w'.frozen? ⟨s, 2, none⟩ = false) ∧ PB B w0 (w'.setCell ⟨s, 2, none⟩ v2') s inp v1 v2' v3 ts (ns ++ [y]) os L1 (L ++ [u]) := by
  have hk : ∀ k, k < w.heap.size → v2.ownBlock ≠ some k → w'.heap[k]? = w.heap[k]? := fun k hk hne => hg.block k hk fun e => hne e.symm
  have o' := h.own.node hu hnew hv hk
  have n1 := (h.own.neBox h.out patchT).2.1
  have out' := h.out.keep (hk _ h.out.lt n1)
  have bel' : Below w0.heap.size w0 w' := h.bel.grown hg h.bel.size fun k hk => by have := (h.own.o2.lt hk).1; have := h.hB; omega
  exact ⟨⟨out'.cell 2 rfl, out'.frozen 2⟩, o'.setBox out' patchT 2 _, by simpa using out'.set 2 v2', bel'.setCell (by simpa using h.hs) _, h.hB, h.hs⟩
theorem PB.table {w' : World} {v1' u : Value} {y : List Int} (h : PB B w0 w s inp v1 v2 v3 ts ns os L1 L) (hu : OwnI B w u y) (hnew : ∀ b, u.ownBlock = some b → ¬ Blk (L1 ++ (L ++ [v3])) b) (hv : OwnV B w' 24 v1' (L1 ++ [u])) (hg : w.grownBy w' v1.ownBlock) :
    (w'.cell? ⟨s, 1, none⟩ = some v1 ∧ w'.frozen? ⟨s, 1, none⟩ = false) ∧ PB B w0 (w'.setCell ⟨s, 1, none⟩ v1') s inp v1' v2 v3 (ts ++ [y]) ns os (L1 ++ [u]) L := by
  have hk : ∀ k, k < w.heap.size → v1.ownBlock ≠ some k → w'.heap[k]? = w.heap[k]? := fun k hk hne => hg.block k hk fun e => hne e.symm
  have o' := h.own.table hu hnew hv hk
  have n1 := (h.own.neBox h.out patchT).1
  have out' := h.out.keep (hk _ h.out.lt n1)
  have bel' : Below w0.heap.size w0 w' := h.bel.grown hg h.bel.size fun k hk => by have := (h.own.o1.lt hk).1; have := h.hB; omega
  exact ⟨⟨out'.cell 1 rfl, out'.frozen 1⟩, o'.setBox out' patchT 1 _, by simpa using out'.set 1 v1', bel'.setCell (by simpa using h.hs) _, h.hB, h.hs⟩
theorem PB.outs {u : Value} {os' : List Int} (h : PB B w0 w s inp v1 v2 v3 ts ns os L1 L) (hu : OwnI B w u os') (hnew : ∀ b, u.ownBlock = some b → ¬ Blk (L1 ++ (L ++ [v3])) b) : PB B w0 (w.setCell ⟨s, 3, none⟩ u) s inp v1 v2 u ts ns os' L1 L :=
  ⟨(h.own.outs hu hnew).setBox h.out patchT 3 _, by simpa using h.out.set 3 u, h.bel.setCell (by simpa using h.hs) _, h.hB, h.hs⟩
theorem PB.bare {u : Value} (h : PB B w0 w s inp v1 v2 v3 ts ns os L1 L) (hu : OwnN B w u [] []) : PB B w0 (w.setCell ⟨s, 2, none⟩ u) s inp v1 u v3 ts [] os L1 [] :=
  ⟨(h.own.bare hu).setBox h.out patchT 2 _, by simpa using h.out.set 2 u, h.bel.setCell (by simpa using h.hs) _, h.hB, h.hs⟩
theorem PB.new {E F : World} {v1 v2 v3 : Value} {ts : List (List Int)} {ns : List NodeD} {os : List Int} {L1 L : List Value} {inp : Int} (h : OwnP E.heap.size F v1 v2 v3 ts ns os L1 L) (hc : Below E.heap.size E F) :
    PB E.heap.size E (F.alloc (.cells #[.int .i64 inp, v1, v2, v3] 46)) F.heap.size inp v1 v2 v3 ts ns os L1 L :=
  ⟨h.below ((Below.refl _ _).alloc (Nat.le_refl _) _), Box.newAt _ [.int .i64 inp, v1, v2, v3] _ rfl, hc.alloc hc.size _, Nat.le_refl _, hc.size⟩
theorem PB.newB {E F : World} {s : Nat} {v1 v2 v3 : Value} {ts : List (List Int)} {ns : List NodeD} {os : List Int} {L1 L : List Value} {inp : Int} (h : OwnP E.heap.size F v1 v2 v3 ts ns os L1 L) (hc : Below E.heap.size E F) (bq : Box F s zPatch 46) (hs : E.heap.size ≤ s) :
    PB E.heap.size E ((((F.setCell ⟨s, 0, none⟩ (.int .i64 inp)).setCell ⟨s, 1, none⟩ v1).setCell ⟨s, 2, none⟩ v2).setCell ⟨s, 3, none⟩ v3) s inp v1 v2 v3 ts ns os L1 L := by
  have b0 := bq.set 0 (.int .i64 inp)
  have b1 := b0.set 1 v1
  have b2 := b1.set 2 v2
  have b3 := b2.set 3 v3
  exact ⟨((((h.setBox bq patchT 0 _).setBox b0 patchT 1 _).setBox b1 patchT 2 _).setBox b2 patchT 3 _), by simpa [zPatch] using b3,
    (((hc.setCell (p := ⟨s, 0, none⟩) hs _).setCell (p := ⟨s, 1, none⟩) hs _).setCell (p := ⟨s, 2, none⟩) hs _).setCell (p := ⟨s, 3, none⟩) hs _, Nat.le_refl _, hs⟩
/-- all that it holds is older -/
theorem PB.fresh {W : World} {u : Value} {xs : List Int} {B' : Nat} (h : PB B w0 w s inp v1 v2 v3 ts ns os L1 L) (hu : OwnI B' W u xs) (hB' : w.heap.size ≤ B') : ∀ b, u.ownBlock = some b → ¬ Blk (L1 ++ (L ++ [v3])) b := fun b hb hbk => by
  have h1 := (hu.lt hb).1
  have h2 := (h.own.blk hbk).2
  omega
/-- the patch as a result -/
def RetP0 (w : World) (x : PatchD) (e : Ending) (w' : World) : Prop := ∃ v1 v2 v3 L1 L, e = .returned (.agg #[.int .i64 x.inputs, v1, v2, v3]) ∧ OwnP w.heap.size w' v1 v2 v3 x.tables x.nodes x.outputs L1 L ∧ Below w.heap.size w w'
theorem PB.done {W0 : World} {r : Nat} (h : PB B w0 w s inp v1 v2 v3 ts ns os L1 L) (hres : Box w r zPatch 46) (hb : Below W0.heap.size W0 w) (hr : W0.heap.size ≤ r) (hB : W0.heap.size ≤ B) :
    ∃ W', W' = (((w.setCell ⟨r, 0, none⟩ (.int .i64 inp)).setCell ⟨r, 1, none⟩ v1).setCell ⟨r, 2, none⟩ v2).setCell ⟨r, 3, none⟩ v3 ∧ Box W' r [.int .i64 inp, v1, v2, v3] 46 ∧ RetP0 W0 ⟨inp, ts, ns, os⟩ (.returned (.agg #[.int .i64 inp, v1, v2, v3])) W' := by
  have b0 := hres.set 0 (.int .i64 inp)
  have b1 := b0.set 1 v1
  have b2 := b1.set 2 v2
  have b3 := b2.set 3 v3
  refine ⟨_, rfl, by simpa [zPatch] using b3, v1, v2, v3, L1, L, rfl, (((((h.own.setBox hres patchT 0 _).setBox b0 patchT 1 _).setBox b1 patchT 2 _).setBox b2 patchT 3 _)).mono hB, ?_⟩
  exact (((hb.setCell (p := ⟨r, 0, none⟩) hr _).setCell (p := ⟨r, 1, none⟩) hr _).setCell (p := ⟨r, 2, none⟩) hr _).setCell (p := ⟨r, 3, none⟩) hr _
end
end Go.Proofs.YtdcacmmglkcliaaGreatDoor
