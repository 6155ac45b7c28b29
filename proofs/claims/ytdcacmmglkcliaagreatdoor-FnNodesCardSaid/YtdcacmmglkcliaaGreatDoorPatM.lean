/-
  Patches: plain models: well-formedness, the order of the nodes; no program in sight.
-/
import Derived.Test.YtdcacmmglkcliaaGreatDoorTyPatch
import Derived.Test.YtdcacmmglkcliaaGreatDoorNode2
namespace Go.Proofs.YtdcacmmglkcliaaGreatDoor
set_option linter.unusedVariables false

def tblB (t : List Int) : Bool := (decide (t.length = 2) || (decide (t.length = 4) || (decide (t.length = 8) || decide (t.length = 16)))) && t.all isSmp
def tablesB (ts : List (List Int)) : Bool := ts.all tblB && decide (ts.length ≤ 4)
/-- the nodes that a node waits for -/
def waits (x : NodeD) : List Int := if x.kind = 6 then [] else x.src
/-- a node of a well formed patch: m inputs, t tables, n nodes -/
def ndB (m t n : Int) (x : NodeD) : Bool := nodeB x t && !(x.kind == 1 && decide (m ≤ x.a)) && x.src.all (fun f => inB f 0 (n - 1))
def formedB (x : PatchD) : Bool :=
  inB x.inputs 0 4 && tablesB x.tables && decide (x.nodes.length ≤ 24) && decide (x.outputs.length ≤ 4) && x.nodes.all (ndB x.inputs x.tables.length x.nodes.length) && x.outputs.all (fun f => inB f 0 (x.nodes.length - 1))
theorem formed_iff {x : PatchD} : formedB x = true ↔ (0 ≤ x.inputs ∧ x.inputs ≤ 4) ∧ tablesB x.tables = true ∧ x.nodes.length ≤ 24 ∧ x.outputs.length ≤ 4 ∧ (∀ y ∈ x.nodes, ndB x.inputs x.tables.length x.nodes.length y = true) ∧ ∀ f ∈ x.outputs, 0 ≤ f ∧ f < x.nodes.length := by
  simp only [formedB, Bool.and_eq_true, inB_iff, decide_eq_true_iff, List.all_eq_true]
  constructor
  · rintro ⟨⟨⟨⟨⟨a, b⟩, c⟩, d⟩, e⟩, f⟩
    exact ⟨a, b, c, d, e, fun y hy => by have := f y hy; omega⟩
  · rintro ⟨a, b, c, d, e, f⟩
    exact ⟨⟨⟨⟨⟨a, b⟩, c⟩, d⟩, e⟩, fun y hy => by have := f y hy; omega⟩
theorem ndB_src {m t n : Int} {x : NodeD} (h : ndB m t n x = true) : ∀ f ∈ x.src, 0 ≤ f ∧ f < n := by
  unfold ndB at h
  simp only [Bool.and_eq_true, List.all_eq_true, inB_iff] at h
  intro f hf
  have := h.2 f hf
  omega
theorem waits_src {x : NodeD} {f : Int} (h : f ∈ waits x) : f ∈ x.src := by
  unfold waits at h
  split at h
  · simp at h
  · exact h
/-- node i can be taken after those of out -/
def rdy (nodes : List NodeD) (out : List Int) (i : Nat) : Bool := !(out.contains (i : Int)) && (waits (nodes.getD i ⟨0, 0, 0, []⟩)).all (fun f => out.contains f)
/-- the first node from k on that can be taken; m places are looked at -/
def nxt (nodes : List NodeD) (out : List Int) (k : Nat) : Nat → Option Nat
  | 0 => none
  | m + 1 => if rdy nodes out k then some k else nxt nodes out (k + 1) m
theorem nxt_some {nodes : List NodeD} {out : List Int} {i : Nat} : ∀ {m k : Nat}, nxt nodes out k m = some i → k ≤ i ∧ i < k + m ∧ rdy nodes out i = true
  | 0, _, h => by simp [nxt] at h
  | m + 1, k, h => by
    unfold nxt at h
    split at h
    · simp only [Option.some.injEq] at h
      subst h
      exact ⟨Nat.le_refl _, by omega, by assumption⟩
    · have := nxt_some h
      exact ⟨by omega, by omega, this.2.2⟩
def ord (nodes : List NodeD) : Nat → List Int → List Int
  | 0, out => out
  | f + 1, out => match nxt nodes out 0 nodes.length with
    | none => out
    | some i => ord nodes f (out ++ [(i : Int)])
def orderL (nodes : List NodeD) : List Int := ord nodes nodes.length []
theorem ord_none {nodes : List NodeD} {out : List Int} (h : nxt nodes out 0 nodes.length = none) : ∀ f, ord nodes f out = out
  | 0 => rfl
  | f + 1 => by rw [ord, h]
theorem ord_some {nodes : List NodeD} {out : List Int} {i : Nat} (h : nxt nodes out 0 nodes.length = some i) (f : Nat) : ord nodes (f + 1) out = ord nodes f (out ++ [(i : Int)]) := by
  rw [ord, h]
/-- how many places are not in out -/
def free (out : List Int) : Nat → Nat
  | 0 => 0
  | n + 1 => free out n + (if out.contains (n : Int) then 0 else 1)
theorem contains_snoc (out : List Int) (i j : Int) : (out ++ [i]).contains j = (out.contains j || j == i) := by
  rw [Bool.eq_iff_iff]; simp
theorem free_ge (out : List Int) (i : Nat) : ∀ n, n ≤ i → free (out ++ [(i : Int)]) n = free out n
  | 0, _ => rfl
  | n + 1, h => by
    have e : ((n : Int) == (i : Int)) = false := by rw [beq_eq_false_iff_ne]; omega
    rw [free, free, free_ge out i n (by omega), contains_snoc, e, Bool.or_false]
theorem free_add (out : List Int) (i : Nat) (hi : out.contains (i : Int) = false) : ∀ n, i < n → free (out ++ [(i : Int)]) n + 1 = free out n
  | 0, h => by omega
  | n + 1, h => by
    rw [free, free, contains_snoc]
    by_cases e : i = n
    · subst e
      rw [free_ge out i i (Nat.le_refl _), hi]
      simp
    · have e2 : ((n : Int) == (i : Int)) = false := by rw [beq_eq_false_iff_ne]; omega
      have := free_add out i hi n (by omega)
      rw [e2, Bool.or_false]; omega
theorem free_nil : ∀ n, free [] n = n
  | 0 => rfl
  | n + 1 => by rw [free, free_nil n]; simp
theorem rdy_free {nodes : List NodeD} {out : List Int} {i : Nat} (h : rdy nodes out i = true) : out.contains (i : Int) = false := by
  unfold rdy at h
  rw [Bool.and_eq_true, Bool.not_eq_true'] at h
  exact h.1
theorem free_pos {out : List Int} {i : Nat} (hi : out.contains (i : Int) = false) {n : Nat} (h : i < n) : 0 < free out n := by
  have := free_add out i hi n h; omega
/-- what is taken, as marks -/
def tk (out : List Int) (n : Nat) : List Bool := (List.range n).map fun i => out.contains ((i : Nat) : Int)
theorem tk_length (out : List Int) (n : Nat) : (tk out n).length = n := by simp [tk]
theorem tk_get (out : List Int) {n i : Nat} (h : i < n) : (tk out n)[i]'(by rw [tk_length]; exact h) = out.contains (i : Int) := by simp [tk]
theorem tk_nil (n : Nat) : tk [] n = List.replicate n false := by
  refine List.ext_getElem (by simp [tk]) fun i h1 h2 => ?_
  simp [tk]
theorem tk_set (out : List Int) {n i : Nat} (h : i < n) : tk (out ++ [(i : Int)]) n = (tk out n).set i true := by
  refine List.ext_getElem (by simp [tk]) fun j h1 h2 => ?_
  have hj : j < n := by simpa [tk] using h1
  rw [List.getElem_set, tk_get _ hj, tk_get _ hj, contains_snoc]
  by_cases e : i = j
  · subst e; simp
  · rw [if_neg e]
    have e2 : ((j : Int) == (i : Int)) = false := by rw [beq_eq_false_iff_ne]; omega
    rw [e2, Bool.or_false]
/-- places of an order lie in the patch -/
theorem ord_mem {nodes : List NodeD} : ∀ (f : Nat) (out : List Int), (∀ o ∈ out, 0 ≤ o ∧ o < (nodes.length : Int)) → ∀ o ∈ ord nodes f out, 0 ≤ o ∧ o < (nodes.length : Int)
  | 0, out, h => h
  | f + 1, out, h => by
    rw [ord]
    split
    · exact h
    · rename_i i hi
      refine ord_mem f _ fun o ho => ?_
      rcases List.mem_append.1 ho with ho | ho
      · exact h o ho
      · have := (nxt_some hi).2.1
        rw [List.mem_singleton.1 ho]; omega
theorem orderL_mem {nodes : List NodeD} : ∀ o ∈ orderL nodes, 0 ≤ o ∧ o < (nodes.length : Int) := ord_mem _ _ (by simp)
theorem ord_len {nodes : List NodeD} : ∀ (f : Nat) (out : List Int), (ord nodes f out).length ≤ out.length + f
  | 0, out => Nat.le_refl _
  | f + 1, out => by
    rw [ord]
    split
    · omega
    · rename_i i hi
      have := ord_len (nodes := nodes) f (out ++ [(i : Int)])
      rw [List.length_append] at this
      simp only [List.length_cons, List.length_nil] at this
      omega
theorem orderL_len (nodes : List NodeD) : (orderL nodes).length ≤ nodes.length := by
  have := ord_len (nodes := nodes) nodes.length []
  simpa [orderL] using this
/-- the patch is valid -/
def okB (x : PatchD) : Bool := formedB x && decide ((orderL x.nodes).length = x.nodes.length)
/-! ### depths -/
def dset (d : List Int) (o : Nat) (f : Int) : List Int := d.set o (max (d.getD o 0) (d.getD f.toNat 0 + 1))
def dall (d : List Int) (o : Nat) (fs : List Int) : List Int := fs.foldl (fun d f => dset d o f) d
def depths (nodes : List NodeD) (d : List Int) : List Int → List Int
  | [] => d
  | o :: os => depths nodes (dall d o.toNat (waits (nodes.getD o.toNat ⟨0, 0, 0, []⟩))) os
/-! ### users -/
def users (nodes : List NodeD) (node : Int) : List Int := ((List.range nodes.length).filter fun i => (nodes.getD i ⟨0, 0, 0, []⟩).src.contains node).map fun i => ((i : Nat) : Int)
end Go.Proofs.YtdcacmmglkcliaaGreatDoor
