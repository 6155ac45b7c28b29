/-
  Nodes: validity for all nodes, states at the beginning: contracts of both sides.
-/
import Derived.Test.YtabfdnkomhjlkaaNode2
namespace Go.Proofs.Ytabfdnkomhjlkaa
open Go.ChangeShapes Go.WideShapes Go.ChangeAt Go.RowKit Go.Sort
set_option linter.unusedVariables false

theorem isNode_v {v : Value} {x : NodeD} (t : Int) (w : World) (h : VNode w v x) :
    Calls Try.prog 51 #[v, .int .i64 t] w fun e w' => e = .returned (.bool (nodeB x t)) ∧ Below w.heap.size w w' := by
  obtain ⟨p, c, rfl, hr⟩ := h
  cases hk : inB x.kind 1 17
  case true =>
    obtain ⟨k, a, b, src⟩ := x
    obtain ⟨i, hi, rfl⟩ := kind_of_in hk
    exact isNode_in i hi a b t w hr
  have e : nodeB x t = false := by rw [nodeB, hk]; rfl
  rw [e]
  clear e
  go_enter Try.func51, Try.ntmps51
  go_wp2_with (go_at_call 58; refine (isKind_any _ _).mono ?_; rintro e w' ⟨rfl, rfl⟩)
  go_ret
  exact ⟨rfl, (Below.refl _ _).alloc (Nat.le_refl _) _⟩
/-- the state of a node at the beginning -/
def startL (x : NodeD) : List Int :=
  if x.kind = 6 then List.replicate x.a.toNat 0 else if x.kind = 17 then List.replicate x.b.toNat 0 else if x.kind = 7 ∨ x.kind = 8 ∨ x.kind = 16 then [0] else if x.kind = 12 ∨ x.kind = 14 then [x.a] else []
structure StartOk (x : NodeD) : Prop where
  a : x.kind = 6 → 0 ≤ x.a ∧ x.a ≤ 16
  b : x.kind = 17 → 0 ≤ x.b ∧ x.b ≤ 16
theorem startOk_of {x : NodeD} {t : Int} (h : nodeB x t = true) : StartOk x := by
  rw [nodeB_split] at h
  simp only [Bool.and_eq_true] at h
  obtain ⟨_, h2, _, _, h5⟩ := h
  constructor
  · intro e
    rw [e] at h2
    have : inB x.a 1 16 = true := h2
    rw [inB_iff] at this
    omega
  · intro e
    rw [if_pos e] at h5
    rw [inB_iff] at h5
    omega
theorem startL_length {x : NodeD} (h : StartOk x) : (startL x).length ≤ 16 := by
  unfold startL
  split
  · rename_i e; have := h.a e; rw [List.length_replicate]; omega
  split
  · rename_i e; have := h.b e; rw [List.length_replicate]; omega
  split
  · simp
  split <;> simp
def startRes (x : NodeD) : List Int := if nodeB x 4 then startL x else []
def startSize (x : NodeD) : Int := if nodeB x 4 then ((startL x).length : Int) else -1
theorem startRes_small (x : NodeD) : cntI (startRes x) ≤ 1048576 := by
  unfold cntI startRes
  split
  · rename_i h
    have := startL_length (startOk_of h)
    omega
  · simp
/-- a list of the call's own -/
def RetL (w : World) (xs : List Int) (e : Ending) (w' : World) : Prop := ∃ u L, e = .returned u ∧ OwnLI w.heap.size w' u xs L ∧ Dis L ∧ Below w.heap.size w w'
theorem OwnLI.nilu (B : Nat) (w : World) : OwnLI B w (.slice none 0 0) [] [.slice none 0 0] := ⟨OwnI.nil _ _, rfl⟩
end Go.Proofs.Ytabfdnkomhjlkaa
