/-
  Patches with some nodes only: plain model.
-/
import Derived.Test.YtonkdndpfnapjaaGreatNeedM
import Derived.Test.YtonkdndpfnapjaaGreatMapped
namespace Go.Proofs.YtonkdndpfnapjaaGreat
set_option linter.unusedVariables false

def putBy : List Int → Nat → List Int → List Int
  | b, _, [] => b
  | b, j, i :: r => putBy (b.set i.toNat (j : Int)) (j + 1) r
theorem putBy_length : ∀ (b : List Int) (j : Nat) (r : List Int), (putBy b j r).length = b.length
  | b, _, [] => rfl
  | b, j, i :: r => by rw [putBy, putBy_length, List.length_set]
theorem putBy_drop {b : List Int} {keep : List Int} {k m : Nat} (h : k < keep.length) (hm : keep[k] = (m : Int)) : putBy b k (keep.drop k) = putBy (b.set m (k : Int)) (k + 1) (keep.drop (k + 1)) := by
  rw [List.drop_eq_getElem_cons h, putBy, hm, Int.toNat_natCast]
def byL (n : Nat) (keep : List Int) : List Int := putBy (List.replicate n 0) 0 keep
theorem byL_length (n : Nat) (keep : List Int) : (byL n keep).length = n := by unfold byL; rw [putBy_length, List.length_replicate]
/-- what lies in by are places of keep -/
theorem putBy_rng : ∀ (b : List Int) (j : Nat) (r : List Int) (N : Int), (∀ x ∈ b, 0 ≤ x ∧ x < N) → (j : Int) + r.length ≤ N → ∀ x ∈ putBy b j r, 0 ≤ x ∧ x < N
  | b, _, [], N, h, _ => h
  | b, j, i :: r, N, h, hN => by
    simp only [List.length_cons] at hN
    refine putBy_rng _ (j + 1) r N (fun x hx => ?_) (by omega)
    rcases List.mem_or_eq_of_mem_set hx with hx | rfl
    · exact h x hx
    · omega
theorem byL_rng {n : Nat} {keep : List Int} {N : Nat} (h : keep.length ≤ N) (h0 : 0 < N) : ∀ x ∈ byL n keep, 0 ≤ x ∧ x < (N : Int) := by
  refine putBy_rng _ 0 keep N (fun x hx => ?_) (by omega)
  rw [(List.mem_replicate.1 hx).2]; omega
theorem mapL_rng {by_ xs : List Int} {N : Nat} (h : ∀ x ∈ by_, 0 ≤ x ∧ x < (N : Int)) (h0 : 0 < N) : ∀ x ∈ mapL by_ xs, 0 ≤ x ∧ x < (N : Int) := by
  intro x hx
  unfold mapL at hx
  obtain ⟨i, _, rfl⟩ := List.mem_map.1 hx
  rcases Nat.lt_or_ge i.toNat by_.length with h1 | h1
  · rw [List.getD_eq_getElem?_getD, List.getElem?_eq_getElem h1]; exact h _ (List.getElem_mem h1)
  · rw [List.getD_eq_getElem?_getD, List.getElem?_eq_none h1]; simp; omega
def nodeAt (nodes : List NodeD) (i : Int) : NodeD := nodes.getD i.toNat ⟨0, 0, 0, []⟩
def keepN (nodes : List NodeD) (by_ : List Int) (i : Int) : NodeD := { nodeAt nodes i with src := mapL by_ (nodeAt nodes i).src }
def keepP (x : PatchD) (keep : List Int) : PatchD :=
  ⟨x.inputs, x.tables, keep.map (keepN x.nodes (byL x.nodes.length keep)), mapL (byL x.nodes.length keep) x.outputs⟩
theorem keepN_succ {nodes : List NodeD} {by_ keep : List Int} {k : Nat} (h : k < keep.length) : (keep.take (k + 1)).map (keepN nodes by_) = (keep.take k).map (keepN nodes by_) ++ [keepN nodes by_ keep[k]] := by
  rw [List.take_succ_eq_append_getElem h, List.map_append]; rfl
def trimP (x : PatchD) : PatchD := keepP x (need x)
end Go.Proofs.YtonkdndpfnapjaaGreat
