/-
  Small lemmas on valid patches.
-/
import Derived.Test.YtbjpianbeebmeabPatM
import Derived.Test.YtbjpianbeebmeabNode3
namespace Go.Proofs.Ytbjpianbeebmeab
set_option linter.unusedVariables false

theorem okB_start {x : PatchD} (h : okB x = true) : ∀ n ∈ x.nodes, StartOk n := by
  intro n hn
  unfold okB formedB at h
  simp only [Bool.and_eq_true, List.all_eq_true] at h
  have h2 := h.1.1.2 n hn
  unfold ndB at h2
  simp only [Bool.and_eq_true] at h2
  exact startOk_of h2.1.1
theorem lens_map_start : ∀ (ns : List NodeD), (∀ n ∈ ns, StartOk n) → lens (ns.map startL) ≤ 16 * ns.length
  | [], _ => by simp [lens]
  | n :: ns, h => by
    have h1 := startL_length (h n (List.mem_cons_self ..))
    have h2 := lens_map_start ns fun m hm => h m (List.mem_cons_of_mem _ hm)
    rw [List.map_cons, lens_cons, List.length_cons]
    omega
end Go.Proofs.Ytbjpianbeebmeab
