/-
  Signals, the plain laws: a difference takes back a sum; multiples keep sums; a signal from its parts.
-/
import Derived.Test.YtlaleoljeijkcaaGreatDoorSgA
import Derived.Test.YtlaleoljeijkcaaGreatDoorPolyM
namespace Go.Proofs.YtlaleoljeijkcaaGreatDoor
set_option linter.unusedVariables false

theorem gd_out {a : List Int} {j : Nat} (h : a.length ≤ j) : a.getD j 0 = 0 := by rw [List.getD_eq_getElem?_getD, List.getElem?_eq_none h]; rfl
theorem gD_smp {a : List Int} (h : AllS a) (j : Nat) : smp (a.getD j 0) = a.getD j 0 := by
  by_cases hj : j < a.length
  · rw [getD_atA hj]; exact smp_id (h _ (List.getElem_mem hj))
  · rw [gd_out (by omega)]; rfl
theorem atl_allS (a b : List Int) (f : Int) (n : Nat) : AllS (atl a b f n) := by
  intro x hx
  unfold atl at hx
  obtain ⟨j, -, rfl⟩ := List.mem_map.1 hx
  exact smp_isSmp _
theorem sigB_atl (a b : List Int) (f : Int) {n : Nat} (hn : n ≤ 4000) : sigB (atl a b f n) = true := sigB_iff.2 ⟨atl_allS a b f n, by rw [atl_length]; exact hn⟩
theorem scL_length (a : List Int) (g : Int) : (scL a g).length = a.length := by unfold scL; exact atl_length _ _ _ _
theorem sigB_scL {a : List Int} (g : Int) (h : sigB a = true) : sigB (scL a g) = true := sigB_atl _ _ _ (sigB_iff.1 h).2
theorem scL_get (a : List Int) (g : Int) (j : Nat) : (scL a g).getD j 0 = smp (g * a.getD j 0) := by
  unfold scL
  rw [atl_get _ _ _ (by rw [List.length_replicate, Nat.max_self]; exact Nat.le_refl _)]
  have : (List.replicate a.length (0 : Int)).getD j 0 = 0 := by
    by_cases hj : j < a.length
    · rw [getD_atA (by rw [List.length_replicate]; exact hj)]; simp
    · exact gd_out (by rw [List.length_replicate]; omega)
  rw [this, Int.zero_add]
/-- what the law cuts out of a list: its first n values, zeros behind its end -/
theorem sig_back {a b : List Int} (ha : AllS a) {n : Nat} (hn : n = max a.length b.length) :
    atl (atl a b 1 n) b (-1) n = slL a 0 n := by
  unfold slL
  show (List.range n).map (fun j => smp ((atl a b 1 n).getD j 0 + -1 * b.getD j 0)) = _
  refine List.map_congr_left fun j hj => ?_
  simp only [Nat.zero_add]
  rw [atl_get a b 1 (by omega), smp_left, show a.getD j 0 + 1 * b.getD j 0 + -1 * b.getD j 0 = a.getD j 0 by omega]
  exact gD_smp ha j
theorem sig_scale (a b : List Int) (g : Int) {n : Nat} (hn : n = max a.length b.length) :
    scL (atl a b 1 n) g = atl (scL a g) (scL b g) 1 n := by
  have hl : (scL (atl a b 1 n) g).length = n := by rw [scL_length, atl_length]
  apply List.ext_getElem
  · rw [hl, atl_length]
  · intro j h1 h2
    rw [← getD_atA h1, ← getD_atA h2, scL_get, atl_get a b 1 (by omega), atl_get _ _ _ (by rw [scL_length, scL_length]; omega), scL_get, scL_get, smp_mulr, Int.one_mul, Int.one_mul, smp_left, smp_right, Int.mul_add]
theorem slL_part (a : List Int) (n : Nat) : slL (List.replicate n 0 ++ a) n a.length = a := by
  apply List.ext_getElem
  · exact slL_length _ _ _
  · intro j h1 h2
    simp only [slL, List.getElem_map, List.getElem_range]
    rw [getD_atA (by rw [List.length_append, List.length_replicate]; omega), List.getElem_append_right (by rw [List.length_replicate]; omega)]
    simp
theorem slL_join (a : List Int) {n : Nat} (hn : n ≤ a.length) : slL a 0 n ++ slL a n (a.length - n) = a := by
  apply List.ext_getElem
  · rw [List.length_append, slL_length, slL_length]; omega
  · intro j h1 h2
    by_cases hj : j < n
    · rw [List.getElem_append_left (by rw [slL_length]; exact hj)]
      simp only [slL, List.getElem_map, List.getElem_range]
      rw [getD_atA (by omega)]
      simp
    · rw [List.getElem_append_right (by rw [slL_length]; omega)]
      simp only [slL, List.getElem_map, List.getElem_range, List.length_map, List.length_range]
      rw [getD_atA (by omega)]
      congr 1
      omega
theorem slL_sig {a : List Int} (h : sigB a = true) (j : Nat) {n : Nat} (hn : n ≤ 4000) : sigB (slL a j n) = true := by
  refine sigB_iff.2 ⟨fun x hx => ?_, by rw [slL_length]; exact hn⟩
  unfold slL at hx
  obtain ⟨i, -, rfl⟩ := List.mem_map.1 hx
  rw [← gD_smp (sigB_iff.1 h).1]
  exact smp_isSmp _
theorem dl_sig {a : List Int} (h : sigB a = true) {n : Nat} (hn : n + a.length ≤ 4000) : sigB (List.replicate n 0 ++ a) = true := by
  refine sigB_iff.2 ⟨fun x hx => ?_, by rw [List.length_append, List.length_replicate]; exact hn⟩
  rcases List.mem_append.1 hx with h1 | h1
  · rw [(List.mem_replicate.1 h1).2]; decide
  · exact (sigB_iff.1 h).1 x h1
end Go.Proofs.YtlaleoljeijkcaaGreatDoor
