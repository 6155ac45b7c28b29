/-
  The characteristic polynomial: the reference's function; the contracts of CharPoly and Determinant on both sides.
-/
import Derived.Test.YtmfahnkcfcmhiaaChar
namespace Go.Proofs.Ytmfahnkcfcmhiaa
open Go.ChangeShapes Go.WideShapes Go.ChangeAt Go.RowKit
set_option linter.unusedVariables false
set_option linter.unusedSimpArgs false

theorem RdII.of_ownV {B : Nat} {w : World} {v : Value} {L : List Value} {xss : List (List Int)} (h : OwnV B w 31 v L) (hl : L.length = xss.length)
    (hx : ∀ i, (hi : i < xss.length) → ∃ q c, L[i]? = some (.slice q xss[i].length c) ∧ RdI w q xss[i] ∧ xss[i].length ≤ c) : ∃ p c, v = .slice p xss.length c ∧ RdII w p xss := by
  rcases h.cases with ⟨rfl, rfl⟩ | ⟨g, cap, rfl, _, _, _, hr⟩
  · have : xss = [] := List.eq_nil_of_length_eq_zero hl.symm
    subst this
    exact ⟨none, 0, rfl, RdII.nil _ _⟩
  · refine ⟨_, cap, by rw [hl], ⟨by rw [← hl]; exact hr.len, ?_, fun b o i q l c hp hi hcl => ?_⟩⟩
    rotate_left
    · obtain ⟨b', o', e', _, hc'⟩ := hr.pos (k := i) (by rw [hl]; exact hi)
      rw [hp] at e'
      simp only [Option.some.injEq, Addr.mk.injEq, and_true] at e'
      obtain ⟨rfl, rfl⟩ := e'
      obtain ⟨q', c', h1, _, h3⟩ := hx i hi
      rw [List.getElem?_eq_getElem (by rw [hl]; exact hi), Option.some.injEq] at h1
      rw [hc' i (by rw [hl]; exact hi), h1, Option.some.injEq, Value.slice.injEq] at hcl
      omega
    rcases hr.cells with rfl | ⟨b, o, e, hc⟩
    · left
      exact List.eq_nil_of_length_eq_zero hl.symm
    · right
      refine ⟨b, o, e, fun i hi => ?_⟩
      obtain ⟨q, c, h1, h2, _⟩ := hx i hi
      rw [List.getElem?_eq_getElem (by rw [hl]; exact hi), Option.some.injEq] at h1
      exact ⟨q, c, by rw [hc i (by rw [hl]; exact hi), h1], h2⟩
theorem rdII_one {w : World} {q : Option Addr} {c : Nat} {xs : List Int} (h : RdI w q xs) (hc : xs.length ≤ c) : RdII (w.alloc (.cells #[.slice q xs.length c] 31)) (some ⟨w.heap.size, 0, none⟩) [xs] := by
  refine ⟨by simp [maxLen], .inr ⟨w.heap.size, 0, rfl, fun i hi => ?_⟩, fun b o i q' l c' hp hi hcl => ?_⟩
  · simp at hi
    subst hi
    refine ⟨q, c, by rw [World.cell?_alloc_at _ _ _ _ rfl]; rfl, h.below ((Below.refl _ _).alloc (Nat.le_refl _) _)⟩
  · simp at hi
    subst hi
    simp only [Option.some.injEq, Addr.mk.injEq, and_true] at hp
    obtain ⟨rfl, rfl⟩ := hp
    rw [World.cell?_alloc_at _ _ _ _ rfl] at hcl
    simp at hcl
    omega
/-- the leading rows' beginnings -/
def chPartR (a : List (List Int)) (r m : Nat) : List (List Int) := (a.take m).map fun row => row.take r
theorem timesL_part (a : List (List Int)) (r : Nat) (s : List Int) (hs : s.length = r) : timesL (chPartR a r r) s = chStep a r s := by
  unfold timesL chPartR chStep
  rw [List.map_map]
  refine List.map_congr_left fun x _ => ?_
  simp only [Function.comp, hs]
  exact dotN_take _ _ (Nat.le_refl _)
theorem timesL_one (row : List Int) (r : Nat) (s : List Int) (hs : s.length = r) : timesL [row.take r] s = [dotN row s r] := by
  simp only [timesL, List.map_cons, List.map_nil, hs]
  rw [dotN_take _ _ (Nat.le_refl _)]
/-- the values of L are the leading rows' beginnings, as they lie in w -/
def PartL (w : World) (L : List Value) (a : List (List Int)) (r m : Nat) : Prop := L.length = m ∧ ∀ i, (hi : i < a.length) → i < m → ∃ q c, L[i]? = some (.slice q r c) ∧ RdI w q (a[i].take r) ∧ r ≤ c
theorem PartL.snoc {w : World} {L : List Value} {a : List (List Int)} {r m : Nat} (h : PartL w L a r m) (hm : m < a.length) {q : Option Addr} {c : Nat} (hr : RdI w q (a[m].take r)) (hc : r ≤ c) : PartL w (L ++ [.slice q r c]) a r (m + 1) := by
  refine ⟨by simp [h.1], fun i hi him => ?_⟩
  by_cases e : i < m
  · obtain ⟨q', c', h1, h2⟩ := h.2 i hi e
    exact ⟨q', c', by rw [List.getElem?_append_left (by rw [h.1]; exact e), h1], h2⟩
  · obtain rfl : i = m := by omega
    exact ⟨q, c, by rw [List.getElem?_append_right (by rw [h.1]; exact Nat.le_refl _), h.1]; simp, hr, hc⟩
theorem PartL.rd {B : Nat} {w w' : World} {v : Value} {L : List Value} {a : List (List Int)} {r : Nat} (h : PartL w L a r r) (hv : OwnV B w' 31 v L) (hb : Below w.heap.size w w') (hr : r ≤ a.length) (hl : ∀ (i : Nat) (hi : i < a.length), a[i].length = a.length) :
    ∃ p c, v = .slice p r c ∧ RdII w' p (chPartR a r r) := by
  have e : (chPartR a r r).length = r := by simp [chPartR]; omega
  have := RdII.of_ownV (xss := chPartR a r r) hv (by rw [h.1, e]) fun i hi => by
    obtain ⟨q, c, h1, h2, h3⟩ := h.2 i (by omega) (by omega)
    have e2 : (chPartR a r r)[i] = a[i].take r := by simp [chPartR]
    have e3 : (a[i].take r).length = r := by rw [List.length_take, hl i (by omega)]; omega
    rw [e2]
    exact ⟨q, c, by rw [e3]; exact h1, h2.below hb, by omega⟩
  rwa [e] at this
theorem OwnV.ne_int {B B' : Nat} {w : World} {v u : Value} {L : List Value} {xs : List Int} (h : OwnV B w 31 v L) (hu : OwnI B' w u xs) {k : Nat} (hk : v.ownBlock = some k) : u.ownBlock ≠ some k := fun e =>
  h.off (by decide) (OwnIs.snoc (OwnIs.nil B' w) hu) hk ⟨u, by simp, e⟩
end Go.Proofs.Ytmfahnkcfcmhiaa
