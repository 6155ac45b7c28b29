/-
  The output and the next state of a node, in plain Lean; the reference's output for all kinds.
-/
import Derived.Test.YtdcacmmglkcliaaGreatDoorOut
import Derived.Test.YtdcacmmglkcliaaGreatDoorNode3
import Derived.Test.YtdcacmmglkcliaaGreatDoorPatM
namespace Go.Proofs.YtdcacmmglkcliaaGreatDoor
open Go.ChangeShapes Go.WideShapes Go.ChangeAt Go.RowKit Go.Sort
set_option linter.unusedVariables false

/-- the sample of a table that x chooses -/
def lookP (t : List Int) (x : Int) : Int := t.getD (((t.length : Int) * (x % 4294967296)) / 4294967296).toNat 0
def outK (k : Nat) (A : Int) (tb : List (List Int)) (xs ss : List Int) : Int :=
  match k with
  | 1 => xs.getD 0 0
  | 2 => A
  | 3 => smp (xs.getD 0 0 + xs.getD 1 0)
  | 4 => smp (xs.getD 0 0 - xs.getD 1 0)
  | 5 => smp (A * xs.getD 0 0)
  | 6 => ss.getD 0 0
  | 7 => smp (ss.getD 0 0 + xs.getD 0 0)
  | 8 => smp (xs.getD 0 0 - ss.getD 0 0)
  | 9 => smp (xs.getD 0 0 * xs.getD 1 0)
  | 10 => xs.getD 0 0 / 2 ^ A.toNat
  | 11 => max (-A) (min (xs.getD 0 0) A)
  | 12 => ss.getD 0 0
  | 13 => lookP (tb.getD A.toNat []) (xs.getD 0 0)
  | 14 => ss.getD 0 0
  | 15 => if 0 ≤ xs.getD 0 0 then xs.getD 1 0 else xs.getD 2 0
  | 16 => if 0 < xs.getD 1 0 then xs.getD 0 0 else ss.getD 0 0
  | _ => smp (xs.getD 0 0 + smp (A * ss.getD 0 0))
/-- the output of a node -/
def outP (x : NodeD) (tb : List (List Int)) (xs ss : List Int) : Int := outK x.kind.toNat x.a tb xs ss
def nextK (k : Nat) (xs ss : List Int) (y : Int) : List Int :=
  match k with
  | 6 => ss.drop 1 ++ [xs.getD 0 0]
  | 17 => ss.drop 1 ++ [y]
  | 7 => [y]
  | 16 => [y]
  | 8 => [xs.getD 0 0]
  | 12 => [smp (ss.getD 0 0 + xs.getD 0 0)]
  | 14 => [noiseP (ss.getD 0 0)]
  | _ => []
/-- the next state of a node with the output y -/
def nextP (x : NodeD) (xs ss : List Int) (y : Int) : List Int := nextK x.kind.toNat xs ss y
/-- so many samples a node gets -/
def inN (x : NodeD) : Int := if x.kind = 1 then 1 else kAr (x.kind - 1).toNat
/-- what the output asks of its arguments -/
structure OutOk (x : NodeD) (tb : List (List Int)) (xs ss : List Int) : Prop where
  k : inB x.kind 1 17 = true
  n : (xs.length : Int) = inN x
  s : x.kind = 6 ∨ x.kind = 7 ∨ x.kind = 8 ∨ x.kind = 12 ∨ x.kind = 14 ∨ x.kind = 16 ∨ x.kind = 17 → 1 ≤ ss.length
  smps : ∀ y ∈ xs, -2147483648 ≤ y ∧ y ≤ 2147483647
  clip : x.kind = 11 → 0 ≤ x.a ∧ x.a ≤ 2147483647
  shift : x.kind = 10 → 0 ≤ x.a ∧ x.a ≤ 31
  tab : x.kind = 13 → 0 ≤ x.a ∧ x.a < (tb.length : Int) ∧ ∀ t ∈ tb, 1 ≤ t.length ∧ t.length ≤ 16
theorem RdI.at0 {w : World} {p : Option Addr} {xs : List Int} (h : RdI w p xs) (h1 : 1 ≤ xs.length) : ∃ b o, p = some ⟨b, o, none⟩ ∧ b < w.heap.size ∧ ∀ i, i < xs.length → w.cell? ⟨b, o + i, none⟩ = some (.int .i64 (xs.getD i 0)) := by
  obtain ⟨b, o, e, hb, hc⟩ := h.pos (k := 0) (by omega)
  refine ⟨b, o, e, hb, fun i hi => ?_⟩
  rw [hc i hi, List.getD_eq_getElem?_getD, List.getElem?_eq_getElem hi]
  rfl
theorem getD_mem {xs : List Int} {i : Nat} (h : i < xs.length) : xs.getD i 0 ∈ xs := by
  rw [List.getD_eq_getElem?_getD, List.getElem?_eq_getElem h]
  exact List.getElem_mem h
theorem RdII.at0 {w : World} {p : Option Addr} {xss : List (List Int)} (h : RdII w p xss) {k : Nat} (hk : k < xss.length) : ∃ b o q c, p = some ⟨b, o, none⟩ ∧ b < w.heap.size ∧ w.cell? ⟨b, o + k, none⟩ = some (.slice q (xss.getD k []).length c) ∧ RdI w q (xss.getD k []) := by
  obtain ⟨b, o, e, hb, hc⟩ := h.pos hk
  obtain ⟨q, c, h1, h2⟩ := hc k hk
  have e2 : xss.getD k [] = xss[k] := by rw [List.getD_eq_getElem?_getD, List.getElem?_eq_getElem hk]; rfl
  rw [← e2] at h1 h2
  exact ⟨b, o, q, c, e, hb, h1, h2⟩
/-- the place in a table -/
def lookI (n : Nat) (x : Int) : Int := ((n : Int) * (x % 4294967296)) / 4294967296
theorem lookI_in {n : Nat} {x : Int} (h : 1 ≤ n) : 0 ≤ lookI n x ∧ lookI n x < n := by
  have h1 : 0 ≤ x % 4294967296 := Int.emod_nonneg _ (by decide)
  have h2 : x % 4294967296 < 4294967296 := Int.emod_lt_of_pos _ (by decide)
  have h3 : 0 ≤ (n : Int) * (x % 4294967296) := Int.mul_nonneg (by omega) h1
  have h4 : (n : Int) * (x % 4294967296) < (n : Int) * 4294967296 := Int.mul_lt_mul_of_pos_left h2 (by omega)
  unfold lookI
  generalize (n : Int) * (x % 4294967296) = m at *
  omega
end Go.Proofs.YtdcacmmglkcliaaGreatDoor
