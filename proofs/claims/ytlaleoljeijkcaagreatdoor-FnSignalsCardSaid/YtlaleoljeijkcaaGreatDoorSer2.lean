/-
  Series: quotients: contracts.
-/
import Derived.Test.YtlaleoljeijkcaaGreatDoorSerT
namespace Go.Proofs.YtlaleoljeijkcaaGreatDoor
open Go.ChangeShapes Go.WideShapes Go.ChangeAt Go.RowKit
set_option linter.unusedVariables false
set_option linter.unusedSimpArgs false

def RdP (w : World) (v : Value) (xs : List Int) : Prop := ∃ p c, v = .slice p xs.length c ∧ RdI w p xs ∧ xs.length ≤ c
theorem RdP.below {w w' : World} {v : Value} {xs : List Int} (h : RdP w v xs) (hb : Below w.heap.size w w') : RdP w' v xs := by
  obtain ⟨p, c, rfl, hr, hc⟩ := h
  exact ⟨p, c, rfl, hr.below hb, hc⟩
theorem OwnI.rdP {B : Nat} {w : World} {v : Value} {xs : List Int} (h : OwnI B w v xs) : RdP w v xs := by
  have hh := h
  obtain ⟨p, c, rfl, hr⟩ := hh.rd
  exact ⟨p, c, rfl, hr, h.cap⟩
theorem OwnI.rdAt {B : Nat} {w : World} {p : Option Addr} {n c : Nat} {xs : List Int} (h : OwnI B w (.slice p n c) xs) : n = xs.length ∧ RdI w p xs := by
  obtain ⟨q, d, e, hr⟩ := h.rd
  simp only [Value.slice.injEq] at e
  obtain ⟨rfl, rfl, -⟩ := e
  exact ⟨rfl, hr⟩
/-- a literal of two slices -/
theorem rdII_two {w : World} {p q : Option Addr} {c d : Nat} {xs ys : List Int} (h1 : RdI w p xs) (h2 : RdI w q ys) (k1 : xs.length ≤ c) (k2 : ys.length ≤ d) :
    RdII (w.alloc (.cells #[.slice p xs.length c, .slice q ys.length d] 24)) (some ⟨w.heap.size, 0, none⟩) [xs, ys] := by
  have hb : Below w.heap.size w (w.alloc (.cells #[.slice p xs.length c, .slice q ys.length d] 24)) := (Below.refl _ _).alloc (Nat.le_refl _) _
  have bx := Box.newAt w [.slice p xs.length c, .slice q ys.length d] 24 rfl
  have z0 := bx.cell 0 rfl
  have z1 := bx.cell 1 rfl
  refine ⟨by simp [maxLen], .inr ⟨w.heap.size, 0, rfl, fun i hi => ?_⟩, fun b o i r l m hp hi hc => ?_⟩
  · simp at hi
    rcases (show i = 0 ∨ i = 1 by omega) with rfl | rfl
    · exact ⟨p, c, z0, h1.below hb⟩
    · exact ⟨q, d, z1, h2.below hb⟩
  · simp only [Option.some.injEq, Addr.mk.injEq, and_true] at hp
    obtain ⟨rfl, rfl⟩ := hp
    simp at hi
    rcases (show i = 0 ∨ i = 1 by omega) with rfl | rfl
    · have e := z0.symm.trans hc
      simp only [Option.some.injEq, Value.slice.injEq] at e
      omega
    · have e := z1.symm.trans hc
      simp only [Option.some.injEq, Value.slice.injEq] at e
      omega
end Go.Proofs.YtlaleoljeijkcaaGreatDoor
