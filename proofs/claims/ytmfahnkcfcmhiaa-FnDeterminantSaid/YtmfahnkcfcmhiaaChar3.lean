/-
  CharPoly and Determinant: contracts of both sides.
-/
import Derived.Test.YtmfahnkcfcmhiaaChar2
namespace Go.Proofs.Ytmfahnkcfcmhiaa
open Go.ChangeShapes Go.WideShapes Go.ChangeAt Go.RowKit
set_option linter.unusedVariables false
set_option linter.unusedSimpArgs false

def chpCode (a : List (List Int)) : Int := if matB a then 0 else 1
def chpRes (a : List (List Int)) : List Int := if matB a then (chp a a.length).reverse else []
def detLast (a : List (List Int)) : Int := (chp a a.length).getD a.length 0
def detVal (a : List (List Int)) : Int := if matB a then (if a.length % 2 = 1 then smp (-(detLast a)) else detLast a) else 0
theorem chpRes_small (a : List (List Int)) : cntI (chpRes a) ≤ 1048576 := by
  unfold cntI chpRes
  split
  · rename_i h
    have := (matB_iff.1 h).1
    rw [List.length_reverse, chp_length]; omega
  · simp
/-- a list of the call's own, and a code -/
def RetI (w : World) (xs : List Int) (code : Int) (e : Ending) (w' : World) : Prop := ∃ u L, e = .returned (.tuple #[u, .int .i64 code]) ∧ OwnLI w.heap.size w' u xs L ∧ Dis L ∧ Below w.heap.size w w'
theorem OwnLI.nilv (B : Nat) (w : World) : OwnLI B w (.slice none 0 0) [] [.slice none 0 0] := ⟨OwnI.nil _ _, rfl⟩
theorem chp_own {B : Nat} {w : World} {v : Value} {a : List (List Int)} (h : OwnI B w v (chp a a.length)) : ∃ g c, v = .slice (some ⟨g, 0, none⟩) (a.length + 1) c ∧ RdI w (some ⟨g, 0, none⟩) (chp a a.length) := by
  rcases h.cases with ⟨-, e0⟩ | ⟨g, c, e, -, -, -, hr⟩
  · have := chp_length a a.length; rw [e0] at this; simp at this
  · rw [chp_length] at e
    exact ⟨g, c, e, hr⟩
theorem implCharPoly_v {v : Value} {a : List (List Int)} (w : World) (h : VII w v a) :
    Calls Try.prog 8 #[v] w (RetI w (chpRes a) (chpCode a)) := by
  obtain ⟨p, c, rfl, h⟩ := h
  have hl1 := h.len
  unfold maxLen at hl1
  unfold chpCode chpRes
  cases ha : matB a
  case false =>
    go_enter Try.func8, Try.ntmps8
    go_wp2_with (go_at_call 16; refine (isMatrix_any _ h).mono ?_; rintro e w' ⟨rfl, rfl⟩)
    go_ret2
    exact ⟨_, _, rfl, OwnLI.nilv _ _, List.pairwise_singleton _ _, Below.refl _ _⟩
  have HA := Lib.hid ha
  have hl2 := (matB_iff.1 ha).1
  go_enter Try.func8, Try.ntmps8
  go_wp2_with (go_at_call 16; refine (isMatrix_any _ h).mono ?_; rintro e w' ⟨rfl, rfl⟩)
  refine (implCharPolyL_any _ h HA.out).mono ?_
  rintro e w1 ⟨u, rfl, ho, hb⟩
  obtain ⟨g, c1, rfl, hr⟩ := chp_own ho
  have hT : Hid (Calls Try.prog 23 #[.slice (some ⟨g, 0, none⟩) (a.length + 1) c1] w1 fun e w' => ∃ v, e = .returned v ∧ OwnI w1.heap.size w' v (chp a a.length).reverse ∧ Below w1.heap.size w1 w') := by
    have := reversed_any (c := c1) w1 hr (by rw [chp_length]; omega)
    rwa [chp_length] at this
  go_wp2_with (go_at_call 23; refine hT.out.mono ?_; rintro e w2 ⟨u2, rfl, ho2, hb2⟩)
  go_ret2
  exact ⟨_, _, rfl, ⟨ho2.mono hb.size, rfl⟩, List.pairwise_singleton _ _, hb.trans (hb2.mono hb.size)⟩
theorem odd_emod (n : Nat) : ((n : Int) % 2 == 1) = decide (n % 2 = 1) := by
  rw [Bool.eq_iff_iff, beq_iff_eq, decide_eq_true_iff]
  omega
theorem implDeterminant_v {v : Value} {a : List (List Int)} (w : World) (h : VII w v a) :
    Calls Try.prog 6 #[v] w fun e w' => e = .returned (.tuple #[.int .i64 (detVal a), .int .i64 (chpCode a)]) ∧ Below w.heap.size w w' := by
  obtain ⟨p, c, rfl, h⟩ := h
  have hl1 := h.len
  unfold maxLen at hl1
  unfold chpCode detVal
  cases ha : matB a
  case false =>
    go_enter Try.func6, Try.ntmps6
    go_wp2_with (go_at_call 16; refine (isMatrix_any _ h).mono ?_; rintro e w' ⟨rfl, rfl⟩)
    go_ret2
    exact ⟨rfl, Below.refl _ _⟩
  have HA := Lib.hid ha
  have hl2 := (matB_iff.1 ha).1
  go_enter Try.func6, Try.ntmps6
  go_wp2_with (go_at_call 16; refine (isMatrix_any _ h).mono ?_; rintro e w' ⟨rfl, rfl⟩)
  refine (implCharPolyL_any _ h HA.out).mono ?_
  rintro e w1 ⟨u, rfl, ho, hb⟩
  obtain ⟨g, c1, rfl, hr⟩ := chp_own ho
  obtain ⟨b2, o2, e2, -, hc2⟩ := hr.pos (k := a.length) (by rw [chp_length]; omega)
  simp only [Option.some.injEq, Addr.mk.injEq, and_true] at e2
  obtain ⟨rfl, rfl⟩ := e2
  have hcx := hc2 a.length (by rw [chp_length]; omega)
  rw [Nat.zero_add] at hcx
  have HX : Hid (detLast a = (chp a a.length)[a.length]'(by rw [chp_length]; omega)) := getD_of_lt 0 (by rw [chp_length]; omega)
  generalize (chp a a.length)[a.length]'(by rw [chp_length]; omega) = x at hcx HX
  clear hc2
  by_cases hodd : a.length % 2 = 1
  · have h2 : ((a.length : Int) % 2 == 1) = true := by rw [odd_emod]; exact decide_eq_true hodd
    have HO := Lib.hid hodd
    clear hodd ha
    go_wp2_with (go_at_call 21; refine (implWrap_any _ _).mono ?_; rintro e w' ⟨rfl, rfl⟩)
    go_ret2
    exact ⟨by rw [HX.out, ← smp_wrap64 (-x)]; rfl, hb⟩
  · have h2 : ((a.length : Int) % 2 == 1) = false := by rw [odd_emod]; exact decide_eq_false hodd
    have HO := Lib.hid hodd
    clear hodd ha
    go_wp2_with fail
    go_ret2
    exact ⟨by rw [HX.out]; rfl, hb⟩
end Go.Proofs.Ytmfahnkcfcmhiaa
