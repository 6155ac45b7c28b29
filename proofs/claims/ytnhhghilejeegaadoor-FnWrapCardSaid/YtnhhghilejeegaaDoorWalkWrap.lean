/-
  The walk of the law on samples: rings, and numbers restored from their decimal forms.
-/
import Derived.Test.YtnhhghilejeegaaDoorWrapA
import Derived.Test.YtnhhghilejeegaaDoorTxt
import Derived.Lib.ItoaLen
namespace Go.Proofs.YtnhhghilejeegaaDoor
open Go.ChangeShapes Go.WideShapes Go.ChangeAt Go.RowKit Go.Sort
set_option linter.unusedVariables false

theorem smp_addl' (a b : Int) : smp (smp a + b) = smp (a + b) := by unfold smp; omega
theorem smp_addr' (a b : Int) : smp (a + smp b) = smp (a + b) := by unfold smp; omega
theorem smp_mull' (a b : Int) : smp (smp a * b) = smp (a * b) := by
  obtain ⟨k, hk⟩ := smp_mod a
  rw [hk]
  refine smp_eq ?_
  rw [show (a + 4294967296 * k) * b - a * b = 4294967296 * (k * b) by rw [Int.add_mul, Int.mul_assoc]; omega]
  exact Int.mul_emod_right _ _
theorem smp_mulr' (a b : Int) : smp (a * smp b) = smp (a * b) := by rw [Int.mul_comm, smp_mull', Int.mul_comm]
/-- a number's text is read as it -/
theorem readBack_any {x : Int} (hx : small18 x) (w : World) (hT : TxtT w) (hE : TxtE w) :
    Calls Tryd.prog 15 #[.string ⟨(Lib.itoa x).toArray⟩] w fun e w' => e = .returned (.tuple #[.int .i64 x, .bool true]) ∧ Below w.heap.size w w' := by
  have hl := Lib.itoa_length_le x (by unfold small18 at hx; omega) (by unfold small18 at hx; omega)
  have hs : (⟨(Lib.itoa x).toArray⟩ : ByteArray).size ≤ 281474976710656 := by
    have : (⟨(Lib.itoa x).toArray⟩ : ByteArray).size = (Lib.itoa x).length := by simp [ByteArray.size]
    omega
  have h := readDecimal_any ⟨(Lib.itoa x).toArray⟩ hs w hT hE
  have e1 : (⟨(Lib.itoa x).toArray⟩ : ByteArray).data.toList = Lib.itoa x := by simp
  rwa [e1, decV_some (readDec_itoa hx)] at h
theorem small18_smp {x : Int} (h : isSmp x = true) : small18 x := by
  have := isSmp_iff.1 h
  unfold small18
  omega
set_option maxHeartbeats 8000000 in
set_option maxRecDepth 100000 in
theorem fnWrap_walk (w : World) {v0 v1 : Value} {xs ys : List Int} (h0 : VB w v0 xs) (m0 : xs.length ≤ maxLen) (h1 : VB w v1 ys) (m1 : ys.length ≤ maxLen) (hT : TxtT w) (hE : TxtE w) :
    Calls Tryd.prog 3 #[v0, v1] w fun e w' => e = .returned (.bool true) ∧ Below w.heap.size w w' := by
  obtain ⟨p, c, rfl, r0⟩ := h0
  obtain ⟨q, d, rfl, r1⟩ := h1
  have L0 := Lib.hid (b10Long_any p xs.length c w m0)
  have L1 := Lib.hid (b10Long_any q ys.length d w m1)
  by_cases hl : (1048576 : Int) < (xs.length : Int)
  · rw [decide_eq_true hl] at L0
    clear hl
    go_enter Tryd.func3, Tryd.ntmps3
    go_wp2_with (first | (go_at_call 9; refine L0.out.mono ?_; rintro e w' ⟨rfl, hw⟩; rw [hw]) | fail)
    go_ret
    exact ⟨rfl, Below.refl _ _⟩
  rw [decide_eq_false hl] at L0
  by_cases hm : (1048576 : Int) < (ys.length : Int)
  · rw [decide_eq_true hm] at L1
    clear hl hm
    go_enter Tryd.func3, Tryd.ntmps3
    go_wp2_with (first | (go_at_call 9; refine L0.out.mono ?_; rintro e w' ⟨rfl, hw⟩; rw [hw]) | (go_at_call 9; refine L1.out.mono ?_; rintro e w' ⟨rfl, hw⟩; rw [hw]) | fail)
    go_ret
    exact ⟨rfl, Below.refl _ _⟩
  rw [decide_eq_false hm] at L1
  have D0 := Lib.hid (drawWrapAdd_any (c := c) w r0 (by omega))
  have D1 : Hid (∀ W, Below w.heap.size w W → Calls Tryd.prog 11 #[.slice q ys.length d] W (Draw2 W)) := fun W hW => drawWrapMul_any (c := d) W (r1.below hW) (by omega)
  clear hl hm r0 r1 m0 m1
  go_enter Tryd.func3, Tryd.ntmps3
  go_wp2_with (first | (go_at_call 9; refine L0.out.mono ?_; rintro e w' ⟨rfl, hw⟩; rw [hw]) | (go_at_call 9; refine L1.out.mono ?_; rintro e w' ⟨rfl, hw⟩; rw [hw]) | fail)
  refine D0.out.mono ?_
  rintro e E1 ⟨a, b, ha, hb, rfl, hB1⟩
  go_wp2_with fail
  refine (D1.out E1 hB1).mono ?_
  rintro e E2 ⟨z, c', hz, hc', rfl, hB2⟩
  have hB : Below w.heap.size w E2 := hB1.trans (hB2.mono hB1.size)
  have hT2 := hT.below hB
  have hE2 := hE.below hB
  clear L0 L1 D0 D1 hT hE hB1 hB2 hc'
  have A1 : Hid (∀ W, Calls Tryd.prog 12 #[.int .i64 a, .int .i64 b] W fun e w' => e = .returned (.int .i64 (smp (a + b))) ∧ w' = W) := fun W => iwrapAdd_any a b W
  have A2 : Hid (∀ W, Calls Tryd.prog 12 #[.int .i64 b, .int .i64 a] W fun e w' => e = .returned (.int .i64 (smp (a + b))) ∧ w' = W) := fun W => by rw [Int.add_comm]; exact iwrapAdd_any b a W
  have M1 : Hid (∀ W, Calls Tryd.prog 13 #[.int .i64 a, .int .i64 b] W fun e w' => e = .returned (.int .i64 (smp (a * b))) ∧ w' = W) := fun W => iwrapMul_any a b W
  have M2 : Hid (∀ W, Calls Tryd.prog 13 #[.int .i64 b, .int .i64 a] W fun e w' => e = .returned (.int .i64 (smp (a * b))) ∧ w' = W) := fun W => by rw [Int.mul_comm]; exact iwrapMul_any b a W
  have A3 : Hid (∀ W, Calls Tryd.prog 12 #[.int .i64 (smp (a + b)), .int .i64 z] W fun e w' => e = .returned (.int .i64 (smp (a + b + z))) ∧ w' = W) := fun W => by have := iwrapAdd_any (smp (a + b)) z W; rwa [smp_addl'] at this
  have A4 : Hid (∀ W, Calls Tryd.prog 12 #[.int .i64 b, .int .i64 z] W fun e w' => e = .returned (.int .i64 (smp (b + z))) ∧ w' = W) := fun W => iwrapAdd_any _ _ W
  have A5 : Hid (∀ W, Calls Tryd.prog 12 #[.int .i64 a, .int .i64 (smp (b + z))] W fun e w' => e = .returned (.int .i64 (smp (a + b + z))) ∧ w' = W) := fun W => by have := iwrapAdd_any a (smp (b + z)) W; rwa [smp_addr', ← Int.add_assoc] at this
  have M3 : Hid (∀ W, Calls Tryd.prog 13 #[.int .i64 (smp (a * b)), .int .i64 z] W fun e w' => e = .returned (.int .i64 (smp (a * b * z))) ∧ w' = W) := fun W => by have := iwrapMul_any (smp (a * b)) z W; rwa [smp_mull'] at this
  have M4 : Hid (∀ W, Calls Tryd.prog 13 #[.int .i64 b, .int .i64 z] W fun e w' => e = .returned (.int .i64 (smp (b * z))) ∧ w' = W) := fun W => iwrapMul_any _ _ W
  have M5 : Hid (∀ W, Calls Tryd.prog 13 #[.int .i64 a, .int .i64 (smp (b * z))] W fun e w' => e = .returned (.int .i64 (smp (a * b * z))) ∧ w' = W) := fun W => by have := iwrapMul_any a (smp (b * z)) W; rwa [smp_mulr', ← Int.mul_assoc] at this
  have M6 : Hid (∀ W, Calls Tryd.prog 13 #[.int .i64 a, .int .i64 (smp (b + z))] W fun e w' => e = .returned (.int .i64 (smp (a * b + a * z))) ∧ w' = W) := fun W => by have := iwrapMul_any a (smp (b + z)) W; rwa [smp_mulr', Int.mul_add] at this
  have M7 : Hid (∀ W, Calls Tryd.prog 13 #[.int .i64 a, .int .i64 z] W fun e w' => e = .returned (.int .i64 (smp (a * z))) ∧ w' = W) := fun W => iwrapMul_any _ _ W
  have A6 : Hid (∀ W, Calls Tryd.prog 12 #[.int .i64 (smp (a * b)), .int .i64 (smp (a * z))] W fun e w' => e = .returned (.int .i64 (smp (a * b + a * z))) ∧ w' = W) := fun W => by have := iwrapAdd_any (smp (a * b)) (smp (a * z)) W; rwa [smp_addl', smp_addr'] at this
  have M8 : Hid (∀ W, Calls Tryd.prog 13 #[.int .i64 (-1), .int .i64 a] W fun e w' => e = .returned (.int .i64 (smp (-1 * a))) ∧ w' = W) := fun W => iwrapMul_any _ _ W
  have A7 : Hid (∀ W, Calls Tryd.prog 12 #[.int .i64 a, .int .i64 (smp (-1 * a))] W fun e w' => e = .returned (.int .i64 0) ∧ w' = W) := fun W => by
    have := iwrapAdd_any a (smp (-1 * a)) W
    rwa [smp_addr', show a + -1 * a = 0 by omega, show smp 0 = 0 from rfl] at this
  have WW : Hid (∀ W, Calls Tryd.prog 14 #[.int .i64 a] W fun e w' => e = .returned (.int .i64 (smp a)) ∧ w' = W) := fun W => Calls.turn (implWrap_any a W)
  have W2 : Hid (∀ W, Calls Tryd.prog 14 #[.int .i64 (smp a)] W fun e w' => e = .returned (.int .i64 (smp a)) ∧ w' = W) := fun W => by
    have := Calls.turn (implWrap_any (smp a) W)
    rwa [smp_smp] at this
  have A8 : Hid (∀ W, Calls Tryd.prog 12 #[.int .i64 a, .int .i64 0] W fun e w' => e = .returned (.int .i64 (smp a)) ∧ w' = W) := fun W => by
    have := iwrapAdd_any a 0 W
    rwa [Int.add_zero] at this
  have M9 : Hid (∀ W, Calls Tryd.prog 13 #[.int .i64 a, .int .i64 1] W fun e w' => e = .returned (.int .i64 (smp a)) ∧ w' = W) := fun W => by
    have := iwrapMul_any a 1 W
    rwa [Int.mul_one] at this
  have VS : Hid (∀ W, Calls Tryd.prog 17 #[.int .i64 (smp a)] W fun e w' => e = .returned (.bool true) ∧ w' = W) := fun W => by
    have := validSample_any (smp a) W
    rwa [smp_isSmp] at this
  have DD : Hid (∀ W, TxtT W → Calls Tryd.prog 16 #[.int .i64 (smp a)] W fun e w' => e = .returned (.string ⟨(Lib.itoa (smp a)).toArray⟩) ∧ Below W.heap.size W w') := fun W hW => decimal_any _ (by have := smp_bounds a; omega) (by have := smp_bounds a; omega) W hW
  have RD : Hid (∀ W, TxtT W → TxtE W → Calls Tryd.prog 15 #[.string ⟨(Lib.itoa (smp a)).toArray⟩] W fun e w' => e = .returned (.tuple #[.int .i64 (smp a), .bool true]) ∧ Below W.heap.size W w') := fun W h1 h2 => readBack_any (small18_smp (smp_isSmp a)) W h1 h2
  have hmod : (wrap64 (a - smp a)).tmod 4294967296 = 0 := by
    refine Int.tmod_eq_zero_of_dvd ?_
    unfold wrap64 smp
    omega
  generalize Lib.itoa (smp a) = tx at DD RD
  have HI := Lib.hid (smp_bounds a)
  have HA := Lib.hid ha
  clear ha hb hz
  generalize smp (a + b + z) = y1 at *
  generalize smp (a * b * z) = y2 at *
  generalize smp (a * b + a * z) = y3 at *
  generalize smp (a * b) = y4 at *
  generalize smp (a * z) = y5 at *
  generalize smp (a + b) = y6 at *
  generalize smp (b + z) = y7 at *
  generalize smp (b * z) = y8 at *
  generalize smp (-1 * a) = y9 at *
  generalize smp a = x at *
  go_wp2_with (first
    | (go_at_call 12; (first | (with_reducible refine (A1.out _).mono ?_) | (with_reducible refine (A2.out _).mono ?_) | (with_reducible refine (A3.out _).mono ?_) | (with_reducible refine (A4.out _).mono ?_) | (with_reducible refine (A5.out _).mono ?_) | (with_reducible refine (A6.out _).mono ?_) | (with_reducible refine (A7.out _).mono ?_) | (with_reducible refine (A8.out _).mono ?_)); rintro e w' ⟨rfl, hw⟩; rw [hw])
    | (go_at_call 13; (first | (with_reducible refine (M1.out _).mono ?_) | (with_reducible refine (M2.out _).mono ?_) | (with_reducible refine (M3.out _).mono ?_) | (with_reducible refine (M4.out _).mono ?_) | (with_reducible refine (M5.out _).mono ?_) | (with_reducible refine (M6.out _).mono ?_) | (with_reducible refine (M7.out _).mono ?_) | (with_reducible refine (M8.out _).mono ?_) | (with_reducible refine (M9.out _).mono ?_)); rintro e w' ⟨rfl, hw⟩; rw [hw])
    | (go_at_call 14; (first | (with_reducible refine (WW.out _).mono ?_) | (with_reducible refine (W2.out _).mono ?_)); rintro e w' ⟨rfl, hw⟩; rw [hw])
    | (go_at_call 17; refine (VS.out _).mono ?_; rintro e w' ⟨rfl, hw⟩; rw [hw])
    | (go_at_call 16; refine (DD.out _ hT2).mono ?_; rintro e E3 ⟨rfl, hB3⟩)
    | (go_at_call 15; refine (RD.out _ (hT2.below hB3) (hE2.below hB3)).mono ?_; rintro e E4 ⟨rfl, hB4⟩)
    | fail)
  go_ret
  exact ⟨rfl, hB.trans ((hB3.trans (hB4.mono hB3.size)).mono hB.size)⟩
end Go.Proofs.YtnhhghilejeegaaDoor
