/-
  Fractions: making, validity, what is drawn: contracts of both sides.
-/
import Derived.Test.YtnhhghilejeegaaDoorFrac
import Derived.Deep.RegionWith
namespace Go.Proofs.YtnhhghilejeegaaDoor
open Go.ChangeShapes Go.WideShapes Go.ChangeAt Go.RowKit Go.Sort
set_option linter.unusedVariables false

theorem Calls.turn {P : Program} {f : FuncId} {args : Array Value} {w : World} {v : Value} (h : Calls P f args w fun e w' => e = .returned v ∧ w = w') : Calls P f args w fun e w' => e = .returned v ∧ w' = w :=
  h.mono fun _ _ ⟨a, b⟩ => ⟨a, b.symm⟩
/-! ### making a fraction with a positive denominator -/
def fg (n d : Int) : Nat := Nat.gcd n.natAbs d.natAbs
def mkBig (n d : Int) : Bool := decide (1000000000 < n.natAbs / fg n d) || decide (1000000 < d.natAbs / fg n d)
def mkN (n d : Int) : Int := if mkBig n d then 0 else if n < 0 then -((n.natAbs / fg n d : Nat) : Int) else ((n.natAbs / fg n d : Nat) : Int)
def mkD (n d : Int) : Int := if mkBig n d then 0 else ((d.natAbs / fg n d : Nat) : Int)
def mkC (n d : Int) : Int := if mkBig n d then 2 else 0
def fracB (n d : Int) : Bool := inB d 1 1000000 && (inB n (-1000000000) 1000000000 && decide (Nat.gcd n.natAbs d.natAbs = 1))
theorem fg_pos {n d : Int} (h : 0 < d) : 0 < fg n d := Nat.gcd_pos_of_pos_right _ (by omega)
theorem mk_ok {n d : Int} (hd : 0 < d) (h : mkC n d = 0) : fracB (mkN n d) (mkD n d) = true ∧ n * mkD n d = mkN n d * d ∧ ∃ g : Nat, 0 < g ∧ n = mkN n d * g ∧ d = mkD n d * g := by
  have hb : mkBig n d = false := by
    unfold mkC at h
    split at h
    · omega
    · rename_i h'; simpa using h'
  have hp := fg_pos (n := n) hd
  obtain ⟨a, ha⟩ := Nat.gcd_dvd_left n.natAbs d.natAbs
  obtain ⟨b, hb'⟩ := Nat.gcd_dvd_right n.natAbs d.natAbs
  have ea : n.natAbs / fg n d = a := by
    have : n.natAbs = fg n d * a := ha
    rw [this, Nat.mul_div_cancel_left _ hp]
  have eb : d.natAbs / fg n d = b := by
    have : d.natAbs = fg n d * b := hb'
    rw [this, Nat.mul_div_cancel_left _ hp]
  have hab : Nat.gcd a b = 1 := by
    have h1 : Nat.gcd (fg n d * a) (fg n d * b) = fg n d := by
      have e1 : fg n d * a = n.natAbs := ha.symm
      have e2 : fg n d * b = d.natAbs := hb'.symm
      rw [e1, e2]; rfl
    rw [Nat.gcd_mul_left] at h1
    exact Nat.eq_of_mul_eq_mul_left hp (by rw [h1, Nat.mul_one])
  have eN : mkN n d = if n < 0 then -(a : Int) else (a : Int) := by unfold mkN; rw [hb, ea]; rfl
  have eD : mkD n d = (b : Int) := by unfold mkD; rw [hb, eb]; rfl
  have hn : n = mkN n d * (fg n d : Int) := by
    have : (n.natAbs : Int) = (fg n d : Int) * (a : Int) := by rw [← Int.natCast_mul]; exact congrArg _ ha
    rw [eN, Int.mul_comm]
    split
    · rw [Int.mul_neg, ← this]; omega
    · rw [← this]; omega
  have hd' : d = mkD n d * (fg n d : Int) := by
    have : (d.natAbs : Int) = (fg n d : Int) * (b : Int) := by rw [← Int.natCast_mul]; exact congrArg _ hb'
    rw [eD, Int.mul_comm, ← this]; omega
  refine ⟨?_, ?_, fg n d, hp, hn, hd'⟩
  · simp only [mkBig, Bool.or_eq_false_iff, decide_eq_false_iff_not, ea, eb] at hb
    have hb0 : 0 < b := by
      rcases Nat.eq_zero_or_pos b with h0 | h0
      · subst h0; rw [Nat.mul_zero] at hb'; omega
      · exact h0
    have habs : (mkN n d).natAbs = a := by rw [eN]; split <;> omega
    simp only [fracB, Bool.and_eq_true, inB_iff, decide_eq_true_iff, habs]
    rw [eD]
    refine ⟨by omega, ?_, by simpa using hab⟩
    rw [eN]
    split <;> omega
  · generalize mkN n d = N at *
    generalize mkD n d = D at *
    generalize (fg n d : Int) = G at *
    rw [hn, hd', Int.mul_assoc, Int.mul_comm G D]
theorem fracB_of {n d : Int} (h : fracB n d = true) : 1 ≤ d ∧ d ≤ 1000000 ∧ -1000000000 ≤ n ∧ n ≤ 1000000000 ∧ Nat.gcd n.natAbs d.natAbs = 1 := by
  simp only [fracB, Bool.and_eq_true, inB_iff, decide_eq_true_iff] at h
  omega
/-- a valid fraction is what is made of it -/
theorem mk_self {n d : Int} (h : fracB n d = true) : mkN n d = n ∧ mkD n d = d ∧ mkC n d = 0 := by
  obtain ⟨h1, h2, h3, h4, h5⟩ := fracB_of h
  have hf : fg n d = 1 := h5
  have hb : mkBig n d = false := by
    simp only [mkBig, hf, Nat.div_one, Bool.or_eq_false_iff, decide_eq_false_iff_not]; omega
  refine ⟨?_, ?_, ?_⟩
  · unfold mkN; rw [hb, hf, Nat.div_one]; simp only [Bool.false_eq_true, if_false]; split <;> omega
  · unfold mkD; rw [hb, hf, Nat.div_one]; simp only [Bool.false_eq_true, if_false]; omega
  · unfold mkC; rw [hb]; rfl
/-- what is made depends on the value alone -/
theorem mk_scale {n d : Int} {g : Nat} (hg : 0 < g) (hd : 0 < d) : mkN (n * g) (d * g) = mkN n d ∧ mkD (n * g) (d * g) = mkD n d ∧ mkC (n * g) (d * g) = mkC n d := by
  have hf : fg (n * g) (d * g) = fg n d * g := by
    unfold fg
    rw [Int.natAbs_mul, Int.natAbs_mul, Int.natAbs_natCast, Nat.gcd_mul_right]
  have hp := fg_pos (n := n) hd
  have e1 : (n * (g : Int)).natAbs / (fg n d * g) = n.natAbs / fg n d := by
    rw [Int.natAbs_mul, Int.natAbs_natCast, Nat.mul_div_mul_right _ _ hg]
  have e2 : (d * (g : Int)).natAbs / (fg n d * g) = d.natAbs / fg n d := by
    rw [Int.natAbs_mul, Int.natAbs_natCast, Nat.mul_div_mul_right _ _ hg]
  have hb : mkBig (n * g) (d * g) = mkBig n d := by unfold mkBig; rw [hf, e1, e2]
  have hs : (n * (g : Int) < 0) ↔ n < 0 := by
    constructor
    · intro h
      rcases Int.lt_or_le n 0 with h0 | h0
      · exact h0
      · have := Int.mul_nonneg h0 (show (0 : Int) ≤ g by omega); omega
    · intro h
      exact Int.mul_neg_of_neg_of_pos h (by omega)
  refine ⟨?_, ?_, ?_⟩
  · unfold mkN; rw [hb, hf, e1]; simp only [hs]
  · unfold mkD; rw [hb, hf, e2]
  · unfold mkC; rw [hb]
set_option maxHeartbeats 4000000 in
theorem makeImpl_any (n d : Int) (w : World) (h1 : -1152921504606846976 ≤ n) (h2 : n ≤ 1152921504606846976) (h3 : 0 < d) (h4 : d ≤ 1152921504606846976) :
    Calls Tryd.prog 56 #[.int .i64 n, .int .i64 d] w fun e w' => e = .returned (.tuple #[.agg #[.int .i64 (mkN n d), .int .i64 (mkD n d)], .int .i64 (mkC n d)]) ∧ Below w.heap.size w w' := by
  have hp := fg_pos (n := n) h3
  have HQ : Hid (mkN n d = (if mkBig n d then 0 else if n < 0 then -((n.natAbs / fg n d : Nat) : Int) else ((n.natAbs / fg n d : Nat) : Int)) ∧ mkD n d = (if mkBig n d then 0 else ((d.natAbs / fg n d : Nat) : Int)) ∧ mkC n d = (if mkBig n d then 2 else 0) ∧ mkBig n d = (decide (1000000000 < n.natAbs / fg n d) || decide (1000000 < d.natAbs / fg n d))) := ⟨rfl, rfl, rfl, rfl⟩
  have HG : Hid (∀ W, Calls Tryd.prog 103 #[.int .u64 (n.natAbs : Int), .int .u64 (d.natAbs : Int)] W fun e w' => e = .returned (.int .u64 ((fg n d : Nat) : Int)) ∧ Below W.heap.size W w') := fun W => (gcd_any n.natAbs d.natAbs W (by omega) (by omega)).mono fun e w' h => ⟨h.1, h.2.below _⟩
  have hq1 : ((n.natAbs : Int) / (fg n d : Int)) = ((n.natAbs / fg n d : Nat) : Int) := by rw [Int.natCast_ediv]
  have hq2 : ((d.natAbs : Int) / (fg n d : Int)) = ((d.natAbs / fg n d : Nat) : Int) := by rw [Int.natCast_ediv]
  have ha : n.natAbs / fg n d ≤ n.natAbs := Nat.div_le_self _ _
  have hb : d.natAbs / fg n d ≤ d.natAbs := Nat.div_le_self _ _
  have hn1 : n.natAbs ≤ 1152921504606846976 := by omega
  have hn2 : d.natAbs ≤ 1152921504606846976 := by omega
  have M1 : Hid (∀ W, Calls Tryd.prog 102 #[.int .i64 n] W fun e w' => e = .returned (.int .u64 (n.natAbs : Int)) ∧ W = w') := fun W => magnitude_any n W (by omega) (by omega)
  have M2 : Hid (∀ W, Calls Tryd.prog 102 #[.int .i64 d] W fun e w' => e = .returned (.int .u64 (d.natAbs : Int)) ∧ W = w') := fun W => magnitude_any d W (by omega) (by omega)
  generalize mkN n d = N at HQ ⊢
  generalize mkD n d = D at HQ ⊢
  generalize mkC n d = C at HQ ⊢
  generalize hA : n.natAbs / fg n d = A at *
  generalize hB : d.natAbs / fg n d = B at *
  generalize fg n d = G at *
  generalize n.natAbs = an at *
  generalize d.natAbs = ad at *
  generalize mkBig n d = big at HQ
  have hG : (0 : Int) < (G : Int) := by omega
  have hG2 : (G : Int) ≠ 0 := by omega
  have hG0 : ((G : Int) == 0) = false := by rw [beq_eq_false_iff_ne]; omega
  have hd0 : (d == 0) = false := by rw [beq_eq_false_iff_ne]; omega
  have hd1 : decide (d < 0) = false := decide_eq_false (by omega)
  have hA1 : (A : Int) ≤ 1152921504606846976 := by omega
  have hB1 : (B : Int) ≤ 1152921504606846976 := by omega
  obtain ⟨E0, hE0⟩ : ∃ E, E = w.alloc (.cells #[.int .i64 0, .int .i64 0] 34) := ⟨_, rfl⟩
  have hB0 : Below w.heap.size w E0 := by rw [hE0]; exact (Below.refl _ _).alloc (Nat.le_refl _) _
  have b0 : Box E0 w.heap.size [.int .i64 0, .int .i64 0] 34 := by rw [hE0]; exact Box.newAt w [.int .i64 0, .int .i64 0] _ rfl
  have HE0 := Lib.hid hE0
  clear hE0 hA hB ha hb hp h1 h2 h3 h4
  go_enter Tryd.func56, Tryd.ntmps56
  go_wp2_with (first | (go_at_call_of 102 (Value.int .i64 n); refine (M1.out _).mono ?_; rintro e w' ⟨rfl, rfl⟩) | (go_at_call 102; refine (M2.out _).mono ?_; rintro e w' ⟨rfl, rfl⟩) | (go_at_call 103; refine (HG.out _).mono ?_; rintro e F ⟨rfl, hf⟩; refine Hid.out ?_))
  refine Lib.hid ?_
  rw [← HE0.out] at hf
  have hB1' := hB0.trans (hf.mono hB0.size)
  have b1 := b0.below hf
  clear hf b0 HE0
  go_wp2_with fail
  go_quiet (fail)
  have b2 := b1.drewN nq
  have hB2 := below_drewN hB1' nq
  clear b1 hB1'
  generalize F.drewN nq = F2 at b2 hB2 ⊢
  have z0 := b2.cell 0 rfl
  have z1 := b2.cell 1 rfl
  have f0 := b2.frozen 0
  have f1 := b2.frozen 1
  have hlt := b2.lt
  have hsz := hB2.size
  obtain ⟨e1, e2, e3, e4⟩ := HQ.out
  by_cases k1 : (1000000000 < A) ∨ (1000000 < B)
  · have hbig : big = true := by rw [e4]; simpa using k1
    rw [hbig] at e1 e2 e3
    obtain rfl : N = 0 := e1
    obtain rfl : D = 0 := e2
    obtain rfl : C = 2 := e3
    clear e4 hbig HQ
    by_cases k2 : 1000000000 < A
    · have q1 : decide ((1000000000 : Int) < (A : Int)) = true := decide_eq_true (by omega)
      clear k1
      go_wp2_with fail
      refine bodyPost_ret (v := .tuple #[.agg #[.int .i64 0, .int .i64 0], .int .i64 2]) (by simp [results, Tryd.results56, go_sem, *]) rfl ⟨rfl, ?_⟩
      (repeat (first | exact Below.refl _ _ | assumption | refine Below.setCell ?_ (by first | exact Nat.le_refl _ | omega | (simp; done) | (simp; omega)) _ | refine Below.alloc ?_ (by first | exact Nat.le_refl _ | omega | (simp; done) | (simp; omega)) _ | refine below_drewN ?_ _))
    · have q1 : decide ((1000000000 : Int) < (A : Int)) = false := decide_eq_false (by omega)
      have q2 : decide ((1000000 : Int) < (B : Int)) = true := decide_eq_true (by omega)
      clear k1
      go_wp2_with fail
      refine bodyPost_ret (v := .tuple #[.agg #[.int .i64 0, .int .i64 0], .int .i64 2]) (by simp [results, Tryd.results56, go_sem, *]) rfl ⟨rfl, ?_⟩
      (repeat (first | exact Below.refl _ _ | assumption | refine Below.setCell ?_ (by first | exact Nat.le_refl _ | omega | (simp; done) | (simp; omega)) _ | refine Below.alloc ?_ (by first | exact Nat.le_refl _ | omega | (simp; done) | (simp; omega)) _ | refine below_drewN ?_ _))
  · have hbig : big = false := by rw [e4]; simpa using k1
    rw [hbig] at e1 e2 e3
    have e1' : N = if n < 0 then -(A : Int) else (A : Int) := e1
    clear e1
    obtain rfl : D = (B : Int) := e2
    obtain rfl : C = 0 := e3
    clear e4 hbig HQ
    have q1 : decide ((1000000000 : Int) < (A : Int)) = false := decide_eq_false (by omega)
    have q2 : decide ((1000000 : Int) < (B : Int)) = false := decide_eq_false (by omega)
    have q3 : (A : Int) ≤ 1000000000 := by omega
    have q4 : (B : Int) ≤ 1000000 := by omega
    clear k1
    by_cases k3 : n < 0
    · rw [if_pos k3] at e1'
      subst e1'
      have q5 : decide (n < 0) = true := decide_eq_true k3
      go_wp2_with fail
      refine bodyPost_ret (v := .tuple #[.agg #[.int .i64 (-(A : Int)), .int .i64 (B : Int)], .int .i64 0]) (by simp [results, Tryd.results56, go_sem, *]) rfl ⟨rfl, ?_⟩
      (repeat (first | exact Below.refl _ _ | assumption | refine Below.setCell ?_ (by first | exact Nat.le_refl _ | omega | (simp; done) | (simp; omega)) _ | refine Below.alloc ?_ (by first | exact Nat.le_refl _ | omega | (simp; done) | (simp; omega)) _ | refine below_drewN ?_ _))
    · rw [if_neg k3] at e1'
      subst e1'
      have q5 : decide (n < 0) = false := decide_eq_false k3
      go_wp2_with fail
      refine bodyPost_ret (v := .tuple #[.agg #[.int .i64 (A : Int), .int .i64 (B : Int)], .int .i64 0]) (by simp [results, Tryd.results56, go_sem, *]) rfl ⟨rfl, ?_⟩
      (repeat (first | exact Below.refl _ _ | assumption | refine Below.setCell ?_ (by first | exact Nat.le_refl _ | omega | (simp; done) | (simp; omega)) _ | refine Below.alloc ?_ (by first | exact Nat.le_refl _ | omega | (simp; done) | (simp; omega)) _ | refine below_drewN ?_ _))
set_option maxHeartbeats 4000000 in
theorem makeSpec_any (n d : Int) (w : World) (h1 : -1152921504606846976 ≤ n) (h2 : n ≤ 1152921504606846976) (h3 : 0 < d) (h4 : d ≤ 1152921504606846976) :
    Calls Tryd.prog 101 #[.int .i64 n, .int .i64 d] w fun e w' => e = .returned (.tuple #[.agg #[.int .i64 (mkN n d), .int .i64 (mkD n d)], .int .i64 (mkC n d)]) ∧ Below w.heap.size w w' := by
  have hp := fg_pos (n := n) h3
  have HQ : Hid (mkN n d = (if mkBig n d then 0 else if n < 0 then -((n.natAbs / fg n d : Nat) : Int) else ((n.natAbs / fg n d : Nat) : Int)) ∧ mkD n d = (if mkBig n d then 0 else ((d.natAbs / fg n d : Nat) : Int)) ∧ mkC n d = (if mkBig n d then 2 else 0) ∧ mkBig n d = (decide (1000000000 < n.natAbs / fg n d) || decide (1000000 < d.natAbs / fg n d))) := ⟨rfl, rfl, rfl, rfl⟩
  have HG : Hid (∀ W, Calls Tryd.prog 105 #[.int .u64 (n.natAbs : Int), .int .u64 (d.natAbs : Int)] W fun e w' => e = .returned (.int .u64 ((fg n d : Nat) : Int)) ∧ Below W.heap.size W w') := fun W => (l02Gcd_any n.natAbs d.natAbs W (by omega) (by omega)).mono fun e w' h => ⟨h.1, by rw [← h.2]; exact Below.refl _ _⟩
  have hq1 : ((n.natAbs : Int) / (fg n d : Int)) = ((n.natAbs / fg n d : Nat) : Int) := by rw [Int.natCast_ediv]
  have hq2 : ((d.natAbs : Int) / (fg n d : Int)) = ((d.natAbs / fg n d : Nat) : Int) := by rw [Int.natCast_ediv]
  have ha : n.natAbs / fg n d ≤ n.natAbs := Nat.div_le_self _ _
  have hb : d.natAbs / fg n d ≤ d.natAbs := Nat.div_le_self _ _
  have hn1 : n.natAbs ≤ 1152921504606846976 := by omega
  have hn2 : d.natAbs ≤ 1152921504606846976 := by omega
  have M1 : Hid (∀ W, Calls Tryd.prog 106 #[.int .i64 n] W fun e w' => e = .returned (.int .u64 (n.natAbs : Int)) ∧ W = w') := fun W => l02Size_any n W (by omega) (by omega)
  have M2 : Hid (∀ W, Calls Tryd.prog 106 #[.int .i64 d] W fun e w' => e = .returned (.int .u64 (d.natAbs : Int)) ∧ W = w') := fun W => l02Size_any d W (by omega) (by omega)
  generalize mkN n d = N at HQ ⊢
  generalize mkD n d = D at HQ ⊢
  generalize mkC n d = C at HQ ⊢
  generalize hA : n.natAbs / fg n d = A at *
  generalize hB : d.natAbs / fg n d = B at *
  generalize fg n d = G at *
  generalize n.natAbs = an at *
  generalize d.natAbs = ad at *
  generalize mkBig n d = big at HQ
  have hG : (0 : Int) < (G : Int) := by omega
  have hG2 : (G : Int) ≠ 0 := by omega
  have hG0 : ((G : Int) == 0) = false := by rw [beq_eq_false_iff_ne]; omega
  have hd0 : (d == 0) = false := by rw [beq_eq_false_iff_ne]; omega
  have hd1 : decide (d < 0) = false := decide_eq_false (by omega)
  have hA1 : (A : Int) ≤ 1152921504606846976 := by omega
  have hB1 : (B : Int) ≤ 1152921504606846976 := by omega
  obtain ⟨E0, hE0⟩ : ∃ E, E = w.alloc (.cells #[.int .i64 0, .int .i64 0] 34) := ⟨_, rfl⟩
  have hB0 : Below w.heap.size w E0 := by rw [hE0]; exact (Below.refl _ _).alloc (Nat.le_refl _) _
  have b0 : Box E0 w.heap.size [.int .i64 0, .int .i64 0] 34 := by rw [hE0]; exact Box.newAt w [.int .i64 0, .int .i64 0] _ rfl
  have HE0 := Lib.hid hE0
  clear hE0 hA hB ha hb hp h1 h2 h3 h4
  go_enter Tryd.func101, Tryd.ntmps101
  go_wp2_with (first | (go_at_call_of 106 (Value.int .i64 n); refine (M1.out _).mono ?_; rintro e w' ⟨rfl, rfl⟩) | (go_at_call 106; refine (M2.out _).mono ?_; rintro e w' ⟨rfl, rfl⟩) | (go_at_call 105; refine (HG.out _).mono ?_; rintro e F ⟨rfl, hf⟩; refine Hid.out ?_))
  refine Lib.hid ?_
  rw [← HE0.out] at hf
  have hB1' := hB0.trans (hf.mono hB0.size)
  have b1 := b0.below hf
  clear hf b0 HE0
  have b2 := b1
  have hB2 := hB1'
  clear b1 hB1'
  have z0 := b2.cell 0 rfl
  have z1 := b2.cell 1 rfl
  have f0 := b2.frozen 0
  have f1 := b2.frozen 1
  have hlt := b2.lt
  have hsz := hB2.size
  obtain ⟨e1, e2, e3, e4⟩ := HQ.out
  by_cases k1 : (1000000000 < A) ∨ (1000000 < B)
  · have hbig : big = true := by rw [e4]; simpa using k1
    rw [hbig] at e1 e2 e3
    obtain rfl : N = 0 := e1
    obtain rfl : D = 0 := e2
    obtain rfl : C = 2 := e3
    clear e4 hbig HQ
    by_cases k2 : 1000000000 < A
    · have q1 : decide ((1000000000 : Int) < (A : Int)) = true := decide_eq_true (by omega)
      clear k1
      go_wp2_with fail
      refine bodyPost_ret (v := .tuple #[.agg #[.int .i64 0, .int .i64 0], .int .i64 2]) (by simp [results, Tryd.results101, go_sem, *]) rfl ⟨rfl, ?_⟩
      (repeat (first | exact Below.refl _ _ | assumption | refine Below.setCell ?_ (by first | exact Nat.le_refl _ | omega | (simp; done) | (simp; omega)) _ | refine Below.alloc ?_ (by first | exact Nat.le_refl _ | omega | (simp; done) | (simp; omega)) _ | refine below_drewN ?_ _))
    · have q1 : decide ((1000000000 : Int) < (A : Int)) = false := decide_eq_false (by omega)
      have q2 : decide ((1000000 : Int) < (B : Int)) = true := decide_eq_true (by omega)
      clear k1
      go_wp2_with fail
      refine bodyPost_ret (v := .tuple #[.agg #[.int .i64 0, .int .i64 0], .int .i64 2]) (by simp [results, Tryd.results101, go_sem, *]) rfl ⟨rfl, ?_⟩
      (repeat (first | exact Below.refl _ _ | assumption | refine Below.setCell ?_ (by first | exact Nat.le_refl _ | omega | (simp; done) | (simp; omega)) _ | refine Below.alloc ?_ (by first | exact Nat.le_refl _ | omega | (simp; done) | (simp; omega)) _ | refine below_drewN ?_ _))
  · have hbig : big = false := by rw [e4]; simpa using k1
    rw [hbig] at e1 e2 e3
    have e1' : N = if n < 0 then -(A : Int) else (A : Int) := e1
    clear e1
    obtain rfl : D = (B : Int) := e2
    obtain rfl : C = 0 := e3
    clear e4 hbig HQ
    have q1 : decide ((1000000000 : Int) < (A : Int)) = false := decide_eq_false (by omega)
    have q2 : decide ((1000000 : Int) < (B : Int)) = false := decide_eq_false (by omega)
    have q3 : (A : Int) ≤ 1000000000 := by omega
    have q4 : (B : Int) ≤ 1000000 := by omega
    clear k1
    by_cases k3 : n < 0
    · rw [if_pos k3] at e1'
      subst e1'
      have q5 : decide (n < 0) = true := decide_eq_true k3
      go_wp2_with fail
      refine bodyPost_ret (v := .tuple #[.agg #[.int .i64 (-(A : Int)), .int .i64 (B : Int)], .int .i64 0]) (by simp [results, Tryd.results101, go_sem, *]) rfl ⟨rfl, ?_⟩
      (repeat (first | exact Below.refl _ _ | assumption | refine Below.setCell ?_ (by first | exact Nat.le_refl _ | omega | (simp; done) | (simp; omega)) _ | refine Below.alloc ?_ (by first | exact Nat.le_refl _ | omega | (simp; done) | (simp; omega)) _ | refine below_drewN ?_ _))
    · rw [if_neg k3] at e1'
      subst e1'
      have q5 : decide (n < 0) = false := decide_eq_false k3
      go_wp2_with fail
      refine bodyPost_ret (v := .tuple #[.agg #[.int .i64 (A : Int), .int .i64 (B : Int)], .int .i64 0]) (by simp [results, Tryd.results101, go_sem, *]) rfl ⟨rfl, ?_⟩
      (repeat (first | exact Below.refl _ _ | assumption | refine Below.setCell ?_ (by first | exact Nat.le_refl _ | omega | (simp; done) | (simp; omega)) _ | refine Below.alloc ?_ (by first | exact Nat.le_refl _ | omega | (simp; done) | (simp; omega)) _ | refine below_drewN ?_ _))
set_option maxHeartbeats 2000000 in
theorem isFrac_any (n d : Int) (w : World) :
    Calls Tryd.prog 59 #[.agg #[.int .i64 n, .int .i64 d]] w fun e w' => e = .returned (.bool (fracB n d)) ∧ Below w.heap.size w w' := by
  obtain ⟨E0, hE0⟩ : ∃ E, E = w.alloc (.cells #[.int .i64 n, .int .i64 d] 34) := ⟨_, rfl⟩
  have hB0 : Below w.heap.size w E0 := by rw [hE0]; exact (Below.refl _ _).alloc (Nat.le_refl _) _
  have b0 : Box E0 w.heap.size [.int .i64 n, .int .i64 d] 34 := by rw [hE0]; exact Box.newAt w [.int .i64 n, .int .i64 d] _ rfl
  have HE0 := Lib.hid hE0
  clear hE0
  have z0 := b0.cell 0 rfl
  have z1 := b0.cell 1 rfl
  clear b0
  have HF : Hid (∀ b1 b2 b3 : Bool, inB d 1 1000000 = b1 → inB n (-1000000000) 1000000000 = b2 → decide (Nat.gcd n.natAbs d.natAbs = 1) = b3 → fracB n d = (b1 && (b2 && b3))) := by
    intro b1 b2 b3 e1 e2 e3
    unfold fracB
    rw [e1, e2, e3]
  generalize fracB n d = R at HF ⊢
  have K1 : Hid (∀ (m : Nat) (b : Bool), inB d 1 1000000 = b → Calls Tryd.prog 99 #[.int .i64 d, .int .i64 1, .int .i64 1000000] (E0.drewN m) fun e w' => e = .returned (.bool b) ∧ w' = E0.drewN m) := fun m b h => Calls.turn (by rw [← h]; exact within_any _ _ _ _)
  have K2 : Hid (∀ (m : Nat) (b : Bool), inB n (-1000000000) 1000000000 = b → Calls Tryd.prog 99 #[.int .i64 n, .int .i64 (-1000000000), .int .i64 1000000000] (E0.drewN m) fun e w' => e = .returned (.bool b) ∧ w' = E0.drewN m) := fun m b h => Calls.turn (by rw [← h]; exact within_any _ _ _ _)
  go_enter Tryd.func59, Tryd.ntmps59
  go_wp2_with fail
  rw [← HE0.out]
  clear HE0
  cases e1 : inB d 1 1000000
  case false =>
    obtain rfl := HF.out _ _ _ e1 rfl rfl
    go_quiet ((go_at_call 99; exact Calls.quiet_of_same (K1.out _ _ e1)))
    go_wp2_with fail
    go_ret
    exact ⟨rfl, below_drewN hB0 _⟩
  cases e2 : inB n (-1000000000) 1000000000
  case false =>
    obtain rfl := HF.out _ _ _ e1 e2 rfl
    go_quiet ((first | (go_at_call_of 99 (Value.int .i64 d); exact Calls.quiet_of_same (K1.out _ _ e1)) | (go_at_call 99; exact Calls.quiet_of_same (K2.out _ _ e2))))
    go_wp2_with fail
    go_ret
    exact ⟨rfl, below_drewN hB0 _⟩
  have d1 := inB_iff.1 e1
  have d2 := inB_iff.1 e2
  have M1 : Hid (∀ m, Calls Tryd.prog 102 #[.int .i64 n] (E0.drewN m) fun e w' => e = .returned (.int .u64 (n.natAbs : Int)) ∧ w' = E0.drewN m) := fun m => Calls.turn (magnitude_any n _ (by omega) (by omega))
  have hcv : IntKind.u64.wrap d = (d.natAbs : Int) := by
    simp only [IntKind.wrap, IntKind.bits, IntKind.signed]; simp; omega
  have hdn : d = (d.natAbs : Int) := by omega
  have M2 : Hid (∀ m, Calls Tryd.prog 103 #[.int .u64 (n.natAbs : Int), .int .u64 (d.natAbs : Int)] (E0.drewN m) fun e w'' => e = .returned (.int .u64 ((Nat.gcd n.natAbs d.natAbs : Nat) : Int)) ∧ ∃ k, w'' = E0.drewN k) := fun m => (gcd_any n.natAbs d.natAbs _ (by omega) (by omega)).mono fun e w' h => ⟨h.1, by obtain ⟨k, rfl⟩ := h.2; exact ⟨m + k, by rw [World.drewN_drewN]⟩⟩
  have D1 := Lib.hid d1
  have hdl : (1 : Int) ≤ d := d1.1
  have hdu : d ≤ 1000000 := d1.2
  clear d1 d2
  by_cases e3 : Nat.gcd n.natAbs d.natAbs = 1
  · obtain rfl := HF.out _ _ _ e1 e2 (decide_eq_true e3)
    rw [e3] at M2
    clear e3
    have M3 : Hid (∀ m, Calls Tryd.prog 103 #[.int .u64 (n.natAbs : Int), .int .u64 d] (E0.drewN m) fun e w'' => e = .returned (.int .u64 1) ∧ ∃ k, w'' = E0.drewN k) := fun m => by have := M2.out m; rw [← hdn] at this; exact this
    clear hdn hcv M2
    go_quiet ((first | (go_at_call_of 99 (Value.int .i64 d); exact Calls.quiet_of_same (K1.out _ _ e1)) | (go_at_call 99; exact Calls.quiet_of_same (K2.out _ _ e2)) | (go_at_call 102; exact Calls.quiet_of_same (M1.out _)) | (go_at_call 103; exact M3.out _)))
    go_wp2_with fail
    go_ret
    exact ⟨rfl, below_drewN hB0 _⟩
  · obtain rfl := HF.out _ _ _ e1 e2 (decide_eq_false e3)
    have M3 : Hid (∀ m, Calls Tryd.prog 103 #[.int .u64 (n.natAbs : Int), .int .u64 d] (E0.drewN m) fun e w'' => e = .returned (.int .u64 ((Nat.gcd n.natAbs d.natAbs : Nat) : Int)) ∧ ∃ k, w'' = E0.drewN k) := fun m => by have := M2.out m; rw [← hdn] at this; exact this
    generalize Nat.gcd n.natAbs d.natAbs = G at e3 M3
    have n3 : ((G : Int) == 1) = false := by rw [beq_eq_false_iff_ne]; omega
    clear hdn hcv M2
    go_quiet ((first | (go_at_call_of 99 (Value.int .i64 d); exact Calls.quiet_of_same (K1.out _ _ e1)) | (go_at_call 99; exact Calls.quiet_of_same (K2.out _ _ e2)) | (go_at_call 102; exact Calls.quiet_of_same (M1.out _)) | (go_at_call 103; exact M3.out _)))
    go_wp2_with fail
    go_ret
    exact ⟨rfl, below_drewN hB0 _⟩
set_option maxHeartbeats 2000000 in
theorem l02Ok_any (n d : Int) (w : World) :
    Calls Tryd.prog 57 #[.agg #[.int .i64 n, .int .i64 d]] w fun e w' => e = .returned (.bool (fracB n d)) ∧ Below w.heap.size w w' := by
  obtain ⟨E0, hE0⟩ : ∃ E, E = w.alloc (.cells #[.int .i64 n, .int .i64 d] 34) := ⟨_, rfl⟩
  have hB0 : Below w.heap.size w E0 := by rw [hE0]; exact (Below.refl _ _).alloc (Nat.le_refl _) _
  have b0 : Box E0 w.heap.size [.int .i64 n, .int .i64 d] 34 := by rw [hE0]; exact Box.newAt w [.int .i64 n, .int .i64 d] _ rfl
  have HE0 := Lib.hid hE0
  clear hE0
  have z0 := b0.cell 0 rfl
  have z1 := b0.cell 1 rfl
  clear b0
  have HF : Hid (∀ b1 b2 b3 : Bool, inB d 1 1000000 = b1 → inB n (-1000000000) 1000000000 = b2 → decide (Nat.gcd n.natAbs d.natAbs = 1) = b3 → fracB n d = (b1 && (b2 && b3))) := by
    intro b1 b2 b3 e1 e2 e3
    unfold fracB
    rw [e1, e2, e3]
  generalize fracB n d = R at HF ⊢
  have K1 : Hid (∀ (m : Nat) (b : Bool), inB d 1 1000000 = b → Calls Tryd.prog 104 #[.int .i64 d, .int .i64 1, .int .i64 1000000] (E0.drewN m) fun e w' => e = .returned (.bool b) ∧ w' = E0.drewN m) := fun m b h => Calls.turn (by rw [← h]; exact l00In_any _ _ _ _)
  have K2 : Hid (∀ (m : Nat) (b : Bool), inB n (-1000000000) 1000000000 = b → Calls Tryd.prog 104 #[.int .i64 n, .int .i64 (-1000000000), .int .i64 1000000000] (E0.drewN m) fun e w' => e = .returned (.bool b) ∧ w' = E0.drewN m) := fun m b h => Calls.turn (by rw [← h]; exact l00In_any _ _ _ _)
  go_enter Tryd.func57, Tryd.ntmps57
  go_wp2_with fail
  rw [← HE0.out]
  clear HE0
  cases e1 : inB d 1 1000000
  case false =>
    obtain rfl := HF.out _ _ _ e1 rfl rfl
    go_quiet ((go_at_call 104; exact Calls.quiet_of_same (K1.out _ _ e1)))
    go_wp2_with fail
    go_ret
    exact ⟨rfl, below_drewN hB0 _⟩
  cases e2 : inB n (-1000000000) 1000000000
  case false =>
    obtain rfl := HF.out _ _ _ e1 e2 rfl
    go_quiet ((first | (go_at_call_of 104 (Value.int .i64 d); exact Calls.quiet_of_same (K1.out _ _ e1)) | (go_at_call 104; exact Calls.quiet_of_same (K2.out _ _ e2))))
    go_wp2_with fail
    go_ret
    exact ⟨rfl, below_drewN hB0 _⟩
  have d1 := inB_iff.1 e1
  have d2 := inB_iff.1 e2
  have M1 : Hid (∀ m, Calls Tryd.prog 106 #[.int .i64 n] (E0.drewN m) fun e w' => e = .returned (.int .u64 (n.natAbs : Int)) ∧ w' = E0.drewN m) := fun m => Calls.turn (l02Size_any n _ (by omega) (by omega))
  have hcv : IntKind.u64.wrap d = (d.natAbs : Int) := by
    simp only [IntKind.wrap, IntKind.bits, IntKind.signed]; simp; omega
  have hdn : d = (d.natAbs : Int) := by omega
  have M2 : Hid (∀ m, Calls Tryd.prog 105 #[.int .u64 (n.natAbs : Int), .int .u64 (d.natAbs : Int)] (E0.drewN m) fun e w'' => e = .returned (.int .u64 ((Nat.gcd n.natAbs d.natAbs : Nat) : Int)) ∧ ∃ k, w'' = E0.drewN k) := fun m => (l02Gcd_any n.natAbs d.natAbs _ (by omega) (by omega)).mono fun e w' h => ⟨h.1, ⟨m, h.2.symm⟩⟩
  have D1 := Lib.hid d1
  have hdl : (1 : Int) ≤ d := d1.1
  have hdu : d ≤ 1000000 := d1.2
  clear d1 d2
  by_cases e3 : Nat.gcd n.natAbs d.natAbs = 1
  · obtain rfl := HF.out _ _ _ e1 e2 (decide_eq_true e3)
    rw [e3] at M2
    clear e3
    have M3 : Hid (∀ m, Calls Tryd.prog 105 #[.int .u64 (n.natAbs : Int), .int .u64 d] (E0.drewN m) fun e w'' => e = .returned (.int .u64 1) ∧ ∃ k, w'' = E0.drewN k) := fun m => by have := M2.out m; rw [← hdn] at this; exact this
    clear hdn hcv M2
    go_quiet ((first | (go_at_call_of 104 (Value.int .i64 d); exact Calls.quiet_of_same (K1.out _ _ e1)) | (go_at_call 104; exact Calls.quiet_of_same (K2.out _ _ e2)) | (go_at_call 106; exact Calls.quiet_of_same (M1.out _)) | (go_at_call 105; exact M3.out _)))
    go_wp2_with fail
    go_ret
    exact ⟨rfl, below_drewN hB0 _⟩
  · obtain rfl := HF.out _ _ _ e1 e2 (decide_eq_false e3)
    have M3 : Hid (∀ m, Calls Tryd.prog 105 #[.int .u64 (n.natAbs : Int), .int .u64 d] (E0.drewN m) fun e w'' => e = .returned (.int .u64 ((Nat.gcd n.natAbs d.natAbs : Nat) : Int)) ∧ ∃ k, w'' = E0.drewN k) := fun m => by have := M2.out m; rw [← hdn] at this; exact this
    generalize Nat.gcd n.natAbs d.natAbs = G at e3 M3
    have n3 : ((G : Int) == 1) = false := by rw [beq_eq_false_iff_ne]; omega
    clear hdn hcv M2
    go_quiet ((first | (go_at_call_of 104 (Value.int .i64 d); exact Calls.quiet_of_same (K1.out _ _ e1)) | (go_at_call 104; exact Calls.quiet_of_same (K2.out _ _ e2)) | (go_at_call 106; exact Calls.quiet_of_same (M1.out _)) | (go_at_call 105; exact M3.out _)))
    go_wp2_with fail
    go_ret
    exact ⟨rfl, below_drewN hB0 _⟩
end Go.Proofs.YtnhhghilejeegaaDoor
