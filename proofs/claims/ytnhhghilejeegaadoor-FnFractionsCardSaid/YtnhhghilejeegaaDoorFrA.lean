/-
  Sums, differences, products and quotients of fractions; order and floor: the program's contracts.
-/
import Derived.Test.YtnhhghilejeegaaDoorTerms2
import Derived.Test.YtnhhghilejeegaaDoorBest2
namespace Go.Proofs.YtnhhghilejeegaaDoor
open Go.ChangeShapes Go.WideShapes Go.ChangeAt Go.RowKit Go.Sort
set_option linter.unusedVariables false
set_option linter.unusedSimpArgs false

set_option maxHeartbeats 4000000 in
theorem makeImpl_neg (n d : Int) (w : World) (h1 : -1152921504606846976 ≤ n) (h2 : n ≤ 1152921504606846976) (h3 : d < 0) (h4 : -1152921504606846976 ≤ d) :
    Calls Tryd.prog 56 #[.int .i64 n, .int .i64 d] w fun e w' => e = .returned (.tuple #[.agg #[.int .i64 (mkN (-n) (-d)), .int .i64 (mkD (-n) (-d))], .int .i64 (mkC (-n) (-d))]) ∧ Below w.heap.size w w' := by
  have eg : fg (-n) (-d) = fg n d := by unfold fg; rw [Int.natAbs_neg, Int.natAbs_neg]
  have hp : 0 < fg n d := by rw [← eg]; exact fg_pos (by omega)
  have HQ : Hid (mkN (-n) (-d) = (if mkBig (-n) (-d) then 0 else if n < 0 then ((n.natAbs / fg n d : Nat) : Int) else -((n.natAbs / fg n d : Nat) : Int)) ∧ mkD (-n) (-d) = (if mkBig (-n) (-d) then 0 else ((d.natAbs / fg n d : Nat) : Int)) ∧ mkC (-n) (-d) = (if mkBig (-n) (-d) then 2 else 0) ∧ mkBig (-n) (-d) = (decide (1000000000 < n.natAbs / fg n d) || decide (1000000 < d.natAbs / fg n d))) := by
    refine ⟨?_, ?_, ?_, ?_⟩
    · unfold mkN
      rw [eg, Int.natAbs_neg]
      by_cases h0 : n < 0
      · rw [if_pos h0, if_neg (by omega : ¬ -n < 0)]
      · rw [if_neg h0]
        by_cases hz : n = 0
        · subst hz; simp
        · rw [if_pos (by omega : -n < 0)]
    · unfold mkD; rw [eg, Int.natAbs_neg]
    · rfl
    · unfold mkBig; rw [eg, Int.natAbs_neg, Int.natAbs_neg]
  have HG : Hid (∀ W, Calls Tryd.prog 103 #[.int .u64 (n.natAbs : Int), .int .u64 (d.natAbs : Int)] W fun e w' => e = .returned (.int .u64 ((fg n d : Nat) : Int)) ∧ Below W.heap.size W w') := fun W => (gcd_any n.natAbs d.natAbs W (by omega) (by omega)).mono fun e w' h => ⟨h.1, h.2.below _⟩
  have hq1 : ((n.natAbs : Int) / (fg n d : Int)) = ((n.natAbs / fg n d : Nat) : Int) := by rw [Int.natCast_ediv]
  have hq2 : ((d.natAbs : Int) / (fg n d : Int)) = ((d.natAbs / fg n d : Nat) : Int) := by rw [Int.natCast_ediv]
  have ha : n.natAbs / fg n d ≤ n.natAbs := Nat.div_le_self _ _
  have hb : d.natAbs / fg n d ≤ d.natAbs := Nat.div_le_self _ _
  have hn1 : n.natAbs ≤ 1152921504606846976 := by omega
  have hn2 : d.natAbs ≤ 1152921504606846976 := by omega
  have M1 : Hid (∀ W, Calls Tryd.prog 102 #[.int .i64 n] W fun e w' => e = .returned (.int .u64 (n.natAbs : Int)) ∧ W = w') := fun W => magnitude_any n W (by omega) (by omega)
  have M2 : Hid (∀ W, Calls Tryd.prog 102 #[.int .i64 d] W fun e w' => e = .returned (.int .u64 (d.natAbs : Int)) ∧ W = w') := fun W => magnitude_any d W (by omega) (by omega)
  generalize mkN (-n) (-d) = N at HQ ⊢
  generalize mkD (-n) (-d) = D at HQ ⊢
  generalize mkC (-n) (-d) = C at HQ ⊢
  generalize hA : n.natAbs / fg n d = A at *
  generalize hB : d.natAbs / fg n d = B at *
  generalize fg n d = G at *
  generalize n.natAbs = an at *
  generalize d.natAbs = ad at *
  generalize mkBig (-n) (-d) = big at HQ
  have hG : (0 : Int) < (G : Int) := by omega
  have hG2 : (G : Int) ≠ 0 := by omega
  have hG0 : ((G : Int) == 0) = false := by rw [beq_eq_false_iff_ne]; omega
  have hd0 : (d == 0) = false := by rw [beq_eq_false_iff_ne]; omega
  have hd1 : decide (d < 0) = true := decide_eq_true (by omega)
  have hA1 : (A : Int) ≤ 1152921504606846976 := by omega
  have hB1 : (B : Int) ≤ 1152921504606846976 := by omega
  obtain ⟨E0, hE0⟩ : ∃ E, E = w.alloc (.cells #[.int .i64 0, .int .i64 0] 34) := ⟨_, rfl⟩
  have hB0 : Below w.heap.size w E0 := by rw [hE0]; exact (Below.refl _ _).alloc (Nat.le_refl _) _
  have b0 : Box E0 w.heap.size [.int .i64 0, .int .i64 0] 34 := by rw [hE0]; exact Box.newAt w [.int .i64 0, .int .i64 0] _ rfl
  have HE0 := Lib.hid hE0
  clear hE0 hA hB ha hb hp eg h1 h2 h3 h4
  go_enter Tryd.func56, Tryd.ntmps56
  go_wp2_with (first | (go_at_call_of 102 (Value.int .i64 n); refine (M1.out _).mono ?_; rintro e w' ⟨rfl, rfl⟩) | (go_at_call 102; refine (M2.out _).mono ?_; rintro e w' ⟨rfl, rfl⟩) | (go_at_call 103; refine (HG.out _).mono ?_; rintro e F ⟨rfl, hf⟩; refine Hid.out ?_))
  refine Lib.hid ?_
  rw [← HE0.out] at hf
  have hB1' := hB0.trans (hf.mono hB0.size)
  have b1 := b0.below hf
  clear hf b0 HE0
  go_wp2_with fail
  go_quiet (fail)
  have b2 := b1.drewN nq
  have hB2 := below_drewN hB1' nq
  clear b1 hB1'
  generalize F.drewN nq = F2 at b2 hB2 ⊢
  have z0 := b2.cell 0 rfl
  have z1 := b2.cell 1 rfl
  have f0 := b2.frozen 0
  have f1 := b2.frozen 1
  have hlt := b2.lt
  have hsz := hB2.size
  obtain ⟨e1, e2, e3, e4⟩ := HQ.out
  by_cases k1 : (1000000000 < A) ∨ (1000000 < B)
  · have hbig : big = true := by rw [e4]; simpa using k1
    rw [hbig] at e1 e2 e3
    obtain rfl : N = 0 := e1
    obtain rfl : D = 0 := e2
    obtain rfl : C = 2 := e3
    clear e4 hbig HQ
    by_cases k2 : 1000000000 < A
    · have q1 : decide ((1000000000 : Int) < (A : Int)) = true := decide_eq_true (by omega)
      clear k1
      go_wp2_with fail
      refine bodyPost_ret (v := .tuple #[.agg #[.int .i64 0, .int .i64 0], .int .i64 2]) (by simp [results, Tryd.results56, go_sem, *]) rfl ⟨rfl, ?_⟩
      (repeat (first | exact Below.refl _ _ | assumption | refine Below.setCell ?_ (by first | exact Nat.le_refl _ | omega | (simp; done) | (simp; omega)) _ | refine Below.alloc ?_ (by first | exact Nat.le_refl _ | omega | (simp; done) | (simp; omega)) _ | refine below_drewN ?_ _))
    · have q1 : decide ((1000000000 : Int) < (A : Int)) = false := decide_eq_false (by omega)
      have q2 : decide ((1000000 : Int) < (B : Int)) = true := decide_eq_true (by omega)
      clear k1
      go_wp2_with fail
      refine bodyPost_ret (v := .tuple #[.agg #[.int .i64 0, .int .i64 0], .int .i64 2]) (by simp [results, Tryd.results56, go_sem, *]) rfl ⟨rfl, ?_⟩
      (repeat (first | exact Below.refl _ _ | assumption | refine Below.setCell ?_ (by first | exact Nat.le_refl _ | omega | (simp; done) | (simp; omega)) _ | refine Below.alloc ?_ (by first | exact Nat.le_refl _ | omega | (simp; done) | (simp; omega)) _ | refine below_drewN ?_ _))
  · have hbig : big = false := by rw [e4]; simpa using k1
    rw [hbig] at e1 e2 e3
    have e1' : N = if n < 0 then (A : Int) else -(A : Int) := e1
    clear e1
    obtain rfl : D = (B : Int) := e2
    obtain rfl : C = 0 := e3
    clear e4 hbig HQ
    have q1 : decide ((1000000000 : Int) < (A : Int)) = false := decide_eq_false (by omega)
    have q2 : decide ((1000000 : Int) < (B : Int)) = false := decide_eq_false (by omega)
    have q3 : (A : Int) ≤ 1000000000 := by omega
    have q4 : (B : Int) ≤ 1000000 := by omega
    clear k1
    by_cases k3 : n < 0
    · rw [if_pos k3] at e1'
      subst e1'
      have q5 : decide (n < 0) = true := decide_eq_true k3
      go_wp2_with fail
      refine bodyPost_ret (v := .tuple #[.agg #[.int .i64 (A : Int), .int .i64 (B : Int)], .int .i64 0]) (by simp [results, Tryd.results56, go_sem, *]) rfl ⟨rfl, ?_⟩
      (repeat (first | exact Below.refl _ _ | assumption | refine Below.setCell ?_ (by first | exact Nat.le_refl _ | omega | (simp; done) | (simp; omega)) _ | refine Below.alloc ?_ (by first | exact Nat.le_refl _ | omega | (simp; done) | (simp; omega)) _ | refine below_drewN ?_ _))
    · rw [if_neg k3] at e1'
      subst e1'
      have q5 : decide (n < 0) = false := decide_eq_false k3
      go_wp2_with fail
      refine bodyPost_ret (v := .tuple #[.agg #[.int .i64 (-(A : Int)), .int .i64 (B : Int)], .int .i64 0]) (by simp [results, Tryd.results56, go_sem, *]) rfl ⟨rfl, ?_⟩
      (repeat (first | exact Below.refl _ _ | assumption | refine Below.setCell ?_ (by first | exact Nat.le_refl _ | omega | (simp; done) | (simp; omega)) _ | refine Below.alloc ?_ (by first | exact Nat.le_refl _ | omega | (simp; done) | (simp; omega)) _ | refine below_drewN ?_ _))
set_option maxHeartbeats 4000000 in
set_option maxRecDepth 100000 in
theorem addFrac_any {n d n' d' : Int} (w : World) (hf : fracB n d = true) (hf' : fracB n' d' = true) :
    Calls Tryd.prog 20 #[.agg #[.int .i64 n, .int .i64 d], .agg #[.int .i64 n', .int .i64 d']] w fun e w' => e = .returned (.tuple #[.agg #[.int .i64 (mkN (n * d' + n' * d) (d * d')), .int .i64 (mkD (n * d' + n' * d) (d * d'))], .int .i64 (mkC (n * d' + n' * d) (d * d'))]) ∧ Below w.heap.size w w' := by
  obtain ⟨d1, d2, n1, n2, -⟩ := fracB_of hf
  obtain ⟨d1', d2', n1', n2', -⟩ := fracB_of hf'

  have m_x := mul_bd (a := n) (b := d') (A := 1000000000) (B := 1000000) (by omega) n2 (by omega) d2' (by omega) (by omega)
  have m_y := mul_bd (a := n') (b := d) (A := 1000000000) (B := 1000000) (by omega) n2' (by omega) d2 (by omega) (by omega)
  have m_z := mul_bd (a := d) (b := d') (A := 1000000) (B := 1000000) (by omega) d2 (by omega) d2' (by omega) (by omega)
  obtain ⟨r, hr⟩ : ∃ r, r = w.heap.size := ⟨_, rfl⟩
  obtain ⟨E0, hE0⟩ : ∃ E, E = ((w.alloc (.cells #[.int .i64 n, .int .i64 d] 34)).alloc (.cells #[.int .i64 n', .int .i64 d'] 34)).alloc (.cells #[.int .i64 0, .int .i64 0] 34) := ⟨_, rfl⟩
  have hB0 : Below w.heap.size w E0 := by rw [hE0]; exact (((Below.refl _ _).alloc (Nat.le_refl _) _).alloc (by simp) _).alloc (by simp; omega) _
  have b0 : Box E0 r [.int .i64 n, .int .i64 d] 34 := by rw [hE0, hr]; exact ((Box.newAt w [.int .i64 n, .int .i64 d] _ rfl).alloc _).alloc _
  have c0 : Box E0 (r + 1) [.int .i64 n', .int .i64 d'] 34 := by rw [hE0, hr]; exact (Box.newAt (w.alloc _) [.int .i64 n', .int .i64 d'] _ (by simp)).alloc _
  have q0 : Box E0 (r + 1 + 1) [.int .i64 0, .int .i64 0] 34 := by rw [hE0, hr]; exact Box.newAt ((w.alloc _).alloc _) [.int .i64 0, .int .i64 0] _ (by simp)
  obtain ⟨E1, hE1⟩ : ∃ E, E = E0.alloc (.cells #[.int .i64 n, .int .i64 d, .int .i64 n', .int .i64 d'] 34) := ⟨_, rfl⟩
  have d0 : Box E1 E0.heap.size [.int .i64 n, .int .i64 d, .int .i64 n', .int .i64 d'] 34 := by rw [hE1]; exact Box.newAt E0 [.int .i64 n, .int .i64 d, .int .i64 n', .int .i64 d'] _ rfl
  have hb01 : Below E0.heap.size E0 E1 := by rw [hE1]; exact (Below.refl _ _).alloc (Nat.le_refl _) _
  have AF := Lib.hid (areFracs_any (b := E0.heap.size) (o := 0) (c := 2) (m := 2) (f := fun k => if k = 0 then (n, d) else (n', d')) E1 (by omega) (fun k hk => by
    rcases (show k = 0 ∨ k = 1 by omega) with rfl | rfl
    · exact ⟨d0.cell 0 rfl, d0.cell 1 rfl⟩
    · exact ⟨d0.cell 2 rfl, d0.cell 3 rfl⟩) (fun k hk => by
    rcases (show k = 0 ∨ k = 1 by omega) with rfl | rfl
    · exact hf
    · exact hf') d0.lt)
  obtain ⟨x, h_x⟩ : ∃ x, x = n * d' := ⟨_, rfl⟩
  obtain ⟨y, h_y⟩ : ∃ x, x = n' * d := ⟨_, rfl⟩
  obtain ⟨z, h_z⟩ : ∃ x, x = d * d' := ⟨_, rfl⟩
  simp only [← h_x, ← h_y, ← h_z]
  rw [← h_x] at m_x
  rw [← h_y] at m_y
  rw [← h_z] at m_z
  have x1 := m_x.1
  have x2 := m_x.2
  have y1 := m_y.1
  have y2 := m_y.2
  have z1 := m_z.1
  have z2 := m_z.2
  clear m_x m_y m_z
  have hz0 : 0 < z := by rw [h_z]; exact Int.mul_pos (by omega) (by omega)
  have MK : Hid (∀ W, Calls Tryd.prog 56 #[.int .i64 (x + y), .int .i64 (z)] W fun e w' => e = .returned (.tuple #[.agg #[.int .i64 (mkN (x + y) (z)), .int .i64 (mkD (x + y) (z))], .int .i64 (mkC (x + y) (z))]) ∧ Below W.heap.size W w') := fun W => makeImpl_any _ _ W (by omega) (by omega) (by omega) (by omega)
  generalize mkN (x + y) (z) = N at MK ⊢
  generalize mkD (x + y) (z) = D at MK ⊢
  generalize mkC (x + y) (z) = C at MK ⊢
  have HE0 := Lib.hid hE0
  have HE1 := Lib.hid hE1
  have HR := Lib.hid hr
  have z0 := b0.cell 0 rfl
  have z1 := b0.cell 1 rfl
  have z2 := c0.cell 0 rfl
  have z3 := c0.cell 1 rfl
  have hrw : w.heap.size ≤ r + 1 + 1 := by omega
  have e_x : n * d' = x := h_x.symm
  have e_y : n' * d = y := h_y.symm
  have e_z : d * d' = z := h_z.symm
  clear hE0 hE1 hr hf hf' d0 h_x h_y h_z
  go_enter Tryd.func20, Tryd.ntmps20
  go_upto_region 1 with fail
  rw [← HE0.out, ← HR.out]
  go_wp2_with fail
  rw [← HE1.out]
  refine AF.out.mono ?_
  rintro e E2 ⟨rfl, hb2⟩
  have hb02 := hb01.trans (hb2.mono hb01.size)
  have b2 := b0.below hb02
  have c2 := c0.below hb02
  have q2 := q0.below hb02
  have hB2 := hB0.trans (hb02.mono hB0.size)
  clear z0 z1 z2 z3 HE1
  have z0 := b2.cell 0 rfl
  have z1 := b2.cell 1 rfl
  have z2 := c2.cell 0 rfl
  have z3 := c2.cell 1 rfl
  go_wp2_with fail
  refine (MK.out _).mono ?_
  rintro e E3 ⟨rfl, hb3⟩
  have q3 := q2.below hb3
  have hB3 := hB2.trans (hb3.mono hB2.size)
  have u0 := q3.cell 0 rfl
  have u1 := q3.cell 1 rfl
  have f0 := q3.frozen 0
  have f1 := q3.frozen 1
  have q4 := (q3.set 0 (.int .i64 N)).set 1 (.int .i64 D)
  have hB4 : Below w.heap.size w ((E3.setCell ⟨r + 1 + 1, 0, none⟩ (.int .i64 N)).setCell ⟨r + 1 + 1, 1, none⟩ (.int .i64 D)) := by (repeat (first | exact Below.refl _ _ | assumption | refine Below.setCell ?_ (by first | exact Nat.le_refl _ | omega | (simp; done) | (simp; omega)) _ | refine Below.alloc ?_ (by first | exact Nat.le_refl _ | omega | (simp; done) | (simp; omega)) _ | refine below_drewN ?_ _))
  obtain ⟨W, hW⟩ : ∃ W, W = ((E3.setCell ⟨r + 1 + 1, 0, none⟩ (.int .i64 N)).setCell ⟨r + 1 + 1, 1, none⟩ (.int .i64 D)) := ⟨_, rfl⟩
  rw [← hW] at q4 hB4
  have k0 := q4.cell 0 rfl
  have k1 := q4.cell 1 rfl
  have HW := Lib.hid hW
  clear hW z0 z1 z2 z3 q4
  go_wp2_with fail
  rw [← HW.out]
  refine bodyPost_ret (v := .tuple #[.agg #[.int .i64 N, .int .i64 D], .int .i64 C]) (by simp [results, Tryd.results20, go_sem, *]) rfl ?_
  exact ⟨rfl, hB4⟩
set_option maxHeartbeats 4000000 in
set_option maxRecDepth 100000 in
theorem subFrac_any {n d n' d' : Int} (w : World) (hf : fracB n d = true) (hf' : fracB n' d' = true) :
    Calls Tryd.prog 21 #[.agg #[.int .i64 n, .int .i64 d], .agg #[.int .i64 n', .int .i64 d']] w fun e w' => e = .returned (.tuple #[.agg #[.int .i64 (mkN (n * d' - n' * d) (d * d')), .int .i64 (mkD (n * d' - n' * d) (d * d'))], .int .i64 (mkC (n * d' - n' * d) (d * d'))]) ∧ Below w.heap.size w w' := by
  obtain ⟨d1, d2, n1, n2, -⟩ := fracB_of hf
  obtain ⟨d1', d2', n1', n2', -⟩ := fracB_of hf'

  have m_x := mul_bd (a := n) (b := d') (A := 1000000000) (B := 1000000) (by omega) n2 (by omega) d2' (by omega) (by omega)
  have m_y := mul_bd (a := n') (b := d) (A := 1000000000) (B := 1000000) (by omega) n2' (by omega) d2 (by omega) (by omega)
  have m_z := mul_bd (a := d) (b := d') (A := 1000000) (B := 1000000) (by omega) d2 (by omega) d2' (by omega) (by omega)
  obtain ⟨r, hr⟩ : ∃ r, r = w.heap.size := ⟨_, rfl⟩
  obtain ⟨E0, hE0⟩ : ∃ E, E = ((w.alloc (.cells #[.int .i64 n, .int .i64 d] 34)).alloc (.cells #[.int .i64 n', .int .i64 d'] 34)).alloc (.cells #[.int .i64 0, .int .i64 0] 34) := ⟨_, rfl⟩
  have hB0 : Below w.heap.size w E0 := by rw [hE0]; exact (((Below.refl _ _).alloc (Nat.le_refl _) _).alloc (by simp) _).alloc (by simp; omega) _
  have b0 : Box E0 r [.int .i64 n, .int .i64 d] 34 := by rw [hE0, hr]; exact ((Box.newAt w [.int .i64 n, .int .i64 d] _ rfl).alloc _).alloc _
  have c0 : Box E0 (r + 1) [.int .i64 n', .int .i64 d'] 34 := by rw [hE0, hr]; exact (Box.newAt (w.alloc _) [.int .i64 n', .int .i64 d'] _ (by simp)).alloc _
  have q0 : Box E0 (r + 1 + 1) [.int .i64 0, .int .i64 0] 34 := by rw [hE0, hr]; exact Box.newAt ((w.alloc _).alloc _) [.int .i64 0, .int .i64 0] _ (by simp)
  obtain ⟨E1, hE1⟩ : ∃ E, E = E0.alloc (.cells #[.int .i64 n, .int .i64 d, .int .i64 n', .int .i64 d'] 34) := ⟨_, rfl⟩
  have d0 : Box E1 E0.heap.size [.int .i64 n, .int .i64 d, .int .i64 n', .int .i64 d'] 34 := by rw [hE1]; exact Box.newAt E0 [.int .i64 n, .int .i64 d, .int .i64 n', .int .i64 d'] _ rfl
  have hb01 : Below E0.heap.size E0 E1 := by rw [hE1]; exact (Below.refl _ _).alloc (Nat.le_refl _) _
  have AF := Lib.hid (areFracs_any (b := E0.heap.size) (o := 0) (c := 2) (m := 2) (f := fun k => if k = 0 then (n, d) else (n', d')) E1 (by omega) (fun k hk => by
    rcases (show k = 0 ∨ k = 1 by omega) with rfl | rfl
    · exact ⟨d0.cell 0 rfl, d0.cell 1 rfl⟩
    · exact ⟨d0.cell 2 rfl, d0.cell 3 rfl⟩) (fun k hk => by
    rcases (show k = 0 ∨ k = 1 by omega) with rfl | rfl
    · exact hf
    · exact hf') d0.lt)
  obtain ⟨x, h_x⟩ : ∃ x, x = n * d' := ⟨_, rfl⟩
  obtain ⟨y, h_y⟩ : ∃ x, x = n' * d := ⟨_, rfl⟩
  obtain ⟨z, h_z⟩ : ∃ x, x = d * d' := ⟨_, rfl⟩
  simp only [← h_x, ← h_y, ← h_z]
  rw [← h_x] at m_x
  rw [← h_y] at m_y
  rw [← h_z] at m_z
  have x1 := m_x.1
  have x2 := m_x.2
  have y1 := m_y.1
  have y2 := m_y.2
  have z1 := m_z.1
  have z2 := m_z.2
  clear m_x m_y m_z
  have hz0 : 0 < z := by rw [h_z]; exact Int.mul_pos (by omega) (by omega)
  have MK : Hid (∀ W, Calls Tryd.prog 56 #[.int .i64 (x - y), .int .i64 (z)] W fun e w' => e = .returned (.tuple #[.agg #[.int .i64 (mkN (x - y) (z)), .int .i64 (mkD (x - y) (z))], .int .i64 (mkC (x - y) (z))]) ∧ Below W.heap.size W w') := fun W => makeImpl_any _ _ W (by omega) (by omega) (by omega) (by omega)
  generalize mkN (x - y) (z) = N at MK ⊢
  generalize mkD (x - y) (z) = D at MK ⊢
  generalize mkC (x - y) (z) = C at MK ⊢
  have HE0 := Lib.hid hE0
  have HE1 := Lib.hid hE1
  have HR := Lib.hid hr
  have z0 := b0.cell 0 rfl
  have z1 := b0.cell 1 rfl
  have z2 := c0.cell 0 rfl
  have z3 := c0.cell 1 rfl
  have hrw : w.heap.size ≤ r + 1 + 1 := by omega
  have e_x : n * d' = x := h_x.symm
  have e_y : n' * d = y := h_y.symm
  have e_z : d * d' = z := h_z.symm
  clear hE0 hE1 hr hf hf' d0 h_x h_y h_z
  go_enter Tryd.func21, Tryd.ntmps21
  go_upto_region 1 with fail
  rw [← HE0.out, ← HR.out]
  go_wp2_with fail
  rw [← HE1.out]
  refine AF.out.mono ?_
  rintro e E2 ⟨rfl, hb2⟩
  have hb02 := hb01.trans (hb2.mono hb01.size)
  have b2 := b0.below hb02
  have c2 := c0.below hb02
  have q2 := q0.below hb02
  have hB2 := hB0.trans (hb02.mono hB0.size)
  clear z0 z1 z2 z3 HE1
  have z0 := b2.cell 0 rfl
  have z1 := b2.cell 1 rfl
  have z2 := c2.cell 0 rfl
  have z3 := c2.cell 1 rfl
  go_wp2_with fail
  refine (MK.out _).mono ?_
  rintro e E3 ⟨rfl, hb3⟩
  have q3 := q2.below hb3
  have hB3 := hB2.trans (hb3.mono hB2.size)
  have u0 := q3.cell 0 rfl
  have u1 := q3.cell 1 rfl
  have f0 := q3.frozen 0
  have f1 := q3.frozen 1
  have q4 := (q3.set 0 (.int .i64 N)).set 1 (.int .i64 D)
  have hB4 : Below w.heap.size w ((E3.setCell ⟨r + 1 + 1, 0, none⟩ (.int .i64 N)).setCell ⟨r + 1 + 1, 1, none⟩ (.int .i64 D)) := by (repeat (first | exact Below.refl _ _ | assumption | refine Below.setCell ?_ (by first | exact Nat.le_refl _ | omega | (simp; done) | (simp; omega)) _ | refine Below.alloc ?_ (by first | exact Nat.le_refl _ | omega | (simp; done) | (simp; omega)) _ | refine below_drewN ?_ _))
  obtain ⟨W, hW⟩ : ∃ W, W = ((E3.setCell ⟨r + 1 + 1, 0, none⟩ (.int .i64 N)).setCell ⟨r + 1 + 1, 1, none⟩ (.int .i64 D)) := ⟨_, rfl⟩
  rw [← hW] at q4 hB4
  have k0 := q4.cell 0 rfl
  have k1 := q4.cell 1 rfl
  have HW := Lib.hid hW
  clear hW z0 z1 z2 z3 q4
  go_wp2_with fail
  rw [← HW.out]
  refine bodyPost_ret (v := .tuple #[.agg #[.int .i64 N, .int .i64 D], .int .i64 C]) (by simp [results, Tryd.results21, go_sem, *]) rfl ?_
  exact ⟨rfl, hB4⟩
set_option maxHeartbeats 4000000 in
set_option maxRecDepth 100000 in
theorem mulFrac_any {n d n' d' : Int} (w : World) (hf : fracB n d = true) (hf' : fracB n' d' = true) :
    Calls Tryd.prog 23 #[.agg #[.int .i64 n, .int .i64 d], .agg #[.int .i64 n', .int .i64 d']] w fun e w' => e = .returned (.tuple #[.agg #[.int .i64 (mkN (n * n') (d * d')), .int .i64 (mkD (n * n') (d * d'))], .int .i64 (mkC (n * n') (d * d'))]) ∧ Below w.heap.size w w' := by
  obtain ⟨d1, d2, n1, n2, -⟩ := fracB_of hf
  obtain ⟨d1', d2', n1', n2', -⟩ := fracB_of hf'

  have m_v := mul_bd (a := n) (b := n') (A := 1000000000) (B := 1000000000) (by omega) n2 (by omega) n2' (by omega) (by omega)
  have m_z := mul_bd (a := d) (b := d') (A := 1000000) (B := 1000000) (by omega) d2 (by omega) d2' (by omega) (by omega)
  obtain ⟨r, hr⟩ : ∃ r, r = w.heap.size := ⟨_, rfl⟩
  obtain ⟨E0, hE0⟩ : ∃ E, E = ((w.alloc (.cells #[.int .i64 n, .int .i64 d] 34)).alloc (.cells #[.int .i64 n', .int .i64 d'] 34)).alloc (.cells #[.int .i64 0, .int .i64 0] 34) := ⟨_, rfl⟩
  have hB0 : Below w.heap.size w E0 := by rw [hE0]; exact (((Below.refl _ _).alloc (Nat.le_refl _) _).alloc (by simp) _).alloc (by simp; omega) _
  have b0 : Box E0 r [.int .i64 n, .int .i64 d] 34 := by rw [hE0, hr]; exact ((Box.newAt w [.int .i64 n, .int .i64 d] _ rfl).alloc _).alloc _
  have c0 : Box E0 (r + 1) [.int .i64 n', .int .i64 d'] 34 := by rw [hE0, hr]; exact (Box.newAt (w.alloc _) [.int .i64 n', .int .i64 d'] _ (by simp)).alloc _
  have q0 : Box E0 (r + 1 + 1) [.int .i64 0, .int .i64 0] 34 := by rw [hE0, hr]; exact Box.newAt ((w.alloc _).alloc _) [.int .i64 0, .int .i64 0] _ (by simp)
  obtain ⟨E1, hE1⟩ : ∃ E, E = E0.alloc (.cells #[.int .i64 n, .int .i64 d, .int .i64 n', .int .i64 d'] 34) := ⟨_, rfl⟩
  have d0 : Box E1 E0.heap.size [.int .i64 n, .int .i64 d, .int .i64 n', .int .i64 d'] 34 := by rw [hE1]; exact Box.newAt E0 [.int .i64 n, .int .i64 d, .int .i64 n', .int .i64 d'] _ rfl
  have hb01 : Below E0.heap.size E0 E1 := by rw [hE1]; exact (Below.refl _ _).alloc (Nat.le_refl _) _
  have AF := Lib.hid (areFracs_any (b := E0.heap.size) (o := 0) (c := 2) (m := 2) (f := fun k => if k = 0 then (n, d) else (n', d')) E1 (by omega) (fun k hk => by
    rcases (show k = 0 ∨ k = 1 by omega) with rfl | rfl
    · exact ⟨d0.cell 0 rfl, d0.cell 1 rfl⟩
    · exact ⟨d0.cell 2 rfl, d0.cell 3 rfl⟩) (fun k hk => by
    rcases (show k = 0 ∨ k = 1 by omega) with rfl | rfl
    · exact hf
    · exact hf') d0.lt)
  obtain ⟨v, h_v⟩ : ∃ x, x = n * n' := ⟨_, rfl⟩
  obtain ⟨z, h_z⟩ : ∃ x, x = d * d' := ⟨_, rfl⟩
  simp only [← h_v, ← h_z]
  rw [← h_v] at m_v
  rw [← h_z] at m_z
  have v1 := m_v.1
  have v2 := m_v.2
  have z1 := m_z.1
  have z2 := m_z.2
  clear m_v m_z
  have hz0 : 0 < z := by rw [h_z]; exact Int.mul_pos (by omega) (by omega)
  have MK : Hid (∀ W, Calls Tryd.prog 56 #[.int .i64 (v), .int .i64 (z)] W fun e w' => e = .returned (.tuple #[.agg #[.int .i64 (mkN (v) (z)), .int .i64 (mkD (v) (z))], .int .i64 (mkC (v) (z))]) ∧ Below W.heap.size W w') := fun W => makeImpl_any _ _ W (by omega) (by omega) (by omega) (by omega)
  generalize mkN (v) (z) = N at MK ⊢
  generalize mkD (v) (z) = D at MK ⊢
  generalize mkC (v) (z) = C at MK ⊢
  have HE0 := Lib.hid hE0
  have HE1 := Lib.hid hE1
  have HR := Lib.hid hr
  have z0 := b0.cell 0 rfl
  have z1 := b0.cell 1 rfl
  have z2 := c0.cell 0 rfl
  have z3 := c0.cell 1 rfl
  have hrw : w.heap.size ≤ r + 1 + 1 := by omega
  have e_v : n * n' = v := h_v.symm
  have e_z : d * d' = z := h_z.symm
  clear hE0 hE1 hr hf hf' d0 h_v h_z
  go_enter Tryd.func23, Tryd.ntmps23
  go_upto_region 1 with fail
  rw [← HE0.out, ← HR.out]
  go_wp2_with fail
  rw [← HE1.out]
  refine AF.out.mono ?_
  rintro e E2 ⟨rfl, hb2⟩
  have hb02 := hb01.trans (hb2.mono hb01.size)
  have b2 := b0.below hb02
  have c2 := c0.below hb02
  have q2 := q0.below hb02
  have hB2 := hB0.trans (hb02.mono hB0.size)
  clear z0 z1 z2 z3 HE1
  have z0 := b2.cell 0 rfl
  have z1 := b2.cell 1 rfl
  have z2 := c2.cell 0 rfl
  have z3 := c2.cell 1 rfl
  go_wp2_with fail
  refine (MK.out _).mono ?_
  rintro e E3 ⟨rfl, hb3⟩
  have q3 := q2.below hb3
  have hB3 := hB2.trans (hb3.mono hB2.size)
  have u0 := q3.cell 0 rfl
  have u1 := q3.cell 1 rfl
  have f0 := q3.frozen 0
  have f1 := q3.frozen 1
  have q4 := (q3.set 0 (.int .i64 N)).set 1 (.int .i64 D)
  have hB4 : Below w.heap.size w ((E3.setCell ⟨r + 1 + 1, 0, none⟩ (.int .i64 N)).setCell ⟨r + 1 + 1, 1, none⟩ (.int .i64 D)) := by (repeat (first | exact Below.refl _ _ | assumption | refine Below.setCell ?_ (by first | exact Nat.le_refl _ | omega | (simp; done) | (simp; omega)) _ | refine Below.alloc ?_ (by first | exact Nat.le_refl _ | omega | (simp; done) | (simp; omega)) _ | refine below_drewN ?_ _))
  obtain ⟨W, hW⟩ : ∃ W, W = ((E3.setCell ⟨r + 1 + 1, 0, none⟩ (.int .i64 N)).setCell ⟨r + 1 + 1, 1, none⟩ (.int .i64 D)) := ⟨_, rfl⟩
  rw [← hW] at q4 hB4
  have k0 := q4.cell 0 rfl
  have k1 := q4.cell 1 rfl
  have HW := Lib.hid hW
  clear hW z0 z1 z2 z3 q4
  go_wp2_with fail
  rw [← HW.out]
  refine bodyPost_ret (v := .tuple #[.agg #[.int .i64 N, .int .i64 D], .int .i64 C]) (by simp [results, Tryd.results23, go_sem, *]) rfl ?_
  exact ⟨rfl, hB4⟩
set_option maxHeartbeats 4000000 in
set_option maxRecDepth 100000 in
theorem divFrac_pos {n d n' d' : Int} (w : World) (hf : fracB n d = true) (hf' : fracB n' d' = true) (hp : 0 < n') :
    Calls Tryd.prog 24 #[.agg #[.int .i64 n, .int .i64 d], .agg #[.int .i64 n', .int .i64 d']] w fun e w' => e = .returned (.tuple #[.agg #[.int .i64 (mkN (n * d') (d * n')), .int .i64 (mkD (n * d') (d * n'))], .int .i64 (mkC (n * d') (d * n'))]) ∧ Below w.heap.size w w' := by
  obtain ⟨d1, d2, n1, n2, -⟩ := fracB_of hf
  obtain ⟨d1', d2', n1', n2', -⟩ := fracB_of hf'

  have m_x := mul_bd (a := n) (b := d') (A := 1000000000) (B := 1000000) (by omega) n2 (by omega) d2' (by omega) (by omega)
  have m_u := mul_bd (a := d) (b := n') (A := 1000000) (B := 1000000000) (by omega) d2 (by omega) n2' (by omega) (by omega)
  obtain ⟨r, hr⟩ : ∃ r, r = w.heap.size := ⟨_, rfl⟩
  obtain ⟨E0, hE0⟩ : ∃ E, E = ((w.alloc (.cells #[.int .i64 n, .int .i64 d] 34)).alloc (.cells #[.int .i64 n', .int .i64 d'] 34)).alloc (.cells #[.int .i64 0, .int .i64 0] 34) := ⟨_, rfl⟩
  have hB0 : Below w.heap.size w E0 := by rw [hE0]; exact (((Below.refl _ _).alloc (Nat.le_refl _) _).alloc (by simp) _).alloc (by simp; omega) _
  have b0 : Box E0 r [.int .i64 n, .int .i64 d] 34 := by rw [hE0, hr]; exact ((Box.newAt w [.int .i64 n, .int .i64 d] _ rfl).alloc _).alloc _
  have c0 : Box E0 (r + 1) [.int .i64 n', .int .i64 d'] 34 := by rw [hE0, hr]; exact (Box.newAt (w.alloc _) [.int .i64 n', .int .i64 d'] _ (by simp)).alloc _
  have q0 : Box E0 (r + 1 + 1) [.int .i64 0, .int .i64 0] 34 := by rw [hE0, hr]; exact Box.newAt ((w.alloc _).alloc _) [.int .i64 0, .int .i64 0] _ (by simp)
  obtain ⟨E1, hE1⟩ : ∃ E, E = E0.alloc (.cells #[.int .i64 n, .int .i64 d, .int .i64 n', .int .i64 d'] 34) := ⟨_, rfl⟩
  have d0 : Box E1 E0.heap.size [.int .i64 n, .int .i64 d, .int .i64 n', .int .i64 d'] 34 := by rw [hE1]; exact Box.newAt E0 [.int .i64 n, .int .i64 d, .int .i64 n', .int .i64 d'] _ rfl
  have hb01 : Below E0.heap.size E0 E1 := by rw [hE1]; exact (Below.refl _ _).alloc (Nat.le_refl _) _
  have AF := Lib.hid (areFracs_any (b := E0.heap.size) (o := 0) (c := 2) (m := 2) (f := fun k => if k = 0 then (n, d) else (n', d')) E1 (by omega) (fun k hk => by
    rcases (show k = 0 ∨ k = 1 by omega) with rfl | rfl
    · exact ⟨d0.cell 0 rfl, d0.cell 1 rfl⟩
    · exact ⟨d0.cell 2 rfl, d0.cell 3 rfl⟩) (fun k hk => by
    rcases (show k = 0 ∨ k = 1 by omega) with rfl | rfl
    · exact hf
    · exact hf') d0.lt)
  obtain ⟨x, h_x⟩ : ∃ x, x = n * d' := ⟨_, rfl⟩
  obtain ⟨u, h_u⟩ : ∃ x, x = d * n' := ⟨_, rfl⟩
  simp only [← h_x, ← h_u]
  rw [← h_x] at m_x
  rw [← h_u] at m_u
  have x1 := m_x.1
  have x2 := m_x.2
  have u1 := m_u.1
  have u2 := m_u.2
  clear m_x m_u
  have hz0 : 0 < u := by rw [h_u]; exact Int.mul_pos (by omega) hp
  have MK : Hid (∀ W, Calls Tryd.prog 56 #[.int .i64 (x), .int .i64 (u)] W fun e w' => e = .returned (.tuple #[.agg #[.int .i64 (mkN (x) (u)), .int .i64 (mkD (x) (u))], .int .i64 (mkC (x) (u))]) ∧ Below W.heap.size W w') := fun W => makeImpl_any _ _ W (by omega) (by omega) (by omega) (by omega)
  generalize mkN (x) (u) = N at MK ⊢
  generalize mkD (x) (u) = D at MK ⊢
  generalize mkC (x) (u) = C at MK ⊢
  have HE0 := Lib.hid hE0
  have HE1 := Lib.hid hE1
  have HR := Lib.hid hr
  have z0 := b0.cell 0 rfl
  have z1 := b0.cell 1 rfl
  have z2 := c0.cell 0 rfl
  have z3 := c0.cell 1 rfl
  have hrw : w.heap.size ≤ r + 1 + 1 := by omega
  have e_x : n * d' = x := h_x.symm
  have e_u : d * n' = u := h_u.symm
  clear hE0 hE1 hr hf hf' d0 h_x h_u
  go_enter Tryd.func24, Tryd.ntmps24
  go_upto_region 1 with fail
  rw [← HE0.out, ← HR.out]
  go_wp2_with fail
  rw [← HE1.out]
  refine AF.out.mono ?_
  rintro e E2 ⟨rfl, hb2⟩
  have hb02 := hb01.trans (hb2.mono hb01.size)
  have b2 := b0.below hb02
  have c2 := c0.below hb02
  have q2 := q0.below hb02
  have hB2 := hB0.trans (hb02.mono hB0.size)
  clear z0 z1 z2 z3 HE1
  have z0 := b2.cell 0 rfl
  have z1 := b2.cell 1 rfl
  have z2 := c2.cell 0 rfl
  have z3 := c2.cell 1 rfl
  go_wp2_with fail
  refine (MK.out _).mono ?_
  rintro e E3 ⟨rfl, hb3⟩
  have q3 := q2.below hb3
  have hB3 := hB2.trans (hb3.mono hB2.size)
  have u0 := q3.cell 0 rfl
  have u1 := q3.cell 1 rfl
  have f0 := q3.frozen 0
  have f1 := q3.frozen 1
  have q4 := (q3.set 0 (.int .i64 N)).set 1 (.int .i64 D)
  have hB4 : Below w.heap.size w ((E3.setCell ⟨r + 1 + 1, 0, none⟩ (.int .i64 N)).setCell ⟨r + 1 + 1, 1, none⟩ (.int .i64 D)) := by (repeat (first | exact Below.refl _ _ | assumption | refine Below.setCell ?_ (by first | exact Nat.le_refl _ | omega | (simp; done) | (simp; omega)) _ | refine Below.alloc ?_ (by first | exact Nat.le_refl _ | omega | (simp; done) | (simp; omega)) _ | refine below_drewN ?_ _))
  obtain ⟨W, hW⟩ : ∃ W, W = ((E3.setCell ⟨r + 1 + 1, 0, none⟩ (.int .i64 N)).setCell ⟨r + 1 + 1, 1, none⟩ (.int .i64 D)) := ⟨_, rfl⟩
  rw [← hW] at q4 hB4
  have k0 := q4.cell 0 rfl
  have k1 := q4.cell 1 rfl
  have HW := Lib.hid hW
  clear hW z0 z1 z2 z3 q4
  go_wp2_with fail
  rw [← HW.out]
  refine bodyPost_ret (v := .tuple #[.agg #[.int .i64 N, .int .i64 D], .int .i64 C]) (by simp [results, Tryd.results24, go_sem, *]) rfl ?_
  exact ⟨rfl, hB4⟩
set_option maxHeartbeats 4000000 in
set_option maxRecDepth 100000 in
theorem divFrac_neg {n d n' d' : Int} (w : World) (hf : fracB n d = true) (hf' : fracB n' d' = true) (hp : n' < 0) :
    Calls Tryd.prog 24 #[.agg #[.int .i64 n, .int .i64 d], .agg #[.int .i64 n', .int .i64 d']] w fun e w' => e = .returned (.tuple #[.agg #[.int .i64 (mkN (-(n * d')) (-(d * n'))), .int .i64 (mkD (-(n * d')) (-(d * n')))], .int .i64 (mkC (-(n * d')) (-(d * n')))]) ∧ Below w.heap.size w w' := by
  obtain ⟨d1, d2, n1, n2, -⟩ := fracB_of hf
  obtain ⟨d1', d2', n1', n2', -⟩ := fracB_of hf'

  have m_x := mul_bd (a := n) (b := d') (A := 1000000000) (B := 1000000) (by omega) n2 (by omega) d2' (by omega) (by omega)
  have m_u := mul_bd (a := d) (b := n') (A := 1000000) (B := 1000000000) (by omega) d2 (by omega) n2' (by omega) (by omega)
  obtain ⟨r, hr⟩ : ∃ r, r = w.heap.size := ⟨_, rfl⟩
  obtain ⟨E0, hE0⟩ : ∃ E, E = ((w.alloc (.cells #[.int .i64 n, .int .i64 d] 34)).alloc (.cells #[.int .i64 n', .int .i64 d'] 34)).alloc (.cells #[.int .i64 0, .int .i64 0] 34) := ⟨_, rfl⟩
  have hB0 : Below w.heap.size w E0 := by rw [hE0]; exact (((Below.refl _ _).alloc (Nat.le_refl _) _).alloc (by simp) _).alloc (by simp; omega) _
  have b0 : Box E0 r [.int .i64 n, .int .i64 d] 34 := by rw [hE0, hr]; exact ((Box.newAt w [.int .i64 n, .int .i64 d] _ rfl).alloc _).alloc _
  have c0 : Box E0 (r + 1) [.int .i64 n', .int .i64 d'] 34 := by rw [hE0, hr]; exact (Box.newAt (w.alloc _) [.int .i64 n', .int .i64 d'] _ (by simp)).alloc _
  have q0 : Box E0 (r + 1 + 1) [.int .i64 0, .int .i64 0] 34 := by rw [hE0, hr]; exact Box.newAt ((w.alloc _).alloc _) [.int .i64 0, .int .i64 0] _ (by simp)
  obtain ⟨E1, hE1⟩ : ∃ E, E = E0.alloc (.cells #[.int .i64 n, .int .i64 d, .int .i64 n', .int .i64 d'] 34) := ⟨_, rfl⟩
  have d0 : Box E1 E0.heap.size [.int .i64 n, .int .i64 d, .int .i64 n', .int .i64 d'] 34 := by rw [hE1]; exact Box.newAt E0 [.int .i64 n, .int .i64 d, .int .i64 n', .int .i64 d'] _ rfl
  have hb01 : Below E0.heap.size E0 E1 := by rw [hE1]; exact (Below.refl _ _).alloc (Nat.le_refl _) _
  have AF := Lib.hid (areFracs_any (b := E0.heap.size) (o := 0) (c := 2) (m := 2) (f := fun k => if k = 0 then (n, d) else (n', d')) E1 (by omega) (fun k hk => by
    rcases (show k = 0 ∨ k = 1 by omega) with rfl | rfl
    · exact ⟨d0.cell 0 rfl, d0.cell 1 rfl⟩
    · exact ⟨d0.cell 2 rfl, d0.cell 3 rfl⟩) (fun k hk => by
    rcases (show k = 0 ∨ k = 1 by omega) with rfl | rfl
    · exact hf
    · exact hf') d0.lt)
  obtain ⟨x, h_x⟩ : ∃ x, x = n * d' := ⟨_, rfl⟩
  obtain ⟨u, h_u⟩ : ∃ x, x = d * n' := ⟨_, rfl⟩
  simp only [← h_x, ← h_u]
  rw [← h_x] at m_x
  rw [← h_u] at m_u
  have x1 := m_x.1
  have x2 := m_x.2
  have u1 := m_u.1
  have u2 := m_u.2
  clear m_x m_u
  have hz0 : u < 0 := by rw [h_u]; exact Int.mul_neg_of_pos_of_neg (by omega) hp
  have MK : Hid (∀ W, Calls Tryd.prog 56 #[.int .i64 (x), .int .i64 (u)] W fun e w' => e = .returned (.tuple #[.agg #[.int .i64 (mkN (-(x)) (-(u))), .int .i64 (mkD (-(x)) (-(u)))], .int .i64 (mkC (-(x)) (-(u)))]) ∧ Below W.heap.size W w') := fun W => makeImpl_neg _ _ W (by omega) (by omega) (by omega) (by omega)
  generalize mkN (-(x)) (-(u)) = N at MK ⊢
  generalize mkD (-(x)) (-(u)) = D at MK ⊢
  generalize mkC (-(x)) (-(u)) = C at MK ⊢
  have HE0 := Lib.hid hE0
  have HE1 := Lib.hid hE1
  have HR := Lib.hid hr
  have z0 := b0.cell 0 rfl
  have z1 := b0.cell 1 rfl
  have z2 := c0.cell 0 rfl
  have z3 := c0.cell 1 rfl
  have hrw : w.heap.size ≤ r + 1 + 1 := by omega
  have e_x : n * d' = x := h_x.symm
  have e_u : d * n' = u := h_u.symm
  clear hE0 hE1 hr hf hf' d0 h_x h_u
  go_enter Tryd.func24, Tryd.ntmps24
  go_upto_region 1 with fail
  rw [← HE0.out, ← HR.out]
  go_wp2_with fail
  rw [← HE1.out]
  refine AF.out.mono ?_
  rintro e E2 ⟨rfl, hb2⟩
  have hb02 := hb01.trans (hb2.mono hb01.size)
  have b2 := b0.below hb02
  have c2 := c0.below hb02
  have q2 := q0.below hb02
  have hB2 := hB0.trans (hb02.mono hB0.size)
  clear z0 z1 z2 z3 HE1
  have z0 := b2.cell 0 rfl
  have z1 := b2.cell 1 rfl
  have z2 := c2.cell 0 rfl
  have z3 := c2.cell 1 rfl
  go_wp2_with fail
  refine (MK.out _).mono ?_
  rintro e E3 ⟨rfl, hb3⟩
  have q3 := q2.below hb3
  have hB3 := hB2.trans (hb3.mono hB2.size)
  have u0 := q3.cell 0 rfl
  have u1 := q3.cell 1 rfl
  have f0 := q3.frozen 0
  have f1 := q3.frozen 1
  have q4 := (q3.set 0 (.int .i64 N)).set 1 (.int .i64 D)
  have hB4 : Below w.heap.size w ((E3.setCell ⟨r + 1 + 1, 0, none⟩ (.int .i64 N)).setCell ⟨r + 1 + 1, 1, none⟩ (.int .i64 D)) := by (repeat (first | exact Below.refl _ _ | assumption | refine Below.setCell ?_ (by first | exact Nat.le_refl _ | omega | (simp; done) | (simp; omega)) _ | refine Below.alloc ?_ (by first | exact Nat.le_refl _ | omega | (simp; done) | (simp; omega)) _ | refine below_drewN ?_ _))
  obtain ⟨W, hW⟩ : ∃ W, W = ((E3.setCell ⟨r + 1 + 1, 0, none⟩ (.int .i64 N)).setCell ⟨r + 1 + 1, 1, none⟩ (.int .i64 D)) := ⟨_, rfl⟩
  rw [← hW] at q4 hB4
  have k0 := q4.cell 0 rfl
  have k1 := q4.cell 1 rfl
  have HW := Lib.hid hW
  clear hW z0 z1 z2 z3 q4
  go_wp2_with fail
  rw [← HW.out]
  refine bodyPost_ret (v := .tuple #[.agg #[.int .i64 N, .int .i64 D], .int .i64 C]) (by simp [results, Tryd.results24, go_sem, *]) rfl ?_
  exact ⟨rfl, hB4⟩
end Go.Proofs.YtnhhghilejeegaaDoor
