/-
  The walk of the law on fractions.
-/
import Derived.Test.YtnhhghilejeegaaDoorFrM
import Derived.Test.YtnhhghilejeegaaDoorFrB
namespace Go.Proofs.YtnhhghilejeegaaDoor
open Go.ChangeShapes Go.WideShapes Go.ChangeAt Go.RowKit Go.Sort
set_option linter.unusedVariables false
set_option linter.unusedSimpArgs false

set_option maxHeartbeats 16000000 in
set_option maxRecDepth 100000 in
theorem fnFractions_walk (w : World) {v : Value} {bs0 : List Int} (h : VB w v bs0) (hm : bs0.length ≤ maxLen) (hT : TxtT w) (hE : TxtE w) (hC : TxtC w) :
    Calls Tryd.prog 4 #[v] w fun e w' => e = .returned (.bool true) ∧ Below w.heap.size w w' := by
  have hv := h
  obtain ⟨p, c, rfl, -⟩ := hv
  have LG := Lib.hid (a2Long_any p bs0.length c w hm)
  by_cases hl : (3000 : Int) < (bs0.length : Int)
  · rw [decide_eq_true hl] at LG
    clear hl
    go_enter Tryd.func4, Tryd.ntmps4
    go_wp2_with (go_at_call 18; refine LG.out.mono ?_; rintro e w' ⟨rfl, rfl⟩)
    go_ret
    exact ⟨rfl, Below.refl _ _⟩
  rw [decide_eq_false hl] at LG
  have AB := Lib.hid (a2Fracs_any w h (by omega))
  clear hl h hm
  go_enter Tryd.func4, Tryd.ntmps4
  go_wp2_with fail
  refine LG.out.mono ?_
  rintro e w' ⟨rfl, rfl⟩
  go_wp2_with fail
  refine AB.out.mono ?_
  rintro e E1 ⟨n, d, n', d', hf, hf', rfl, hB1⟩
  clear LG AB
  obtain ⟨d1, d2, n1, n2, -⟩ := fracB_of hf
  obtain ⟨d1', d2', n1', n2', -⟩ := fracB_of hf'
  have AD : Hid (∀ W, Calls Tryd.prog 20 #[.agg #[.int .i64 n, .int .i64 d], .agg #[.int .i64 n', .int .i64 d']] W fun e w' => e = .returned (.tuple #[.agg #[.int .i64 (mkN (n * d' + n' * d) (d * d')), .int .i64 (mkD (n * d' + n' * d) (d * d'))], .int .i64 (mkC (n * d' + n' * d) (d * d'))]) ∧ Below W.heap.size W w') := fun W => addFrac_any W hf hf'
  have SU : Hid (∀ W, Calls Tryd.prog 21 #[.agg #[.int .i64 n, .int .i64 d], .agg #[.int .i64 n', .int .i64 d']] W fun e w' => e = .returned (.tuple #[.agg #[.int .i64 (mkN (n * d' - n' * d) (d * d')), .int .i64 (mkD (n * d' - n' * d) (d * d'))], .int .i64 (mkC (n * d' - n' * d) (d * d'))]) ∧ Below W.heap.size W w') := fun W => subFrac_any W hf hf'
  have MU : Hid (∀ W, Calls Tryd.prog 23 #[.agg #[.int .i64 n, .int .i64 d], .agg #[.int .i64 n', .int .i64 d']] W fun e w' => e = .returned (.tuple #[.agg #[.int .i64 (mkN (n * n') (d * d')), .int .i64 (mkD (n * n') (d * d'))], .int .i64 (mkC (n * n') (d * d'))]) ∧ Below W.heap.size W w') := fun W => mulFrac_any W hf hf'
  have CP : Hid (∀ W, Calls Tryd.prog 25 #[.agg #[.int .i64 n, .int .i64 d], .agg #[.int .i64 n', .int .i64 d']] W fun e w' => e = .returned (.int .i64 (sgn (n * d') (n' * d))) ∧ Below W.heap.size W w') := fun W => compareFracI_any W hf hf'
  have CP2 : Hid (∀ W, Calls Tryd.prog 25 #[.agg #[.int .i64 n', .int .i64 d'], .agg #[.int .i64 n, .int .i64 d]] W fun e w' => e = .returned (.int .i64 (-sgn (n * d') (n' * d))) ∧ Below W.heap.size W w') := fun W => by
    rw [← sgn_swap]
    exact compareFracI_any W hf' hf
  have FL : Hid (∀ W, Calls Tryd.prog 26 #[.agg #[.int .i64 n, .int .i64 d]] W fun e w' => e = .returned (.int .i64 (n / d)) ∧ Below W.heap.size W w') := fun W => floorFracI_any W hf
  have FT : Hid (∀ W, TxtT W → Calls Tryd.prog 28 #[.agg #[.int .i64 n, .int .i64 d]] W fun e w' => e = .returned (.string (bs (fracStr n d))) ∧ Below W.heap.size W w') := fun W h1 => fracText_any W hf h1
  have RF : Hid (∀ W, TxtT W → TxtE W → TxtC W → Calls Tryd.prog 27 #[.string (bs (fracStr n d))] W fun e w' => e = .returned (.tuple #[.agg #[.int .i64 n, .int .i64 d], .bool true]) ∧ Below W.heap.size W w') := fun W h1 h2 h3 => readFrac_any W hf h1 h2 h3
  generalize fracStr n d = FS at FT RF
  have A1 : Hid (mkC (n * d' + n' * d) (d * d') = 0 → fracB (mkN (n * d' + n' * d) (d * d')) (mkD (n * d' + n' * d) (d * d')) = true ∧ ∀ W, Calls Tryd.prog 21 #[.agg #[.int .i64 (mkN (n * d' + n' * d) (d * d')), .int .i64 (mkD (n * d' + n' * d) (d * d'))], .agg #[.int .i64 n', .int .i64 d']] W fun e w' => e = .returned (.tuple #[.agg #[.int .i64 n, .int .i64 d], .int .i64 0]) ∧ Below W.heap.size W w') := fun hc => by
    obtain ⟨k0, k1, k2, k3⟩ := add_back hf hf' hc
    refine ⟨k0, fun W => ?_⟩
    have := subFrac_any W k0 hf'
    rwa [k1, k2, k3] at this
  have A2 : Hid (mkC (n * n') (d * d') = 0 → n' ≠ 0 → ∀ W, Calls Tryd.prog 24 #[.agg #[.int .i64 (mkN (n * n') (d * d')), .int .i64 (mkD (n * n') (d * d'))], .agg #[.int .i64 n', .int .i64 d']] W fun e w' => e = .returned (.tuple #[.agg #[.int .i64 n, .int .i64 d], .int .i64 0]) ∧ Below W.heap.size W w') := fun hc hn W => by
    by_cases hp : 0 < n'
    · obtain ⟨k0, k1, k2, k3⟩ := mul_back_pos hf hf' hp hc
      have := divFrac_pos W k0 hf' hp
      rwa [k1, k2, k3] at this
    · obtain ⟨k0, k1, k2, k3⟩ := mul_back_neg hf hf' (by omega) hc
      have := divFrac_neg W k0 hf' (by omega)
      rwa [k1, k2, k3] at this
  have A3 : Hid (mkC (n * d' - n' * d) (d * d') = 0 → (0 < sgn (n * d') (n' * d) ↔ 0 < mkN (n * d' - n' * d) (d * d'))) := fun hc => sub_sign hf hf' hc
  have A4 : Hid (sgn (n * d') (n' * d) = 0 ↔ (n = n' ∧ d = d')) := sgn_zero hf hf'
  have A5 : Hid (n / d * d ≤ n ∧ n < (n / d + 1) * d) := floor_law (by omega)
  have A6 : Hid (sgn (n * d') (n' * d) = 0 ∨ sgn (n * d') (n' * d) = 1 ∨ sgn (n * d') (n' * d) = -1) := by unfold Hid sgn; split <;> (try split) <;> simp
  have C1 : Hid (mkC (n * d' + n' * d) (d * d') = 0 ∨ mkC (n * d' + n' * d) (d * d') = 2) := by unfold Hid mkC; split <;> simp
  have C2 : Hid (mkC (n * n') (d * d') = 0 ∨ mkC (n * n') (d * d') = 2) := by unfold Hid mkC; split <;> simp
  have C3 : Hid (mkC (n * d' - n' * d) (d * d') = 0 ∨ mkC (n * d' - n' * d) (d * d') = 2) := by unfold Hid mkC; split <;> simp
  have VF : Hid (∀ a b, fracB a b = true → ∀ W, Calls Tryd.prog 22 #[.agg #[.int .i64 a, .int .i64 b]] W fun e w' => e = .returned (.bool true) ∧ Below W.heap.size W w') := fun a b hab W => by rw [← hab]; exact validFrac_any a b W
  have hfl1 : -1000000000 ≤ n / d ∧ n / d ≤ 1000000000 := ediv_bd (by omega) (by omega) (by omega)
  have hfb := mul_bd (a := n / d) (b := d) (A := 1000000000) (B := 1000000) (by omega) (by omega) (by omega) (by omega) (by omega) (by omega)
  have hfc := mul_bd (a := n / d + 1) (b := d) (A := 1000000001) (B := 1000000) (by omega) (by omega) (by omega) (by omega) (by omega) (by omega)
  generalize mkN (n * d' + n' * d) (d * d') = N1 at *
  generalize mkD (n * d' + n' * d) (d * d') = D1 at *
  generalize mkC (n * d' + n' * d) (d * d') = K1 at *
  generalize mkN (n * n') (d * d') = N2 at *
  generalize mkD (n * n') (d * d') = D2 at *
  generalize mkC (n * n') (d * d') = K2 at *
  generalize mkN (n * d' - n' * d) (d * d') = N3 at *
  generalize mkD (n * d' - n' * d) (d * d') = D3 at *
  generalize mkC (n * d' - n' * d) (d * d') = K3 at *
  generalize sgn (n * d') (n' * d) = S at *
  generalize n / d = q at *
  obtain ⟨qd, hqd⟩ : ∃ x, x = q * d := ⟨_, rfl⟩
  obtain ⟨qe, hqe⟩ : ∃ x, x = (q + 1) * d := ⟨_, rfl⟩
  rw [← hqd] at hfb A5
  rw [← hqe] at hfc A5
  have eqd : q * d = qd := hqd.symm
  have eqe : (q + 1) * d = qe := hqe.symm
  have g1 := hfb.1; have g2 := hfb.2; have g3 := hfc.1; have g4 := hfc.2
  have g5 := A5.out.1; have g6 := A5.out.2
  clear hqd hqe hfb hfc hf hf' A5
  obtain ⟨E2, hE2⟩ : ∃ E, E = (E1.alloc (.cells #[.int .i64 n, .int .i64 d] 34)).alloc (.cells #[.int .i64 n', .int .i64 d'] 34) := ⟨_, rfl⟩
  obtain ⟨ga, hga⟩ : ∃ g, g = E1.heap.size := ⟨_, rfl⟩
  have ba : Box E2 ga [.int .i64 n, .int .i64 d] 34 := by rw [hE2, hga]; exact (Box.newAt E1 [.int .i64 n, .int .i64 d] _ rfl).alloc _
  have bb : Box E2 (ga + 1) [.int .i64 n', .int .i64 d'] 34 := by rw [hE2, hga]; exact Box.newAt (E1.alloc _) [.int .i64 n', .int .i64 d'] _ (by simp)
  have hB2 : Below w.heap.size w E2 := by rw [hE2]; exact (hB1.alloc hB1.size _).alloc (by have := hB1.size; simp; omega) _
  have HT := Lib.hid (hT.below hB2)
  have HEr := Lib.hid (hE.below hB2)
  have HC := Lib.hid (hC.below hB2)
  have CK : Hid (∀ W, Below E2.heap.size E2 W → W.cell? ⟨ga, 0, none⟩ = some (.int .i64 n) ∧ W.cell? ⟨ga, 1, none⟩ = some (.int .i64 d) ∧ W.cell? ⟨ga + 1, 0, none⟩ = some (.int .i64 n') ∧ W.cell? ⟨ga + 1, 1, none⟩ = some (.int .i64 d') ∧ ga < W.heap.size ∧ ga + 1 < W.heap.size) := fun W hW =>
    ⟨(ba.below hW).cell 0 rfl, (ba.below hW).cell 1 rfl, (bb.below hW).cell 0 rfl, (bb.below hW).cell 1 rfl, (ba.below hW).lt, (bb.below hW).lt⟩
  have HE2 := Lib.hid hE2
  have HGA := Lib.hid hga
  have HB2 := Lib.hid hB2
  have HS2 : Hid (w.heap.size ≤ E2.heap.size) := hB2.size
  have hb : Below E2.heap.size E2 E2 := Below.refl _ _
  clear hE2 hga hB1 hB2 hT hE hC ba bb
  go_upto_region 4 with fail
  rw [← HGA.out]
  rw [← HE2.out]
  obtain ⟨z0, z1, z2, z3, l0, l1⟩ := CK.out _ hb

  rcases C1.out with hk1 | hk1
  · subst hk1
    obtain ⟨ok1, SB⟩ := A1.out rfl
    have SB := Lib.hid SB
    go_upto_region 9 with (first
      | (go_at_call 20; refine (AD.out _).mono ?_; rintro e X ⟨rfl, hbx⟩; have hb := hb.trans (hbx.mono hb.size); obtain ⟨z0, z1, z2, z3, l0, l1⟩ := CK.out _ hb)
      | (go_at_call 21; refine (SB.out _).mono ?_; rintro e Y ⟨rfl, hby⟩; have hba := hb.alloc hb.size (.cells #[.int .i64 N1, .int .i64 D1] 34); have hbY := hba.trans (hby.mono hba.size); have bx := (Box.newAt X [.int .i64 N1, .int .i64 D1] 34 rfl).below hby; obtain ⟨z0, z1, z2, z3, l0, l1⟩ := CK.out _ hbY; have x0 := bx.cell 0 rfl; have x1 := bx.cell 1 rfl; have lx := bx.lt)
      | (go_at_call 22; refine (VF.out _ _ ok1 _).mono ?_; rintro e E ⟨rfl, hbz⟩)
      | fail)
    have hbZ := hbY.alloc hbY.size (.cells #[.int .i64 n, .int .i64 d] 34)
    have bx := (bx.alloc (.cells #[.int .i64 n, .int .i64 d] 34)).below hbz
    have HGX : Hid (E2.heap.size ≤ X.heap.size) := hb.size
    have hb := hbZ.trans (hbz.mono hbZ.size)
    clear hbZ hbz hbY hby hba hbx x0 x1 lx z0 z1 z2 z3 l0 l1 SB
    obtain ⟨gx, hgx'⟩ : ∃ g, g = X.heap.size := ⟨_, rfl⟩
    rw [← hgx'] at bx HGX ⊢
    clear hgx'
    obtain ⟨z0, z1, z2, z3, l0, l1⟩ := CK.out _ hb
    have hgx := bx.lt
    go_upto_region 10 with (first
      | (go_at_call 23; refine (MU.out _).mono ?_; rintro e F ⟨rfl, hbf⟩; have bf := bx.below hbf; have x0 := bf.cell 0 rfl; have x1 := bf.cell 1 rfl; have v0 := bf.frozen 0; have v1 := bf.frozen 1; have lx := bf.lt)
      | fail)
    have hbF := ((hb.trans (hbf.mono hb.size)).setCell (p := ⟨gx, 0, none⟩) HGX.out (.int .i64 N2)).setCell (p := ⟨gx, 1, none⟩) HGX.out (.int .i64 D2)
    have bx2 := (bf.set 0 (.int .i64 N2)).set 1 (.int .i64 D2)
    simp only [List.set_cons_succ, List.set_cons_zero] at bx2
    generalize (F.setCell ⟨gx, 0, none⟩ (.int .i64 N2)).setCell ⟨gx, 1, none⟩ (.int .i64 D2) = G at *
    clear z0 z1 z2 z3 l0 l1 bx hb bf x0 x1 v0 v1 lx hbf
    obtain ⟨z0, z1, z2, z3, l0, l1⟩ := CK.out _ hbF
    have x0 := bx2.cell 0 rfl
    have x1 := bx2.cell 1 rfl
    have lx := bx2.lt
    rcases C2.out with hk2 | hk2
    · subst hk2
      by_cases hn : n' = 0
      · have hn0 : (n' != 0) = false := by simp [hn]
        clear hn
        go_upto_region 14 with fail
        rcases C3.out with hk3 | hk3
        · subst hk3
          have hSb : -1 ≤ S ∧ S ≤ 1 := by have := A6.out; omega
          have hSb1 := hSb.1
          have hSb2 := hSb.2
          obtain ⟨bp, hbp⟩ : ∃ b, b = decide (0 < S) := ⟨_, rfl⟩
          have hs1 : decide (0 < S) = bp := hbp.symm
          have hs3 : decide (0 < N3) = bp := by rw [hbp]; simp only [(A3.out rfl)]
          have a4 : (S == 0) = (decide (n = n') && decide (d = d')) := by
            have h4 := A4.out
            rw [Bool.eq_iff_iff, beq_iff_eq, Bool.and_eq_true, decide_eq_true_eq, decide_eq_true_eq]
            exact h4
          clear hbp hSb
          go_upto_region 18 with (first
            | (go_at_call 21; with_reducible refine (SU.out _).mono ?_; rintro e S1 ⟨rfl, hbs⟩; have hb1 := (hbF).trans (hbs.mono (hbF).size); obtain ⟨z0, z1, z2, z3, l0, l1⟩ := CK.out _ hb1)
            | (go_at_call 25; with_reducible refine (CP.out _).mono ?_; rintro e S2 ⟨rfl, hbs2⟩; have hb1a := hb1.alloc hb1.size (.cells #[.int .i64 N3, .int .i64 D3] 34); have hb2 := hb1a.trans (hbs2.mono hb1a.size); have bd := (Box.newAt S1 [.int .i64 N3, .int .i64 D3] 34 rfl).below hbs2; have w0 := bd.cell 0 rfl; have w1 := bd.cell 1 rfl; obtain ⟨z0, z1, z2, z3, l0, l1⟩ := CK.out _ hb2)
            | (go_at_call 25; with_reducible refine (CP2.out _).mono ?_; rintro e S3 ⟨rfl, hbs3⟩; have hb3 := hb2.trans (hbs3.mono hb2.size); obtain ⟨z0, z1, z2, z3, l0, l1⟩ := CK.out _ hb3)
            | fail)
          all_goals clear a4 hs1
          all_goals (try subst n')
          all_goals (try subst d')
          all_goals
            go_wp2_with fail
            refine (FL.out _).mono ?_
            rintro e S4 ⟨rfl, hbs4⟩
            have hb4 := hb3.trans (hbs4.mono hb3.size)
            obtain ⟨z0, z1, z2, z3, l0, l1⟩ := CK.out _ hb4
            go_wp2_with fail
            refine (FT.out _ (HT.out.below hb4)).mono ?_
            rintro e S5 ⟨rfl, hbs5⟩
            have hb5 := hb4.trans (hbs5.mono hb4.size)
            go_wp2_with fail
            refine (RF.out _ (HT.out.below hb5) (HEr.out.below hb5) (HC.out.below hb5)).mono ?_
            rintro e S6 ⟨rfl, hbs6⟩
            have hb6 := hb5.trans (hbs6.mono hb5.size)
            obtain ⟨z0, z1, z2, z3, l0, l1⟩ := CK.out _ hb6
            go_wp2_with fail
            go_ret
            exact ⟨rfl, HB2.out.trans ((hb6.alloc hb6.size _).mono HS2.out)⟩
        · subst hk3
          have hSb : -1 ≤ S ∧ S ≤ 1 := by have := A6.out; omega
          have hSb1 := hSb.1
          have hSb2 := hSb.2
          obtain ⟨bp, hbp⟩ : ∃ b, b = decide (0 < S) := ⟨_, rfl⟩
          have hs1 : decide (0 < S) = bp := hbp.symm
          have a4 : (S == 0) = (decide (n = n') && decide (d = d')) := by
            have h4 := A4.out
            rw [Bool.eq_iff_iff, beq_iff_eq, Bool.and_eq_true, decide_eq_true_eq, decide_eq_true_eq]
            exact h4
          clear hbp hSb
          go_upto_region 18 with (first
            | (go_at_call 21; with_reducible refine (SU.out _).mono ?_; rintro e S1 ⟨rfl, hbs⟩; have hb1 := (hbF).trans (hbs.mono (hbF).size); obtain ⟨z0, z1, z2, z3, l0, l1⟩ := CK.out _ hb1)
            | (go_at_call 25; with_reducible refine (CP.out _).mono ?_; rintro e S2 ⟨rfl, hbs2⟩; have hb1a := hb1.alloc hb1.size (.cells #[.int .i64 N3, .int .i64 D3] 34); have hb2 := hb1a.trans (hbs2.mono hb1a.size); have bd := (Box.newAt S1 [.int .i64 N3, .int .i64 D3] 34 rfl).below hbs2; have w0 := bd.cell 0 rfl; have w1 := bd.cell 1 rfl; obtain ⟨z0, z1, z2, z3, l0, l1⟩ := CK.out _ hb2)
            | (go_at_call 25; with_reducible refine (CP2.out _).mono ?_; rintro e S3 ⟨rfl, hbs3⟩; have hb3 := hb2.trans (hbs3.mono hb2.size); obtain ⟨z0, z1, z2, z3, l0, l1⟩ := CK.out _ hb3)
            | fail)
          all_goals clear a4 hs1
          all_goals (try subst n')
          all_goals (try subst d')
          all_goals
            go_wp2_with fail
            refine (FL.out _).mono ?_
            rintro e S4 ⟨rfl, hbs4⟩
            have hb4 := hb3.trans (hbs4.mono hb3.size)
            obtain ⟨z0, z1, z2, z3, l0, l1⟩ := CK.out _ hb4
            go_wp2_with fail
            refine (FT.out _ (HT.out.below hb4)).mono ?_
            rintro e S5 ⟨rfl, hbs5⟩
            have hb5 := hb4.trans (hbs5.mono hb4.size)
            go_wp2_with fail
            refine (RF.out _ (HT.out.below hb5) (HEr.out.below hb5) (HC.out.below hb5)).mono ?_
            rintro e S6 ⟨rfl, hbs6⟩
            have hb6 := hb5.trans (hbs6.mono hb5.size)
            obtain ⟨z0, z1, z2, z3, l0, l1⟩ := CK.out _ hb6
            go_wp2_with fail
            go_ret
            exact ⟨rfl, HB2.out.trans ((hb6.alloc hb6.size _).mono HS2.out)⟩
      · have hn0 : (n' != 0) = true := by simp [hn]
        have DV := Lib.hid (A2.out rfl hn)
        clear hn
        go_upto_region 14 with (first
          | (go_at_call 24; refine (DV.out _).mono ?_; rintro e H ⟨rfl, hbh⟩; have hbH := hbF.trans (hbh.mono hbF.size); obtain ⟨z0, z1, z2, z3, l0, l1⟩ := CK.out _ hbH)
          | fail)
        have hbI := hbH.alloc hbH.size (.cells #[.int .i64 n, .int .i64 d] 34)
        generalize H.alloc (.cells #[.int .i64 n, .int .i64 d] 34) = HI at *
        obtain ⟨z0, z1, z2, z3, l0, l1⟩ := CK.out _ hbI
        rcases C3.out with hk3 | hk3
        · subst hk3
          have hSb : -1 ≤ S ∧ S ≤ 1 := by have := A6.out; omega
          have hSb1 := hSb.1
          have hSb2 := hSb.2
          obtain ⟨bp, hbp⟩ : ∃ b, b = decide (0 < S) := ⟨_, rfl⟩
          have hs1 : decide (0 < S) = bp := hbp.symm
          have hs3 : decide (0 < N3) = bp := by rw [hbp]; simp only [(A3.out rfl)]
          have a4 : (S == 0) = (decide (n = n') && decide (d = d')) := by
            have h4 := A4.out
            rw [Bool.eq_iff_iff, beq_iff_eq, Bool.and_eq_true, decide_eq_true_eq, decide_eq_true_eq]
            exact h4
          clear hbp hSb
          go_upto_region 18 with (first
            | (go_at_call 21; with_reducible refine (SU.out _).mono ?_; rintro e S1 ⟨rfl, hbs⟩; have hb1 := (hbI).trans (hbs.mono (hbI).size); obtain ⟨z0, z1, z2, z3, l0, l1⟩ := CK.out _ hb1)
            | (go_at_call 25; with_reducible refine (CP.out _).mono ?_; rintro e S2 ⟨rfl, hbs2⟩; have hb1a := hb1.alloc hb1.size (.cells #[.int .i64 N3, .int .i64 D3] 34); have hb2 := hb1a.trans (hbs2.mono hb1a.size); have bd := (Box.newAt S1 [.int .i64 N3, .int .i64 D3] 34 rfl).below hbs2; have w0 := bd.cell 0 rfl; have w1 := bd.cell 1 rfl; obtain ⟨z0, z1, z2, z3, l0, l1⟩ := CK.out _ hb2)
            | (go_at_call 25; with_reducible refine (CP2.out _).mono ?_; rintro e S3 ⟨rfl, hbs3⟩; have hb3 := hb2.trans (hbs3.mono hb2.size); obtain ⟨z0, z1, z2, z3, l0, l1⟩ := CK.out _ hb3)
            | fail)
          all_goals clear a4 hs1
          all_goals (try subst n')
          all_goals (try subst d')
          all_goals
            go_wp2_with fail
            refine (FL.out _).mono ?_
            rintro e S4 ⟨rfl, hbs4⟩
            have hb4 := hb3.trans (hbs4.mono hb3.size)
            obtain ⟨z0, z1, z2, z3, l0, l1⟩ := CK.out _ hb4
            go_wp2_with fail
            refine (FT.out _ (HT.out.below hb4)).mono ?_
            rintro e S5 ⟨rfl, hbs5⟩
            have hb5 := hb4.trans (hbs5.mono hb4.size)
            go_wp2_with fail
            refine (RF.out _ (HT.out.below hb5) (HEr.out.below hb5) (HC.out.below hb5)).mono ?_
            rintro e S6 ⟨rfl, hbs6⟩
            have hb6 := hb5.trans (hbs6.mono hb5.size)
            obtain ⟨z0, z1, z2, z3, l0, l1⟩ := CK.out _ hb6
            go_wp2_with fail
            go_ret
            exact ⟨rfl, HB2.out.trans ((hb6.alloc hb6.size _).mono HS2.out)⟩
        · subst hk3
          have hSb : -1 ≤ S ∧ S ≤ 1 := by have := A6.out; omega
          have hSb1 := hSb.1
          have hSb2 := hSb.2
          obtain ⟨bp, hbp⟩ : ∃ b, b = decide (0 < S) := ⟨_, rfl⟩
          have hs1 : decide (0 < S) = bp := hbp.symm
          have a4 : (S == 0) = (decide (n = n') && decide (d = d')) := by
            have h4 := A4.out
            rw [Bool.eq_iff_iff, beq_iff_eq, Bool.and_eq_true, decide_eq_true_eq, decide_eq_true_eq]
            exact h4
          clear hbp hSb
          go_upto_region 18 with (first
            | (go_at_call 21; with_reducible refine (SU.out _).mono ?_; rintro e S1 ⟨rfl, hbs⟩; have hb1 := (hbI).trans (hbs.mono (hbI).size); obtain ⟨z0, z1, z2, z3, l0, l1⟩ := CK.out _ hb1)
            | (go_at_call 25; with_reducible refine (CP.out _).mono ?_; rintro e S2 ⟨rfl, hbs2⟩; have hb1a := hb1.alloc hb1.size (.cells #[.int .i64 N3, .int .i64 D3] 34); have hb2 := hb1a.trans (hbs2.mono hb1a.size); have bd := (Box.newAt S1 [.int .i64 N3, .int .i64 D3] 34 rfl).below hbs2; have w0 := bd.cell 0 rfl; have w1 := bd.cell 1 rfl; obtain ⟨z0, z1, z2, z3, l0, l1⟩ := CK.out _ hb2)
            | (go_at_call 25; with_reducible refine (CP2.out _).mono ?_; rintro e S3 ⟨rfl, hbs3⟩; have hb3 := hb2.trans (hbs3.mono hb2.size); obtain ⟨z0, z1, z2, z3, l0, l1⟩ := CK.out _ hb3)
            | fail)
          all_goals clear a4 hs1
          all_goals (try subst n')
          all_goals (try subst d')
          all_goals
            go_wp2_with fail
            refine (FL.out _).mono ?_
            rintro e S4 ⟨rfl, hbs4⟩
            have hb4 := hb3.trans (hbs4.mono hb3.size)
            obtain ⟨z0, z1, z2, z3, l0, l1⟩ := CK.out _ hb4
            go_wp2_with fail
            refine (FT.out _ (HT.out.below hb4)).mono ?_
            rintro e S5 ⟨rfl, hbs5⟩
            have hb5 := hb4.trans (hbs5.mono hb4.size)
            go_wp2_with fail
            refine (RF.out _ (HT.out.below hb5) (HEr.out.below hb5) (HC.out.below hb5)).mono ?_
            rintro e S6 ⟨rfl, hbs6⟩
            have hb6 := hb5.trans (hbs6.mono hb5.size)
            obtain ⟨z0, z1, z2, z3, l0, l1⟩ := CK.out _ hb6
            go_wp2_with fail
            go_ret
            exact ⟨rfl, HB2.out.trans ((hb6.alloc hb6.size _).mono HS2.out)⟩
    · subst hk2
      go_upto_region 14 with fail
      rcases C3.out with hk3 | hk3
      · subst hk3
        have hSb : -1 ≤ S ∧ S ≤ 1 := by have := A6.out; omega
        have hSb1 := hSb.1
        have hSb2 := hSb.2
        obtain ⟨bp, hbp⟩ : ∃ b, b = decide (0 < S) := ⟨_, rfl⟩
        have hs1 : decide (0 < S) = bp := hbp.symm
        have hs3 : decide (0 < N3) = bp := by rw [hbp]; simp only [(A3.out rfl)]
        have a4 : (S == 0) = (decide (n = n') && decide (d = d')) := by
          have h4 := A4.out
          rw [Bool.eq_iff_iff, beq_iff_eq, Bool.and_eq_true, decide_eq_true_eq, decide_eq_true_eq]
          exact h4
        clear hbp hSb
        go_upto_region 18 with (first
          | (go_at_call 21; with_reducible refine (SU.out _).mono ?_; rintro e S1 ⟨rfl, hbs⟩; have hb1 := (hbF).trans (hbs.mono (hbF).size); obtain ⟨z0, z1, z2, z3, l0, l1⟩ := CK.out _ hb1)
          | (go_at_call 25; with_reducible refine (CP.out _).mono ?_; rintro e S2 ⟨rfl, hbs2⟩; have hb1a := hb1.alloc hb1.size (.cells #[.int .i64 N3, .int .i64 D3] 34); have hb2 := hb1a.trans (hbs2.mono hb1a.size); have bd := (Box.newAt S1 [.int .i64 N3, .int .i64 D3] 34 rfl).below hbs2; have w0 := bd.cell 0 rfl; have w1 := bd.cell 1 rfl; obtain ⟨z0, z1, z2, z3, l0, l1⟩ := CK.out _ hb2)
          | (go_at_call 25; with_reducible refine (CP2.out _).mono ?_; rintro e S3 ⟨rfl, hbs3⟩; have hb3 := hb2.trans (hbs3.mono hb2.size); obtain ⟨z0, z1, z2, z3, l0, l1⟩ := CK.out _ hb3)
          | fail)
        all_goals clear a4 hs1
        all_goals (try subst n')
        all_goals (try subst d')
        all_goals
          go_wp2_with fail
          refine (FL.out _).mono ?_
          rintro e S4 ⟨rfl, hbs4⟩
          have hb4 := hb3.trans (hbs4.mono hb3.size)
          obtain ⟨z0, z1, z2, z3, l0, l1⟩ := CK.out _ hb4
          go_wp2_with fail
          refine (FT.out _ (HT.out.below hb4)).mono ?_
          rintro e S5 ⟨rfl, hbs5⟩
          have hb5 := hb4.trans (hbs5.mono hb4.size)
          go_wp2_with fail
          refine (RF.out _ (HT.out.below hb5) (HEr.out.below hb5) (HC.out.below hb5)).mono ?_
          rintro e S6 ⟨rfl, hbs6⟩
          have hb6 := hb5.trans (hbs6.mono hb5.size)
          obtain ⟨z0, z1, z2, z3, l0, l1⟩ := CK.out _ hb6
          go_wp2_with fail
          go_ret
          exact ⟨rfl, HB2.out.trans ((hb6.alloc hb6.size _).mono HS2.out)⟩
      · subst hk3
        have hSb : -1 ≤ S ∧ S ≤ 1 := by have := A6.out; omega
        have hSb1 := hSb.1
        have hSb2 := hSb.2
        obtain ⟨bp, hbp⟩ : ∃ b, b = decide (0 < S) := ⟨_, rfl⟩
        have hs1 : decide (0 < S) = bp := hbp.symm
        have a4 : (S == 0) = (decide (n = n') && decide (d = d')) := by
          have h4 := A4.out
          rw [Bool.eq_iff_iff, beq_iff_eq, Bool.and_eq_true, decide_eq_true_eq, decide_eq_true_eq]
          exact h4
        clear hbp hSb
        go_upto_region 18 with (first
          | (go_at_call 21; with_reducible refine (SU.out _).mono ?_; rintro e S1 ⟨rfl, hbs⟩; have hb1 := (hbF).trans (hbs.mono (hbF).size); obtain ⟨z0, z1, z2, z3, l0, l1⟩ := CK.out _ hb1)
          | (go_at_call 25; with_reducible refine (CP.out _).mono ?_; rintro e S2 ⟨rfl, hbs2⟩; have hb1a := hb1.alloc hb1.size (.cells #[.int .i64 N3, .int .i64 D3] 34); have hb2 := hb1a.trans (hbs2.mono hb1a.size); have bd := (Box.newAt S1 [.int .i64 N3, .int .i64 D3] 34 rfl).below hbs2; have w0 := bd.cell 0 rfl; have w1 := bd.cell 1 rfl; obtain ⟨z0, z1, z2, z3, l0, l1⟩ := CK.out _ hb2)
          | (go_at_call 25; with_reducible refine (CP2.out _).mono ?_; rintro e S3 ⟨rfl, hbs3⟩; have hb3 := hb2.trans (hbs3.mono hb2.size); obtain ⟨z0, z1, z2, z3, l0, l1⟩ := CK.out _ hb3)
          | fail)
        all_goals clear a4 hs1
        all_goals (try subst n')
        all_goals (try subst d')
        all_goals
          go_wp2_with fail
          refine (FL.out _).mono ?_
          rintro e S4 ⟨rfl, hbs4⟩
          have hb4 := hb3.trans (hbs4.mono hb3.size)
          obtain ⟨z0, z1, z2, z3, l0, l1⟩ := CK.out _ hb4
          go_wp2_with fail
          refine (FT.out _ (HT.out.below hb4)).mono ?_
          rintro e S5 ⟨rfl, hbs5⟩
          have hb5 := hb4.trans (hbs5.mono hb4.size)
          go_wp2_with fail
          refine (RF.out _ (HT.out.below hb5) (HEr.out.below hb5) (HC.out.below hb5)).mono ?_
          rintro e S6 ⟨rfl, hbs6⟩
          have hb6 := hb5.trans (hbs6.mono hb5.size)
          obtain ⟨z0, z1, z2, z3, l0, l1⟩ := CK.out _ hb6
          go_wp2_with fail
          go_ret
          exact ⟨rfl, HB2.out.trans ((hb6.alloc hb6.size _).mono HS2.out)⟩
  · subst hk1
    go_upto_region 9 with (first
      | (go_at_call 20; refine (AD.out _).mono ?_; rintro e X ⟨rfl, hbx⟩; have hb := hb.trans (hbx.mono hb.size); obtain ⟨z0, z1, z2, z3, l0, l1⟩ := CK.out _ hb)
      | fail)
    have HGX : Hid (E2.heap.size ≤ X.heap.size) := hb.size
    have bx := Box.newAt X [.int .i64 N1, .int .i64 D1] 34 rfl
    have hb := hb.alloc hb.size (.cells #[.int .i64 N1, .int .i64 D1] 34)
    clear hbx z0 z1 z2 z3 l0 l1
    obtain ⟨gx, hgx'⟩ : ∃ g, g = X.heap.size := ⟨_, rfl⟩
    rw [← hgx'] at bx HGX ⊢
    clear hgx'
    generalize X.alloc (.cells #[.int .i64 N1, .int .i64 D1] 34) = E at *
    obtain ⟨z0, z1, z2, z3, l0, l1⟩ := CK.out _ hb
    have hgx := bx.lt
    go_upto_region 10 with (first
      | (go_at_call 23; refine (MU.out _).mono ?_; rintro e F ⟨rfl, hbf⟩; have bf := bx.below hbf; have x0 := bf.cell 0 rfl; have x1 := bf.cell 1 rfl; have v0 := bf.frozen 0; have v1 := bf.frozen 1; have lx := bf.lt)
      | fail)
    have hbF := ((hb.trans (hbf.mono hb.size)).setCell (p := ⟨gx, 0, none⟩) HGX.out (.int .i64 N2)).setCell (p := ⟨gx, 1, none⟩) HGX.out (.int .i64 D2)
    have bx2 := (bf.set 0 (.int .i64 N2)).set 1 (.int .i64 D2)
    simp only [List.set_cons_succ, List.set_cons_zero] at bx2
    generalize (F.setCell ⟨gx, 0, none⟩ (.int .i64 N2)).setCell ⟨gx, 1, none⟩ (.int .i64 D2) = G at *
    clear z0 z1 z2 z3 l0 l1 bx hb bf x0 x1 v0 v1 lx hbf
    obtain ⟨z0, z1, z2, z3, l0, l1⟩ := CK.out _ hbF
    have x0 := bx2.cell 0 rfl
    have x1 := bx2.cell 1 rfl
    have lx := bx2.lt
    rcases C2.out with hk2 | hk2
    · subst hk2
      by_cases hn : n' = 0
      · have hn0 : (n' != 0) = false := by simp [hn]
        clear hn
        go_upto_region 14 with fail
        rcases C3.out with hk3 | hk3
        · subst hk3
          have hSb : -1 ≤ S ∧ S ≤ 1 := by have := A6.out; omega
          have hSb1 := hSb.1
          have hSb2 := hSb.2
          obtain ⟨bp, hbp⟩ : ∃ b, b = decide (0 < S) := ⟨_, rfl⟩
          have hs1 : decide (0 < S) = bp := hbp.symm
          have hs3 : decide (0 < N3) = bp := by rw [hbp]; simp only [(A3.out rfl)]
          have a4 : (S == 0) = (decide (n = n') && decide (d = d')) := by
            have h4 := A4.out
            rw [Bool.eq_iff_iff, beq_iff_eq, Bool.and_eq_true, decide_eq_true_eq, decide_eq_true_eq]
            exact h4
          clear hbp hSb
          go_upto_region 18 with (first
            | (go_at_call 21; with_reducible refine (SU.out _).mono ?_; rintro e S1 ⟨rfl, hbs⟩; have hb1 := (hbF).trans (hbs.mono (hbF).size); obtain ⟨z0, z1, z2, z3, l0, l1⟩ := CK.out _ hb1)
            | (go_at_call 25; with_reducible refine (CP.out _).mono ?_; rintro e S2 ⟨rfl, hbs2⟩; have hb1a := hb1.alloc hb1.size (.cells #[.int .i64 N3, .int .i64 D3] 34); have hb2 := hb1a.trans (hbs2.mono hb1a.size); have bd := (Box.newAt S1 [.int .i64 N3, .int .i64 D3] 34 rfl).below hbs2; have w0 := bd.cell 0 rfl; have w1 := bd.cell 1 rfl; obtain ⟨z0, z1, z2, z3, l0, l1⟩ := CK.out _ hb2)
            | (go_at_call 25; with_reducible refine (CP2.out _).mono ?_; rintro e S3 ⟨rfl, hbs3⟩; have hb3 := hb2.trans (hbs3.mono hb2.size); obtain ⟨z0, z1, z2, z3, l0, l1⟩ := CK.out _ hb3)
            | fail)
          all_goals clear a4 hs1
          all_goals (try subst n')
          all_goals (try subst d')
          all_goals
            go_wp2_with fail
            refine (FL.out _).mono ?_
            rintro e S4 ⟨rfl, hbs4⟩
            have hb4 := hb3.trans (hbs4.mono hb3.size)
            obtain ⟨z0, z1, z2, z3, l0, l1⟩ := CK.out _ hb4
            go_wp2_with fail
            refine (FT.out _ (HT.out.below hb4)).mono ?_
            rintro e S5 ⟨rfl, hbs5⟩
            have hb5 := hb4.trans (hbs5.mono hb4.size)
            go_wp2_with fail
            refine (RF.out _ (HT.out.below hb5) (HEr.out.below hb5) (HC.out.below hb5)).mono ?_
            rintro e S6 ⟨rfl, hbs6⟩
            have hb6 := hb5.trans (hbs6.mono hb5.size)
            obtain ⟨z0, z1, z2, z3, l0, l1⟩ := CK.out _ hb6
            go_wp2_with fail
            go_ret
            exact ⟨rfl, HB2.out.trans ((hb6.alloc hb6.size _).mono HS2.out)⟩
        · subst hk3
          have hSb : -1 ≤ S ∧ S ≤ 1 := by have := A6.out; omega
          have hSb1 := hSb.1
          have hSb2 := hSb.2
          obtain ⟨bp, hbp⟩ : ∃ b, b = decide (0 < S) := ⟨_, rfl⟩
          have hs1 : decide (0 < S) = bp := hbp.symm
          have a4 : (S == 0) = (decide (n = n') && decide (d = d')) := by
            have h4 := A4.out
            rw [Bool.eq_iff_iff, beq_iff_eq, Bool.and_eq_true, decide_eq_true_eq, decide_eq_true_eq]
            exact h4
          clear hbp hSb
          go_upto_region 18 with (first
            | (go_at_call 21; with_reducible refine (SU.out _).mono ?_; rintro e S1 ⟨rfl, hbs⟩; have hb1 := (hbF).trans (hbs.mono (hbF).size); obtain ⟨z0, z1, z2, z3, l0, l1⟩ := CK.out _ hb1)
            | (go_at_call 25; with_reducible refine (CP.out _).mono ?_; rintro e S2 ⟨rfl, hbs2⟩; have hb1a := hb1.alloc hb1.size (.cells #[.int .i64 N3, .int .i64 D3] 34); have hb2 := hb1a.trans (hbs2.mono hb1a.size); have bd := (Box.newAt S1 [.int .i64 N3, .int .i64 D3] 34 rfl).below hbs2; have w0 := bd.cell 0 rfl; have w1 := bd.cell 1 rfl; obtain ⟨z0, z1, z2, z3, l0, l1⟩ := CK.out _ hb2)
            | (go_at_call 25; with_reducible refine (CP2.out _).mono ?_; rintro e S3 ⟨rfl, hbs3⟩; have hb3 := hb2.trans (hbs3.mono hb2.size); obtain ⟨z0, z1, z2, z3, l0, l1⟩ := CK.out _ hb3)
            | fail)
          all_goals clear a4 hs1
          all_goals (try subst n')
          all_goals (try subst d')
          all_goals
            go_wp2_with fail
            refine (FL.out _).mono ?_
            rintro e S4 ⟨rfl, hbs4⟩
            have hb4 := hb3.trans (hbs4.mono hb3.size)
            obtain ⟨z0, z1, z2, z3, l0, l1⟩ := CK.out _ hb4
            go_wp2_with fail
            refine (FT.out _ (HT.out.below hb4)).mono ?_
            rintro e S5 ⟨rfl, hbs5⟩
            have hb5 := hb4.trans (hbs5.mono hb4.size)
            go_wp2_with fail
            refine (RF.out _ (HT.out.below hb5) (HEr.out.below hb5) (HC.out.below hb5)).mono ?_
            rintro e S6 ⟨rfl, hbs6⟩
            have hb6 := hb5.trans (hbs6.mono hb5.size)
            obtain ⟨z0, z1, z2, z3, l0, l1⟩ := CK.out _ hb6
            go_wp2_with fail
            go_ret
            exact ⟨rfl, HB2.out.trans ((hb6.alloc hb6.size _).mono HS2.out)⟩
      · have hn0 : (n' != 0) = true := by simp [hn]
        have DV := Lib.hid (A2.out rfl hn)
        clear hn
        go_upto_region 14 with (first
          | (go_at_call 24; refine (DV.out _).mono ?_; rintro e H ⟨rfl, hbh⟩; have hbH := hbF.trans (hbh.mono hbF.size); obtain ⟨z0, z1, z2, z3, l0, l1⟩ := CK.out _ hbH)
          | fail)
        have hbI := hbH.alloc hbH.size (.cells #[.int .i64 n, .int .i64 d] 34)
        generalize H.alloc (.cells #[.int .i64 n, .int .i64 d] 34) = HI at *
        obtain ⟨z0, z1, z2, z3, l0, l1⟩ := CK.out _ hbI
        rcases C3.out with hk3 | hk3
        · subst hk3
          have hSb : -1 ≤ S ∧ S ≤ 1 := by have := A6.out; omega
          have hSb1 := hSb.1
          have hSb2 := hSb.2
          obtain ⟨bp, hbp⟩ : ∃ b, b = decide (0 < S) := ⟨_, rfl⟩
          have hs1 : decide (0 < S) = bp := hbp.symm
          have hs3 : decide (0 < N3) = bp := by rw [hbp]; simp only [(A3.out rfl)]
          have a4 : (S == 0) = (decide (n = n') && decide (d = d')) := by
            have h4 := A4.out
            rw [Bool.eq_iff_iff, beq_iff_eq, Bool.and_eq_true, decide_eq_true_eq, decide_eq_true_eq]
            exact h4
          clear hbp hSb
          go_upto_region 18 with (first
            | (go_at_call 21; with_reducible refine (SU.out _).mono ?_; rintro e S1 ⟨rfl, hbs⟩; have hb1 := (hbI).trans (hbs.mono (hbI).size); obtain ⟨z0, z1, z2, z3, l0, l1⟩ := CK.out _ hb1)
            | (go_at_call 25; with_reducible refine (CP.out _).mono ?_; rintro e S2 ⟨rfl, hbs2⟩; have hb1a := hb1.alloc hb1.size (.cells #[.int .i64 N3, .int .i64 D3] 34); have hb2 := hb1a.trans (hbs2.mono hb1a.size); have bd := (Box.newAt S1 [.int .i64 N3, .int .i64 D3] 34 rfl).below hbs2; have w0 := bd.cell 0 rfl; have w1 := bd.cell 1 rfl; obtain ⟨z0, z1, z2, z3, l0, l1⟩ := CK.out _ hb2)
            | (go_at_call 25; with_reducible refine (CP2.out _).mono ?_; rintro e S3 ⟨rfl, hbs3⟩; have hb3 := hb2.trans (hbs3.mono hb2.size); obtain ⟨z0, z1, z2, z3, l0, l1⟩ := CK.out _ hb3)
            | fail)
          all_goals clear a4 hs1
          all_goals (try subst n')
          all_goals (try subst d')
          all_goals
            go_wp2_with fail
            refine (FL.out _).mono ?_
            rintro e S4 ⟨rfl, hbs4⟩
            have hb4 := hb3.trans (hbs4.mono hb3.size)
            obtain ⟨z0, z1, z2, z3, l0, l1⟩ := CK.out _ hb4
            go_wp2_with fail
            refine (FT.out _ (HT.out.below hb4)).mono ?_
            rintro e S5 ⟨rfl, hbs5⟩
            have hb5 := hb4.trans (hbs5.mono hb4.size)
            go_wp2_with fail
            refine (RF.out _ (HT.out.below hb5) (HEr.out.below hb5) (HC.out.below hb5)).mono ?_
            rintro e S6 ⟨rfl, hbs6⟩
            have hb6 := hb5.trans (hbs6.mono hb5.size)
            obtain ⟨z0, z1, z2, z3, l0, l1⟩ := CK.out _ hb6
            go_wp2_with fail
            go_ret
            exact ⟨rfl, HB2.out.trans ((hb6.alloc hb6.size _).mono HS2.out)⟩
        · subst hk3
          have hSb : -1 ≤ S ∧ S ≤ 1 := by have := A6.out; omega
          have hSb1 := hSb.1
          have hSb2 := hSb.2
          obtain ⟨bp, hbp⟩ : ∃ b, b = decide (0 < S) := ⟨_, rfl⟩
          have hs1 : decide (0 < S) = bp := hbp.symm
          have a4 : (S == 0) = (decide (n = n') && decide (d = d')) := by
            have h4 := A4.out
            rw [Bool.eq_iff_iff, beq_iff_eq, Bool.and_eq_true, decide_eq_true_eq, decide_eq_true_eq]
            exact h4
          clear hbp hSb
          go_upto_region 18 with (first
            | (go_at_call 21; with_reducible refine (SU.out _).mono ?_; rintro e S1 ⟨rfl, hbs⟩; have hb1 := (hbI).trans (hbs.mono (hbI).size); obtain ⟨z0, z1, z2, z3, l0, l1⟩ := CK.out _ hb1)
            | (go_at_call 25; with_reducible refine (CP.out _).mono ?_; rintro e S2 ⟨rfl, hbs2⟩; have hb1a := hb1.alloc hb1.size (.cells #[.int .i64 N3, .int .i64 D3] 34); have hb2 := hb1a.trans (hbs2.mono hb1a.size); have bd := (Box.newAt S1 [.int .i64 N3, .int .i64 D3] 34 rfl).below hbs2; have w0 := bd.cell 0 rfl; have w1 := bd.cell 1 rfl; obtain ⟨z0, z1, z2, z3, l0, l1⟩ := CK.out _ hb2)
            | (go_at_call 25; with_reducible refine (CP2.out _).mono ?_; rintro e S3 ⟨rfl, hbs3⟩; have hb3 := hb2.trans (hbs3.mono hb2.size); obtain ⟨z0, z1, z2, z3, l0, l1⟩ := CK.out _ hb3)
            | fail)
          all_goals clear a4 hs1
          all_goals (try subst n')
          all_goals (try subst d')
          all_goals
            go_wp2_with fail
            refine (FL.out _).mono ?_
            rintro e S4 ⟨rfl, hbs4⟩
            have hb4 := hb3.trans (hbs4.mono hb3.size)
            obtain ⟨z0, z1, z2, z3, l0, l1⟩ := CK.out _ hb4
            go_wp2_with fail
            refine (FT.out _ (HT.out.below hb4)).mono ?_
            rintro e S5 ⟨rfl, hbs5⟩
            have hb5 := hb4.trans (hbs5.mono hb4.size)
            go_wp2_with fail
            refine (RF.out _ (HT.out.below hb5) (HEr.out.below hb5) (HC.out.below hb5)).mono ?_
            rintro e S6 ⟨rfl, hbs6⟩
            have hb6 := hb5.trans (hbs6.mono hb5.size)
            obtain ⟨z0, z1, z2, z3, l0, l1⟩ := CK.out _ hb6
            go_wp2_with fail
            go_ret
            exact ⟨rfl, HB2.out.trans ((hb6.alloc hb6.size _).mono HS2.out)⟩
    · subst hk2
      go_upto_region 14 with fail
      rcases C3.out with hk3 | hk3
      · subst hk3
        have hSb : -1 ≤ S ∧ S ≤ 1 := by have := A6.out; omega
        have hSb1 := hSb.1
        have hSb2 := hSb.2
        obtain ⟨bp, hbp⟩ : ∃ b, b = decide (0 < S) := ⟨_, rfl⟩
        have hs1 : decide (0 < S) = bp := hbp.symm
        have hs3 : decide (0 < N3) = bp := by rw [hbp]; simp only [(A3.out rfl)]
        have a4 : (S == 0) = (decide (n = n') && decide (d = d')) := by
          have h4 := A4.out
          rw [Bool.eq_iff_iff, beq_iff_eq, Bool.and_eq_true, decide_eq_true_eq, decide_eq_true_eq]
          exact h4
        clear hbp hSb
        go_upto_region 18 with (first
          | (go_at_call 21; with_reducible refine (SU.out _).mono ?_; rintro e S1 ⟨rfl, hbs⟩; have hb1 := (hbF).trans (hbs.mono (hbF).size); obtain ⟨z0, z1, z2, z3, l0, l1⟩ := CK.out _ hb1)
          | (go_at_call 25; with_reducible refine (CP.out _).mono ?_; rintro e S2 ⟨rfl, hbs2⟩; have hb1a := hb1.alloc hb1.size (.cells #[.int .i64 N3, .int .i64 D3] 34); have hb2 := hb1a.trans (hbs2.mono hb1a.size); have bd := (Box.newAt S1 [.int .i64 N3, .int .i64 D3] 34 rfl).below hbs2; have w0 := bd.cell 0 rfl; have w1 := bd.cell 1 rfl; obtain ⟨z0, z1, z2, z3, l0, l1⟩ := CK.out _ hb2)
          | (go_at_call 25; with_reducible refine (CP2.out _).mono ?_; rintro e S3 ⟨rfl, hbs3⟩; have hb3 := hb2.trans (hbs3.mono hb2.size); obtain ⟨z0, z1, z2, z3, l0, l1⟩ := CK.out _ hb3)
          | fail)
        all_goals clear a4 hs1
        all_goals (try subst n')
        all_goals (try subst d')
        all_goals
          go_wp2_with fail
          refine (FL.out _).mono ?_
          rintro e S4 ⟨rfl, hbs4⟩
          have hb4 := hb3.trans (hbs4.mono hb3.size)
          obtain ⟨z0, z1, z2, z3, l0, l1⟩ := CK.out _ hb4
          go_wp2_with fail
          refine (FT.out _ (HT.out.below hb4)).mono ?_
          rintro e S5 ⟨rfl, hbs5⟩
          have hb5 := hb4.trans (hbs5.mono hb4.size)
          go_wp2_with fail
          refine (RF.out _ (HT.out.below hb5) (HEr.out.below hb5) (HC.out.below hb5)).mono ?_
          rintro e S6 ⟨rfl, hbs6⟩
          have hb6 := hb5.trans (hbs6.mono hb5.size)
          obtain ⟨z0, z1, z2, z3, l0, l1⟩ := CK.out _ hb6
          go_wp2_with fail
          go_ret
          exact ⟨rfl, HB2.out.trans ((hb6.alloc hb6.size _).mono HS2.out)⟩
      · subst hk3
        have hSb : -1 ≤ S ∧ S ≤ 1 := by have := A6.out; omega
        have hSb1 := hSb.1
        have hSb2 := hSb.2
        obtain ⟨bp, hbp⟩ : ∃ b, b = decide (0 < S) := ⟨_, rfl⟩
        have hs1 : decide (0 < S) = bp := hbp.symm
        have a4 : (S == 0) = (decide (n = n') && decide (d = d')) := by
          have h4 := A4.out
          rw [Bool.eq_iff_iff, beq_iff_eq, Bool.and_eq_true, decide_eq_true_eq, decide_eq_true_eq]
          exact h4
        clear hbp hSb
        go_upto_region 18 with (first
          | (go_at_call 21; with_reducible refine (SU.out _).mono ?_; rintro e S1 ⟨rfl, hbs⟩; have hb1 := (hbF).trans (hbs.mono (hbF).size); obtain ⟨z0, z1, z2, z3, l0, l1⟩ := CK.out _ hb1)
          | (go_at_call 25; with_reducible refine (CP.out _).mono ?_; rintro e S2 ⟨rfl, hbs2⟩; have hb1a := hb1.alloc hb1.size (.cells #[.int .i64 N3, .int .i64 D3] 34); have hb2 := hb1a.trans (hbs2.mono hb1a.size); have bd := (Box.newAt S1 [.int .i64 N3, .int .i64 D3] 34 rfl).below hbs2; have w0 := bd.cell 0 rfl; have w1 := bd.cell 1 rfl; obtain ⟨z0, z1, z2, z3, l0, l1⟩ := CK.out _ hb2)
          | (go_at_call 25; with_reducible refine (CP2.out _).mono ?_; rintro e S3 ⟨rfl, hbs3⟩; have hb3 := hb2.trans (hbs3.mono hb2.size); obtain ⟨z0, z1, z2, z3, l0, l1⟩ := CK.out _ hb3)
          | fail)
        all_goals clear a4 hs1
        all_goals (try subst n')
        all_goals (try subst d')
        all_goals
          go_wp2_with fail
          refine (FL.out _).mono ?_
          rintro e S4 ⟨rfl, hbs4⟩
          have hb4 := hb3.trans (hbs4.mono hb3.size)
          obtain ⟨z0, z1, z2, z3, l0, l1⟩ := CK.out _ hb4
          go_wp2_with fail
          refine (FT.out _ (HT.out.below hb4)).mono ?_
          rintro e S5 ⟨rfl, hbs5⟩
          have hb5 := hb4.trans (hbs5.mono hb4.size)
          go_wp2_with fail
          refine (RF.out _ (HT.out.below hb5) (HEr.out.below hb5) (HC.out.below hb5)).mono ?_
          rintro e S6 ⟨rfl, hbs6⟩
          have hb6 := hb5.trans (hbs6.mono hb5.size)
          obtain ⟨z0, z1, z2, z3, l0, l1⟩ := CK.out _ hb6
          go_wp2_with fail
          go_ret
          exact ⟨rfl, HB2.out.trans ((hb6.alloc hb6.size _).mono HS2.out)⟩
end Go.Proofs.YtnhhghilejeegaaDoor
