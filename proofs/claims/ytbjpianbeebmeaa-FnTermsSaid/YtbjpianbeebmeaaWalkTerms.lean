/-
  The walk of the law on the terms of fractions.
-/
import Derived.Test.YtbjpianbeebmeaaTerms4
import Derived.Lib.QuietBelow
namespace Go.Proofs.Ytbjpianbeebmeaa
open Go.ChangeShapes Go.WideShapes Go.ChangeAt Go.RowKit Go.Sort
set_option linter.unusedVariables false

def cmpS (a b a' b' : Int) : Int := sgn (a * b') (a' * b)
theorem sgn_three (x y : Int) : sgn x y = 0 ∨ sgn x y = 1 ∨ sgn x y = -1 := by unfold sgn; split <;> (try split) <;> simp
set_option maxHeartbeats 8000000 in
set_option maxRecDepth 100000 in
theorem fnTerms_walk (w : World) {v : Value} {bs : List Int} (h : VB w v bs) (hm : bs.length ≤ maxLen) :
    Calls Try.prog 3 #[v] w fun e w' => e = .returned (.bool true) ∧ Below w.heap.size w w' := by
  have hv := h
  obtain ⟨p, c, rfl, -⟩ := hv
  have LG := Lib.hid (a2Long_any p bs.length c w hm)
  by_cases hl : (3000 : Int) < (bs.length : Int)
  · rw [decide_eq_true hl] at LG
    clear hl
    go_enter Try.func3, Try.ntmps3
    go_wp2_with (go_at_call 4; refine LG.out.mono ?_; rintro e w' ⟨rfl, rfl⟩)
    go_ret
    exact ⟨rfl, Below.refl _ _⟩
  rw [decide_eq_false hl] at LG
  have AB := Lib.hid (a2Fracs_any w h (by omega))
  clear hl h hm
  go_enter Try.func3, Try.ntmps3
  go_wp2_with fail
  refine LG.out.mono ?_
  rintro e w' ⟨rfl, rfl⟩
  go_wp2_with fail
  refine AB.out.mono ?_
  rintro e E1 ⟨n, d, n', d', hf, hf', rfl, hB1⟩
  clear LG AB
  obtain ⟨d1, d2, n1, n2, hg⟩ := fracB_of hf
  obtain ⟨y, rfl⟩ : ∃ y : Nat, d = y := ⟨d.toNat, by omega⟩
  rw [Int.natAbs_natCast] at hg
  have hy0 : y ≠ 0 := by omega
  have hpos := tms_ne (x := n) hy0
  obtain ⟨m, hm⟩ : ∃ m, (tms n y).length = m + 1 := ⟨(tms n y).length - 1, by omega⟩
  have hlen40 := tms_length (x := n) (y := y) (by omega)
  have HT : Hid (∀ i, (h : i + 1 < (tms n y).length) → 1 ≤ (tms n y)[i + 1] ∧ (tms n y)[i + 1] ≤ y ∧ (i + 2 = (tms n y).length → 2 ≤ (tms n y)[i + 1])) := fun i h => tms_term hy0 hg h
  have HX0 : Hid (∀ h : 0 < (tms n y).length, (tms n y)[0] = n / (y : Int)) := fun h => by
    have := tms_first (x := n) hy0
    rw [List.head?_eq_getElem?, List.getElem?_eq_getElem h] at this
    simpa using this
  have TO : Hid (∀ W, Calls Try.prog 6 #[.agg #[.int .i64 n, .int .i64 (y : Int)]] W fun e w' => ∃ u, e = .returned u ∧ OwnI W.heap.size w' u (tms n y) ∧ Below W.heap.size W w') := fun W => by
    have := termsOf_any W hf
    rwa [Int.toNat_natCast] at this
  have FO : Hid (∀ W p c, RdI W p (tms n y) → (tms n y).length ≤ c → Calls Try.prog 7 #[.slice p (tms n y).length c] W fun e w' => e = .returned (.tuple #[.agg #[.int .i64 n, .int .i64 (y : Int)], .int .i64 0]) ∧ Below W.heap.size W w') := fun W p c h1 h2 => by
    have := fracOfTerms_any (p := p) (c := c) W hf (by rwa [Int.toNat_natCast]) (by rwa [Int.toNat_natCast])
    rwa [Int.toNat_natCast] at this
  have FL : Hid (∀ W, Calls Try.prog 8 #[.agg #[.int .i64 n, .int .i64 (y : Int)]] W fun e w' => e = .returned (.int .i64 (n / (y : Int))) ∧ Below W.heap.size W w') := fun W => floorFrac_any W hf
  have MD : Hid (∀ W, Calls Try.prog 9 #[.agg #[.int .i64 n, .int .i64 (y : Int)], .agg #[.int .i64 n', .int .i64 d']] W fun e w' => e = .returned (.tuple #[.agg #[.int .i64 (mkN (n + n') ((y : Int) + d')), .int .i64 (mkD (n + n') ((y : Int) + d'))], .int .i64 (mkC (n + n') ((y : Int) + d'))]) ∧ Below W.heap.size W w') := fun W => mediant_any W hf hf'
  have MC : Hid (mkC (n + n') ((y : Int) + d') = 0 ∨ mkC (n + n') ((y : Int) + d') = 2) := by unfold Hid mkC; split <;> simp
  have d1' := (fracB_of hf').1
  have MO : Hid (mkC (n + n') ((y : Int) + d') = 0 → fracB (mkN (n + n') ((y : Int) + d')) (mkD (n + n') ((y : Int) + d')) = true ∧ sgn (mkN (n + n') ((y : Int) + d') * (y : Int)) (n * mkD (n + n') ((y : Int) + d')) = -sgn (mkN (n + n') ((y : Int) + d') * d') (n' * mkD (n + n') ((y : Int) + d'))) := fun hc => by
    obtain ⟨ok, -, g, hg, e1, e2⟩ := mk_ok (n := n + n') (d := (y : Int) + d') (by omega) hc
    exact ⟨ok, mediant_law hg e1 e2⟩
  generalize mkN (n + n') ((y : Int) + d') = N at MD MO
  generalize mkD (n + n') ((y : Int) + d') = D at MD MO
  generalize mkC (n + n') ((y : Int) + d') = C at MD MO MC
  have CP : Hid (∀ (a b a' b' : Int), fracB a b = true → fracB a' b' = true → ∀ W, Calls Try.prog 10 #[.agg #[.int .i64 a, .int .i64 b], .agg #[.int .i64 a', .int .i64 b']] W fun e w' => e = .returned (.int .i64 (sgn (a * b') (a' * b))) ∧ Below W.heap.size W w') := fun a b a' b' h1 h2 W => compareFrac_any W h1 h2
  have HF := Lib.hid hf
  have HF' := Lib.hid hf'
  generalize tms n y = xs at *
  rw [hm] at FO
  have HM := Lib.hid hm
  have hm40 : m ≤ 39 := by omega
  obtain ⟨E2, hE2⟩ : ∃ E, E = (E1.alloc (.cells #[.int .i64 n, .int .i64 (y : Int)] 25)).alloc (.cells #[.int .i64 n', .int .i64 d'] 25) := ⟨_, rfl⟩
  obtain ⟨ga, hga⟩ : ∃ g, g = E1.heap.size := ⟨_, rfl⟩
  have ba : Box E2 ga [.int .i64 n, .int .i64 (y : Int)] 25 := by rw [hE2, hga]; exact (Box.newAt E1 [.int .i64 n, .int .i64 (y : Int)] _ rfl).alloc _
  have bb : Box E2 (ga + 1) [.int .i64 n', .int .i64 d'] 25 := by rw [hE2, hga]; exact Box.newAt (E1.alloc _) [.int .i64 n', .int .i64 d'] _ (by simp)
  have hB2 : Below w.heap.size w E2 := by rw [hE2]; exact (hB1.alloc hB1.size _).alloc (by have := hB1.size; simp; omega) _
  have HE2 := Lib.hid hE2
  have HGA := Lib.hid hga
  clear hE2 hga hf hf' hg hm hlen40 hpos hB1
  have z0 := ba.cell 0 rfl
  have z1 := ba.cell 1 rfl
  go_upto_region 4 with fail
  rw [← HE2.out, ← HGA.out]
  clear HE2 HGA
  go_wp2_with fail
  refine (TO.out _).mono ?_
  rintro e E3 ⟨u, rfl, hu, hb3⟩
  have ba3 := ba.below hb3
  have bb3 := bb.below hb3
  have hB3 := hB2.trans (hb3.mono hB2.size)
  obtain ⟨pl, cl, rfl, hrl⟩ := hu.rd
  have hcap : m + 1 ≤ cl := by have h1 := hu.cap; have h2 := HM.out; omega
  rw [HM.out]
  have FO3 := Lib.hid (FO.out E3 pl cl hrl hcap)
  clear z0 z1 ba bb hB2 hb3 TO FO
  go_wp2_with fail
  refine FO3.out.mono ?_
  rintro e E4 ⟨rfl, hb4⟩
  have hrl4 := hrl.below hb4
  obtain ⟨E5, hE5⟩ : ∃ E, E = E4.alloc (.cells #[.int .i64 n, .int .i64 (y : Int)] 25) := ⟨_, rfl⟩
  obtain ⟨gc, hgc⟩ : ∃ g, g = E4.heap.size := ⟨_, rfl⟩
  have hb5 : Below E4.heap.size E4 E5 := by rw [hE5]; exact (Below.refl _ _).alloc (Nat.le_refl _) _
  have bc : Box E5 gc [.int .i64 n, .int .i64 (y : Int)] 25 := by rw [hE5, hgc]; exact Box.newAt E4 [.int .i64 n, .int .i64 (y : Int)] _ rfl
  have hrl5 := hrl4.below hb5
  have ba5 := (ba3.below hb4).below hb5
  have bb5 := (bb3.below hb4).below hb5
  have hB5 := (hB3.trans (hb4.mono hB3.size)).trans (hb5.mono (hB3.trans (hb4.mono hB3.size)).size)
  have HE5 := Lib.hid hE5
  have HGC := Lib.hid hgc
  clear hE5 hgc ba3 bb3 hB3 hb4 hb5 hrl hrl4 hu FO3
  obtain ⟨b, o, rfl, hb, hcell⟩ := hrl5.pos (k := 0) (by have := HM.out; omega)
  have HCELL : Hid (∀ i, (h : i < xs.length) → E5.cell? ⟨b, o + i, none⟩ = some (.int .i64 xs[i])) := hcell
  have l0 := HCELL.out 0 (by have := HM.out; omega)
  rw [HX0.out (by have := HM.out; omega)] at l0
  rw [Nat.add_zero] at l0
  have r0 := cell_regrown l0
  have r1 := cell_regrown (ba5.cell 0 rfl)
  have r2 := cell_regrown (ba5.cell 1 rfl)
  have r3 := cell_regrown (bc.cell 0 rfl)
  have r4 := cell_regrown (bc.cell 1 rfl)
  have KF : Hid (∀ k os, Calls Try.prog 8 #[.agg #[.int .i64 n, .int .i64 (y : Int)]] (grow (redrawn E5 k) os) fun e w'' => e = .returned (.int .i64 (n / (y : Int))) ∧ ∃ p : Regrown, w'' = grow (redrawn E5 p.d) p.os) := fun k os => Calls.regrown_of (FL.out _)
  generalize n / (y : Int) = q at l0 r0 KF
  clear l0 hcell FL hrl5
  have gl0 : 0 < m + 1 := by omega
  have ql : (((m : Int) + 1) == 0) = false := by rw [beq_eq_false_iff_ne]; omega
  go_upto_region 6 with fail
  rw [← HE5.out, ← HGC.out]
  clear HE5 HGC
  refine wp_region_quiet_below (by kernel_rfl) (by kernel_rfl) ?_
  repeat (first | go_big_quiet_step ((go_at_call 8; exact KF.out _ _)) | quiet_step ((go_at_call 8; exact KF.out _ _)))
  refine wpQuiet_nil ?_
  intro _ hw'
  obtain ⟨⟨dq, osq⟩, hw''⟩ := hw'
  subst hw''
  have hbq := below_regrown E5 dq osq
  have HBQ : Hid (∀ i, (h : i < xs.length) → (grow (redrawn E5 dq) osq).cell? ⟨b, o + i, none⟩ = some (.int .i64 xs[i])) := fun i h => (hbq.cell (p := ⟨b, o + i, none⟩) hb).trans (HCELL.out i h)
  have ba6 := ba5.below hbq
  have bb6 := bb5.below hbq
  have hB6 := hB5.trans (hbq.mono hB5.size)
  have hb6 : b < (grow (redrawn E5 dq) osq).heap.size := Nat.lt_of_lt_of_le hb hbq.size
  clear r0 r1 r2 r3 r4 KF ba5 bb5 hB5 hbq HCELL hb bc
  generalize grow (redrawn E5 dq) osq = F at *
  go_wp2_with fail
  go_loop [8] (fun i => ∃ k : Nat, i = .int .i64 ((k : Int) + 1) ∧ k ≤ m) (fun i => (m + 1 - (intOf i).toNat))
  case atStart => exact ⟨0, rfl, by omega⟩
  case round =>
    obtain ⟨k, rfl, hk⟩ := hrel
    by_cases hlt : k < m
    · have hk1 : k + 1 < xs.length := by have := HM.out; omega
      have hc1 := HBQ.out (k + 1) hk1
      have ht1 := (HT.out k hk1).1
      have ht2 := (HT.out k hk1).2.1
      generalize xs[k + 1] = t at hc1 ht1 ht2
      have qt : decide (t < 1) = false := decide_eq_false (by omega)
      have qk : decide ((k : Int) + 1 < (m : Int) + 1) = true := decide_eq_true (by omega)
      go_wp2_with fail
      go_round
      case rel => exact ⟨k + 1, by go_num, by omega⟩
      case measure => simp [intOf] <;> omega
    · obtain rfl : k = m := by omega
      have z0 := ba6.cell 0 rfl
      have z1 := ba6.cell 1 rfl
      have z2 := bb6.cell 0 rfl
      have z3 := bb6.cell 1 rfl
      go_wp2_with fail
      refine (MD.out _).mono ?_
      rintro e E7 ⟨rfl, hb7⟩
      obtain ⟨E8, hE8⟩ : ∃ E, E = E7.alloc (.cells #[.int .i64 N, .int .i64 D] 25) := ⟨_, rfl⟩
      obtain ⟨gm, hgm⟩ : ∃ g, g = E7.heap.size := ⟨_, rfl⟩
      have hb8 : Below E7.heap.size E7 E8 := by rw [hE8]; exact (Below.refl _ _).alloc (Nat.le_refl _) _
      have bm : Box E8 gm [.int .i64 N, .int .i64 D] 25 := by rw [hE8, hgm]; exact Box.newAt E7 [.int .i64 N, .int .i64 D] _ rfl
      have hb78 := hb7.trans (hb8.mono hb7.size)
      have ba8 := ba6.below hb78
      have bb8 := bb6.below hb78
      have hB8 := hB6.trans (hb78.mono hB6.size)
      have hm1 : k < xs.length := by have := HM.out; omega
      have hcm := (hb78.cell (p := ⟨b, o + k, none⟩) hb6).trans (HBQ.out k hm1)
      have htm : Hid (k ≠ 0 → 2 ≤ xs[k]) := fun h => by
        obtain ⟨j, rfl⟩ : ∃ j, k = j + 1 := ⟨k - 1, by omega⟩
        exact (HT.out j hm1).2.2 HM.out.symm
      generalize xs[k] = t at hcm htm
      have HE8 := Lib.hid hE8
      have HGM := Lib.hid hgm
      clear hE8 hgm z0 z1 z2 z3 ba6 bb6 hB6 hb7 hb8 MD
      have hsub : (k : Int) + 1 - 1 = (k : Int) := by omega
      go_upto_region 14 with fail
      rw [← HE8.out, ← HGM.out]
      clear HE8 HGM
      rcases Nat.eq_zero_or_pos k with hk0 | hk0
      case' inl => (have q14 : decide ((1 : Int) < (k : Int) + 1) = false := decide_eq_false (by omega))
      case' inr => (have q14 : decide ((1 : Int) < (k : Int) + 1) = true := decide_eq_true (by omega); have q15 : decide (t < 2) = false := decide_eq_false (by have := htm.out (by omega); omega))
      all_goals
        clear hk0
        rcases MC.out with rfl | rfl
        case inr =>
          go_wp2_with fail
          go_ret
          exact ⟨rfl, hB8⟩
        obtain ⟨okm, hlaw⟩ := MO.out rfl
        have s0 := cell_regrown (ba8.cell 0 rfl)
        have s1 := cell_regrown (ba8.cell 1 rfl)
        have s2 := cell_regrown (bb8.cell 0 rfl)
        have s3 := cell_regrown (bb8.cell 1 rfl)
        have s4 := cell_regrown (bm.cell 0 rfl)
        have s5 := cell_regrown (bm.cell 1 rfl)
        have KC : Hid (∀ a b a' b' : Int, fracB a b = true → fracB a' b' = true → ∀ j os, Calls Try.prog 10 #[.agg #[.int .i64 a, .int .i64 b], .agg #[.int .i64 a', .int .i64 b']] (grow (redrawn E8 j) os) fun e w'' => e = .returned (.int .i64 (cmpS a b a' b')) ∧ ∃ p : Regrown, w'' = grow (redrawn E8 p.d) p.os) := fun a b a' b' h1 h2 j os => Calls.regrown_of (CP.out _ _ _ _ h1 h2 _)
        have v1 := HF.out
        have v2 := HF'.out
        have hs3 := sgn_three (N * d') (n' * D)
        obtain ⟨S1, e1⟩ : ∃ S, cmpS n (y : Int) n' d' = S := ⟨_, rfl⟩
        obtain ⟨S2, e2⟩ : ∃ S, cmpS N D n (y : Int) = S := ⟨_, rfl⟩
        obtain ⟨S3, e3⟩ : ∃ S, cmpS N D n' d' = S := ⟨_, rfl⟩
        have e2' : sgn (N * (y : Int)) (n * D) = S2 := e2
        have e3' : sgn (N * d') (n' * D) = S3 := e3
        rw [e2', e3'] at hlaw
        rw [e3'] at hs3
        clear e2' e3'
        have qe : (S2 == -S3) = true := by rw [beq_iff_eq]; exact hlaw
        have b1 : -1 ≤ S3 := by omega
        have b2 : S3 ≤ 1 := by omega
        clear hlaw hs3
        go_wp2_with fail
        by_cases h0 : S1 = 0
        · subst h0
          refine wp_region_quiet_below (by kernel_rfl) (by kernel_rfl) ?_
          repeat (first | go_big_quiet_step ((go_at_call 10; exact KC.out _ _ _ _ (by assumption) (by assumption) _ _)) | quiet_step ((go_at_call 10; exact KC.out _ _ _ _ (by assumption) (by assumption) _ _)))
          refine wpQuiet_nil ?_
          intro _ hw'
          obtain ⟨⟨dq, osq⟩, hw''⟩ := hw'
          subst hw''
          have hbq := below_regrown E8 dq osq
          go_wp2_with fail
          go_ret
          exact ⟨rfl, hB8.trans (hbq.mono hB8.size)⟩
        · have q0 : (S1 == 0) = false := by rw [beq_eq_false_iff_ne]; exact h0
          refine wp_region_quiet_below (by kernel_rfl) (by kernel_rfl) ?_
          repeat (first | go_big_quiet_step ((go_at_call 10; exact KC.out _ _ _ _ (by assumption) (by assumption) _ _)) | quiet_step ((go_at_call 10; exact KC.out _ _ _ _ (by assumption) (by assumption) _ _)))
          refine wpQuiet_nil ?_
          intro _ hw'
          obtain ⟨⟨dq, osq⟩, hw''⟩ := hw'
          subst hw''
          have hbq := below_regrown E8 dq osq
          go_wp2_with fail
          go_ret
          exact ⟨rfl, hB8.trans (hbq.mono hB8.size)⟩
end Go.Proofs.Ytbjpianbeebmeaa
