/-
  The law of the nearest fraction: what is drawn, and the law's walk.
-/
import Derived.Test.YtchipcgpgekiaaaBest
import Derived.Deep.RegionHeld3
namespace Go.Proofs.Ytchipcgpgekiaaa
open Go.ChangeShapes Go.WideShapes Go.ChangeAt Go.RowKit Go.Sort
set_option linter.unusedVariables false

theorem mk_small {n d : Int} (h1 : -1000000 ≤ n) (h2 : n ≤ 1000000) (h3 : 0 < d) (h4 : d ≤ 1000000) : fracB (mkN n d) (mkD n d) = true ∧ -1000000 ≤ mkN n d ∧ mkN n d ≤ 1000000 := by
  have hb : mkBig n d = false := by
    have e1 : n.natAbs / fg n d ≤ n.natAbs := Nat.div_le_self _ _
    have e2 : d.natAbs / fg n d ≤ d.natAbs := Nat.div_le_self _ _
    simp only [mkBig, Bool.or_eq_false_iff, decide_eq_false_iff_not]
    omega
  have hc : mkC n d = 0 := by unfold mkC; rw [hb]; rfl
  refine ⟨(mk_ok h3 hc).1, ?_⟩
  have e1 : n.natAbs / fg n d ≤ n.natAbs := Nat.div_le_self _ _
  unfold mkN
  rw [hb]
  simp only [Bool.false_eq_true, if_false]
  generalize n.natAbs / fg n d = q at e1 ⊢
  split <;> omega
/-- a fraction with small numbers, and a bound -/
def DrewBest (w : World) (e : Ending) (w' : World) : Prop := ∃ n d t, fracB n d = true ∧ -1000000 ≤ n ∧ n ≤ 1000000 ∧ 1 ≤ t ∧ t ≤ 60 ∧ e = .returned (.tuple #[.agg #[.int .i64 n, .int .i64 d], .int .i64 t]) ∧ Below w.heap.size w w'
set_option maxHeartbeats 2000000 in
theorem a2Best_any {v : Value} {bs : List Int} (w : World) (h : VB w v bs) (hl : bs.length ≤ 1048576) :
    Calls Try.prog 6 #[v] w (DrewBest w) := by
  obtain ⟨p, c, rfl, hr⟩ := h
  obtain ⟨E0, hE0⟩ : ∃ E, E = w.alloc (.cells #[.int .i64 0, .int .i64 0] 25) := ⟨_, rfl⟩
  have hB0 : Below w.heap.size w E0 := by rw [hE0]; exact (Below.refl _ _).alloc (Nat.le_refl _) _
  have br0 : Box E0 w.heap.size [.int .i64 0, .int .i64 0] 25 := by rw [hE0]; exact Box.newAt w [.int .i64 0, .int .i64 0] _ rfl
  have hs0 : E0.heap.size = w.heap.size + 1 := by rw [hE0]; simp
  have HE0 := Lib.hid hE0
  clear hE0
  go_enter Try.func6, Try.ntmps6
  go_wp2_with fail
  rw [← HE0.out]
  clear HE0
  refine (l00From_any (c := c) E0 (hr.below hB0) hl).mono ?_
  rintro e E1 ⟨rfl, hs1, hb1⟩
  have hB1 := hB0.trans (hb1.mono (by omega))
  have br1 := br0.below hb1
  obtain ⟨g, hg⟩ : ∃ g, g = E0.heap.size := ⟨_, rfl⟩
  rw [← hg] at hs1 ⊢
  have hgw : w.heap.size < g := by omega
  clear hg br0 hb1 hB0 hs0
  go_wp2_with fail
  refine (pick_any 2000 E1 hs1 (by omega) (by omega)).mono ?_
  rintro e E2 ⟨x, hx, rfl, hs2, ho2⟩
  have hx' := pickP_pos hx (by omega)
  have hB2 := hB1.trans (ho2.below (B := w.heap.size) (fun k hk => by omega) hB1.size)
  have br2 := br1.off ho2 (show ¬ w.heap.size = g by omega)
  have hx1 := hx'.1
  have hx2 := hx'.2
  clear hx hx' ho2 hs1 br1 hB1
  go_wp2_with fail
  refine (pick_any 600 E2 hs2 (by omega) (by omega)).mono ?_
  rintro e E3 ⟨y, hy, rfl, hs3, ho3⟩
  have hy' := pickP_pos hy (by omega)
  have hB3 := hB2.trans (ho3.below (B := w.heap.size) (fun k hk => by omega) hB2.size)
  have br3 := br2.off ho3 (show ¬ w.heap.size = g by omega)
  have hy1 := hy'.1
  have hy2 := hy'.2
  clear hy hy' ho3 hs2 br2 hB2
  have hok := Lib.hid (mk_small (n := x - 700) (d := 1 + y) (by omega) (by omega) (by omega) (by omega))
  have MK : Hid (∀ W, Calls Try.prog 18 #[.int .i64 (x - 700), .int .i64 (1 + y)] W fun e w' => e = .returned (.tuple #[.agg #[.int .i64 (mkN (x - 700) (1 + y)), .int .i64 (mkD (x - 700) (1 + y))], .int .i64 (mkC (x - 700) (1 + y))]) ∧ Below W.heap.size W w') := fun W => makeSpec_any _ _ W (by omega) (by omega) (by omega) (by omega)
  generalize mkN (x - 700) (1 + y) = fn at hok MK
  generalize mkD (x - 700) (1 + y) = fd at hok MK
  generalize mkC (x - 700) (1 + y) = fc at MK
  go_wp2_with (go_at_call 18; refine (MK.out _).mono ?_; rintro e E4 ⟨rfl, hb4⟩; refine Hid.out ?_)
  refine Lib.hid ?_
  have hs4 := hs3.below hb4
  have br4 := br3.below hb4
  have hB4 := hB3.trans (hb4.mono hB3.size)
  obtain ⟨E5, hE5⟩ : ∃ E, E = E4.alloc (.cells #[.int .i64 fn, .int .i64 fd] 25) := ⟨_, rfl⟩
  have hb5 : Below E4.heap.size E4 E5 := by rw [hE5]; exact (Below.refl _ _).alloc (Nat.le_refl _) _
  have bf5 : Box E5 E4.heap.size [.int .i64 fn, .int .i64 fd] 25 := by rw [hE5]; exact Box.newAt E4 [.int .i64 fn, .int .i64 fd] _ rfl
  have hs5 := hs4.below hb5
  have br5 := br4.below hb5
  have hB5 := hB4.trans (hb5.mono hB4.size)
  have hne : g ≠ E4.heap.size := by have := hs4.lt; omega
  have HE5 := Lib.hid hE5
  clear hE5 hs3 br3 hB3 hb4 hs4 hb5 MK
  go_wp2_with fail
  rw [← HE5.out]
  clear HE5
  obtain ⟨gf, hgf⟩ : ∃ g, g = E4.heap.size := ⟨_, rfl⟩
  rw [← hgf] at bf5 hne ⊢
  have hwf : w.heap.size < gf := by have := br4.lt; omega
  clear hgf br4 hB4
  have z0 := bf5.cell 0 rfl
  have z1 := bf5.cell 1 rfl
  have hs6 : SrcAt E5.drew g (0 + 2 + 2) := hs5.below ⟨rfl, rfl, rfl, Nat.le_refl _, fun _ _ => rfl⟩
  have bf6 : Box E5.drew gf [.int .i64 fn, .int .i64 fd] 25 := bf5
  have br6 : Box E5.drew w.heap.size [.int .i64 0, .int .i64 0] 25 := br5
  have hB6 : Below w.heap.size w E5.drew := ⟨hB5.os, hB5.tape, hB5.output, hB5.size, hB5.block⟩
  have y0 := br6.cell 0 rfl
  have y1 := br6.cell 1 rfl
  have u0 := br6.frozen 0
  have u1 := br6.frozen 1
  go_region_held3 (fun W => W.cell? ⟨gf, 0, none⟩ = some (.int .i64 fn) ∧ W.cell? ⟨gf, 1, none⟩ = some (.int .i64 fd)) (first | go_keep | exact ⟨bf6.cell 0 rfl, bf6.cell 1 rfl⟩ | exact ⟨((bf6.other (a := ⟨w.heap.size, 0, none⟩) (by show gf ≠ w.heap.size; omega) _).other (a := ⟨w.heap.size, 1, none⟩) (by show gf ≠ w.heap.size; omega) _).cell 0 rfl, ((bf6.other (a := ⟨w.heap.size, 0, none⟩) (by show gf ≠ w.heap.size; omega) _).other (a := ⟨w.heap.size, 1, none⟩) (by show gf ≠ w.heap.size; omega) _).cell 1 rfl⟩) (first | (go_at_call 17; refine (pick_any 60 _ hs6 (by omega) (by omega)).mono ?_; rintro e E7 ⟨t, ht, rfl, hs7, ho7⟩; have bf6 := bf6.off ho7 (show ¬ gf = g by omega); have br6 := br6.off ho7 (show ¬ w.heap.size = g by omega); have y0 := br6.cell 0 rfl; have y1 := br6.cell 1 rfl; have u0 := br6.frozen 0; have u1 := br6.frozen 1; have hB7 := hB6.trans (ho7.below (B := w.heap.size) (fun k hk => by omega) hB6.size); have ht1 := (pickP_pos ht (by omega)).1; have ht2 := (pickP_pos ht (by omega)).2; have hlt7 := br6.lt))
  all_goals
    have htw : IntKind.i64.wrap (1 + t) = 1 + t := IntWalk.i64_in _ (by omega)
    go_wp2_with fail
    refine bodyPost_ret (v := .tuple #[.agg #[.int .i64 fn, .int .i64 fd], .int .i64 (1 + t)]) (by simp [results, Try.results6, go_sem, *]) rfl ⟨fn, fd, 1 + t, hok.out.1, hok.out.2.1, hok.out.2.2, by omega, by omega, rfl, ?_⟩
    (repeat (first | exact Below.refl _ _ | assumption | refine Below.setCell ?_ (by first | exact Nat.le_refl _ | omega | (simp; done) | (simp; omega)) _ | refine Below.alloc ?_ (by first | exact Nat.le_refl _ | omega | (simp; done) | (simp; omega)) _ | refine below_drewN ?_ _))
theorem a2Long_any (p : Option Addr) (n c : Nat) (w : World) (hn : n ≤ maxLen) :
    Calls Try.prog 5 #[.slice p n c, .slice none 0 0] w fun e w' => e = .returned (.bool (decide ((3000 : Int) < (n : Int)))) ∧ w = w' := by
  unfold maxLen at hn
  by_cases h : (3000 : Int) < (n : Int)
  · have hd : decide ((3000 : Int) < (n : Int)) = true := decide_eq_true h
    rw [hd]
    go_enter Try.func5, Try.ntmps5
    go_wp2
    go_ret
    exact ⟨rfl, rfl⟩
  · have hd : decide ((3000 : Int) < (n : Int)) = false := decide_eq_false h
    rw [hd]
    go_enter Try.func5, Try.ntmps5
    go_wp2
    go_ret
    exact ⟨rfl, rfl⟩
theorem a2Size_any (n : Int) (w : World) (h1 : -4611686018427387904 ≤ n) (h2 : n ≤ 4611686018427387904) :
    Calls Try.prog 9 #[.int .i64 n] w fun e w' => e = .returned (.int .i64 (n.natAbs : Int)) ∧ w = w' := by
  by_cases h0 : n < 0
  · go_enter Try.func9, Try.ntmps9
    go_wp2_with fail
    go_ret
    exact ⟨ret_int (by omega), rfl⟩
  · go_enter Try.func9, Try.ntmps9
    go_wp2_with fail
    go_ret
    exact ⟨ret_int (by omega), rfl⟩
theorem validFrac_any (n d : Int) (w : World) :
    Calls Try.prog 8 #[.agg #[.int .i64 n, .int .i64 d]] w fun e w' => e = .returned (.bool (fracB n d)) ∧ Below w.heap.size w w' := by
  have hB0 : Below w.heap.size w (w.alloc (.cells #[.int .i64 n, .int .i64 d] 25)) := (Below.refl _ _).alloc (Nat.le_refl _) _
  go_enter Try.func8, Try.ntmps8
  go_wp2_with fail
  refine (l02Ok_any n d _).mono ?_
  rintro e F ⟨rfl, hb⟩
  go_wp2_with fail
  go_ret
  exact ⟨rfl, hB0.trans (hb.mono hB0.size)⟩
theorem tdiv_bd {x b M : Int} (h1 : -M ≤ x) (h2 : x ≤ M) : -M ≤ x.tdiv b ∧ x.tdiv b ≤ M := by
  have h3 : (x.tdiv b).natAbs = x.natAbs / b.natAbs := Int.natAbs_tdiv x b
  have h4 : x.natAbs / b.natAbs ≤ x.natAbs := Nat.div_le_self _ _
  omega
/-- what the law needs of the best fraction -/
theorem best_facts {fN fD most bn bd far : Int} (hf : fracB fN fD = true) (b1 : -1000000 ≤ fN) (b2 : fN ≤ 1000000) (m1 : 1 ≤ most) (m2 : most ≤ 60) (h : BestInv fN fD (Cand fN fD (min most fD)) true bn bd far) :
    mkC bn bd = 0 ∧ fracB (mkN bn bd) (mkD bn bd) = true ∧ mkD bn bd ≤ most ∧ -100000000 ≤ mkN bn bd ∧ mkN bn bd ≤ 100000000 ∧
      ∀ d k, 1 ≤ d → d ≤ most → dist fN fD (mkN bn bd) (mkD bn bd) * d ≤ dist fN fD k d * mkD bn bd ∧ (dist fN fD k d * mkD bn bd = dist fN fD (mkN bn bd) (mkD bn bd) * d → mkD bn bd ≤ d) := by
  have hfb := fracB_of hf
  have hc : 1 ≤ bd ∧ Cand fN fD (min most fD) bn bd := by
    rcases h with ⟨h0, _⟩ | ⟨_, h1, _, h2, _⟩
    · simp at h0
    · exact ⟨h1, h2⟩
  obtain ⟨hb1, hcand⟩ := hc
  have hb2 : bd ≤ 60 := by have := hcand.2.1; omega
  have hbn : -60000001 ≤ bn ∧ bn ≤ 60000001 := by
    have hm := mul_bd (a := fN) (b := bd) (A := 1000000) (B := 60) b1 b2 (by omega) hb2 (by omega) (by omega)
    have hd := ediv_bd (a := fN * bd) (b := fD) (M := 1000000 * 60) (by omega) hm.1 hm.2
    rcases hcand.2.2 with e | e <;> omega
  have hmb : mkBig bn bd = false := by
    have e1 : bn.natAbs / fg bn bd ≤ bn.natAbs := Nat.div_le_self _ _
    have e2 : bd.natAbs / fg bn bd ≤ bd.natAbs := Nat.div_le_self _ _
    simp only [mkBig, Bool.or_eq_false_iff, decide_eq_false_iff_not]
    omega
  have hmc : mkC bn bd = 0 := by unfold mkC; rw [hmb]; rfl
  obtain ⟨ok, -, g, hg, e1, e2⟩ := mk_ok (n := bn) (d := bd) (by omega) hmc
  have hok := fracB_of ok
  refine ⟨hmc, ok, ?_, ?_, ?_, fun d k hd1 hd2 => best_law (by omega) rfl h hg e1 e2 (by omega) m1 hd1 hd2⟩
  · have hmd : mkD bn bd = ((bd.natAbs / fg bn bd : Nat) : Int) := by unfold mkD; rw [hmb]; rfl
    have e3 : bd.natAbs / fg bn bd ≤ bd.natAbs := Nat.div_le_self _ _
    generalize bd.natAbs / fg bn bd = q at *
    have := hcand.2.1
    omega
  all_goals
    have e3 : bn.natAbs / fg bn bd ≤ bn.natAbs := Nat.div_le_self _ _
    unfold mkN
    rw [hmb]
    simp only [Bool.false_eq_true, if_false]
    generalize bn.natAbs / fg bn bd = q at *
    split <;> omega
set_option maxHeartbeats 8000000 in
set_option maxRecDepth 100000 in
theorem fnBest_walk (w : World) {v : Value} {bs : List Int} (h : VB w v bs) (hm : bs.length ≤ maxLen) :
    Calls Try.prog 3 #[v] w fun e w' => e = .returned (.bool true) ∧ Below w.heap.size w w' := by
  have hv := h
  obtain ⟨p, c, rfl, -⟩ := hv
  have LG := Lib.hid (a2Long_any p bs.length c w hm)
  by_cases hl : (3000 : Int) < (bs.length : Int)
  · rw [decide_eq_true hl] at LG
    clear hl
    go_enter Try.func3, Try.ntmps3
    go_wp2_with (go_at_call 5; refine LG.out.mono ?_; rintro e w' ⟨rfl, rfl⟩)
    go_ret
    exact ⟨rfl, Below.refl _ _⟩
  rw [decide_eq_false hl] at LG
  have AB := Lib.hid (a2Best_any w h (by omega))
  clear hl h hm
  go_enter Try.func3, Try.ntmps3
  go_wp2_with (first | (go_at_call 5; refine LG.out.mono ?_; rintro e w' ⟨rfl, rfl⟩) | (go_at_call 6; refine AB.out.mono ?_; rintro e E1 ⟨fN, fD, most, hf, b1, b2, m1, m2, rfl, hb1⟩; refine Hid.out ?_))
  refine Lib.hid ?_
  clear LG AB
  have HF := Lib.hid hf
  have d1 : 1 ≤ fD := (fracB_of hf).1
  have d2 : fD ≤ 1000000 := (fracB_of hf).2.1
  clear hf
  obtain ⟨E2, hE2⟩ : ∃ E, E = E1.alloc (.cells #[.int .i64 fN, .int .i64 fD] 25) := ⟨_, rfl⟩
  obtain ⟨gf, hgf⟩ : ∃ g, g = E1.heap.size := ⟨_, rfl⟩
  have hB2 : Below w.heap.size w E2 := by rw [hE2]; exact hb1.alloc hb1.size _
  have bf : Box E2 gf [.int .i64 fN, .int .i64 fD] 25 := by rw [hE2, hgf]; exact Box.newAt E1 [.int .i64 fN, .int .i64 fD] _ rfl
  have HE2 := Lib.hid hE2
  have HGF := Lib.hid hgf
  clear hE2 hgf hb1
  have BF := Lib.hid (bestFrac_any fN fD most E2 HF.out b1 b2 m1 (by omega))
  have zf0 := bf.cell 0 rfl
  have zf1 := bf.cell 1 rfl
  go_wp2_with fail
  rw [← HE2.out, ← HGF.out]
  clear HE2 HGF zf0 zf1
  refine BF.out.mono ?_
  rintro e E3 ⟨bn, bd, fr, hinv, -, rfl, hb3⟩
  clear BF
  obtain ⟨hc0, hok, hdm, hN1, hN2, hlaw⟩ := best_facts HF.out b1 b2 m1 m2 hinv
  rw [hc0]
  have HLAW := Lib.hid hlaw
  have HOK := Lib.hid hok
  have hD1 : 1 ≤ mkD bn bd := (fracB_of hok).1
  clear hlaw hok hinv hc0
  generalize mkN bn bd = N at *
  generalize mkD bn bd = Dd at *
  have hB3 := hB2.trans (hb3.mono hB2.size)
  have bf3 := bf.below hb3
  obtain ⟨E4, hE4⟩ : ∃ E, E = E3.alloc (.cells #[.int .i64 N, .int .i64 Dd] 25) := ⟨_, rfl⟩
  obtain ⟨gb, hgb⟩ : ∃ g, g = E3.heap.size := ⟨_, rfl⟩
  have hb4 : Below E3.heap.size E3 E4 := by rw [hE4]; exact (Below.refl _ _).alloc (Nat.le_refl _) _
  have hB4 := hB3.trans (hb4.mono hB3.size)
  have bf4 := bf3.below hb4
  have bb : Box E4 gb [.int .i64 N, .int .i64 Dd] 25 := by rw [hE4, hgb]; exact Box.newAt E3 [.int .i64 N, .int .i64 Dd] _ rfl
  have HE4 := Lib.hid hE4
  have HGB := Lib.hid hgb
  clear hE4 hgb hb3 bf hB2 bf3 hb4 hB3
  have VF : Hid (∀ W, Calls Try.prog 8 #[.agg #[.int .i64 N, .int .i64 Dd]] W fun e w' => e = .returned (.bool true) ∧ Below W.heap.size W w') := fun W => by rw [← HOK.out]; exact validFrac_any N Dd W
  have zb0 := bb.cell 0 rfl
  have zb1 := bb.cell 1 rfl
  go_wp2_with fail
  rw [← HE4.out, ← HGB.out]
  clear HE4 HGB zb0 zb1
  refine (VF.out _).mono ?_
  rintro e E5 ⟨rfl, hb5⟩
  have hB5 := hB4.trans (hb5.mono hB4.size)
  have bf5 := bf4.below hb5
  have bb5 := bb.below hb5
  have zf0 := bf5.cell 0 rfl
  have zf1 := bf5.cell 1 rfl
  have zb0 := bb5.cell 0 rfl
  have zb1 := bb5.cell 1 rfl
  clear hb5 hB4 bf4 bb VF bf5 bb5
  have hdg : decide (most < Dd) = false := decide_eq_false (by omega)
  -- the distance of the best one
  have hmA := mul_bd (a := N) (b := fD) (A := 100000000) (B := 1000000) hN1 hN2 (by omega) d2 (by omega) (by omega)
  have hmB := mul_bd (a := fN) (b := Dd) (A := 1000000) (B := 60) b1 b2 (by omega) (by omega) (by omega) (by omega)
  have hfar : Hid (dist fN fD N Dd = ((N * fD - fN * Dd).natAbs : Int)) := by unfold Hid dist; omega
  obtain ⟨pa, hpa⟩ : ∃ x, x = N * fD := ⟨_, rfl⟩
  obtain ⟨pb, hpb⟩ : ∃ x, x = fN * Dd := ⟨_, rfl⟩
  rw [← hpa] at hmA hfar
  rw [← hpb] at hmB hfar
  have hpa' : N * fD = pa := hpa.symm
  have hpb' : fN * Dd = pb := hpb.symm
  have ha1 := hmA.1; have ha2 := hmA.2; have hb1 := hmB.1; have hb2 := hmB.2
  have SZ : Hid (∀ W, Calls Try.prog 9 #[.int .i64 (pa - pb)] W fun e w' => e = .returned (.int .i64 (dist fN fD N Dd)) ∧ W = w') := fun W => by rw [hfar.out]; exact a2Size_any (pa - pb) W (by omega) (by omega)
  have hF0 : 0 ≤ dist fN fD N Dd := dist_nonneg _ _ _ _
  have hF1 : dist fN fD N Dd ≤ 100000100000000 := by rw [hfar.out]; omega
  clear hmA hmB hpa hpb
  generalize dist fN fD N Dd = far at *
  go_wp2_with (go_at_call 9; refine (SZ.out _).mono ?_; rintro e w' ⟨rfl, rfl⟩)
  clear hpa' hpb' SZ
  go_loop [8] (fun d => ∃ k : Nat, d = .int .i64 ((k : Int) + 1) ∧ (k : Int) ≤ most) (fun d => (most + 1 - intOf d).toNat)
  case atStart => exact ⟨0, rfl, by omega⟩
  case round =>
    obtain ⟨j, rfl, hj⟩ := hrel
    by_cases hjt : (j : Int) + 1 ≤ most
    case neg =>
      obtain hjm : (j : Int) = most := by omega
      have hjd : decide ((j : Int) + 1 ≤ most) = false := decide_eq_false hjt
      clear hjm
      go_wp2_with fail
      go_ret
      exact ⟨rfl, hB5⟩
    have hjd : decide ((j : Int) + 1 ≤ most) = true := decide_eq_true hjt
    have hmx := mul_bd (a := fN) (b := (j : Int) + 1) (A := 1000000) (B := 60) b1 b2 (by omega) (by omega) (by omega) (by omega)
    obtain ⟨x, hx⟩ : ∃ x, x = fN * ((j : Int) + 1) := ⟨_, rfl⟩
    rw [← hx] at hmx
    have HX := Lib.hid hx
    have hx' : fN * ((j : Int) + 1) = x := hx.symm
    have hq := tdiv_bd (x := x) (b := fD) (M := 1000000 * 60) hmx.1 hmx.2
    obtain ⟨q, hqe⟩ : ∃ q, q = x.tdiv fD := ⟨_, rfl⟩
    rw [← hqe] at hq
    have hq' : x.tdiv fD = q := hqe.symm
    have hq2 : 0 ≤ x → x / fD = q := fun h0 => by rw [hqe, Int.tdiv_eq_ediv_of_nonneg h0]
    have hx1 := hmx.1; have hx2 := hmx.2; have hq1 := hq.1; have hq3 := hq.2
    clear hmx hq hx hqe
    by_cases hx0 : 0 ≤ x
    all_goals
      have hq4 := hq2
      clear hq2
      first
        | (replace hq4 := hq4 hx0)
        | skip
      go_wp2_with fail
      clear hx'
      go_loop [10] (fun k => ∃ i : Nat, i ≤ 3 ∧ k = .int .i64 (q - 1 + (i : Int))) (fun k => (q + 2 - intOf k).toNat)
      case atStart => exact ⟨0, by omega, by simp⟩
      case round =>
        obtain ⟨i, hi, rfl⟩ := hrel
        by_cases hit : i < 3
        · have hlt3 : decide (q - 1 + (i : Int) ≤ q + 1) = true := decide_eq_true (by omega)
          obtain ⟨kk, hkk⟩ : ∃ k, k = q - 1 + (i : Int) := ⟨_, rfl⟩
          have hk1 : -60000002 ≤ kk := by omega
          have hk2 : kk ≤ 60000002 := by omega
          have hmp := mul_bd (a := kk) (b := fD) (A := 100000000) (B := 1000000) (by omega) (by omega) (by omega) d2 (by omega) (by omega)
          obtain ⟨p1, hp1⟩ : ∃ z, z = kk * fD := ⟨_, rfl⟩
          have hoth : Hid (dist fN fD kk ((j : Int) + 1) = ((p1 - x).natAbs : Int)) := by
            unfold Hid dist; rw [hp1, ← HX.out]; omega
          rw [← hp1] at hmp
          have hp1' : (q - 1 + (i : Int)) * fD = p1 := by rw [← hkk]; exact hp1.symm
          have hx'' : fN * ((j : Int) + 1) = x := HX.out.symm
          have SO : Hid (∀ W, Calls Try.prog 9 #[.int .i64 (p1 - x)] W fun e w' => e = .returned (.int .i64 (dist fN fD kk ((j : Int) + 1))) ∧ W = w') := fun W => by rw [hoth.out]; exact a2Size_any (p1 - x) W (by omega) (by omega)
          obtain ⟨hle, heq⟩ := HLAW.out ((j : Int) + 1) kk (by omega) hjt
          have ho0 : 0 ≤ dist fN fD kk ((j : Int) + 1) := dist_nonneg _ _ _ _
          have ho1 : dist fN fD kk ((j : Int) + 1) ≤ 200000000000000 := by rw [hoth.out]; omega
          have hpp1 := hmp.1; have hpp2 := hmp.2
          clear hp1 hmp
          generalize dist fN fD kk ((j : Int) + 1) = oth at *
          have hn1 := mul_bd (a := oth) (b := Dd) (A := 200000000000000) (B := 60) (by omega) ho1 (by omega) (by omega) (by omega) (by omega)
          have hn2 := mul_bd (a := far) (b := (j : Int) + 1) (A := 200000000000000) (B := 60) (by omega) (by omega) (by omega) (by omega) (by omega) (by omega)
          generalize hm1e : oth * Dd = m1 at *
          generalize hm2e : far * ((j : Int) + 1) = m2 at *
          have hn11 := hn1.1; have hn12 := hn1.2; have hn21 := hn2.1; have hn22 := hn2.2
          have t1 : decide (m1 < m2) = false := decide_eq_false (by omega)
          have hiw : IntKind.i64.wrap (q - 1 + (i : Int) + 1) = q - 1 + (i : Int) + 1 := IntWalk.i64_in _ (by omega)
          clear hn1 hn2 hkk hk1 hk2 kk hoth ho0 ho1
          by_cases hmm : m1 = m2
          · have t2 : (m1 == m2) = true := by rw [beq_iff_eq]; exact hmm
            have t3 : decide ((j : Int) + 1 < Dd) = false := decide_eq_false (by have := heq hmm; omega)
            clear heq hmm
            go_wp2_with (go_at_call 9; refine (SO.out _).mono ?_; rintro e w' ⟨rfl, rfl⟩)
            go_round
            case rel => exact ⟨i + 1, by omega, by first | go_num | (rw [Int.natCast_add, ← Int.add_assoc]; rfl)⟩
            case measure => simp [intOf] <;> omega
          · have t2 : (m1 == m2) = false := by rw [beq_eq_false_iff_ne]; exact hmm
            clear heq
            go_wp2_with (go_at_call 9; refine (SO.out _).mono ?_; rintro e w' ⟨rfl, rfl⟩)
            go_round
            case rel => exact ⟨i + 1, by omega, by first | go_num | (rw [Int.natCast_add, ← Int.add_assoc]; rfl)⟩
            case measure => simp [intOf] <;> omega
        · obtain rfl : i = 3 := by omega
          have hjw : IntKind.i64.wrap ((j : Int) + 1 + 1) = (j : Int) + 1 + 1 := IntWalk.i64_in _ (by omega)
          go_wp2_with fail
          go_round
          case rel => exact ⟨j + 1, by go_num, by omega⟩
          case measure => simp [intOf] <;> omega
end Go.Proofs.Ytchipcgpgekiaaa
