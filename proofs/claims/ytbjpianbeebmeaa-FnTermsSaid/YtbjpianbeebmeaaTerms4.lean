/-
  Terms of fractions: the value of terms; the law.
-/
import Derived.Test.YtbjpianbeebmeaaTerms3
import Derived.Test.YtbjpianbeebmeaaSeq
namespace Go.Proofs.Ytbjpianbeebmeaa
open Go.ChangeShapes Go.WideShapes Go.ChangeAt Go.RowKit Go.Sort
set_option linter.unusedVariables false

theorem tms_cf {x : Int} {y : Nat} (h0 : y ≠ 0) (hg : Nat.gcd x.natAbs y = 1) {k : Nat} (h1 : 1 ≤ k) (hk : k ≤ (tms x y).length) :
    1 ≤ (cf ((tms x y).drop k)).1 ∧ (cf ((tms x y).drop k)).1 ≤ y ∧ 0 ≤ (cf ((tms x y).drop k)).2 ∧ (cf ((tms x y).drop k)).2 ≤ y := by
  obtain ⟨i, rfl⟩ : ∃ i, k = i + 1 := ⟨k - 1, by omega⟩
  obtain ⟨u, v, e1, e2, e3, e4⟩ := tms_drop i x y (by omega) h0 hg
  rw [e1, cf_tms v (u : Int) v (Nat.le_refl _) (by rw [Int.natAbs_natCast]; exact e4) (fun _ => by omega)]
  exact ⟨by show (1 : Int) ≤ (u : Int); omega, by show (u : Int) ≤ (y : Int); omega, by show (0 : Int) ≤ (v : Int); omega, by show (v : Int) ≤ (y : Int); omega⟩
theorem cf_drop {xs : List Int} {k : Nat} (h : k < xs.length) : cf (xs.drop k) = (xs[k] * (cf (xs.drop (k + 1))).1 + (cf (xs.drop (k + 1))).2, (cf (xs.drop (k + 1))).1) := by
  rw [List.drop_eq_getElem_cons h, cf]
set_option maxHeartbeats 4000000 in
theorem fracOfTerms_any {n d : Int} {p : Option Addr} {c : Nat} (w : World) (hf : fracB n d = true) (hr : RdI w p (tms n d.toNat)) (hcap : (tms n d.toNat).length ≤ c) :
    Calls Try.prog 7 #[.slice p (tms n d.toNat).length c] w fun e w' => e = .returned (.tuple #[.agg #[.int .i64 n, .int .i64 d], .int .i64 0]) ∧ Below w.heap.size w w' := by
  have hff := hf
  obtain ⟨d1, d2, n1, n2, hg⟩ := fracB_of hf
  obtain ⟨y, rfl⟩ : ∃ y : Nat, d = y := ⟨d.toNat, by omega⟩
  rw [Int.toNat_natCast] at hr hcap ⊢
  rw [Int.natAbs_natCast] at hg
  have hy0 : y ≠ 0 := by omega
  have MKF : Hid (∀ W, Calls Try.prog 17 #[.int .i64 n, .int .i64 (y : Int)] W fun e w' => e = .returned (.tuple #[.agg #[.int .i64 n, .int .i64 (y : Int)], .int .i64 0]) ∧ Below W.heap.size W w') := fun W => by
    obtain ⟨e1, e2, e3⟩ := mk_self hff
    have := makeImpl_any n (y : Int) W (by omega) (by omega) (by omega) (by omega)
    rwa [e1, e2, e3] at this
  have hlen40 := tms_length (x := n) (y := y) (by omega)
  have HT : Hid (∀ i, (h : i + 1 < (tms n y).length) → 1 ≤ (tms n y)[i + 1] ∧ (tms n y)[i + 1] ≤ y) := fun i h => ⟨(tms_term hy0 hg h).1, (tms_term hy0 hg h).2.1⟩
  have HP : Hid (∀ k, 1 ≤ k → k ≤ (tms n y).length → 1 ≤ (cf ((tms n y).drop k)).1 ∧ (cf ((tms n y).drop k)).1 ≤ y ∧ 0 ≤ (cf ((tms n y).drop k)).2 ∧ (cf ((tms n y).drop k)).2 ≤ y) := fun k h1 h2 => tms_cf hy0 hg h1 h2
  have HC : Hid (cf ((tms n y).drop 0) = (n, (y : Int))) := by unfold Hid; rw [List.drop_zero]; exact cf_tms y n y (Nat.le_refl _) hg (fun h => absurd h hy0)
  have HX0 : Hid (∀ h : 0 < (tms n y).length, -1000000000 ≤ (tms n y)[0] ∧ (tms n y)[0] ≤ 1000000000) := fun h => by
    have e : (tms n y)[0] = n / (y : Int) := by
      have := tms_first (x := n) hy0
      rw [List.head?_eq_getElem?, List.getElem?_eq_getElem h] at this
      simpa using this
    rw [e]
    exact ediv_bd (by omega) (by omega) (by omega)
  have hpos := tms_ne (x := n) hy0
  generalize tms n y = xs at *
  obtain ⟨m, hm⟩ : ∃ m, xs.length = m + 1 := ⟨xs.length - 1, by omega⟩
  obtain ⟨b, o, rfl, hb, hcell⟩ := hr.pos hpos
  have HCELL : Hid (∀ i, (h : i < xs.length) → w.cell? ⟨b, o + i, none⟩ = some (.int .i64 xs[i])) := hcell
  have hc0 := hcell 0 hpos
  have hx0 := HX0.out hpos
  have HX : Hid (∀ q r : Int, cf (xs.drop 1) = (q, r) → xs[0] * q + r = n ∧ q = y) := fun q r e => by
    have h1 := cf_drop (xs := xs) (k := 0) hpos
    rw [HC.out, e] at h1
    simp only [Prod.mk.injEq] at h1
    exact ⟨h1.1.symm, h1.2.symm⟩
  generalize xs[0] = x0 at hc0 hx0 HX
  rw [hm] at hcap ⊢
  have HM := Lib.hid hm
  obtain ⟨E0, hE0⟩ : ∃ E, E = w.alloc (.cells #[.int .i64 0, .int .i64 0] 25) := ⟨_, rfl⟩
  have hB0 : Below w.heap.size w E0 := by rw [hE0]; exact (Below.refl _ _).alloc (Nat.le_refl _) _
  have q0 : Box E0 w.heap.size [.int .i64 0, .int .i64 0] 25 := by rw [hE0]; exact Box.newAt w [.int .i64 0, .int .i64 0] _ rfl
  have HE0 := Lib.hid hE0
  have z0 := (hB0.cell (p := ⟨b, o + 0, none⟩) hb).trans hc0
  rw [Nat.add_zero] at z0
  have hb0 : b < E0.heap.size := Nat.lt_of_lt_of_le hb hB0.size
  have g1 : -1000000000 ≤ x0 := hx0.1
  have g2 : x0 ≤ 1000000000 := hx0.2
  have e1 : inB ((m : Int) + 1) 1 40 = true := by rw [inB_iff]; omega
  have e2 : inB x0 (-1000000000) 1000000000 = true := by rw [inB_iff]; omega
  have SZ : Hid (∀ W pp cc, Calls Try.prog 16 #[.slice pp (m + 1) cc] W fun e w' => e = .returned (.int .i64 ((m : Int) + 1)) ∧ W = w') := fun W pp cc => sizeI_any pp (m + 1) cc W (by unfold maxLen; omega)
  have hm40 : m ≤ 39 := by omega
  have hsub : (m : Int) + 1 - 1 = (m : Int) := by omega
  clear hE0 hf hff hg hcell hc0 hx0 hpos hm hB0 hlen40
  have hB0 : Below w.heap.size w E0 := by rw [HE0.out]; exact (Below.refl _ _).alloc (Nat.le_refl _) _
  obtain ⟨q, rfl⟩ : ∃ q, c = q + 1 := ⟨c - 1, by omega⟩
  rcases Nat.eq_zero_or_pos q with rfl | hq
  case' inr => obtain ⟨q, rfl⟩ : ∃ q', q = q' + 1 := ⟨q - 1, by omega⟩
  all_goals
    go_enter Try.func7, Try.ntmps7
    go_upto_region 1 with fail
    rw [← HE0.out]
    go_wp2_with (first | (go_at_call 16; refine (SZ.out _ _ _).mono ?_; rintro e w' ⟨rfl, rfl⟩) | (go_at_call 15; refine (within_any _ _ _ _).mono ?_; rintro e w' ⟨rfl, rfl⟩) | fail)
    go_loop [5, 24] (fun _ i => ∃ k : Nat, i = .int .i64 k ∧ k ≤ m) (fun _ i => (m - (intOf i).toNat))
    case atStart => exact ⟨0, rfl, by omega⟩
    case round =>
      obtain ⟨k, rfl, hk⟩ := hrel
      by_cases hlt : k < m
      · first
        | omega
        | (
          have hk1 : k + 1 < xs.length := by have := HM.out; omega
          have hc1 := HCELL.out (k + 1) hk1
          have ht1 := HT.out k hk1
          generalize xs[k + 1] = t at hc1 ht1
          have y0 := (hB0.cell (p := ⟨b, o + (k + 1), none⟩) hb).trans hc1
          rw [show o + (k + 1) = o + 1 + k by omega] at y0
          have W3 : Hid (∀ W, Calls Try.prog 15 #[.int .i64 t, .int .i64 1, .int .i64 1000000000] W fun e w' => e = .returned (.bool true) ∧ W = w') := fun W => by
            have e : inB t 1 1000000000 = true := by rw [inB_iff]; omega
            rw [← e]; exact within_any _ _ _ _
          clear hc1 ht1
          go_wp2_with (go_at_call 15; refine (W3.out _).mono ?_; rintro e w' ⟨rfl, rfl⟩)
          go_round
          case rel => exact ⟨k + 1, by go_num, by omega⟩
          case measure => simp [intOf] <;> omega)
      · obtain rfl : k = m := by omega
        go_wp2_with fail
        go_loop [6, 7, 8] (fun s t i => ∃ j : Nat, i = .int .i64 j ∧ j ≤ k ∧ ∃ u v : Int, s = .int .i64 u ∧ t = .int .i64 v ∧ Hid (cf (xs.drop (j + 1)) = (u, v))) (fun _ _ i => (intOf i).toNat)
        case atStart => exact ⟨k, rfl, Nat.le_refl _, 1, 0, rfl, rfl, by unfold Hid; rw [← HM.out, List.drop_length]; rfl⟩
        case round =>
          obtain ⟨j, rfl, hj, u, v, rfl, rfl, HUV⟩ := hrel
          have hpu := HP.out (j + 1) (by omega) (by have := HM.out; omega)
          rw [HUV.out] at hpu
          obtain ⟨u1, u2, v1, v2⟩ := hpu
          dsimp only at u1 u2 v1 v2
          rcases Nat.eq_zero_or_pos j with rfl | hj0
          · obtain ⟨hn, hu⟩ := HX.out u v HUV.out
            obtain ⟨mm, hmm⟩ : ∃ mm, x0 * u = mm := ⟨_, rfl⟩
            have mb := mul_bd (a := x0) (b := u) (A := 1000000000) (B := 1000000) g1 g2 (by omega) (by omega) (by omega) (by omega)
            rw [hmm] at hn mb
            have m1 := mb.1
            have m2 := mb.2
            have HU := Lib.hid hu
            clear mb hu
            go_wp2_with fail
            have MK2 := MKF.out E0
            rw [← HU.out] at MK2
            refine MK2.mono ?_
            rintro e E3 ⟨rfl, hb3⟩
            have q3 := q0.below hb3
            have hB3 := hB0.trans (hb3.mono hB0.size)
            have w0 := q3.cell 0 rfl
            have w1 := q3.cell 1 rfl
            have f0 := q3.frozen 0
            have f1 := q3.frozen 1
            have q4 := (q3.set 0 (.int .i64 n)).set 1 (.int .i64 u)
            have hB4 : Below w.heap.size w ((E3.setCell ⟨w.heap.size, 0, none⟩ (.int .i64 n)).setCell ⟨w.heap.size, 1, none⟩ (.int .i64 u)) := by (repeat (first | exact Below.refl _ _ | assumption | refine Below.setCell ?_ (by first | exact Nat.le_refl _ | omega | (simp; done) | (simp; omega)) _ | refine Below.alloc ?_ (by first | exact Nat.le_refl _ | omega | (simp; done) | (simp; omega)) _ | refine below_drewN ?_ _))
            obtain ⟨W, hW⟩ : ∃ W, W = ((E3.setCell ⟨w.heap.size, 0, none⟩ (.int .i64 n)).setCell ⟨w.heap.size, 1, none⟩ (.int .i64 u)) := ⟨_, rfl⟩
            rw [← hW] at q4 hB4
            have k0 := q4.cell 0 rfl
            have k1 := q4.cell 1 rfl
            have HW := Lib.hid hW
            clear hW q4
            go_wp2_with fail
            rw [← HW.out]
            refine bodyPost_ret (v := .tuple #[.agg #[.int .i64 n, .int .i64 u], .int .i64 0]) (by simp [results, Try.results7, go_sem, *]) rfl ?_
            exact ⟨by rw [HU.out], hB4⟩
          · obtain ⟨i, rfl⟩ : ∃ i, j = i + 1 := ⟨j - 1, by omega⟩
            have hi1 : i + 1 < xs.length := by have := HM.out; omega
            have hc1 := HCELL.out (i + 1) hi1
            have ht1 := HT.out i hi1
            have hcd := cf_drop (xs := xs) (k := i + 1) hi1
            rw [HUV.out] at hcd
            have hpn := HP.out (i + 1) (by omega) (by have := HM.out; omega)
            generalize xs[i + 1] = t at hc1 ht1 hcd
            have y0 := (hB0.cell (p := ⟨b, o + (i + 1), none⟩) hb).trans hc1
            rw [hcd] at hpn
            dsimp only at hpn hcd
            have mb := mul_bd (a := t) (b := u) (A := 1000000) (B := 1000000) (by omega) (by omega) (by omega) (by omega) (by omega) (by omega)
            obtain ⟨mm, hmm⟩ : ∃ mm, t * u = mm := ⟨_, rfl⟩
            rw [hmm] at hcd mb hpn
            have m1 := mb.1
            have m2 := mb.2
            have p1 := hpn.1
            have p2 := hpn.2.1
            have HCD := Lib.hid hcd
            have qj : decide ((0 : Int) < (i : Int) + 1) = true := decide_eq_true (by omega)
            have qn : decide ((1000000 : Int) < mm + v) = false := decide_eq_false (by omega)
            have hsi : (i : Int) + 1 - 1 = (i : Int) := by omega
            clear hc1 ht1 mb hpn hcd
            go_wp2_with fail
            go_round
            case rel => exact ⟨i, by first | rfl | go_num, by omega, _, _, rfl, rfl, HCD.out⟩
            case measure => simp [intOf] <;> omega
end Go.Proofs.Ytbjpianbeebmeaa
