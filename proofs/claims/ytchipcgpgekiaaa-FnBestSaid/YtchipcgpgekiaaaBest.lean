/-
  The nearest fraction with a bounded denominator: what the program computes, and the law.
-/
import Derived.Test.YtchipcgpgekiaaaFrac2
import Derived.Test.YtchipcgpgekiaaaFracM
namespace Go.Proofs.Ytchipcgpgekiaaa
open Go.ChangeShapes Go.WideShapes Go.ChangeAt Go.RowKit Go.Sort
set_option linter.unusedVariables false

theorem mul_bd {a b A B : Int} (h1 : -A ≤ a) (h2 : a ≤ A) (h3 : -B ≤ b) (h4 : b ≤ B) (hA : 0 ≤ A) (hB : 0 ≤ B) : -(A * B) ≤ a * b ∧ a * b ≤ A * B := by
  have h5 : a.natAbs * b.natAbs ≤ A.natAbs * B.natAbs := Nat.mul_le_mul (by omega) (by omega)
  rw [← Int.natAbs_mul, ← Int.natAbs_mul] at h5
  have h6 := Int.mul_nonneg hA hB
  generalize a * b = x at *
  generalize A * B = y at *
  omega
theorem ediv_bd {a b M : Int} (hb : 0 < b) (h1 : -M ≤ a) (h2 : a ≤ M) : -M ≤ a / b ∧ a / b ≤ M := by
  by_cases h : 0 ≤ a
  · have h3 := Int.ediv_le_self b h
    have h4 := Int.ediv_nonneg h (show 0 ≤ b by omega)
    omega
  · have := fdiv_bounds hb (show a < 0 by omega)
    omega
theorem dist_of_neg {x p : Int} (h : x - p < 0) : ((x - p).natAbs : Int) = -(x - p) := by omega
theorem dist_of_pos {x p : Int} (h : ¬ x - p < 0) : ((x - p).natAbs : Int) = x - p := by omega
/-- the candidates before a place: all of smaller denominators, and j of this one -/
def CandTo (fN fD D : Int) (j : Nat) (n d : Int) : Prop := Cand fN fD D n d ∨ (d = D + 1 ∧ ∃ i : Nat, i < j ∧ n = fN * (D + 1) / fD + i)
theorem candTo_zero (fN fD D n d : Int) : Cand fN fD D n d ↔ CandTo fN fD D 0 n d := by
  constructor
  · exact .inl
  · rintro (h | ⟨_, i, hi, _⟩)
    · exact h
    · omega
theorem candTo_succ (fN fD D : Int) (j : Nat) (n d : Int) : (CandTo fN fD D j n d ∨ (n = fN * (D + 1) / fD + j ∧ d = D + 1)) ↔ CandTo fN fD D (j + 1) n d := by
  constructor
  · rintro ((h | ⟨h1, i, hi, h2⟩) | ⟨h1, h2⟩)
    · exact .inl h
    · exact .inr ⟨h1, i, by omega, h2⟩
    · exact .inr ⟨h2, j, by omega, h1⟩
  · rintro (h | ⟨h1, i, hi, h2⟩)
    · exact .inl (.inl h)
    · by_cases e : i = j
      · subst e; exact .inr ⟨h2, h1⟩
      · exact .inl (.inr ⟨h1, i, by omega, h2⟩)
theorem candTo_succ' {fN fD D low : Int} (h : low = fN * (D + 1) / fD) (j : Nat) (n d : Int) : (CandTo fN fD D j n d ∨ (n = low + j ∧ d = D + 1)) ↔ CandTo fN fD D (j + 1) n d := by rw [h]; exact candTo_succ fN fD D j n d
theorem candTo_done (fN fD : Int) (D : Int) (hD : 0 ≤ D) (n d : Int) : CandTo fN fD D 2 n d ↔ Cand fN fD (D + 1) n d := by
  constructor
  · rintro (⟨h1, h2, h3⟩ | ⟨h1, i, hi, h2⟩)
    · exact ⟨h1, by omega, h3⟩
    · subst h1
      refine ⟨by omega, by omega, ?_⟩
      have : i = 0 ∨ i = 1 := by omega
      rcases this with rfl | rfl
      · left; simpa using h2
      · right; simpa using h2
  · rintro ⟨h1, h2, h3⟩
    by_cases e : d ≤ D
    · exact .inl ⟨h1, e, h3⟩
    · obtain rfl : d = D + 1 := by omega
      refine .inr ⟨rfl, ?_⟩
      rcases h3 with h3 | h3
      · exact ⟨0, by omega, by simpa using h3⟩
      · exact ⟨1, by omega, by simpa using h3⟩
theorem candTo_den {fN fD D n d : Int} {j : Nat} (hD : 0 ≤ D) (h : CandTo fN fD D j n d) : 1 ≤ d ∧ d ≤ D + 1 := by
  rcases h with ⟨h1, h2, _⟩ | ⟨h1, _⟩ <;> omega
/-- bounds of what has been found -/
def BestBd (fD bn bd far : Int) : Prop := -2000000000000 ≤ bn ∧ bn ≤ 2000000000000 ∧ 0 ≤ bd ∧ bd ≤ 1000000 ∧ 0 ≤ far ∧ far ≤ fD
def BestRet (w : World) (fN fD D : Int) (e : Ending) (w' : World) : Prop :=
  ∃ bn bd far, BestInv fN fD (Cand fN fD D) true bn bd far ∧ BestBd fD bn bd far ∧ e = .returned (.tuple #[.agg #[.int .i64 (mkN bn bd), .int .i64 (mkD bn bd)], .int .i64 (mkC bn bd)]) ∧ Below w.heap.size w w'
set_option maxHeartbeats 4000000 in
theorem bestFrac_any (fN fD most : Int) (w : World) (hf : fracB fN fD = true) (b1 : -1000000 ≤ fN) (b2 : fN ≤ 1000000) (m1 : 1 ≤ most) (m2 : most ≤ 1000000) :
    Calls Try.prog 7 #[.agg #[.int .i64 fN, .int .i64 fD], .int .i64 most] w (BestRet w fN fD (min most fD)) := by
  have hfb := fracB_of hf
  have d1 : 1 ≤ fD := hfb.1
  have d2 : fD ≤ 1000000 := hfb.2.1
  clear hfb
  have hw1 : inB most 1 1000000 = true := inB_true ⟨m1, m2⟩
  obtain ⟨E0, hE0⟩ : ∃ E, E = (w.alloc (.cells #[.int .i64 fN, .int .i64 fD] 25)).alloc (.cells #[.int .i64 0, .int .i64 0] 25) := ⟨_, rfl⟩
  have hB0 : Below w.heap.size w E0 := by rw [hE0]; exact ((Below.refl _ _).alloc (Nat.le_refl _) _).alloc (by simp) _
  have ba : Box E0 w.heap.size [.int .i64 fN, .int .i64 fD] 25 := by rw [hE0]; exact (Box.newAt w [.int .i64 fN, .int .i64 fD] _ rfl).alloc _
  have br : Box E0 (w.heap.size + 1) [.int .i64 0, .int .i64 0] 25 := by rw [hE0]; exact Box.newAt (w.alloc _) [.int .i64 0, .int .i64 0] _ (by simp)
  have HE0 := Lib.hid hE0
  clear hE0
  have FB : Hid (∀ W, Calls Try.prog 19 #[.agg #[.int .i64 fN, .int .i64 fD]] W fun e w' => e = .returned (.bool true) ∧ Below W.heap.size W w') := fun W => by rw [← hf]; exact isFrac_any fN fD W
  clear hf
  go_enter Try.func7, Try.ntmps7
  go_wp2_with fail
  rw [← HE0.out]
  clear HE0
  refine (FB.out _).mono ?_
  rintro e F1 ⟨rfl, hb1⟩
  have hB1 := hB0.trans (hb1.mono hB0.size)
  have ba1 := ba.below hb1
  have br1 := br.below hb1
  clear ba br hb1 FB
  have bb := Box.new F1 [.int .i64 0, .int .i64 0] 25
  have ba2 := ba1.alloc (.cells #[.int .i64 0, .int .i64 0] 25)
  have br2 := br1.alloc (.cells #[.int .i64 0, .int .i64 0] 25)
  have hB2 := hB1.alloc hB1.size (.cells #[.int .i64 0, .int .i64 0] 25)
  have hlt := br1.lt
  clear ba1 br1 hB1
  go_wp2_with (go_at_call 20; refine (within_any _ _ _ _).mono ?_; rintro e w' ⟨rfl, rfl⟩)
  -- the world in which the search begins
  obtain ⟨W0, hW0⟩ : ∃ W, W = F1.alloc (.cells #[.int .i64 0, .int .i64 0] 25) := ⟨_, rfl⟩
  obtain ⟨gb, hgb⟩ : ∃ g, g = F1.heap.size := ⟨_, rfl⟩
  have bb' : Box W0 gb [.int .i64 0, .int .i64 0] 25 := by rw [hW0, hgb]; exact bb
  rw [← hW0] at ba2 br2 hB2 ⊢
  rw [← hgb]
  have hgr : w.heap.size + 1 < gb := by rw [hgb]; exact hlt
  clear bb hlt
  have HW0 := Lib.hid hW0
  have HGB := Lib.hid hgb
  clear hW0 hgb HW0 HGB
  have BA := Lib.hid ba2
  have BR := Lib.hid br2
  have BW := Lib.hid hB2
  clear ba2 br2 hB2
  go_loopw [7, 8, 9] (fun far fb den wr => ∃ (D : Nat) (f : Bool) (bn bd fr : Int), den = .int .i64 ((D : Int) + 1) ∧ far = .int .i64 fr ∧ fb = .bool f ∧ (D : Int) ≤ min most fD ∧ Box wr gb [.int .i64 bn, .int .i64 bd] 25 ∧ BestInv fN fD (Cand fN fD D) f bn bd fr ∧ BestBd fD bn bd fr ∧ Off (· = gb) W0 wr) (fun _ _ den _ => (most + 2 - intOf den).toNat)
  case atStart => exact ⟨0, false, 0, 0, 0, rfl, rfl, rfl, by omega, bb', .inl ⟨rfl, fun n d h => by have := h.1; have := h.2.1; omega⟩, ⟨by omega, by omega, by omega, by omega, by omega, by omega⟩, Off.refl _ _⟩
  case round =>
    obtain ⟨D, f, bn, bd, fr, rfl, rfl, rfl, hD, hbx, hinv, hbd, hoff⟩ := hrel
    clear bb'
    obtain ⟨wo, rfl⟩ : ∃ wo : World, wo = wr := ⟨_, rfl⟩
    have ba := BA.out.off hoff (show ¬ w.heap.size = gb by omega)
    have za0 := ba.cell 0 rfl
    have za1 := ba.cell 1 rfl
    by_cases hlt : (D : Int) + 1 ≤ min most fD
    · have q1 : (D : Int) + 1 ≤ most := by omega
      have q2 : (D : Int) + 1 ≤ fD := by omega
      have hp := mul_bd (a := fN) (b := (D : Int) + 1) (A := 1000000) (B := 1000000) b1 b2 (by omega) (by omega) (by omega) (by omega)
      have hlo := ediv_bd (a := fN * ((D : Int) + 1)) (b := fD) (M := 1000000 * 1000000) (by omega) hp.1 hp.2
      have hLW : Hid (fN * ((D : Int) + 1) / fD = fN * ((D : Int) + 1) / fD) := rfl
      obtain ⟨x, hx⟩ : ∃ x, x = fN * ((D : Int) + 1) := ⟨_, rfl⟩
      obtain ⟨low, hlow⟩ : ∃ l, l = x / fD := ⟨_, rfl⟩
      rw [← hx] at hp hlo
      rw [← hlow] at hlo
      have HX := Lib.hid hx
      have HLOW : Hid (low = fN * ((D : Int) + 1) / fD) := by rw [hlow, hx]; exact rfl
      have hx' : fN * ((D : Int) + 1) = x := hx.symm
      have FD : Hid (∀ W, Calls Try.prog 21 #[.int .i64 x, .int .i64 fD] W fun e w' => e = .returned (.int .i64 low) ∧ W = w') := fun W => by rw [hlow]; exact floorDiv_any x fD W (by omega) (by omega) (by omega) (by omega)
      have hx1 := hp.1
      have hx2 := hp.2
      have hl1 := hlo.1
      have hl2 := hlo.2
      clear hp hlo hLW hx hlow
      have HINV0 := Lib.hid (best_congr hinv (candTo_zero fN fD D))
      clear hinv
      have HBD0 := Lib.hid hbd
      clear hbd
      go_wp2_with (go_at_call 21; refine (FD.out _).mono ?_; rintro e w' ⟨rfl, rfl⟩)
      go_loopw [7, 8, 11] (fun far fb num wr => ∃ (j : Nat) (f : Bool) (bn bd fr : Int), j ≤ 2 ∧ num = .int .i64 (low + (j : Int)) ∧ far = .int .i64 fr ∧ fb = .bool f ∧ Box wr gb [.int .i64 bn, .int .i64 bd] 25 ∧ BestInv fN fD (CandTo fN fD D j) f bn bd fr ∧ BestBd fD bn bd fr ∧ Off (· = gb) W0 wr) (fun _ _ num _ => (low + 2 - intOf num).toNat)
      case atStart => exact ⟨0, f, bn, bd, fr, by omega, by simp, rfl, rfl, hbx, HINV0.out, HBD0.out, hoff⟩
      case round =>
        clear HINV0 HBD0 hbx za0 za1 ba hoff
        obtain ⟨j, f, bn, bd, fr, hj, rfl, rfl, rfl, hbx, hinv, hbd, hoff⟩ := hrel
        obtain ⟨wi, rfl⟩ : ∃ wi : World, wi = wr := ⟨_, rfl⟩
        have ba := BA.out.off hoff (show ¬ w.heap.size = gb by omega)
        have za0 := ba.cell 0 rfl
        have za1 := ba.cell 1 rfl
        have zb0 := hbx.cell 0 rfl
        have zb1 := hbx.cell 1 rfl
        have fb0 := hbx.frozen 0
        have fb1 := hbx.frozen 1
        have HINV := Lib.hid hinv
        have HBD := Lib.hid hbd
        have hbd3 := hbd.2.2.1
        have hbd4 := hbd.2.2.2.1
        clear hinv hbd ba
        by_cases hjt : j < 2
        · have HLE : Hid (dist fN fD (low + (j : Int)) ((D : Int) + 1) ≤ fD) := by
            have hc : low + (j : Int) = fN * ((D : Int) + 1) / fD ∨ low + (j : Int) = fN * ((D : Int) + 1) / fD + 1 := by
              rw [← HLOW.out]
              have : j = 0 ∨ j = 1 := by omega
              rcases this with rfl | rfl
              · left; simp
              · right; rfl
            exact cand_dist (by omega) hc
          have HDI : Hid (dist fN fD (low + (j : Int)) ((D : Int) + 1) = ((x - (low + (j : Int)) * fD).natAbs : Int)) := by unfold Hid dist; rw [HX.out]
          obtain ⟨p, hp⟩ : ∃ p, p = (low + (j : Int)) * fD := ⟨_, rfl⟩
          have HDI : Hid (dist fN fD (low + (j : Int)) ((D : Int) + 1) = ((x - p).natAbs : Int)) := by rw [hp]; exact HDI.out
          have hp1 : -2000000000000 ≤ p := by have h5 := HLE.out; rw [HDI.out] at h5; omega
          have hp2 : p ≤ 2000000000000 := by have h5 := HLE.out; rw [HDI.out] at h5; omega
          have hp' : (low + (j : Int)) * fD = p := hp.symm
          clear hp
          by_cases hs : x - p < 0
          · have hds : Hid (dist fN fD (low + (j : Int)) ((D : Int) + 1) = -(x - p)) := by unfold Hid; rw [HDI.out]; exact dist_of_neg hs
            have hq0 : 0 ≤ -(x - p) := by omega
            have hq1 : -(x - p) ≤ 1000000 := by have := HLE.out; have h5 := hds.out; omega
            have hqf : -(x - p) ≤ fD := by have := HLE.out; have h5 := hds.out; omega
            generalize hdel : -(x - p) = del at hds hq0 hq1 hqf
            have hdw : IntKind.i64.wrap del = del := IntWalk.i64_in _ (by omega)
            have hdel' : p - x = del := by omega
            have hm1 := mul_bd (a := del) (b := bd) (A := 1000000) (B := 1000000) (by omega) (by omega) (by have := HBD.out.2.2.1; omega) (by have := HBD.out.2.2.2.1; omega) (by omega) (by omega)
            have hm2 := mul_bd (a := fr) (b := (D : Int) + 1) (A := 1000000) (B := 1000000) (by have := HBD.out.2.2.2.2.1; omega) (by have := HBD.out.2.2.2.2.2; omega) (by omega) (by omega) (by omega) (by omega)
            generalize hpm1 : del * bd = m1 at hm1
            generalize hpm2 : fr * ((D : Int) + 1) = m2 at hm2
            have hm11 := hm1.1; have hm12 := hm1.2; have hm21 := hm2.1; have hm22 := hm2.2
            clear hm1 hm2
            have TAKE : Hid ((f = true → m1 < m2) → ∃ (j' : Nat) (f' : Bool) (bn' bd' fr' : Int), j' ≤ 2 ∧ low + (j : Int) + 1 = low + (j' : Int) ∧ del = fr' ∧ true = f' ∧ Box ((wi.setCell ⟨gb, 0, none⟩ (.int .i64 (low + (j : Int)))).setCell ⟨gb, 1, none⟩ (.int .i64 ((D : Int) + 1))) gb [.int .i64 bn', .int .i64 bd'] 25 ∧ BestInv fN fD (CandTo fN fD D j') f' bn' bd' fr' ∧ BestBd fD bn' bd' fr' ∧ Off (· = gb) W0 ((wi.setCell ⟨gb, 0, none⟩ (.int .i64 (low + (j : Int)))).setCell ⟨gb, 1, none⟩ (.int .i64 ((D : Int) + 1)))) := fun hlt => by
              refine ⟨j + 1, true, low + (j : Int), (D : Int) + 1, del, by omega, by omega, rfl, rfl, (hbx.set 0 _).set 1 _, ?_, ⟨by omega, by omega, by omega, by omega, by omega, by omega⟩, ?_⟩
              · refine best_congr (hds.out ▸ best_take HINV.out (by omega) (fun n' d' h => (candTo_den (by omega) h).1) (fun hf => ?_)) (candTo_succ' HLOW.out j)
                rw [hds.out, hpm1, hpm2]; exact hlt hf
              · exact hoff.trans ⟨rfl, rfl, rfl, by simp [World.setCell], fun b hb hs => (Below.heap_setCell _ _ _ _ hs).trans (Below.heap_setCell _ _ _ _ hs)⟩
            cases f
            case false =>
              have TK := Lib.hid (TAKE.out (fun h => by simp at h))
              go_wp2_with fail
              go_roundw
              case rel => obtain ⟨j', f', bn', bd', fr', r1, r2, r3, r4, r5⟩ := TK.out; exact ⟨j', f', bn', bd', fr', r1, by rw [r2], by rw [r3], by rw [r4], r5⟩
              case measure => simp [intOf] <;> omega
            case true =>
              by_cases hmm : m1 < m2
              · have TK := Lib.hid (TAKE.out (fun _ => hmm))
                have hmd : decide (m1 < m2) = true := decide_eq_true hmm
                go_wp2_with fail
                go_roundw
                case rel => obtain ⟨j', f', bn', bd', fr', r1, r2, r3, r4, r5⟩ := TK.out; exact ⟨j', f', bn', bd', fr', r1, by rw [r2], by rw [r3], by rw [r4], r5⟩
                case measure => simp [intOf] <;> omega
              · have hmd : decide (m1 < m2) = false := decide_eq_false hmm
                have LV : Hid (BestInv fN fD (CandTo fN fD D (j + 1)) true bn bd fr) := by
                  have hbd1 : bd ≤ (D : Int) + 1 := by
                    rcases HINV.out with ⟨h, _⟩ | ⟨_, _, _, h, _⟩
                    · simp at h
                    · exact (candTo_den (by omega) h).2
                  exact best_congr (best_leave HINV.out hbd1 (by rw [hds.out, hpm1, hpm2]; omega)) (candTo_succ' HLOW.out j)
                go_wp2_with fail
                go_roundw
                case rel => exact ⟨j + 1, true, bn, bd, fr, by omega, by go_num, rfl, rfl, hbx, LV.out, HBD.out, hoff⟩
                case measure => simp [intOf] <;> omega
          · have hds : Hid (dist fN fD (low + (j : Int)) ((D : Int) + 1) = x - p) := by unfold Hid; rw [HDI.out]; exact dist_of_pos hs
            have hq0 : 0 ≤ x - p := by omega
            have hq1 : x - p ≤ 1000000 := by have := HLE.out; have h5 := hds.out; omega
            have hqf : x - p ≤ fD := by have := HLE.out; have h5 := hds.out; omega
            generalize hdel : x - p = del at hds hq0 hq1 hqf
            have hdw : IntKind.i64.wrap del = del := IntWalk.i64_in _ (by omega)
            have hm1 := mul_bd (a := del) (b := bd) (A := 1000000) (B := 1000000) (by omega) (by omega) (by have := HBD.out.2.2.1; omega) (by have := HBD.out.2.2.2.1; omega) (by omega) (by omega)
            have hm2 := mul_bd (a := fr) (b := (D : Int) + 1) (A := 1000000) (B := 1000000) (by have := HBD.out.2.2.2.2.1; omega) (by have := HBD.out.2.2.2.2.2; omega) (by omega) (by omega) (by omega) (by omega)
            generalize hpm1 : del * bd = m1 at hm1
            generalize hpm2 : fr * ((D : Int) + 1) = m2 at hm2
            have hm11 := hm1.1; have hm12 := hm1.2; have hm21 := hm2.1; have hm22 := hm2.2
            clear hm1 hm2
            have TAKE : Hid ((f = true → m1 < m2) → ∃ (j' : Nat) (f' : Bool) (bn' bd' fr' : Int), j' ≤ 2 ∧ low + (j : Int) + 1 = low + (j' : Int) ∧ del = fr' ∧ true = f' ∧ Box ((wi.setCell ⟨gb, 0, none⟩ (.int .i64 (low + (j : Int)))).setCell ⟨gb, 1, none⟩ (.int .i64 ((D : Int) + 1))) gb [.int .i64 bn', .int .i64 bd'] 25 ∧ BestInv fN fD (CandTo fN fD D j') f' bn' bd' fr' ∧ BestBd fD bn' bd' fr' ∧ Off (· = gb) W0 ((wi.setCell ⟨gb, 0, none⟩ (.int .i64 (low + (j : Int)))).setCell ⟨gb, 1, none⟩ (.int .i64 ((D : Int) + 1)))) := fun hlt => by
              refine ⟨j + 1, true, low + (j : Int), (D : Int) + 1, del, by omega, by omega, rfl, rfl, (hbx.set 0 _).set 1 _, ?_, ⟨by omega, by omega, by omega, by omega, by omega, by omega⟩, ?_⟩
              · refine best_congr (hds.out ▸ best_take HINV.out (by omega) (fun n' d' h => (candTo_den (by omega) h).1) (fun hf => ?_)) (candTo_succ' HLOW.out j)
                rw [hds.out, hpm1, hpm2]; exact hlt hf
              · exact hoff.trans ⟨rfl, rfl, rfl, by simp [World.setCell], fun b hb hs => (Below.heap_setCell _ _ _ _ hs).trans (Below.heap_setCell _ _ _ _ hs)⟩
            cases f
            case false =>
              have TK := Lib.hid (TAKE.out (fun h => by simp at h))
              go_wp2_with fail
              go_roundw
              case rel => obtain ⟨j', f', bn', bd', fr', r1, r2, r3, r4, r5⟩ := TK.out; exact ⟨j', f', bn', bd', fr', r1, by rw [r2], by rw [r3], by rw [r4], r5⟩
              case measure => simp [intOf] <;> omega
            case true =>
              by_cases hmm : m1 < m2
              · have TK := Lib.hid (TAKE.out (fun _ => hmm))
                have hmd : decide (m1 < m2) = true := decide_eq_true hmm
                go_wp2_with fail
                go_roundw
                case rel => obtain ⟨j', f', bn', bd', fr', r1, r2, r3, r4, r5⟩ := TK.out; exact ⟨j', f', bn', bd', fr', r1, by rw [r2], by rw [r3], by rw [r4], r5⟩
                case measure => simp [intOf] <;> omega
              · have hmd : decide (m1 < m2) = false := decide_eq_false hmm
                have LV : Hid (BestInv fN fD (CandTo fN fD D (j + 1)) true bn bd fr) := by
                  have hbd1 : bd ≤ (D : Int) + 1 := by
                    rcases HINV.out with ⟨h, _⟩ | ⟨_, _, _, h, _⟩
                    · simp at h
                    · exact (candTo_den (by omega) h).2
                  exact best_congr (best_leave HINV.out hbd1 (by rw [hds.out, hpm1, hpm2]; omega)) (candTo_succ' HLOW.out j)
                go_wp2_with fail
                go_roundw
                case rel => exact ⟨j + 1, true, bn, bd, fr, by omega, by go_num, rfl, rfl, hbx, LV.out, HBD.out, hoff⟩
                case measure => simp [intOf] <;> omega
        · obtain rfl : j = 2 := by omega
          have hdn : Hid (BestInv fN fD (Cand fN fD ((D + 1 : Nat) : Int)) f bn bd fr) := by
            have h5 := best_congr HINV.out (candTo_done fN fD D (by omega))
            rw [Int.natCast_add]; exact h5
          go_wp2_with fail
          go_roundw
          case rel => exact ⟨D + 1, f, bn, bd, fr, by go_num, rfl, rfl, by omega, hbx, hdn.out, HBD.out, hoff⟩
          case measure => simp [intOf] <;> omega
    · obtain ⟨b3, b4, b5, b6, b7, b8⟩ := hbd
      have hDD : (D : Int) = min most fD := by omega
      rw [hDD] at hinv
      have HI := Lib.hid hinv
      have hb1 : 1 ≤ bd := by
        rcases hinv with ⟨_, h⟩ | ⟨_, h, _⟩
        · exact absurd ⟨by omega, by omega, .inl rfl⟩ (h (fN * 1 / fD) 1)
        · exact h
      have hft : f = true := by
        rcases hinv with ⟨_, h⟩ | ⟨h, _⟩
        · exact absurd ⟨by omega, by omega, .inl rfl⟩ (h (fN * 1 / fD) 1)
        · exact h
      subst hft
      have hmk := makeImpl_any bn bd wo (by omega) (by omega) (by omega) (by omega)
      have HMK := Lib.hid hmk
      have zb0 := hbx.cell 0 rfl
      have zb1 := hbx.cell 1 rfl
      have br := BR.out.off hoff (show ¬ w.heap.size + 1 = gb by omega)
      have hB := BW.out.trans (hoff.below (B := w.heap.size) (fun k hk => by omega) BW.out.size)
      have HBD : Hid (BestBd fD bn bd fr) := ⟨b3, b4, b5, b6, b7, b8⟩
      clear hinv hmk ba
      have hFIN : Hid (∀ W, Below wo.heap.size wo W → Box W (w.heap.size + 1) [.int .i64 0, .int .i64 0] 25) := fun W hW => br.below hW
      clear br
      have q3 : (D : Int) + 1 ≤ most → decide ((D : Int) + 1 ≤ fD) = false := fun h => decide_eq_false (by omega)
      by_cases q1 : (D : Int) + 1 ≤ most
      · have q4 := q3 q1
        have q5 : decide ((D : Int) + 1 ≤ most) = true := decide_eq_true q1
        clear q3
        go_wp2_with (go_at_call 22; refine HMK.out.mono ?_; rintro e F2 ⟨rfl, hb2⟩; have hr2 := hFIN.out _ hb2; have y0 := hr2.cell 0 rfl; have y1 := hr2.cell 1 rfl; have g0 := hr2.frozen 0; have g1 := hr2.frozen 1; have hlt2 := hr2.lt)
        refine bodyPost_ret (v := .tuple #[.agg #[.int .i64 (mkN bn bd), .int .i64 (mkD bn bd)], .int .i64 (mkC bn bd)]) (by simp [results, Try.results7, go_sem, *]) rfl ⟨bn, bd, fr, HI.out, HBD.out, rfl, ?_⟩
        have hfin := hB.trans (hb2.mono hB.size)
        (repeat (first | exact Below.refl _ _ | assumption | refine Below.setCell ?_ (by first | exact Nat.le_refl _ | omega | (simp; done) | (simp; omega)) _ | refine Below.alloc ?_ (by first | exact Nat.le_refl _ | omega | (simp; done) | (simp; omega)) _ | refine below_drewN ?_ _))
      · have q5 : decide ((D : Int) + 1 ≤ most) = false := decide_eq_false q1
        clear q3
        go_wp2_with (go_at_call 22; refine HMK.out.mono ?_; rintro e F2 ⟨rfl, hb2⟩; have hr2 := hFIN.out _ hb2; have y0 := hr2.cell 0 rfl; have y1 := hr2.cell 1 rfl; have g0 := hr2.frozen 0; have g1 := hr2.frozen 1; have hlt2 := hr2.lt)
        refine bodyPost_ret (v := .tuple #[.agg #[.int .i64 (mkN bn bd), .int .i64 (mkD bn bd)], .int .i64 (mkC bn bd)]) (by simp [results, Try.results7, go_sem, *]) rfl ⟨bn, bd, fr, HI.out, HBD.out, rfl, ?_⟩
        have hfin := hB.trans (hb2.mono hB.size)
        (repeat (first | exact Below.refl _ _ | assumption | refine Below.setCell ?_ (by first | exact Nat.le_refl _ | omega | (simp; done) | (simp; omega)) _ | refine Below.alloc ?_ (by first | exact Nat.le_refl _ | omega | (simp; done) | (simp; omega)) _ | refine below_drewN ?_ _))
end Go.Proofs.Ytchipcgpgekiaaa
