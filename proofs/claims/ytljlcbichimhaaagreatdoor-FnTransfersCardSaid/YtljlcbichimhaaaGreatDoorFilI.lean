/-
  Filters by the program.
-/
import Derived.Test.YtljlcbichimhaaaGreatDoorSer2
import Derived.Test.YtljlcbichimhaaaGreatDoorFilS
import Derived.StillTailTactics
namespace Go.Proofs.YtljlcbichimhaaaGreatDoor
open Go.ChangeShapes Go.WideShapes Go.ChangeAt Go.RowKit
set_option linter.unusedVariables false
set_option linter.unusedSimpArgs false

theorem isSignal_true {p : Option Addr} {c : Nat} {xs : List Int} (w : World) (h : RdI w p xs) (ha : AllS xs) (hl : xs.length ≤ 4000) :
    Calls Tryz.prog 29 #[.slice p xs.length c] w fun e w' => e = .returned (.bool true) ∧ w = w' := by
  have hall : xs.all isSmp = true := by rw [List.all_eq_true]; exact ha
  have HA := Lib.hid (areSamples_any (c := c) w h)
  rw [hall] at HA
  clear hall ha h
  go_enter Tryz.func29, Tryz.ntmps29
  go_wp2_with (go_at_call 52; refine HA.out.mono ?_; rintro e w' ⟨rfl, rfl⟩)
  go_ret
  exact ⟨rfl, rfl⟩
theorem isTransfer_true {p q : Option Addr} {c d : Nat} {ys zs : List Int} (w : World) (hy : RdI w p ys) (hz : RdI w q zs) (hyc : ys.length ≤ c) (hzc : zs.length ≤ d) (h1 : Canon ys ∧ AllS ys ∧ ys.length ≤ 65) (h2 : Canon zs ∧ AllS zs ∧ zs.length ≤ 65) (h0 : zs.getD 0 0 = 1) :
    Calls Tryz.prog 28 #[.agg #[.slice p ys.length c, .slice q zs.length d]] w fun e w' => e = .returned (.bool true) ∧ Below w.heap.size w w' := by
  have hzl : 0 < zs.length := h2.1.1
  obtain ⟨bb, bo, rfl, hbb, hbc⟩ := hz.pos hzl
  have hc0 := hbc 0 hzl
  rw [← getD_at hzl, h0, Nat.add_zero] at hc0
  clear hbc
  obtain ⟨E, hE⟩ : ∃ E, E = w.alloc (.cells #[.slice p ys.length c, .slice (some ⟨bb, bo, none⟩) zs.length d] 26) := ⟨_, rfl⟩
  obtain ⟨s, hs⟩ : ∃ s, s = w.heap.size := ⟨_, rfl⟩
  have hb0 : Below w.heap.size w E := by rw [hE]; exact (Below.refl _ _).alloc (Nat.le_refl _) _
  have bx0 : Box E s [.slice p ys.length c, .slice (some ⟨bb, bo, none⟩) zs.length d] 26 := by rw [hE]; exact Box.newAt w _ _ hs
  have AP := Lib.hid (arePolys_true (c := 2) _ (rdII_two (hy.below hb0) (hz.below hb0) hyc hzc) (by
    intro xs hxs
    simp only [List.mem_cons, List.not_mem_nil, or_false] at hxs
    rcases hxs with rfl | rfl
    · exact h1
    · exact h2))
  have hz0 := hb0.size
  have hsE : s < E.heap.size := bx0.lt
  have hbbE : bb < E.heap.size := by omega
  have hcE : E.cell? ⟨bb, bo, none⟩ = some (.int .i64 1) := by
    have := hz.below hb0
    obtain ⟨b', o', e', -, hck⟩ := this.pos hzl
    cases e'
    have := hck 0 hzl
    rwa [← getD_at hzl, h0, Nat.add_zero] at this
  have b0 := bx0.cell 0 rfl
  have b1 := bx0.cell 1 rfl
  have HE := Lib.hid hE
  have HS := Lib.hid hs
  clear hE hs h1 h2 h0 hc0 hy hz
  go_enter Tryz.func28, Tryz.ntmps28
  go_upto_region 1 with fail
  rw [← HE.out, ← HS.out]
  go_wp2_with (go_at_call 51; refine AP.out.mono ?_; rintro e w' ⟨rfl, rfl⟩)
  go_ret
  exact ⟨rfl, hb0.alloc (by omega) _⟩
/-- the sum for place i, after k terms -/
def cacc (p a : List Int) (i k : Nat) : Int := smp (sumN (fun j => p.getD j 0 * a.getD (i - j) 0) k)
theorem cacc_succ (p a : List Int) (i k : Nat) : cacc p a i (k + 1) = smp (cacc p a i k + p.getD k 0 * a.getD (i - k) 0) := by
  unfold cacc; rw [sumN, smp_left]
theorem cacc_end (p a : List Int) (i : Nat) : cacc p a i (min p.length (i + 1)) = smp (cv (gd p) (gd a) i) := by
  unfold cacc cv gd
  congr 1
  refine (sumN_to (by omega) fun j h1 h2 => ?_).symm
  rw [gd_behind p (show p.length ≤ j by omega), Int.zero_mul]
theorem cvL_set (p a : List Int) {n i : Nat} (h : i < n) : (cvL p a i ++ List.replicate (n - i) 0).set i (smp (cv (gd p) (gd a) i)) = cvL p a (i + 1) ++ List.replicate (n - (i + 1)) 0 := by
  have hl : (cvL p a i).length = i := tab_length _ _
  obtain ⟨m, hm⟩ : ∃ m, n - i = m + 1 := ⟨n - i - 1, by omega⟩
  rw [hm, show n - (i + 1) = m by omega, List.set_append_right _ _ (by omega), hl, Nat.sub_self, List.replicate_succ, List.set_cons_zero]
  unfold cvL
  rw [tab_succ, List.append_assoc]; rfl
theorem smp_add_w64 (a b : Int) : smp (a + wrap64 b) = smp (a + b) := by unfold smp wrap64; omega
theorem below_drew1 {B : Nat} {a w : World} (h : Below B a w) : Below B a w.drew := ⟨h.os, h.tape, h.output, h.size, h.block⟩
set_option maxHeartbeats 1000000 in
set_option maxRecDepth 100000 in
theorem convolve_any {p q : Option Addr} {c d : Nat} {ys a : List Int} (n : Nat) (w : World) (h : RdI w p ys) (h' : RdI w q a) (hn : n ≤ 256) (hyl : ys.length ≤ 65) (hal : a.length ≤ 1048576) :
    Calls Tryz.prog 31 #[.slice p ys.length c, .slice q a.length d, .int .i64 (n : Int)] w fun e w' => ∃ v, e = .returned v ∧ OwnI w.heap.size w' v (cvL ys a n) ∧ Below w.heap.size w w' := by
  have ZE := Lib.hid (zerosG_any n w (by omega))
  go_enter Tryz.func31, Tryz.ntmps31
  go_wp2_with (go_at_call 46; refine ZE.out.mono ?_; rintro e w1 ⟨rfl, hown0, hbel0⟩)
  clear ZE
  obtain ⟨g, hgg⟩ : ∃ g, g = w.heap.size := ⟨_, rfl⟩
  rw [← hgg] at hown0 hbel0 ⊢
  have HGG := Lib.hid hgg
  clear hgg
  go_loopw [14] (fun i wr => ∃ k : Nat, k ≤ n ∧ i = .int .i64 (k : Int) ∧ OwnI g wr (.slice (some ⟨g, 0, none⟩) n n) (cvL ys a k ++ List.replicate (n - k) 0) ∧ Below g w wr) (fun i _ => n - (intOf i).toNat)
  case atStart => exact ⟨0, Nat.zero_le _, rfl, by simpa [cvL, tab] using hown0, hbel0⟩
  case round =>
    obtain ⟨i, hi, rfl, hown, hbel⟩ := hrel
    clear hown0 hbel0
    obtain ⟨wi, rfl⟩ : ∃ wi : World, wi = wr := ⟨_, rfl⟩
    by_cases hlt : i < n
    · have HB0 : Hid ((cvL ys a i ++ List.replicate (n - i) 0).length = n) := by unfold Hid cvL; rw [List.length_append, tab_length, List.length_replicate]; omega
      have HST := Lib.hid (cvL_set ys a hlt)
      have HZ : Hid (∀ h : i < (cvL ys a i ++ List.replicate (n - i) 0).length, (cvL ys a i ++ List.replicate (n - i) 0)[i] = 0) := fun h => by
        rw [List.getElem_append_right (by unfold cvL; rw [tab_length]; exact Nat.le_refl _)]; simp
      have HSL : Hid ((cvL ys a i ++ List.replicate (n - i) 0) = (cvL ys a i ++ List.replicate (n - i) 0).set i (cacc ys a i 0)) := by
        unfold Hid
        have e := HZ.out (by have := HB0.out; omega)
        refine List.ext_getElem (by simp) fun j h1 h2 => ?_
        rw [List.getElem_set]
        split
        · subst_vars; exact e
        · rfl
      rw [HSL.out] at hown
      generalize (cvL ys a i ++ List.replicate (n - i) 0) = base at hown HST HB0 HSL HZ
      clear HZ HSL
      go_wp2_with fail
      go_loopw [9] (fun k wr => ∃ j : Nat, j ≤ min ys.length (i + 1) ∧ k = .int .i64 (j : Int) ∧ OwnI g wr (.slice (some ⟨g, 0, none⟩) n n) (base.set i (cacc ys a i j)) ∧ Below g w wr) (fun k _ => n + 1 - (intOf k).toNat)
      case atStart => exact ⟨0, Nat.zero_le _, rfl, hown, hbel⟩
      case round =>
        obtain ⟨j, hj, rfl, hown2, hbel2⟩ := hrel
        clear hown hbel
        obtain ⟨wj, rfl⟩ : ∃ wj : World, wj = wr := ⟨_, rfl⟩
        by_cases hj1 : j < ys.length
        · by_cases hj2 : j ≤ i
          · have hbelB : Below w.heap.size w wj := by rw [← HGG.out]; exact hbel2
            obtain ⟨d1, hd⟩ : ∃ d, i = d + j := ⟨i - j, by omega⟩
            have eD : ((i : Int) - (j : Int)) = (d1 : Int) := by omega
            have wD : IntKind.i64.wrap (d1 : Int) = (d1 : Int) := IntWalk.i64_in _ (by omega)
            have AT : Hid (Calls Tryz.prog 49 #[.slice q a.length d, .int .i64 (d1 : Int)] wj.drew fun e w' => e = .returned (.int .i64 (a.getD d1 0)) ∧ w' = wj.drew) := Calls.turn (at_any (c := d) d1 wj.drew (h'.below (below_drew1 hbelB)) (by omega))
            obtain ⟨b1, o1, e1, hbk1, hc1⟩ := (h.below hbelB).pos hj1
            cases e1
            have z1 := hc1 j hj1
            have HL : Hid (i < (base.set i (cacc ys a i j)).length) := by unfold Hid; rw [List.length_set, HB0.out]; exact hlt
            have HS : Hid (cacc ys a i (j + 1) = smp (cacc ys a i j + ys[j] * a.getD d1 0)) := by unfold Hid; rw [cacc_succ, getD_at hj1, show i - j = d1 by omega]
            obtain ⟨-, -, hgl, hz, hfr, hset⟩ := hown2.storing (k := i) HL.out
            rw [List.getElem_set_self] at hz
            have HSET : Hid (∀ y, OwnI g (wj.setCell ⟨g, i, none⟩ (.int .i64 y)) (.slice (some ⟨g, 0, none⟩) n n) (base.set i y)) := fun y => by
              have := hset y
              rwa [List.set_set] at this
            have HQ : Hid (j + 1 ≤ min ys.length (i + 1)) := by unfold Hid; omega
            generalize ys[j] = xx at z1 HS
            generalize a.getD d1 0 = yy at AT HS
            generalize cacc ys a i j = s1 at hz HS
            clear hc1 hbelB hset hown2 hj hd
            go_wp2_with fail
            refine wp_region_still_tail 18 (by kernel_rfl) (by kernel_rfl) ?_
            simp only [List.take_succ_cons, List.take_zero, List.drop_succ_cons, List.drop_zero]
            change wpStill _ _ (World.drew _) _ _ _
            repeat (first | still_step | (refine wpStill_step (fun K hK => ?_); go_simp; refine ⟨_, (by first | (go_at_call 49; with_reducible exact AT.out) | (go_at_call 47; exact Calls.turn (implWrap_any _ _))), hK _ ?_⟩; clear hK K))
            refine wpStill_nil ?_
            change wpList _ _ _ _ _ (World.drew _)
            go_wp2_with fail
            go_roundw
            case rel => exact ⟨j + 1, HQ.out, by go_num, by rw [HS.out, ← smp_add_w64, ← smp_wrap64 (s1 + wrap64 (xx * yy))]; exact HSET.out _, hbel2.trans ⟨rfl, rfl, rfl, by simp [World.setCell, World.drew], fun k hk => Below.heap_setCell _ _ _ _ (show k ≠ g by omega)⟩⟩
            case measure => simp [intOf] <;> omega
          · have HE : Hid (base.set i (cacc ys a i j) = cvL ys a (i + 1) ++ List.replicate (n - (i + 1)) 0) := by
              unfold Hid; rw [← HST.out, ← cacc_end, show j = min ys.length (i + 1) by omega]
            rw [HE.out] at hown2
            clear HST
            go_wp2_with fail
            go_roundw
            case rel => exact ⟨i + 1, by omega, by go_num, hown2, hbel2⟩
            case measure => simp [intOf] <;> omega
        · have HE : Hid (base.set i (cacc ys a i j) = cvL ys a (i + 1) ++ List.replicate (n - (i + 1)) 0) := by
            unfold Hid; rw [← HST.out, ← cacc_end, show j = min ys.length (i + 1) by omega]
          rw [HE.out] at hown2
          clear HST
          go_wp2_with fail
          go_roundw
          case rel => exact ⟨i + 1, by omega, by go_num, hown2, hbel2⟩
          case measure => simp [intOf] <;> omega
    · obtain rfl : i = n := by omega
      go_wp2_with fail
      go_ret
      exact ⟨_, rfl, by rw [← HGG.out]; simpa using hown, by rw [← HGG.out]; exact hbel⟩
theorem below_selfN (w : World) (n : Nat) : Below w.heap.size w (w.drewN n) := below_drewN (Below.refl _ _) n
set_option maxHeartbeats 1600000 in
theorem filterSignal_any {B : Nat} {x v : Value} {ys zs a : List Int} (w : World) (h : OwnT B w x ys zs) (hy : ys.length ≤ 65) (hz : zs.length ≤ 65) (h' : RdP w v a) (ha : AllS a) (hal : a.length ≤ 256) :
    Calls Tryz.prog 10 #[x, v] w fun e w' => ∃ u, e = .returned (.tuple #[u, .int .i64 0]) ∧ OwnI w.heap.size w' u (filL ys zs a) ∧ Below w.heap.size w w' := by
  obtain ⟨u1, u2, rfl, ho1, ho2, ha1, ha2, hc1, hc2, h1⟩ := h
  obtain ⟨p1, c1, rfl, hr1⟩ := ho1.rd
  obtain ⟨p2, c2, rfl, hr2⟩ := ho2.rd
  have hcap1 := ho1.cap
  have hcap2 := ho2.cap
  obtain ⟨q, d, rfl, hr, hdc⟩ := h'
  obtain ⟨E, hE⟩ : ∃ E, E = w.alloc (.cells #[.slice p1 ys.length c1, .slice p2 zs.length c2] 26) := ⟨_, rfl⟩
  obtain ⟨s, hs⟩ : ∃ s, s = w.heap.size := ⟨_, rfl⟩
  have hb0 : Below w.heap.size w E := by rw [hE]; exact (Below.refl _ _).alloc (Nat.le_refl _) _
  have bx0 : Box E s [.slice p1 ys.length c1, .slice p2 zs.length c2] 26 := by rw [hE]; exact Box.newAt w _ _ hs
  have IT := Lib.hid (isTransfer_true E (hr1.below hb0) (hr2.below hb0) hcap1 hcap2 ⟨hc1, ha1, hy⟩ ⟨hc2, ha2, hz⟩ h1)
  have hsE : s < E.heap.size := bx0.lt
  have b0 := bx0.cell 0 rfl
  have b1 := bx0.cell 1 rfl
  have HE := Lib.hid hE
  have HS := Lib.hid hs
  have hz0 := hb0.size
  clear hE hs ho1 ho2
  go_enter Tryz.func10, Tryz.ntmps10
  go_upto_region 1 with fail
  rw [← HE.out, ← HS.out]
  go_wp2_with (first | (go_at_call 28; refine IT.out.mono ?_; rintro e w1 ⟨rfl, hb1⟩; have IS := isSignal_true (c := d) w1 ((hr.below hb0).below hb1) ha (by omega)) | (go_at_call 29; refine IS.mono ?_; rintro e w' ⟨rfl, rfl⟩))
  clear IS IT
  have hbw : Below w.heap.size w w1 := hb0.trans (hb1.mono hz0)
  have CK : Hid (∀ W, Below w1.heap.size w1 W → W.cell? ⟨s, 0, none⟩ = some (.slice p1 ys.length c1) ∧ W.cell? ⟨s, 1, none⟩ = some (.slice p2 zs.length c2)) := fun W hW => ⟨((bx0.below hb1).below hW).cell 0 rfl, ((bx0.below hb1).below hW).cell 1 rfl⟩
  have SZ := Lib.hid (fun W => sizeI_any q a.length d W hr.len)
  have CV : Hid (∀ W, Below w1.heap.size w1 W → Calls Tryz.prog 31 #[.slice p1 ys.length c1, .slice q a.length d, .int .i64 (a.length : Int)] W fun e w' => ∃ cp cc, e = .returned (.slice cp (cvL ys a a.length).length cc) ∧ RdI w' cp (cvL ys a a.length) ∧ Below w1.heap.size w1 w') := fun W hW =>
    (convolve_any (c := c1) (d := d) a.length W ((hr1.below hbw).below hW) ((hr.below hbw).below hW) hal hy (by omega)).mono (by
      rintro e w' ⟨v, rfl, ho, hb⟩
      obtain ⟨cp, cc, rfl, hcr⟩ := ho.rd
      exact ⟨cp, cc, rfl, hcr, hW.trans (hb.mono hW.size)⟩)
  have QT : Hid (∀ W cp cc, Below w1.heap.size w1 W → RdI W cp (cvL ys a a.length) → Calls Tryz.prog 30 #[.slice cp (cvL ys a a.length).length cc, .slice p2 zs.length c2, .int .i64 (a.length : Int)] W fun e w' => ∃ v, e = .returned v ∧ OwnI w.heap.size w' v (filL ys zs a) ∧ Below w.heap.size w w') := fun W cp cc hW hcr =>
    (quotient_any (c := cc) (d := c2) a.length W hcr ((hr2.below hbw).below hW) hal hc2.1 (by unfold cvL; rw [tab_length]; omega) (by omega)).mono (by
      rintro e w' ⟨v, rfl, ho, hb⟩
      have h1 : w.heap.size ≤ W.heap.size := by have := hW.size; have := hbw.size; omega
      exact ⟨v, rfl, ho.mono h1, (hbw.trans (hW.mono hbw.size)).trans (hb.mono h1)⟩)
  clear b0 b1 bx0 hr1 hr2 hr hc1 hc2 ha1 ha2 ha hb0 hb1 h1 hy hz hal hdc hcap1 hcap2 hsE hz0
  obtain ⟨b0, b1⟩ := CK.out w1 (Below.refl _ _)
  generalize cvL ys a a.length = CVL at CV QT
  go_region_law (first | (go_simp; go_at_call 32; refine (SZ.out _).mono ?_; rintro e w' ⟨rfl, rfl⟩) | (go_simp; go_at_call 31; refine (CV.out _ (by first | exact Below.refl _ _ | exact below_selfN _ _)).mono ?_; rintro e W2 ⟨cp, cc, rfl, hcr, hb2⟩; obtain ⟨b0, b1⟩ := CK.out W2 hb2) | (go_simp; go_at_call 30; refine (QT.out _ _ _ (by first | exact hb2 | exact below_drewN hb2 _) (by exact hcr)).mono ?_; rintro e W3 ⟨v, rfl, hov, hb3⟩) | fail)
  all_goals
    go_wp2_with fail
    refine bodyPost_ret (v := .tuple #[v, .int .i64 0]) (by simp [results, Tryz.results10, go_sem, *]) rfl ⟨_, rfl, hov, hb3⟩
end Go.Proofs.YtljlcbichimhaaaGreatDoor
