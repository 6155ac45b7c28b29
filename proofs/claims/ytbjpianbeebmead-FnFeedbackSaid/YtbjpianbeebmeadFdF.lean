/-
  Loops of transfer functions by the program: the walk.
-/
import Derived.Test.YtbjpianbeebmeadFdC
namespace Go.Proofs.Ytbjpianbeebmead
open Go.ChangeShapes Go.WideShapes Go.ChangeAt Go.RowKit
set_option linter.unusedVariables false
set_option linter.unusedSimpArgs false

set_option maxHeartbeats 2000000 in
theorem feedback_any {x y : Value} {a b c d : List Int} (w : World) (h : RdT w x a b) (h' : RdT w y c d) (hl1 : a.length + c.length ≤ 65) (hl2 : b.length + d.length ≤ 65) (hl3 : a.length + d.length ≤ 65) (hc0 : c.getD 0 0 = 0) :
    Calls Try.prog 9 #[x, y] w fun e w' => ∃ z, e = .returned (.tuple #[z, .int .i64 0]) ∧ OwnT w.heap.size w' z (mulL a d) (addL (mulL b d) (mulL a c) (-1)) ∧ Below w.heap.size w w' := by
  obtain ⟨p1, c1, p2, c2, rfl, r1, r2, k1, k2, ha, hb, hb1⟩ := h
  obtain ⟨p3, c3, p4, c4, rfl, r3, r4, k3, k4, hc, hd, hd1⟩ := h'
  obtain ⟨E, hE⟩ : ∃ E, E = ((w.alloc (.cells #[.slice p1 a.length c1, .slice p2 b.length c2] 26)).alloc (.cells #[.slice p3 c.length c3, .slice p4 d.length c4] 26)).alloc (.cells #[.slice none 0 0, .slice none 0 0] 26) := ⟨_, rfl⟩
  obtain ⟨s, hs⟩ : ∃ s, s = w.heap.size := ⟨_, rfl⟩
  have hb0 : Below w.heap.size w E := by rw [hE]; exact (((Below.refl _ _).alloc (Nat.le_refl _) _).alloc (by simp) _).alloc (by simp; omega) _
  have bs : Box E s [.slice p1 a.length c1, .slice p2 b.length c2] 26 := by rw [hE]; exact ((Box.newAt w _ _ hs).alloc _).alloc _
  have bt : Box E (s + 1) [.slice p3 c.length c3, .slice p4 d.length c4] 26 := by rw [hE]; exact (Box.newAt _ _ _ (by simp [hs])).alloc _
  have br : Box E (s + 1 + 1) [.slice none 0 0, .slice none 0 0] 26 := by rw [hE]; exact Box.newAt _ _ _ (by simp [hs])
  obtain ⟨E2, hE2⟩ : ∃ E2, E2 = E.alloc (.cells #[.slice p1 a.length c1, .slice p2 b.length c2, .slice p3 c.length c3, .slice p4 d.length c4] 26) := ⟨_, rfl⟩
  have hb2 : Below E.heap.size E E2 := by rw [hE2]; exact (Below.refl _ _).alloc (Nat.le_refl _) _
  have b4 : Box E2 E.heap.size [.slice p1 a.length c1, .slice p2 b.length c2, .slice p3 c.length c3, .slice p4 d.length c4] 26 := by rw [hE2]; exact Box.new _ _ _
  have hbw2 : Below w.heap.size w E2 := hb0.trans (hb2.mono hb0.size)
  have AT := Lib.hid (areTransfers_two E2 b4 (fun W hW => isTransfer_true W ((r1.below hbw2).below hW) ((r2.below hbw2).below hW) k1 k2 ha hb hb1) (fun W hW => isTransfer_true W ((r3.below hbw2).below hW) ((r4.below hbw2).below hW) k3 k4 hc hd hd1))
  have z0 := bs.cell 0 rfl
  have z1 := bs.cell 1 rfl
  have z2 := bt.cell 0 rfl
  have z3 := bt.cell 1 rfl
  have HE := Lib.hid hE
  have HE2 := Lib.hid hE2
  have HS := Lib.hid hs
  clear hE hE2 hs
  go_enter Try.func9, Try.ntmps9
  go_upto_region 1 with fail
  try simp only [heap_size_alloc]
  rw [← HE.out, ← HS.out]
  go_wp2_with fail
  rw [← HE2.out]
  refine AT.out.mono ?_
  rintro e W1 ⟨rfl, hb3⟩
  have hE1 : Below E.heap.size E W1 := hb2.trans (hb3.mono hb2.size)
  have hw1 : Below w.heap.size w W1 := hb0.trans (hE1.mono hb0.size)
  have CK : Hid (∀ W, Below W1.heap.size W1 W → W.cell? ⟨s, 0, none⟩ = some (.slice p1 a.length c1) ∧ W.cell? ⟨s, 1, none⟩ = some (.slice p2 b.length c2) ∧ W.cell? ⟨s + 1, 0, none⟩ = some (.slice p3 c.length c3) ∧ W.cell? ⟨s + 1, 1, none⟩ = some (.slice p4 d.length c4)) := fun W hW => ⟨((bs.below hE1).below hW).cell 0 rfl, ((bs.below hE1).below hW).cell 1 rfl, ((bt.below hE1).below hW).cell 0 rfl, ((bt.below hE1).below hW).cell 1 rfl⟩
  have BR := Lib.hid (fun W (hW : Below W1.heap.size W1 W) => (br.below hE1).below hW)
  have KM1 := Lib.hid (fun W (hW : Below W1.heap.size W1 W) => mulPolyI_any (c := c2) (d := c4) W ((r2.below hw1).below hW) ((r4.below hw1).below hW) hb.2.2 hd.2.2)
  have KM2 := Lib.hid (fun W (hW : Below W1.heap.size W1 W) => mulPolyI_any (c := c1) (d := c3) W ((r1.below hw1).below hW) ((r3.below hw1).below hW) ha.2.2 hc.2.2)
  have KM3 := Lib.hid (fun W (hW : Below W1.heap.size W1 W) => mulPolyI_any (c := c1) (d := c4) W ((r1.below hw1).below hW) ((r4.below hw1).below hW) ha.2.2 hd.2.2)
  have P1 := Lib.hid (show PolyV (mulL b d) from mulL_poly hl2)
  have P2 := Lib.hid (show PolyV (mulL a c) from mulL_poly hl1)
  have P3 := Lib.hid (show PolyV (mulL a d) from mulL_poly hl3)
  have PD := Lib.hid (show PolyV (addL (mulL b d) (mulL a c) (-1)) from addL_poly (-1) P1.out.2.2 P2.out.2.2)
  have HD1 : Hid ((addL (mulL b d) (mulL a c) (-1)).getD 0 0 = 1) := by
    unfold Hid
    rw [addL_get, mul_one0 hb1 hd1, mulL_get, cv_first, hc0, Int.mul_zero]; rfl
  have HAD : Hid (trimL (atl (mulL b d) (mulL a c) (-1) (max (mulL b d).length (mulL a c).length)) = addL (mulL b d) (mulL a c) (-1)) := rfl
  have HAL := Lib.hid (atl_length (mulL b d) (mulL a c) (-1) (max (mulL b d).length (mulL a c).length))
  have KT := Lib.hid (fun W p q ce de => toldTransfer_any (p := p) (q := q) (c := ce) (d := de) W P3.out.2.2 PD.out.2.2)
  have KA := Lib.hid (fun W p q ce de (h1 : RdI W p (mulL b d)) (h2 : RdI W q (mulL a c)) => addTimes_any (c := ce) (d := de) (-1) W h1 h2 (by have := P1.out.2.2; omega) (by have := P2.out.2.2; omega) (.inr rfl) P1.out.2.1 P2.out.2.1)
  have hsw : w.heap.size ≤ s + 1 + 1 := by rw [HS.out]; omega
  have hsW : s + 1 + 1 < W1.heap.size := (br.below hE1).lt
  clear AT z0 z1 z2 z3 bs bt br r1 r2 r3 r4 b4 hb0 hb2 hb3 hE1 ha hb hc hd hb1 hd1 hbw2 k1 k2 k3 k4 hl1 hl2 hl3 hc0
  have hcur := below_drew1 (Below.refl W1.heap.size W1)
  generalize hM1 : mulL b d = M1 at *
  generalize hM2 : mulL a c = M2 at *
  have HM1 := Lib.hid hM1
  have HM2 := Lib.hid hM2
  clear hM1 hM2
  generalize hAT : atl M1 M2 (-1) (max M1.length M2.length) = AT at *
  have HAT := Lib.hid hAT
  clear hAT
  go_wp2_with fail
  refine wp_region_plan (fun W => W.cell? ⟨s, 0, none⟩ = some (.slice p1 a.length c1) ∧ W.cell? ⟨s, 1, none⟩ = some (.slice p2 b.length c2) ∧ W.cell? ⟨s + 1, 0, none⟩ = some (.slice p3 c.length c3) ∧ W.cell? ⟨s + 1, 1, none⟩ = some (.slice p4 d.length c4)) 12 [(0, 0), (1, 1), (2, 0), (3, 1), (5, 0), (6, 1), (7, 0), (8, 1), (4, 2), (9, 2), (10, 2), (11, 2), (12, 3)] (by kernel_rfl) (by kernel_rfl) (CK.out _ hcur) ?_
  repeat ((first | refine wpPlan_take (v := ?_) rfl (by rfl) (by (intro w hSw; clear hSw; go_simp; try with_reducible rfl)) (fun _ _ _ h => h) ?_ | refine wpPlan_load (v := ?_) rfl (by rfl) (by (intro w hSw; (try dsimp only at hSw); go_simp; try with_reducible rfl)) (fun _ _ _ h => h) ?_); try simp only [Act.put, List.setIfInBounds_toArray, List.set_cons_zero, List.set_cons_succ])
  refine wpPlan_call rfl (by rfl) (fun K hK => ?_)
  go_simp
  refine (KM1.out _ hcur).mono ?_; rintro e W2 ⟨u1, rfl, ho1, hb⟩; obtain ⟨mp1, mc1, rfl, rd1⟩ := ho1.rd; have hcur := hcur.trans (hb.mono hcur.size)
  refine hK _ _ (CK.out _ hcur) ?_
  clear hK K
  try simp only [Act.put, List.setIfInBounds_toArray, List.set_cons_zero, List.set_cons_succ]
  repeat ((first | refine wpPlan_take (v := ?_) rfl (by rfl) (by (intro w hSw; clear hSw; go_simp; try with_reducible rfl)) (fun _ _ _ h => h) ?_ | refine wpPlan_load (v := ?_) rfl (by rfl) (by (intro w hSw; (try dsimp only at hSw); go_simp; try with_reducible rfl)) (fun _ _ _ h => h) ?_); try simp only [Act.put, List.setIfInBounds_toArray, List.set_cons_zero, List.set_cons_succ])
  refine wpPlan_call rfl (by rfl) (fun K hK => ?_)
  go_simp
  refine (KM2.out _ hcur).mono ?_; rintro e W3 ⟨u2, rfl, ho2, hb⟩; obtain ⟨mp2, mc2, rfl, rd2⟩ := ho2.rd; have rd1 := rd1.below hb; have hcur := hcur.trans (hb.mono hcur.size)
  refine hK _ _ (CK.out _ hcur) ?_
  clear hK K
  try simp only [Act.put, List.setIfInBounds_toArray, List.set_cons_zero, List.set_cons_succ]
  repeat ((first | refine wpPlan_take (v := ?_) rfl (by rfl) (by (intro w hSw; clear hSw; go_simp; try with_reducible rfl)) (fun _ _ _ h => h) ?_ | refine wpPlan_load (v := ?_) rfl (by rfl) (by (intro w hSw; (try dsimp only at hSw); go_simp; try with_reducible rfl)) (fun _ _ _ h => h) ?_); try simp only [Act.put, List.setIfInBounds_toArray, List.set_cons_zero, List.set_cons_succ])
  refine wpPlan_call rfl (by rfl) (fun K hK => ?_)
  go_simp
  refine (KA.out _ _ _ _ _ rd1 rd2).mono ?_; rintro e W4 ⟨u3, rfl, ho3, hb⟩; obtain ⟨mp3, mc3, rfl, rd3⟩ := ho3.rd; have hcap3 := ho3.cap; have hcur := hcur.trans (hb.mono hcur.size)
  refine hK _ _ (CK.out _ hcur) ?_
  clear hK K
  try simp only [Act.put, List.setIfInBounds_toArray, List.set_cons_zero, List.set_cons_succ]
  repeat ((first | refine wpPlan_take (v := ?_) rfl (by rfl) (by (intro w hSw; clear hSw; go_simp; try with_reducible rfl)) (fun _ _ _ h => h) ?_ | refine wpPlan_load (v := ?_) rfl (by rfl) (by (intro w hSw; (try dsimp only at hSw); go_simp; try with_reducible rfl)) (fun _ _ _ h => h) ?_); try simp only [Act.put, List.setIfInBounds_toArray, List.set_cons_zero, List.set_cons_succ])
  refine wpPlan_call rfl (by rfl) (fun K hK => ?_)
  go_simp
  refine (trim_any (c := mc3) _ rd3 (by rw [HAL.out]; have := P1.out.2.2; have := P2.out.2.2; omega) hcap3).mono ?_; rintro e W5 ⟨u4, rfl, ho4, hb⟩; rw [HAD.out] at ho4; have hsz4 := hcur.size; have hcur := hcur.trans (hb.mono hcur.size)
  refine hK _ _ (CK.out _ hcur) ?_
  clear hK K
  try simp only [Act.put, List.setIfInBounds_toArray, List.set_cons_zero, List.set_cons_succ]
  repeat ((first | refine wpPlan_take (v := ?_) rfl (by rfl) (by (intro w hSw; clear hSw; go_simp; try with_reducible rfl)) (fun _ _ _ h => h) ?_ | refine wpPlan_load (v := ?_) rfl (by rfl) (by (intro w hSw; (try dsimp only at hSw); go_simp; try with_reducible rfl)) (fun _ _ _ h => h) ?_); try simp only [Act.put, List.setIfInBounds_toArray, List.set_cons_zero, List.set_cons_succ])
  refine wpPlan_store rfl (by rfl) (fun K hK => ?_)
  go_simp
  refine hK _ _ ?_
  clear hK K
  try simp only [Act.put, List.setIfInBounds_toArray, List.set_cons_zero, List.set_cons_succ]
  refine wpPlan_nil ?_
  have hDl : 0 < (addL M1 M2 (-1)).length := PD.out.1.1
  obtain ⟨dp, dc, rfl, rd4⟩ := ho4.rd
  obtain ⟨db, dof, rfl, hdb, hdc⟩ := rd4.pos hDl
  have hd0 := hdc 0 hDl
  rw [← getD_at hDl, HD1.out, Nat.add_zero] at hd0
  clear hdc rd4
  have HDL : Hid (0 < (addL M1 M2 (-1)).length) := hDl
  generalize hDD : addL M1 M2 (-1) = DD at *
  have HDD := Lib.hid hDD
  clear hDD
  obtain ⟨z0, z1, z2, z3⟩ := CK.out _ hcur
  have hcur5 : Below W1.heap.size W1 W5 := hcur
  go_wp2_with fail
  refine (KM3.out _ hcur5).mono ?_
  rintro e W6 ⟨u6, rfl, ho6, hb6⟩
  obtain ⟨mp6, mc6, rfl, -⟩ := ho6.rd
  have hcur6 := hcur5.trans (hb6.mono hcur5.size)
  have ho46 := ho4.below hb6
  have brW := BR.out _ hcur6
  have d0 := brW.cell 0 rfl
  have d1 := brW.cell 1 rfl
  have df0 := brW.frozen 0
  have df1 := brW.frozen 1
  go_wp2_with fail
  refine (KT.out _ _ _ _ _).mono ?_
  rintro e W7 ⟨rfl, hb7⟩
  have hcur7 := hcur6.trans (hb7.mono hcur6.size)
  have ho47 := ho46.below hb7
  have ho67 := ho6.below hb7
  have brW := BR.out _ hcur7
  clear d0 d1 df0 df1
  have d0 := brW.cell 0 rfl
  have d1 := brW.cell 1 rfl
  have df0 := brW.frozen 0
  have df1 := brW.frozen 1
  have hz1 := hw1.size
  have hz5 := hcur5.size
  go_wp2_with fail
  have bxW := (brW.set 0 (.slice mp6 (mulL a d).length mc6)).set 1 (.slice (some ⟨db, dof, none⟩) DD.length dc)
  have hbW := ((hw1.trans (hcur7.mono hz1)).setCell (p := ⟨s + 1 + 1, 0, none⟩) hsw (.slice mp6 (mulL a d).length mc6)).setCell (p := ⟨s + 1 + 1, 1, none⟩) hsw (.slice (some ⟨db, dof, none⟩) DD.length dc)
  have hu5 := ho67.keep (w' := (W7.setCell ⟨s + 1 + 1, 0, none⟩ (.slice mp6 (mulL a d).length mc6)).setCell ⟨s + 1 + 1, 1, none⟩ (.slice (some ⟨db, dof, none⟩) DD.length dc)) fun k hk => by
    have := (ho67.lt hk).1
    rw [Below.heap_setCell _ _ _ _ (show k ≠ s + 1 + 1 by omega), Below.heap_setCell _ _ _ _ (show k ≠ s + 1 + 1 by omega)]
  have hv5 := ho47.keep (w' := (W7.setCell ⟨s + 1 + 1, 0, none⟩ (.slice mp6 (mulL a d).length mc6)).setCell ⟨s + 1 + 1, 1, none⟩ (.slice (some ⟨db, dof, none⟩) DD.length dc)) fun k hk => by
    have := (ho47.lt hk).1
    rw [Below.heap_setCell _ _ _ _ (show k ≠ s + 1 + 1 by omega), Below.heap_setCell _ _ _ _ (show k ≠ s + 1 + 1 by omega)]
  generalize (W7.setCell ⟨s + 1 + 1, 0, none⟩ (.slice mp6 (mulL a d).length mc6)).setCell ⟨s + 1 + 1, 1, none⟩ (.slice (some ⟨db, dof, none⟩) DD.length dc) = W at *
  clear d0 d1 df0 df1
  have e0 := bxW.cell 0 rfl
  have e1 := bxW.cell 1 rfl
  refine bodyPost_ret (v := .tuple #[.agg #[.slice mp6 (mulL a d).length mc6, .slice (some ⟨db, dof, none⟩) DD.length dc], .int .i64 0]) (by simp [results, Try.results9, go_sem, *]) rfl ?_
  rw [HM1.out, HM2.out, HDD.out]
  exact ⟨_, rfl, ⟨_, _, rfl, hu5.mono (by omega), hv5.mono (by omega), P3.out.2.1, PD.out.2.1, P3.out.1, PD.out.1, HD1.out⟩, hbW⟩
end Go.Proofs.Ytbjpianbeebmead
