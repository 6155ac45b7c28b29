/-
  Parallel forms of transfer functions by the program: the walk.
-/
import Derived.Test.YtljlcbichimhaaaGreatDoorFdC
namespace Go.Proofs.YtljlcbichimhaaaGreatDoor
open Go.ChangeShapes Go.WideShapes Go.ChangeAt Go.RowKit
set_option linter.unusedVariables false
set_option linter.unusedSimpArgs false

set_option maxHeartbeats 2000000 in
theorem parallel_any {x y : Value} {a b c d : List Int} (w : World) (h : RdT w x a b) (h' : RdT w y c d) (hl1 : a.length + d.length ≤ 65) (hl2 : b.length + d.length ≤ 65) (hl3 : c.length + b.length ≤ 65) :
    Calls Tryz.prog 8 #[x, y] w fun e w' => ∃ z, e = .returned (.tuple #[z, .int .i64 0]) ∧ OwnT w.heap.size w' z (addL (mulL a d) (mulL c b) 1) (mulL b d) ∧ Below w.heap.size w w' := by
  obtain ⟨p1, c1, p2, c2, rfl, r1, r2, k1, k2, ha, hb, hb1⟩ := h
  obtain ⟨p3, c3, p4, c4, rfl, r3, r4, k3, k4, hc, hd, hd1⟩ := h'
  obtain ⟨E, hE⟩ : ∃ E, E = ((w.alloc (.cells #[.slice p1 a.length c1, .slice p2 b.length c2] 26)).alloc (.cells #[.slice p3 c.length c3, .slice p4 d.length c4] 26)).alloc (.cells #[.slice none 0 0, .slice none 0 0] 26) := ⟨_, rfl⟩
  obtain ⟨s, hs⟩ : ∃ s, s = w.heap.size := ⟨_, rfl⟩
  have hb0 : Below w.heap.size w E := by rw [hE]; exact (((Below.refl _ _).alloc (Nat.le_refl _) _).alloc (by simp) _).alloc (by simp; omega) _
  have bs : Box E s [.slice p1 a.length c1, .slice p2 b.length c2] 26 := by rw [hE]; exact ((Box.newAt w _ _ hs).alloc _).alloc _
  have bt : Box E (s + 1) [.slice p3 c.length c3, .slice p4 d.length c4] 26 := by rw [hE]; exact (Box.newAt _ _ _ (by simp [hs])).alloc _
  have br : Box E (s + 1 + 1) [.slice none 0 0, .slice none 0 0] 26 := by rw [hE]; exact Box.newAt _ _ _ (by simp [hs])
  obtain ⟨E2, hE2⟩ : ∃ E2, E2 = E.alloc (.cells #[.slice p1 a.length c1, .slice p2 b.length c2, .slice p3 c.length c3, .slice p4 d.length c4] 26) := ⟨_, rfl⟩
  have hb2 : Below E.heap.size E E2 := by rw [hE2]; exact (Below.refl _ _).alloc (Nat.le_refl _) _
  have b4 : Box E2 E.heap.size [.slice p1 a.length c1, .slice p2 b.length c2, .slice p3 c.length c3, .slice p4 d.length c4] 26 := by rw [hE2]; exact Box.new _ _ _
  have hbw2 : Below w.heap.size w E2 := hb0.trans (hb2.mono hb0.size)
  have AT := Lib.hid (areTransfers_two E2 b4 (fun W hW => isTransfer_true W ((r1.below hbw2).below hW) ((r2.below hbw2).below hW) k1 k2 ha hb hb1) (fun W hW => isTransfer_true W ((r3.below hbw2).below hW) ((r4.below hbw2).below hW) k3 k4 hc hd hd1))
  have z0 := bs.cell 0 rfl
  have z1 := bs.cell 1 rfl
  have z2 := bt.cell 0 rfl
  have z3 := bt.cell 1 rfl
  have HE := Lib.hid hE
  have HE2 := Lib.hid hE2
  have HS := Lib.hid hs
  clear hE hE2 hs
  go_enter Tryz.func8, Tryz.ntmps8
  go_upto_region 1 with fail
  try simp only [heap_size_alloc]
  rw [← HE.out, ← HS.out]
  go_wp2_with fail
  rw [← HE2.out]
  refine AT.out.mono ?_
  rintro e W1 ⟨rfl, hb3⟩
  have hE1 : Below E.heap.size E W1 := hb2.trans (hb3.mono hb2.size)
  have hw1 : Below w.heap.size w W1 := hb0.trans (hE1.mono hb0.size)
  have CK : Hid (∀ W, Below W1.heap.size W1 W → W.cell? ⟨s, 0, none⟩ = some (.slice p1 a.length c1) ∧ W.cell? ⟨s, 1, none⟩ = some (.slice p2 b.length c2) ∧ W.cell? ⟨s + 1, 0, none⟩ = some (.slice p3 c.length c3) ∧ W.cell? ⟨s + 1, 1, none⟩ = some (.slice p4 d.length c4)) := fun W hW => ⟨((bs.below hE1).below hW).cell 0 rfl, ((bs.below hE1).below hW).cell 1 rfl, ((bt.below hE1).below hW).cell 0 rfl, ((bt.below hE1).below hW).cell 1 rfl⟩
  have BR := Lib.hid (fun W (hW : Below W1.heap.size W1 W) => (br.below hE1).below hW)
  have KM1 := Lib.hid (fun W (hW : Below W1.heap.size W1 W) => mulPolyI_any (c := c1) (d := c4) W ((r1.below hw1).below hW) ((r4.below hw1).below hW) ha.2.2 hd.2.2)
  have KM2 := Lib.hid (fun W (hW : Below W1.heap.size W1 W) => mulPolyI_any (c := c3) (d := c2) W ((r3.below hw1).below hW) ((r2.below hw1).below hW) hc.2.2 hb.2.2)
  have KM3 := Lib.hid (fun W (hW : Below W1.heap.size W1 W) => mulPolyI_any (c := c2) (d := c4) W ((r2.below hw1).below hW) ((r4.below hw1).below hW) hb.2.2 hd.2.2)
  have P1 := Lib.hid (show PolyV (mulL a d) from mulL_poly hl1)
  have P2 := Lib.hid (show PolyV (mulL c b) from mulL_poly hl3)
  have P3 := Lib.hid (show PolyV (mulL b d) from mulL_poly hl2)
  have PD := Lib.hid (show PolyV (addL (mulL a d) (mulL c b) 1) from addL_poly 1 P1.out.2.2 P2.out.2.2)
  have HD1 := Lib.hid (mul_one0 hb1 hd1)
  have HAD : Hid (trimL (atl (mulL a d) (mulL c b) 1 (max (mulL a d).length (mulL c b).length)) = addL (mulL a d) (mulL c b) 1) := rfl
  have HAL := Lib.hid (atl_length (mulL a d) (mulL c b) 1 (max (mulL a d).length (mulL c b).length))
  have KT := Lib.hid (fun W p q ce de => toldTransfer_any (p := p) (q := q) (c := ce) (d := de) W PD.out.2.2 P3.out.2.2)
  have KA := Lib.hid (fun W p q ce de (h1 : RdI W p (mulL a d)) (h2 : RdI W q (mulL c b)) => addTimes_any (c := ce) (d := de) 1 W h1 h2 (by have := P1.out.2.2; omega) (by have := P2.out.2.2; omega) (.inl rfl) P1.out.2.1 P2.out.2.1)
  have hsw : w.heap.size ≤ s + 1 + 1 := by rw [HS.out]; omega
  have hsW : s + 1 + 1 < W1.heap.size := (br.below hE1).lt
  clear AT z0 z1 z2 z3 bs bt br r1 r2 r3 r4 b4 hb0 hb2 hb3 hE1 ha hb hc hd hb1 hd1 hbw2 k1 k2 k3 k4 hl1 hl2 hl3
  have hcur := below_drew1 (Below.refl W1.heap.size W1)
  generalize hM1 : mulL a d = M1 at *
  generalize hM2 : mulL c b = M2 at *
  have HM1 := Lib.hid hM1
  have HM2 := Lib.hid hM2
  clear hM1 hM2
  generalize hAT : atl M1 M2 1 (max M1.length M2.length) = AT at *
  have HAT := Lib.hid hAT
  clear hAT
  generalize hDD : addL M1 M2 1 = DD at *
  have HDD := Lib.hid hDD
  clear hDD
  go_wp2_with fail
  refine wp_region_plan (fun W => W.cell? ⟨s, 0, none⟩ = some (.slice p1 a.length c1) ∧ W.cell? ⟨s, 1, none⟩ = some (.slice p2 b.length c2) ∧ W.cell? ⟨s + 1, 0, none⟩ = some (.slice p3 c.length c3) ∧ W.cell? ⟨s + 1, 1, none⟩ = some (.slice p4 d.length c4)) 20 [(0, 0), (1, 1), (2, 0), (3, 1), (5, 0), (6, 1), (7, 0), (8, 1), (12, 0), (13, 1), (14, 0), (15, 1), (4, 2), (9, 2), (10, 2), (11, 2), (16, 2), (17, 2), (18, 0), (19, 0), (20, 3), (21, 3)] (by kernel_rfl) (by kernel_rfl) (CK.out _ hcur) ?_
  repeat ((first | refine wpPlan_take (v := ?_) rfl (by rfl) (by (intro w hSw; clear hSw; go_simp; try with_reducible rfl)) (fun _ _ _ h => h) ?_ | refine wpPlan_load (v := ?_) rfl (by rfl) (by (intro w hSw; (try dsimp only at hSw); go_simp; try with_reducible rfl)) (fun _ _ _ h => h) ?_); try simp only [Act.put, List.setIfInBounds_toArray, List.set_cons_zero, List.set_cons_succ])
  refine wpPlan_call rfl (by rfl) (fun K hK => ?_)
  go_simp
  refine (KM1.out _ hcur).mono ?_; rintro e W2 ⟨u1, rfl, ho1, hb⟩; obtain ⟨mp1, mc1, rfl, rd1⟩ := ho1.rd; have hcur := hcur.trans (hb.mono hcur.size)
  refine hK _ _ (CK.out _ hcur) ?_
  clear hK K
  try simp only [Act.put, List.setIfInBounds_toArray, List.set_cons_zero, List.set_cons_succ]
  repeat ((first | refine wpPlan_take (v := ?_) rfl (by rfl) (by (intro w hSw; clear hSw; go_simp; try with_reducible rfl)) (fun _ _ _ h => h) ?_ | refine wpPlan_load (v := ?_) rfl (by rfl) (by (intro w hSw; (try dsimp only at hSw); go_simp; try with_reducible rfl)) (fun _ _ _ h => h) ?_); try simp only [Act.put, List.setIfInBounds_toArray, List.set_cons_zero, List.set_cons_succ])
  refine wpPlan_call rfl (by rfl) (fun K hK => ?_)
  go_simp
  refine (KM2.out _ hcur).mono ?_; rintro e W3 ⟨u2, rfl, ho2, hb⟩; obtain ⟨mp2, mc2, rfl, rd2⟩ := ho2.rd; have rd1 := rd1.below hb; have hcur := hcur.trans (hb.mono hcur.size)
  refine hK _ _ (CK.out _ hcur) ?_
  clear hK K
  try simp only [Act.put, List.setIfInBounds_toArray, List.set_cons_zero, List.set_cons_succ]
  repeat ((first | refine wpPlan_take (v := ?_) rfl (by rfl) (by (intro w hSw; clear hSw; go_simp; try with_reducible rfl)) (fun _ _ _ h => h) ?_ | refine wpPlan_load (v := ?_) rfl (by rfl) (by (intro w hSw; (try dsimp only at hSw); go_simp; try with_reducible rfl)) (fun _ _ _ h => h) ?_); try simp only [Act.put, List.setIfInBounds_toArray, List.set_cons_zero, List.set_cons_succ])
  refine wpPlan_call rfl (by rfl) (fun K hK => ?_)
  go_simp
  refine (KA.out _ _ _ _ _ rd1 rd2).mono ?_; rintro e W4 ⟨u3, rfl, ho3, hb⟩; obtain ⟨mp3, mc3, rfl, rd3⟩ := ho3.rd; have hcap3 := ho3.cap; have hcur := hcur.trans (hb.mono hcur.size)
  refine hK _ _ (CK.out _ hcur) ?_
  clear hK K
  try simp only [Act.put, List.setIfInBounds_toArray, List.set_cons_zero, List.set_cons_succ]
  repeat ((first | refine wpPlan_take (v := ?_) rfl (by rfl) (by (intro w hSw; clear hSw; go_simp; try with_reducible rfl)) (fun _ _ _ h => h) ?_ | refine wpPlan_load (v := ?_) rfl (by rfl) (by (intro w hSw; (try dsimp only at hSw); go_simp; try with_reducible rfl)) (fun _ _ _ h => h) ?_); try simp only [Act.put, List.setIfInBounds_toArray, List.set_cons_zero, List.set_cons_succ])
  refine wpPlan_call rfl (by rfl) (fun K hK => ?_)
  go_simp
  refine (trim_any (c := mc3) _ rd3 (by rw [HAL.out]; have := P1.out.2.2; have := P2.out.2.2; omega) hcap3).mono ?_; rintro e W5 ⟨u4, rfl, ho4, hb⟩; rw [HAD.out] at ho4; have hsz4 := hcur.size; obtain ⟨dp, dc, rfl, -⟩ := ho4.rd; have hcur := hcur.trans (hb.mono hcur.size)
  refine hK _ _ (CK.out _ hcur) ?_
  clear hK K
  try simp only [Act.put, List.setIfInBounds_toArray, List.set_cons_zero, List.set_cons_succ]
  repeat ((first | refine wpPlan_take (v := ?_) rfl (by rfl) (by (intro w hSw; clear hSw; go_simp; try with_reducible rfl)) (fun _ _ _ h => h) ?_ | refine wpPlan_load (v := ?_) rfl (by rfl) (by (intro w hSw; (try dsimp only at hSw); go_simp; try with_reducible rfl)) (fun _ _ _ h => h) ?_); try simp only [Act.put, List.setIfInBounds_toArray, List.set_cons_zero, List.set_cons_succ])
  refine wpPlan_call rfl (by rfl) (fun K hK => ?_)
  go_simp
  refine (KM3.out _ hcur).mono ?_; rintro e W6 ⟨u6, rfl, ho6, hb⟩; obtain ⟨mp6, mc6, rfl, -⟩ := ho6.rd; have ho4 := ho4.below hb; have hsz5 := hcur.size; have hcur := hcur.trans (hb.mono hcur.size)
  refine hK _ _ (CK.out _ hcur) ?_
  clear hK K
  try simp only [Act.put, List.setIfInBounds_toArray, List.set_cons_zero, List.set_cons_succ]
  repeat ((first | refine wpPlan_take (v := ?_) rfl (by rfl) (by (intro w hSw; clear hSw; go_simp; try with_reducible rfl)) (fun _ _ _ h => h) ?_ | refine wpPlan_load (v := ?_) rfl (by rfl) (by (intro w hSw; (try dsimp only at hSw); go_simp; try with_reducible rfl)) (fun _ _ _ h => h) ?_); try simp only [Act.put, List.setIfInBounds_toArray, List.set_cons_zero, List.set_cons_succ])
  refine wpPlan_call rfl (by rfl) (fun K hK => ?_)
  go_simp
  refine (KT.out _ _ _ _ _).mono ?_; rintro e W7 ⟨rfl, hb⟩; have ho4 := ho4.below hb; have ho6 := ho6.below hb; have hcur := hcur.trans (hb.mono hcur.size)
  refine hK _ _ (CK.out _ hcur) ?_
  clear hK K
  try simp only [Act.put, List.setIfInBounds_toArray, List.set_cons_zero, List.set_cons_succ]
  have brW := BR.out _ hcur
  have d0 := brW.cell 0 rfl
  have d1 := brW.cell 1 rfl
  have df0 := brW.frozen 0
  have df1 := brW.frozen 1
  repeat ((first | refine wpPlan_take (v := ?_) rfl (by rfl) (by (intro w hSw; clear hSw; go_simp; try with_reducible rfl)) (fun _ _ _ h => h) ?_ | refine wpPlan_load (v := ?_) rfl (by rfl) (by (intro w hSw; (try dsimp only at hSw); go_simp; try with_reducible rfl)) (fun _ _ _ h => h) ?_); try simp only [Act.put, List.setIfInBounds_toArray, List.set_cons_zero, List.set_cons_succ])
  refine wpPlan_store rfl (by rfl) (fun K hK => ?_)
  go_simp
  refine hK _ _ ?_
  clear hK K
  try simp only [Act.put, List.setIfInBounds_toArray, List.set_cons_zero, List.set_cons_succ]
  refine wpPlan_store rfl (by rfl) (fun K hK => ?_)
  go_simp
  refine hK _ _ ?_
  clear hK K
  try simp only [Act.put, List.setIfInBounds_toArray, List.set_cons_zero, List.set_cons_succ]
  refine wpPlan_nil ?_
  go_wp2_with fail
  have hz1 := hw1.size
  have bxW := (brW.set 0 (.slice dp DD.length dc)).set 1 (.slice mp6 (mulL b d).length mc6)
  have hbW := ((hw1.trans (hcur.mono hz1)).setCell (p := ⟨s + 1 + 1, 0, none⟩) hsw (.slice dp DD.length dc)).setCell (p := ⟨s + 1 + 1, 1, none⟩) hsw (.slice mp6 (mulL b d).length mc6)
  have hu5 := ho4.keep (w' := (W7.setCell ⟨s + 1 + 1, 0, none⟩ (.slice dp DD.length dc)).setCell ⟨s + 1 + 1, 1, none⟩ (.slice mp6 (mulL b d).length mc6)) fun k hk => by
    have := (ho4.lt hk).1
    rw [Below.heap_setCell _ _ _ _ (show k ≠ s + 1 + 1 by omega), Below.heap_setCell _ _ _ _ (show k ≠ s + 1 + 1 by omega)]
  have hv5 := ho6.keep (w' := (W7.setCell ⟨s + 1 + 1, 0, none⟩ (.slice dp DD.length dc)).setCell ⟨s + 1 + 1, 1, none⟩ (.slice mp6 (mulL b d).length mc6)) fun k hk => by
    have := (ho6.lt hk).1
    rw [Below.heap_setCell _ _ _ _ (show k ≠ s + 1 + 1 by omega), Below.heap_setCell _ _ _ _ (show k ≠ s + 1 + 1 by omega)]
  generalize (W7.setCell ⟨s + 1 + 1, 0, none⟩ (.slice dp DD.length dc)).setCell ⟨s + 1 + 1, 1, none⟩ (.slice mp6 (mulL b d).length mc6) = W at *
  clear d0 d1 df0 df1
  have e0 := bxW.cell 0 rfl
  have e1 := bxW.cell 1 rfl
  refine bodyPost_ret (v := .tuple #[.agg #[.slice dp DD.length dc, .slice mp6 (mulL b d).length mc6], .int .i64 0]) (by simp [results, Tryz.results8, go_sem, *]) rfl ?_
  rw [HM1.out, HM2.out, HDD.out]
  exact ⟨_, rfl, ⟨_, _, rfl, hu5.mono (by omega), hv5.mono (by omega), PD.out.2.1, P3.out.2.1, PD.out.1, P3.out.1, HD1.out⟩, hbW⟩
end Go.Proofs.YtljlcbichimhaaaGreatDoor
