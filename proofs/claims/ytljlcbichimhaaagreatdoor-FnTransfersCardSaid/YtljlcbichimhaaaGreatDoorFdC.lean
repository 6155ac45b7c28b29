/-
  Cascades and loops of transfer functions by the program: the walks.
-/
import Derived.Test.YtljlcbichimhaaaGreatDoorFdI
import Derived.Test.YtljlcbichimhaaaGreatDoorRegT
namespace Go.Proofs.YtljlcbichimhaaaGreatDoor
open Go.ChangeShapes Go.WideShapes Go.ChangeAt Go.RowKit
set_option linter.unusedVariables false
set_option linter.unusedSimpArgs false

/-- a transfer function that can be read -/
def RdT (w : World) (x : Value) (ys zs : List Int) : Prop := ∃ p c q d, x = .agg #[.slice p ys.length c, .slice q zs.length d] ∧ RdI w p ys ∧ RdI w q zs ∧ ys.length ≤ c ∧ zs.length ≤ d ∧ (Canon ys ∧ AllS ys ∧ ys.length ≤ 65) ∧ (Canon zs ∧ AllS zs ∧ zs.length ≤ 65) ∧ zs.getD 0 0 = 1
theorem OwnT.rdT {B : Nat} {w : World} {x : Value} {ys zs : List Int} (h : OwnT B w x ys zs) (h1 : ys.length ≤ 65) (h2 : zs.length ≤ 65) : RdT w x ys zs := by
  obtain ⟨u, v, rfl, ho1, ho2, a1, a2, c1, c2, e⟩ := h
  obtain ⟨p, c, rfl, r1⟩ := ho1.rd
  obtain ⟨q, d, rfl, r2⟩ := ho2.rd
  exact ⟨p, c, q, d, rfl, r1, r2, ho1.cap, ho2.cap, ⟨c1, a1, h1⟩, ⟨c2, a2, h2⟩, e⟩
theorem RdT.below {w w' : World} {x : Value} {ys zs : List Int} (h : RdT w x ys zs) (hb : Below w.heap.size w w') : RdT w' x ys zs := by
  obtain ⟨p, c, q, d, e, r1, r2, h3⟩ := h
  exact ⟨p, c, q, d, e, r1.below hb, r2.below hb, h3⟩
theorem mul_one0 {b d : List Int} (hb : b.getD 0 0 = 1) (hd : d.getD 0 0 = 1) : (mulL b d).getD 0 0 = 1 := by
  rw [mulL_get, cv_first, hb, hd]; rfl
set_option maxHeartbeats 2000000 in
theorem cascade_any {x y : Value} {a b c d : List Int} (w : World) (h : RdT w x a b) (h' : RdT w y c d) (hl1 : a.length + c.length ≤ 65) (hl2 : b.length + d.length ≤ 65) :
    Calls Tryz.prog 7 #[x, y] w fun e w' => ∃ z, e = .returned (.tuple #[z, .int .i64 0]) ∧ OwnT w.heap.size w' z (mulL a c) (mulL b d) ∧ Below w.heap.size w w' := by
  obtain ⟨p1, c1, p2, c2, rfl, r1, r2, k1, k2, ha, hb, hb1⟩ := h
  obtain ⟨p3, c3, p4, c4, rfl, r3, r4, k3, k4, hc, hd, hd1⟩ := h'
  obtain ⟨E, hE⟩ : ∃ E, E = ((w.alloc (.cells #[.slice p1 a.length c1, .slice p2 b.length c2] 26)).alloc (.cells #[.slice p3 c.length c3, .slice p4 d.length c4] 26)).alloc (.cells #[.slice none 0 0, .slice none 0 0] 26) := ⟨_, rfl⟩
  obtain ⟨s, hs⟩ : ∃ s, s = w.heap.size := ⟨_, rfl⟩
  have hb0 : Below w.heap.size w E := by rw [hE]; exact (((Below.refl _ _).alloc (Nat.le_refl _) _).alloc (by simp) _).alloc (by simp; omega) _
  have bs : Box E s [.slice p1 a.length c1, .slice p2 b.length c2] 26 := by rw [hE]; exact ((Box.newAt w _ _ hs).alloc _).alloc _
  have bt : Box E (s + 1) [.slice p3 c.length c3, .slice p4 d.length c4] 26 := by rw [hE]; exact (Box.newAt _ _ _ (by simp [hs])).alloc _
  have br : Box E (s + 1 + 1) [.slice none 0 0, .slice none 0 0] 26 := by rw [hE]; exact Box.newAt _ _ _ (by simp [hs])
  obtain ⟨E2, hE2⟩ : ∃ E2, E2 = E.alloc (.cells #[.slice p1 a.length c1, .slice p2 b.length c2, .slice p3 c.length c3, .slice p4 d.length c4] 26) := ⟨_, rfl⟩
  have hb2 : Below E.heap.size E E2 := by rw [hE2]; exact (Below.refl _ _).alloc (Nat.le_refl _) _
  have b4 : Box E2 E.heap.size [.slice p1 a.length c1, .slice p2 b.length c2, .slice p3 c.length c3, .slice p4 d.length c4] 26 := by rw [hE2]; exact Box.new _ _ _
  have hbw2 : Below w.heap.size w E2 := hb0.trans (hb2.mono hb0.size)
  have AT := Lib.hid (areTransfers_two E2 b4 (fun W hW => isTransfer_true W ((r1.below hbw2).below hW) ((r2.below hbw2).below hW) k1 k2 ha hb hb1) (fun W hW => isTransfer_true W ((r3.below hbw2).below hW) ((r4.below hbw2).below hW) k3 k4 hc hd hd1))
  have z0 := bs.cell 0 rfl
  have z1 := bs.cell 1 rfl
  have z2 := bt.cell 0 rfl
  have z3 := bt.cell 1 rfl
  have HE := Lib.hid hE
  have HE2 := Lib.hid hE2
  have HS := Lib.hid hs
  clear hE hE2 hs
  go_enter Tryz.func7, Tryz.ntmps7
  go_upto_region 1 with fail
  try simp only [heap_size_alloc]
  rw [← HE.out, ← HS.out]
  go_wp2_with fail
  rw [← HE2.out]
  refine AT.out.mono ?_
  rintro e W1 ⟨rfl, hb3⟩
  have hE1 : Below E.heap.size E W1 := hb2.trans (hb3.mono hb2.size)
  have hw1 : Below w.heap.size w W1 := hb0.trans (hE1.mono hb0.size)
  have CK : Hid (∀ W, Below W1.heap.size W1 W → W.cell? ⟨s, 0, none⟩ = some (.slice p1 a.length c1) ∧ W.cell? ⟨s, 1, none⟩ = some (.slice p2 b.length c2) ∧ W.cell? ⟨s + 1, 0, none⟩ = some (.slice p3 c.length c3) ∧ W.cell? ⟨s + 1, 1, none⟩ = some (.slice p4 d.length c4)) := fun W hW => ⟨((bs.below hE1).below hW).cell 0 rfl, ((bs.below hE1).below hW).cell 1 rfl, ((bt.below hE1).below hW).cell 0 rfl, ((bt.below hE1).below hW).cell 1 rfl⟩
  have BR := Lib.hid (fun W (hW : Below W1.heap.size W1 W) => (br.below hE1).below hW)
  have KM1 := Lib.hid (fun W (hW : Below W1.heap.size W1 W) => mulPolyI_any (c := c1) (d := c3) W ((r1.below hw1).below hW) ((r3.below hw1).below hW) ha.2.2 hc.2.2)
  have KM2 := Lib.hid (fun W (hW : Below W1.heap.size W1 W) => mulPolyI_any (c := c2) (d := c4) W ((r2.below hw1).below hW) ((r4.below hw1).below hW) hb.2.2 hd.2.2)
  have hm1 : (mulL a c).length ≤ 65 := by have := mulL_len a c ha.1.1; omega
  have hm2 : (mulL b d).length ≤ 65 := by have := mulL_len b d hb.1.1; omega
  have KT := Lib.hid (fun W p q ce de => toldTransfer_any (p := p) (q := q) (c := ce) (d := de) W hm1 hm2)
  have HD1 := Lib.hid (mul_one0 hb1 hd1)
  have hsw : w.heap.size ≤ s + 1 + 1 := by rw [HS.out]; omega
  have hsW : s + 1 + 1 < W1.heap.size := (br.below hE1).lt
  have hab1 := hl1
  have hab2 := hl2
  clear AT z0 z1 z2 z3 bs bt br r1 r2 r3 r4 b4 hb0 hb2 hb3 hE1 ha hb hc hd hb1 hd1 hbw2 k1 k2 k3 k4 hl1 hl2
  have hcur := below_drew1 (Below.refl W1.heap.size W1)
  have P1 := Lib.hid (show PolyV (mulL a c) from mulL_poly hab1)
  have P2 := Lib.hid (show PolyV (mulL b d) from mulL_poly hab2)
  go_wp2_with fail
  refine wp_region_plan (fun W => W.cell? ⟨s, 0, none⟩ = some (.slice p1 a.length c1) ∧ W.cell? ⟨s, 1, none⟩ = some (.slice p2 b.length c2) ∧ W.cell? ⟨s + 1, 0, none⟩ = some (.slice p3 c.length c3) ∧ W.cell? ⟨s + 1, 1, none⟩ = some (.slice p4 d.length c4)) 13 [(0, 0), (1, 1), (2, 0), (3, 1), (5, 0), (6, 1), (7, 0), (8, 1), (4, 2), (9, 2), (10, 2), (11, 0), (12, 0), (13, 3), (14, 3)] (by kernel_rfl) (by kernel_rfl) (CK.out _ hcur) ?_
  repeat ((first | refine wpPlan_take (v := ?_) rfl (by rfl) (by (intro w hSw; clear hSw; go_simp; try with_reducible rfl)) (fun _ _ _ h => h) ?_ | refine wpPlan_load (v := ?_) rfl (by rfl) (by (intro w hSw; (try dsimp only at hSw); go_simp; try with_reducible rfl)) (fun _ _ _ h => h) ?_); try simp only [Act.put, List.setIfInBounds_toArray, List.set_cons_zero, List.set_cons_succ])
  refine wpPlan_call rfl (by rfl) (fun K hK => ?_)
  go_simp
  refine (KM1.out _ hcur).mono ?_; rintro e W2 ⟨u1, rfl, ho1, hb⟩; obtain ⟨mp1, mc1, rfl, -⟩ := ho1.rd; have hcur := hcur.trans (hb.mono hcur.size)
  refine hK _ _ (CK.out _ hcur) ?_
  clear hK K
  try simp only [Act.put, List.setIfInBounds_toArray, List.set_cons_zero, List.set_cons_succ]
  repeat ((first | refine wpPlan_take (v := ?_) rfl (by rfl) (by (intro w hSw; clear hSw; go_simp; try with_reducible rfl)) (fun _ _ _ h => h) ?_ | refine wpPlan_load (v := ?_) rfl (by rfl) (by (intro w hSw; (try dsimp only at hSw); go_simp; try with_reducible rfl)) (fun _ _ _ h => h) ?_); try simp only [Act.put, List.setIfInBounds_toArray, List.set_cons_zero, List.set_cons_succ])
  refine wpPlan_call rfl (by rfl) (fun K hK => ?_)
  go_simp
  refine (KM2.out _ hcur).mono ?_; rintro e W3 ⟨u2, rfl, ho2, hb⟩; obtain ⟨mp2, mc2, rfl, -⟩ := ho2.rd; have ho1 := ho1.below hb; have hsz2 := hcur.size; have hcur := hcur.trans (hb.mono hcur.size)
  refine hK _ _ (CK.out _ hcur) ?_
  clear hK K
  try simp only [Act.put, List.setIfInBounds_toArray, List.set_cons_zero, List.set_cons_succ]
  repeat ((first | refine wpPlan_take (v := ?_) rfl (by rfl) (by (intro w hSw; clear hSw; go_simp; try with_reducible rfl)) (fun _ _ _ h => h) ?_ | refine wpPlan_load (v := ?_) rfl (by rfl) (by (intro w hSw; (try dsimp only at hSw); go_simp; try with_reducible rfl)) (fun _ _ _ h => h) ?_); try simp only [Act.put, List.setIfInBounds_toArray, List.set_cons_zero, List.set_cons_succ])
  refine wpPlan_call rfl (by rfl) (fun K hK => ?_)
  go_simp
  refine (KT.out _ _ _ _ _).mono ?_; rintro e W4 ⟨rfl, hb⟩; have ho1 := ho1.below hb; have ho2 := ho2.below hb; have hcur := hcur.trans (hb.mono hcur.size)
  refine hK _ _ (CK.out _ hcur) ?_
  clear hK K
  try simp only [Act.put, List.setIfInBounds_toArray, List.set_cons_zero, List.set_cons_succ]
  have brW := BR.out _ hcur
  have d0 := brW.cell 0 rfl
  have d1 := brW.cell 1 rfl
  have df0 := brW.frozen 0
  have df1 := brW.frozen 1
  repeat ((first | refine wpPlan_take (v := ?_) rfl (by rfl) (by (intro w hSw; clear hSw; go_simp; try with_reducible rfl)) (fun _ _ _ h => h) ?_ | refine wpPlan_load (v := ?_) rfl (by rfl) (by (intro w hSw; (try dsimp only at hSw); go_simp; try with_reducible rfl)) (fun _ _ _ h => h) ?_); try simp only [Act.put, List.setIfInBounds_toArray, List.set_cons_zero, List.set_cons_succ])
  refine wpPlan_store rfl (by rfl) (fun K hK => ?_)
  go_simp
  refine hK _ _ ?_
  clear hK K
  try simp only [Act.put, List.setIfInBounds_toArray, List.set_cons_zero, List.set_cons_succ]
  refine wpPlan_store rfl (by rfl) (fun K hK => ?_)
  go_simp
  refine hK _ _ ?_
  clear hK K
  try simp only [Act.put, List.setIfInBounds_toArray, List.set_cons_zero, List.set_cons_succ]
  refine wpPlan_nil ?_
  go_wp2_with fail
  have hz1 := hw1.size
  have hzc := hcur.size
  have bxW := (brW.set 0 (.slice mp1 (mulL a c).length mc1)).set 1 (.slice mp2 (mulL b d).length mc2)
  have hbW := ((hw1.trans (hcur.mono hz1)).setCell (p := ⟨s + 1 + 1, 0, none⟩) hsw (.slice mp1 (mulL a c).length mc1)).setCell (p := ⟨s + 1 + 1, 1, none⟩) hsw (.slice mp2 (mulL b d).length mc2)
  have hu5 := ho1.keep (w' := (W4.setCell ⟨s + 1 + 1, 0, none⟩ (.slice mp1 (mulL a c).length mc1)).setCell ⟨s + 1 + 1, 1, none⟩ (.slice mp2 (mulL b d).length mc2)) fun k hk => by
    have := (ho1.lt hk).1
    have h2 : W1.heap.size ≤ k := this
    rw [Below.heap_setCell _ _ _ _ (show k ≠ s + 1 + 1 by omega), Below.heap_setCell _ _ _ _ (show k ≠ s + 1 + 1 by omega)]
  have hv5 := ho2.keep (w' := (W4.setCell ⟨s + 1 + 1, 0, none⟩ (.slice mp1 (mulL a c).length mc1)).setCell ⟨s + 1 + 1, 1, none⟩ (.slice mp2 (mulL b d).length mc2)) fun k hk => by
    have := (ho2.lt hk).1
    have h2 : W1.heap.size ≤ W2.heap.size := hsz2
    rw [Below.heap_setCell _ _ _ _ (show k ≠ s + 1 + 1 by omega), Below.heap_setCell _ _ _ _ (show k ≠ s + 1 + 1 by omega)]
  generalize (W4.setCell ⟨s + 1 + 1, 0, none⟩ (.slice mp1 (mulL a c).length mc1)).setCell ⟨s + 1 + 1, 1, none⟩ (.slice mp2 (mulL b d).length mc2) = W at *
  clear d0 d1 df0 df1
  have e0 := bxW.cell 0 rfl
  have e1 := bxW.cell 1 rfl
  refine bodyPost_ret (v := .tuple #[.agg #[.slice mp1 (mulL a c).length mc1, .slice mp2 (mulL b d).length mc2], .int .i64 0]) (by simp [results, Tryz.results7, go_sem, *]) rfl ?_
  exact ⟨_, rfl, ⟨_, _, rfl, hu5.mono (by have : W1.heap.size ≤ W1.drew.heap.size := Nat.le_refl _; omega), hv5.mono (by omega), P1.out.2.1, P2.out.2.1, P1.out.1, P2.out.1, HD1.out⟩, hbW⟩
end Go.Proofs.YtljlcbichimhaaaGreatDoor
