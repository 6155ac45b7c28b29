/-
  Transfer functions: equality by the program; another one with the same response, drawn.
-/
import Derived.Test.YtljlcbichimhaaaGreatDoorTtS
namespace Go.Proofs.YtljlcbichimhaaaGreatDoor
open Go.ChangeShapes Go.WideShapes Go.ChangeAt Go.RowKit Go.Sort
set_option linter.unusedVariables false
set_option linter.unusedSimpArgs false

set_option maxHeartbeats 2000000 in
theorem equalTransfers_any {x y : Value} {a b c d : List Int} (w : World) (h : RdT w x a b) (h' : RdT w y c d) :
    Calls Tryz.prog 17 #[x, y] w fun e w' => e = .returned (.bool (decide (mulL a d = mulL c b))) ∧ Below w.heap.size w w' := by
  obtain ⟨p1, c1, p2, c2, rfl, r1, r2, k1, k2, ha, hb, hb1⟩ := h
  obtain ⟨p3, c3, p4, c4, rfl, r3, r4, k3, k4, hc, hd, hd1⟩ := h'
  obtain ⟨E, hE⟩ : ∃ E, E = (w.alloc (.cells #[.slice p1 a.length c1, .slice p2 b.length c2] 26)).alloc (.cells #[.slice p3 c.length c3, .slice p4 d.length c4] 26) := ⟨_, rfl⟩
  obtain ⟨s, hs⟩ : ∃ s, s = w.heap.size := ⟨_, rfl⟩
  have hb0 : Below w.heap.size w E := by rw [hE]; exact ((Below.refl _ _).alloc (Nat.le_refl _) _).alloc (by simp) _
  have bs : Box E s [.slice p1 a.length c1, .slice p2 b.length c2] 26 := by rw [hE]; exact (Box.newAt w _ _ hs).alloc _
  have bt : Box E (s + 1) [.slice p3 c.length c3, .slice p4 d.length c4] 26 := by rw [hE]; exact Box.newAt _ _ _ (by simp [hs])
  obtain ⟨E2, hE2⟩ : ∃ E2, E2 = (E.alloc (.cells #[.slice p1 a.length c1, .slice p2 b.length c2, .slice p3 c.length c3, .slice p4 d.length c4] 26)).drew := ⟨_, rfl⟩
  have hcur : Below E.heap.size E E.drew := below_drew1 (Below.refl _ _)
  have hb2 : Below E.heap.size E E2 := by rw [hE2]; exact below_drew1 ((Below.refl _ _).alloc (Nat.le_refl _) _)
  obtain ⟨g5, hg5⟩ : ∃ g5, g5 = E.heap.size := ⟨_, rfl⟩
  have b4 : Box E2 g5 [.slice p1 a.length c1, .slice p2 b.length c2, .slice p3 c.length c3, .slice p4 d.length c4] 26 := by rw [hE2, hg5]; exact (Box.new E _ _).below (below_drew1 (Below.refl _ _))
  have hbw2 : Below w.heap.size w E2 := hb0.trans (hb2.mono hb0.size)
  have AT := Lib.hid (areTransfers_two E2 b4 (fun W hW => isTransfer_true W ((r1.below hbw2).below hW) ((r2.below hbw2).below hW) k1 k2 ha hb hb1) (fun W hW => isTransfer_true W ((r3.below hbw2).below hW) ((r4.below hbw2).below hW) k3 k4 hc hd hd1))
  have CK : Hid (∀ W, Below E.heap.size E W → W.cell? ⟨s, 0, none⟩ = some (.slice p1 a.length c1) ∧ W.cell? ⟨s, 1, none⟩ = some (.slice p2 b.length c2) ∧ W.cell? ⟨s + 1, 0, none⟩ = some (.slice p3 c.length c3) ∧ W.cell? ⟨s + 1, 1, none⟩ = some (.slice p4 d.length c4)) := fun W hW => ⟨(bs.below hW).cell 0 rfl, (bs.below hW).cell 1 rfl, (bt.below hW).cell 0 rfl, (bt.below hW).cell 1 rfl⟩
  have KM1 := Lib.hid (fun W (hW : Below E.heap.size E W) => mulPolyI_any (c := c1) (d := c4) W ((r1.below hb0).below hW) ((r4.below hb0).below hW) ha.2.2 hd.2.2)
  have KM2 := Lib.hid (fun W (hW : Below E.heap.size E W) => mulPolyI_any (c := c3) (d := c2) W ((r3.below hb0).below hW) ((r2.below hb0).below hW) hc.2.2 hb.2.2)
  have HE := Lib.hid hE
  have HE2 := Lib.hid hE2
  have HS := Lib.hid hs
  have HG5 := Lib.hid hg5
  have hgE : E.heap.size ≤ g5 := by omega
  clear hE hE2 hs hg5 bs bt r1 r2 r3 r4 b4 ha hb hc hd hb1 hd1 hbw2 k1 k2 k3 k4
  generalize mulL a d = M1 at *
  generalize mulL c b = M2 at *
  go_enter Tryz.func17, Tryz.ntmps17
  go_upto_region 1 with fail
  try simp only [heap_size_alloc]
  rw [← HE.out, ← HS.out]
  refine wp_region_plan (fun W => W.cell? ⟨s, 0, none⟩ = some (.slice p1 a.length c1) ∧ W.cell? ⟨s, 1, none⟩ = some (.slice p2 b.length c2) ∧ W.cell? ⟨s + 1, 0, none⟩ = some (.slice p3 c.length c3) ∧ W.cell? ⟨s + 1, 1, none⟩ = some (.slice p4 d.length c4)) 17 [(0, 1), (1, 1), (2, 2), (3, 2), (4, 0), (5, 0), (6, 1), (7, 0), (8, 1), (10, 0), (11, 1), (12, 0), (13, 1), (9, 2), (14, 2), (15, 2), (16, 0), (17, 3)] (by kernel_rfl) (by kernel_rfl) (CK.out _ hcur) ?_
  repeat ((first | refine wpPlan_take (v := ?_) rfl (by rfl) (by (intro w hSw; clear hSw; go_simp; try with_reducible rfl)) (fun _ _ _ h => h) ?_ | refine wpPlan_load (v := ?_) rfl (by rfl) (by (intro w hSw; (try dsimp only at hSw); go_simp; try with_reducible rfl)) (fun _ _ _ h => h) ?_); try simp only [Act.put, List.setIfInBounds_toArray, List.set_cons_zero, List.set_cons_succ])
  refine wpPlan_call rfl (by rfl) (fun K hK => ?_)
  go_simp
  skip
  refine hK _ _ (CK.out _ (by first | exact hb2 | exact below_drew1 ((Below.refl _ _).alloc (Nat.le_refl _) _))) ?_
  clear hK K
  try simp only [Act.put, List.setIfInBounds_toArray, List.set_cons_zero, List.set_cons_succ]
  rw [← HE2.out, ← HG5.out]
  refine wpPlan_call rfl (by rfl) (fun K hK => ?_)
  go_simp
  refine AT.out.mono ?_; rintro e W1 ⟨rfl, hb3⟩; have hcur := hb2.trans (hb3.mono hb2.size)
  refine hK _ _ (CK.out _ hcur) ?_
  clear hK K
  try simp only [Act.put, List.setIfInBounds_toArray, List.set_cons_zero, List.set_cons_succ]
  repeat ((first | refine wpPlan_take (v := ?_) rfl (by rfl) (by (intro w hSw; clear hSw; go_simp; try with_reducible rfl)) (fun _ _ _ h => h) ?_ | refine wpPlan_load (v := ?_) rfl (by rfl) (by (intro w hSw; (try dsimp only at hSw); go_simp; try with_reducible rfl)) (fun _ _ _ h => h) ?_); try simp only [List.getElem_toArray, List.getElem_cons_succ, List.getElem_cons_zero, Act.put, List.setIfInBounds_toArray, List.set_cons_zero, List.set_cons_succ])
  refine wpPlan_call rfl (by rfl) (fun K hK => ?_)
  go_simp
  refine (KM1.out _ hcur).mono ?_; rintro e W2 ⟨u1, rfl, ho1, hb⟩; obtain ⟨mp1, mc1, rfl, -⟩ := ho1.rd; have hcur := hcur.trans (hb.mono hcur.size)
  refine hK _ _ (CK.out _ hcur) ?_
  clear hK K
  try simp only [Act.put, List.setIfInBounds_toArray, List.set_cons_zero, List.set_cons_succ]
  repeat ((first | refine wpPlan_take (v := ?_) rfl (by rfl) (by (intro w hSw; clear hSw; go_simp; try with_reducible rfl)) (fun _ _ _ h => h) ?_ | refine wpPlan_load (v := ?_) rfl (by rfl) (by (intro w hSw; (try dsimp only at hSw); go_simp; try with_reducible rfl)) (fun _ _ _ h => h) ?_); try simp only [List.getElem_toArray, List.getElem_cons_succ, List.getElem_cons_zero, Act.put, List.setIfInBounds_toArray, List.set_cons_zero, List.set_cons_succ])
  refine wpPlan_call rfl (by rfl) (fun K hK => ?_)
  go_simp
  refine (KM2.out _ hcur).mono ?_; rintro e W3 ⟨u2, rfl, ho2, hb⟩; obtain ⟨mp2, mc2, rfl, hm2⟩ := ho2.rd; have ho1 := ho1.below hb; have hcur := hcur.trans (hb.mono hcur.size)
  refine hK _ _ (CK.out _ hcur) ?_
  clear hK K
  try simp only [Act.put, List.setIfInBounds_toArray, List.set_cons_zero, List.set_cons_succ]
  refine wpPlan_call rfl (by rfl) (fun K hK => ?_)
  go_simp
  refine (same_any (c := mc1) (d := mc2) _ ho1.rdAt.2 hm2).mono ?_; rintro e W4 ⟨rfl, hw4⟩; obtain rfl := hw4
  refine hK _ _ (CK.out _ hcur) ?_
  clear hK K
  try simp only [Act.put, List.setIfInBounds_toArray, List.set_cons_zero, List.set_cons_succ]
  repeat ((first | refine wpPlan_take (v := ?_) rfl (by rfl) (by (intro w hSw; clear hSw; go_simp; try with_reducible rfl)) (fun _ _ _ h => h) ?_ | refine wpPlan_load (v := ?_) rfl (by rfl) (by (intro w hSw; (try dsimp only at hSw); go_simp; try with_reducible rfl)) (fun _ _ _ h => h) ?_); try simp only [List.getElem_toArray, List.getElem_cons_succ, List.getElem_cons_zero, Act.put, List.setIfInBounds_toArray, List.set_cons_zero, List.set_cons_succ])
  refine wpPlan_store rfl (by rfl) (fun K hK => ?_)
  go_simp
  refine hK _ _ ?_
  clear hK K
  try simp only [Act.put, List.setIfInBounds_toArray, List.set_cons_zero, List.set_cons_succ]
  refine wpPlan_nil ?_
  go_wp2_with fail
  go_ret
  exact ⟨rfl, hb0.trans (hcur.mono hb0.size)⟩
set_option maxHeartbeats 2000000 in
theorem l05Like_any {F w : World} {g m h : Nat} {p q : Option Addr} {c d : Nat} {ys zs : List Int} (hF : Below F.heap.size F w) (hg : F.heap.size ≤ g) (hs : SrcAt w g m) (hm : m + 2000 ≤ 1099511627776)
    (hb : Box F h [.slice p ys.length c, .slice q zs.length d] 26) (hx : RdT F (.agg #[.slice p ys.length c, .slice q zs.length d]) ys zs) (hl1 : ys.length ≤ 5) (hl2 : zs.length ≤ 5) :
    Calls Tryz.prog 36 #[.pointer (some ⟨g, 0, none⟩), .pointer (some ⟨h, 0, none⟩)] w fun e w' => ∃ x k, e = .returned x ∧ 1 ≤ k.length ∧ k.length ≤ 3 ∧ k.getD 0 0 = 1 ∧ OwnT w.heap.size w' x (mulL ys k) (mulL zs k) ∧ Below F.heap.size F w' := by
  obtain ⟨p', c', q', d', e, r1, r2, k1, k2, h1, h2, h3⟩ := hx
  simp only [Value.agg.injEq, Array.mk.injEq, List.cons.injEq, and_true, Value.slice.injEq, true_and] at e
  obtain ⟨⟨rfl, rfl⟩, rfl, rfl⟩ := e
  obtain ⟨E, hE⟩ : ∃ E, E = w.alloc (.cells #[.slice none 0 0, .slice none 0 0] 26) := ⟨_, rfl⟩
  obtain ⟨r, hr⟩ : ∃ r, r = w.heap.size := ⟨_, rfl⟩
  have hb0 : Below w.heap.size w E := by rw [hE]; exact (Below.refl _ _).alloc (Nat.le_refl _) _
  have bx0 : Box E r [.slice none 0 0, .slice none 0 0] 26 := by rw [hE]; exact Box.newAt w _ _ hr
  have hs0 := hs.below hb0
  have hgw := hs.lt
  have hz0 := hF.size
  have hz1 := hb0.size
  have hrE : r < E.heap.size := bx0.lt
  have HE := Lib.hid hE
  have HR := Lib.hid hr
  clear hE hr hs
  go_enter Tryz.func36, Tryz.ntmps36
  go_upto_region 1 with fail
  rw [← HE.out, ← HR.out]
  go_upto_region 2 with (first | (go_at_call 42; refine (l04Draw_any 2 E hs0 (by omega) (by omega)).mono ?_; rintro e w1 ⟨u, xs, rfl, hc1, ha1, hlx, ho1, hs1, hf1⟩) | fail)
  rcases ho1.cases with ⟨-, h0⟩ | ⟨k, c2, rfl, hk1, hk2, -, -⟩
  · exact absurd hc1.1 (by rw [h0]; simp)
  have hzl : 0 < xs.length := hc1.1
  obtain ⟨-, -, hkl, hkc, hkf, hkset⟩ := ho1.storing (k := 0) hzl
  have hgr : g ≠ r := by rw [HR.out]; omega
  have br1 := bx0.off hf1 (fun h => hgr h.symm)
  have hzE := hf1.size
  have hF1 : Below F.heap.size F w1 := (hF.trans (hb0.mono hz0)).trans (hf1.below (B := F.heap.size) (fun k hk => by have : k = g := hk; omega) (by omega))
  have hsE : E.heap.size ≤ k := hk1
  obtain ⟨X, hX⟩ : ∃ X, X = xs.set 0 1 := ⟨_, rfl⟩
  have hXl : X.length = xs.length := by rw [hX, List.length_set]
  have hX1 : X.getD 0 0 = 1 := by rw [hX, List.getD_eq_getElem?_getD, List.getElem?_set_self hzl]; rfl
  have hset := hkset 1
  rw [← hX, ← hXl] at hset
  have hF2 : Below F.heap.size F (w1.setCell ⟨k, 0, none⟩ (.int .i64 1)) := hF1.setCell (p := ⟨k, 0, none⟩) (by show F.heap.size ≤ k; omega) _
  have br2 := br1.other (a := ⟨k, 0, none⟩) (show r ≠ k by omega) (.int .i64 1)
  have hw2 : (w1.setCell ⟨k, 0, none⟩ (.int .i64 1)).heap.size = w1.heap.size := by simp
  have hck : w1.cell? ⟨k, 0, none⟩ = some (.int .i64 xs[0]) := hkc
  have hX3 : X.length ≤ 3 := by omega
  have hX0 : 1 ≤ X.length := by omega
  have hX65 : 0 < X.length := by omega
  generalize xs[0] = x0 at hck
  clear hkc hkset ho1 hs0 bx0
  rw [← hXl]
  clear hXl hlx
  go_upto_region 3 with fail
  generalize w1.setCell ⟨k, 0, none⟩ (.int .i64 1) = G at *
  have hwG : w.heap.size ≤ G.heap.size := by omega
  have hrw : w.heap.size ≤ r := by rw [HR.out]; exact Nat.le_refl _
  have hrG : r < G.heap.size := br2.lt
  have CK : Hid (∀ W, Below G.heap.size G W → W.cell? ⟨h, 0, none⟩ = some (.slice p ys.length c) ∧ W.cell? ⟨h, 1, none⟩ = some (.slice q zs.length d)) := fun W hW => ⟨(hb.below (hF2.trans (hW.mono hF2.size))).cell 0 rfl, (hb.below (hF2.trans (hW.mono hF2.size))).cell 1 rfl⟩
  have BR := Lib.hid (fun W (hW : Below G.heap.size G W) => br2.below hW)
  have KM1 := Lib.hid (fun W (hW : Below G.heap.size G W) => l04Mul_any (c := c) (d := c2) W (r1.below (hF2.trans (hW.mono hF2.size))) (hset.rdAt.2.below hW) h1.1.1 hX0 (by omega) (by omega))
  have KM2 := Lib.hid (fun W (hW : Below G.heap.size G W) => l04Mul_any (c := d) (d := c2) W (r2.below (hF2.trans (hW.mono hF2.size))) (hset.rdAt.2.below hW) h2.1.1 hX0 (by omega) (by omega))
  have P1 := Lib.hid (show PolyV (mulL ys X) from mulL_poly (by omega))
  have P2 := Lib.hid (show PolyV (mulL zs X) from mulL_poly (by omega))
  have HD1 := Lib.hid (mul_one0 h3 hX1)
  have hcur := below_drew1 (Below.refl G.heap.size G)
  clear br1 br2 hset hb r1 r2 k1 k2 h1 h2 h3 hck hX hc1 ha1 hf1 hs1 hkl
  refine wp_region_plan (fun W => W.cell? ⟨h, 0, none⟩ = some (.slice p ys.length c) ∧ W.cell? ⟨h, 1, none⟩ = some (.slice q zs.length d)) 13 [(0, 0), (1, 0), (2, 0), (3, 1), (4, 0), (6, 0), (7, 0), (8, 0), (9, 1), (10, 0), (5, 2), (11, 2), (12, 0), (13, 3)] (by kernel_rfl) (by kernel_rfl) (CK.out _ hcur) ?_
  repeat ((first | refine wpPlan_take (v := ?_) rfl (by rfl) (by (intro w hSw; clear hSw; go_simp; try with_reducible rfl)) (fun _ _ _ h => h) ?_ | refine wpPlan_load (v := ?_) rfl (by rfl) (by (intro w hSw; (try dsimp only at hSw); go_simp; try with_reducible rfl)) (fun _ _ _ h => h) ?_); try simp only [List.getElem_toArray, List.getElem_cons_succ, List.getElem_cons_zero, Act.put, List.setIfInBounds_toArray, List.set_cons_zero, List.set_cons_succ])
  refine wpPlan_call rfl (by rfl) (fun K hK => ?_)
  go_simp
  refine (KM1.out _ hcur).mono ?_; rintro e W2 ⟨u1, rfl, ho1, hb⟩; obtain ⟨mp1, mc1, rfl, -⟩ := ho1.rd; have hcur := hcur.trans (hb.mono hcur.size)
  refine hK _ _ (CK.out _ hcur) ?_
  clear hK K
  try simp only [Act.put, List.setIfInBounds_toArray, List.set_cons_zero, List.set_cons_succ]
  repeat ((first | refine wpPlan_take (v := ?_) rfl (by rfl) (by (intro w hSw; clear hSw; go_simp; try with_reducible rfl)) (fun _ _ _ h => h) ?_ | refine wpPlan_load (v := ?_) rfl (by rfl) (by (intro w hSw; (try dsimp only at hSw); go_simp; try with_reducible rfl)) (fun _ _ _ h => h) ?_); try simp only [List.getElem_toArray, List.getElem_cons_succ, List.getElem_cons_zero, Act.put, List.setIfInBounds_toArray, List.set_cons_zero, List.set_cons_succ])
  refine wpPlan_call rfl (by rfl) (fun K hK => ?_)
  go_simp
  refine (KM2.out _ hcur).mono ?_; rintro e W3 ⟨u2, rfl, ho2, hb⟩; obtain ⟨mp2, mc2, rfl, -⟩ := ho2.rd; have ho1 := ho1.below hb; have hsz2 := hcur.size; have hcur := hcur.trans (hb.mono hcur.size)
  refine hK _ _ (CK.out _ hcur) ?_
  clear hK K
  try simp only [Act.put, List.setIfInBounds_toArray, List.set_cons_zero, List.set_cons_succ]
  have brW := BR.out _ hcur
  have d0 := brW.cell 0 rfl
  have d1 := brW.cell 1 rfl
  have df0 := brW.frozen 0
  have df1 := brW.frozen 1
  repeat ((first | refine wpPlan_take (v := ?_) rfl (by rfl) (by (intro w hSw; clear hSw; go_simp; try with_reducible rfl)) (fun _ _ _ h => h) ?_ | refine wpPlan_load (v := ?_) rfl (by rfl) (by (intro w hSw; (try dsimp only at hSw); go_simp; try with_reducible rfl)) (fun _ _ _ h => h) ?_); try simp only [List.getElem_toArray, List.getElem_cons_succ, List.getElem_cons_zero, Act.put, List.setIfInBounds_toArray, List.set_cons_zero, List.set_cons_succ])
  refine wpPlan_store rfl (by rfl) (fun K hK => ?_)
  go_simp
  refine hK _ _ ?_
  clear hK K
  try simp only [Act.put, List.setIfInBounds_toArray, List.set_cons_zero, List.set_cons_succ]
  refine wpPlan_nil ?_
  go_wp2_with fail
  have hzc := hcur.size
  have bxW := (brW.set 0 (.slice mp1 (mulL ys X).length mc1)).set 1 (.slice mp2 (mulL zs X).length mc2)
  have hbW := ((hF2.trans (hcur.mono hF2.size)).setCell (p := ⟨r, 0, none⟩) (by show F.heap.size ≤ r; omega) (.slice mp1 (mulL ys X).length mc1)).setCell (p := ⟨r, 1, none⟩) (by show F.heap.size ≤ r; omega) (.slice mp2 (mulL zs X).length mc2)
  have hGd : G.drew.heap.size = G.heap.size := rfl
  have hu5 := ho1.keep (w' := (W3.setCell ⟨r, 0, none⟩ (.slice mp1 (mulL ys X).length mc1)).setCell ⟨r, 1, none⟩ (.slice mp2 (mulL zs X).length mc2)) fun k hk => by
    have := (ho1.lt hk).1
    rw [Below.heap_setCell _ _ _ _ (show k ≠ r by omega), Below.heap_setCell _ _ _ _ (show k ≠ r by omega)]
  have hv5 := ho2.keep (w' := (W3.setCell ⟨r, 0, none⟩ (.slice mp1 (mulL ys X).length mc1)).setCell ⟨r, 1, none⟩ (.slice mp2 (mulL zs X).length mc2)) fun k hk => by
    have := (ho2.lt hk).1
    rw [Below.heap_setCell _ _ _ _ (show k ≠ r by omega), Below.heap_setCell _ _ _ _ (show k ≠ r by omega)]
  have hs2 : G.heap.size ≤ W2.heap.size := hsz2
  generalize (W3.setCell ⟨r, 0, none⟩ (.slice mp1 (mulL ys X).length mc1)).setCell ⟨r, 1, none⟩ (.slice mp2 (mulL zs X).length mc2) = W at *
  clear d0 d1 df0 df1
  have e0 := bxW.cell 0 rfl
  have e1 := bxW.cell 1 rfl
  refine bodyPost_ret (v := .agg #[.slice mp1 (mulL ys X).length mc1, .slice mp2 (mulL zs X).length mc2]) (by simp [results, Tryz.results36, go_sem, *]) rfl ?_
  exact ⟨_, X, rfl, hX0, hX3, hX1, ⟨_, _, rfl, hu5.mono (by omega), hv5.mono (by omega), P1.out.2.1, P2.out.2.1, P1.out.1, P2.out.1, HD1.out⟩, hbW⟩
set_option maxHeartbeats 1000000 in
theorem e8Alike_any {v x : Value} {bs ys zs : List Int} (w : World) (h : VB w v bs) (hl : bs.length ≤ 1048576) (hx : RdT w x ys zs) (hl1 : ys.length ≤ 5) (hl2 : zs.length ≤ 5) :
    Calls Tryz.prog 14 #[v, x] w fun e w' => ∃ x' k, e = .returned x' ∧ 1 ≤ k.length ∧ k.length ≤ 3 ∧ k.getD 0 0 = 1 ∧ OwnT w.heap.size w' x' (mulL ys k) (mulL zs k) ∧ Below w.heap.size w w' := by
  obtain ⟨pv, cv0, rfl, hr0⟩ := h
  have hx' := hx
  obtain ⟨p, c, q, d, rfl, -⟩ := hx'
  obtain ⟨E, hE⟩ : ∃ E, E = (w.alloc (.cells #[.slice p ys.length c, .slice q zs.length d] 26)).alloc (.cells #[.slice none 0 0, .slice none 0 0] 26) := ⟨_, rfl⟩
  obtain ⟨s, hs⟩ : ∃ s, s = w.heap.size := ⟨_, rfl⟩
  have hb0 : Below w.heap.size w E := by rw [hE]; exact ((Below.refl _ _).alloc (Nat.le_refl _) _).alloc (by simp) _
  have bs0 : Box E s [.slice p ys.length c, .slice q zs.length d] 26 := by rw [hE]; exact (Box.newAt w _ _ hs).alloc _
  have br0 : Box E (s + 1) [.slice none 0 0, .slice none 0 0] 26 := by rw [hE]; exact Box.newAt _ _ _ (by simp [hs])
  have FR := Lib.hid (l00From_any (c := cv0) E (hr0.below hb0) hl)
  have hxE := hx.below hb0
  have hz0 := hb0.size
  have HE := Lib.hid hE
  have HS := Lib.hid hs
  have hsw : w.heap.size ≤ s + 1 := by omega
  clear hE hs hr0 hx
  go_enter Tryz.func14, Tryz.ntmps14
  go_upto_region 1 with fail
  try simp only [heap_size_alloc]
  rw [← HE.out, ← HS.out]
  go_wp2_with fail
  refine FR.out.mono ?_
  rintro e w1 ⟨rfl, hs1, hb1⟩
  have br1 := br0.below hb1
  have hz1 := hb1.size
  go_wp2_with fail
  refine (l05Like_any (F := E) hb1 (Nat.le_refl _) hs1 (by omega) bs0 hxE hl1 hl2).mono ?_
  rintro e w2 ⟨x', k, rfl, hk1, hk3, hk0, ⟨u, v, rfl, hu, hv, t1, t2, t3, t4, t5⟩, hb2⟩
  obtain ⟨p1, c1, rfl, -⟩ := hu.rd
  obtain ⟨p2, c2, rfl, -⟩ := hv.rd
  have br2 := br0.below hb2
  have d0 := br2.cell 0 rfl
  have d1 := br2.cell 1 rfl
  have df0 := br2.frozen 0
  have df1 := br2.frozen 1
  have hrl := br1.lt
  go_wp2_with fail
  have hbW := ((hb0.trans (hb2.mono hz0)).setCell (p := ⟨s + 1, 0, none⟩) hsw (.slice p1 (mulL ys k).length c1)).setCell (p := ⟨s + 1, 1, none⟩) hsw (.slice p2 (mulL zs k).length c2)
  have bxW := (br2.set 0 (.slice p1 (mulL ys k).length c1)).set 1 (.slice p2 (mulL zs k).length c2)
  have hu5 := hu.keep (w' := (w2.setCell ⟨s + 1, 0, none⟩ (.slice p1 (mulL ys k).length c1)).setCell ⟨s + 1, 1, none⟩ (.slice p2 (mulL zs k).length c2)) fun b hb => by
    have := (hu.lt hb).1
    rw [Below.heap_setCell _ _ _ _ (show b ≠ s + 1 by omega), Below.heap_setCell _ _ _ _ (show b ≠ s + 1 by omega)]
  have hv5 := hv.keep (w' := (w2.setCell ⟨s + 1, 0, none⟩ (.slice p1 (mulL ys k).length c1)).setCell ⟨s + 1, 1, none⟩ (.slice p2 (mulL zs k).length c2)) fun b hb => by
    have := (hv.lt hb).1
    rw [Below.heap_setCell _ _ _ _ (show b ≠ s + 1 by omega), Below.heap_setCell _ _ _ _ (show b ≠ s + 1 by omega)]
  generalize (w2.setCell ⟨s + 1, 0, none⟩ (.slice p1 (mulL ys k).length c1)).setCell ⟨s + 1, 1, none⟩ (.slice p2 (mulL zs k).length c2) = W at *
  clear d0 d1 df0 df1
  have e0 := bxW.cell 0 rfl
  have e1 := bxW.cell 1 rfl
  refine bodyPost_ret (v := .agg #[.slice p1 (mulL ys k).length c1, .slice p2 (mulL zs k).length c2]) (by simp [results, Tryz.results14, go_sem, *]) rfl ?_
  exact ⟨_, k, rfl, hk1, hk3, hk0, ⟨_, _, rfl, hu5.mono (by omega), hv5.mono (by omega), t1, t2, t3, t4, t5⟩, hbW⟩
end Go.Proofs.YtljlcbichimhaaaGreatDoor
