/-
  The walk of the law on transfer functions.
-/
import Derived.Test.YtljlcbichimhaaaGreatDoorTtR
namespace Go.Proofs.YtljlcbichimhaaaGreatDoor
open Go.ChangeShapes Go.WideShapes Go.ChangeAt Go.RowKit Go.Sort
set_option linter.unusedVariables false
set_option linter.unusedSimpArgs false

theorem OwnT.belowT {B : Nat} {w w' : World} {x : Value} {ys zs : List Int} (h : OwnT B w x ys zs) (hb : Below w.heap.size w w') : OwnT B w' x ys zs := by
  obtain ⟨u, v, e, h1, h2, h3⟩ := h
  exact ⟨u, v, e, h1.below hb, h2.below hb, h3⟩
theorem OwnT.sl {B : Nat} {w : World} {x : Value} {ys zs : List Int} (h : OwnT B w x ys zs) : ∃ p c q d, x = .agg #[.slice p ys.length c, .slice q zs.length d] := by
  obtain ⟨u, v, e, h1, h2, -⟩ := h
  obtain ⟨p, c, rfl, -⟩ := h1.rd
  obtain ⟨q, d, rfl, -⟩ := h2.rd
  exact ⟨p, c, q, d, e⟩
theorem OwnT.den {B : Nat} {w : World} {x : Value} {ys zs : List Int} (h : OwnT B w x ys zs) : 0 < zs.length ∧ zs.getD 0 0 = 1 ∧ Canon ys ∧ Canon zs ∧ AllS ys ∧ AllS zs := by
  obtain ⟨u, v, e, h1, h2, h3, h4, h5, h6, h7⟩ := h
  exact ⟨h6.1, h7, h5, h6, h3, h4⟩
theorem v8Same_eqT {u v : Value} {xs ys : List Int} (w : World) (h : RdP w u xs) (h' : RdP w v ys) (he : xs = ys) (hl : xs.length ≤ 1048576) :
    Calls Tryz.prog 12 #[u, v] w fun e w' => e = .returned (.bool true) ∧ Below w.heap.size w w' := by
  subst he
  obtain ⟨p, c, rfl, hr, -⟩ := h
  obtain ⟨q, d, rfl, hr', -⟩ := h'
  exact v8Same_true w hr hr' hl
theorem v8Same_neT {u v : Value} {xs ys : List Int} (w : World) (h : RdP w u xs) (h' : RdP w v ys) (hl2 : ys.length = xs.length) (he : xs ≠ ys) (hl : xs.length ≤ 1048576) :
    Calls Tryz.prog 12 #[u, v] w fun e w' => e = .returned (.bool false) ∧ Below w.heap.size w w' := by
  obtain ⟨p, c, rfl, hr, -⟩ := h
  obtain ⟨q, d, rfl, hr', -⟩ := h'
  exact v8Same_false w hr hr' hl2 he hl
theorem gd_mul (a b : List Int) (i : Nat) : smp (gd (mulL a b) i) = smp (cv (gd a) (gd b) i) := by unfold gd; rw [mulL_get, smp_smp]
/-- the same response: the products across are alike -/
theorem resp_iff {a b c d : List Int} (hb : 0 < b.length) (hb1 : b.getD 0 0 = 1) (hd : 0 < d.length) (hd1 : d.getD 0 0 = 1) (hl1 : a.length + d.length ≤ 100) (hl2 : c.length + b.length ≤ 100) (ha : 1 ≤ a.length) (hc : 1 ≤ c.length) :
    respL a b 129 = respL c d 129 ↔ mulL a d = mulL c b := by
  constructor
  · intro h
    refine canon_ext (trimL_canon _) (trimL_canon _) fun j => ?_
    by_cases hj : j < 129
    · rw [mulL_get, mulL_get]
      exact resp_diff hb hb1 hd hd1 h j hj
    · have h1 := mulL_len a d ha
      have h2 := mulL_len c b hc
      rw [List.getD_eq_getElem?_getD, List.getD_eq_getElem?_getD, List.getElem?_eq_none (by omega), List.getElem?_eq_none (by omega)]
  · intro h
    refine resp_same 129 hb hb1 hd hd1 fun i _ => ?_
    rw [← gd_mul, ← gd_mul, h]
/-- both parts times one polynomial -/
theorem like_eq (a b k : List Int) : mulL a (mulL b k) = mulL (mulL a k) b := by
  refine canon_ext (trimL_canon _) (trimL_canon _) fun j => ?_
  rw [mulL_get, mulL_get]
  show smp (cv (gd a) (gd (mulL b k)) j) = smp (cv (gd (mulL a k)) (gd b) j)
  rw [cv_right (gd a) j fun i _ => gd_mul b k i, cv_left (gd b) j fun i _ => gd_mul a k i, cv_assoc]
  have : cv (gd b) (gd k) = cv (gd k) (gd b) := funext (cv_comm _ _)
  rw [this]
set_option maxHeartbeats 8000000 in
set_option maxRecDepth 100000 in
theorem fnTransfers_walk (w : World) {v0 : Value} {bs0 : List Int} (h0 : VB w v0 bs0) (hm0 : bs0.length ≤ maxLen) {v1 : Value} {bs1 : List Int} (h1 : VB w v1 bs1) (hm1 : bs1.length ≤ maxLen) (hT : TxtT w) (hE : TxtE w) (hC : TxtC w) :
    Calls Tryz.prog 3 #[v0, v1] w fun e w' => e = .returned (.bool true) ∧ Below w.heap.size w w' := by
  have hv0 := h0
  obtain ⟨p0, c0, rfl, -⟩ := hv0
  have hv1 := h1
  obtain ⟨p1, c1, rfl, -⟩ := hv1
  have LG := Lib.hid (v8Long_any p0 p1 bs0.length bs1.length c0 c1 w hm0 hm1)
  by_cases hl : ((1048576 : Int) < (bs0.length : Int)) ∨ ((1048576 : Int) < (bs1.length : Int))
  · have e : (decide ((1048576 : Int) < (bs0.length : Int)) || decide ((1048576 : Int) < (bs1.length : Int))) = true := by
      rw [Bool.or_eq_true, decide_eq_true_iff, decide_eq_true_iff]; exact hl
    rw [e] at LG
    clear hl e
    go_enter Tryz.func3, Tryz.ntmps3
    go_wp2_with (go_at_call 4; refine LG.out.mono ?_; rintro e w' ⟨rfl, rfl⟩)
    go_ret
    exact ⟨rfl, Below.refl _ _⟩
  have e : (decide ((1048576 : Int) < (bs0.length : Int)) || decide ((1048576 : Int) < (bs1.length : Int))) = false := by
    rw [Bool.or_eq_false_iff, decide_eq_false_iff_not, decide_eq_false_iff_not]; exact not_or.1 hl
  rw [e] at LG
  have l0 : bs0.length ≤ 1048576 := by omega
  have l1 : bs1.length ≤ 1048576 := by omega
  clear hl e hm0 hm1
  have hB : Below w.heap.size w w := Below.refl _ _
  have HT := Lib.hid hT
  have HE := Lib.hid hE
  have HC := Lib.hid hC
  clear hT hE hC
  go_enter Tryz.func3, Tryz.ntmps3
  go_wp2_with fail
  refine LG.out.mono ?_
  rintro e w' ⟨rfl, rfl⟩
  clear LG
  go_wp2_with fail
  refine (e8Transfer_any w h0 l0).mono ?_
  rintro e D1 ⟨tx, tp, td, rfl, ot, tpl, tdl, hb⟩
  clear h0 l0
  replace h1 := h1.below hb
  replace hB := hB.trans (hb.mono hB.size)
  clear hb
  obtain ⟨ap, ac, aq, ad, rfl⟩ := ot.sl
  obtain ⟨E1, hE⟩ : ∃ E, E = D1.alloc (.cells #[.slice ap tp.length ac, .slice aq td.length ad] 26) := ⟨_, rfl⟩
  obtain ⟨g5, hg⟩ : ∃ g, g = D1.heap.size := ⟨_, rfl⟩
  have hb : Below D1.heap.size D1 E1 := by rw [hE]; exact (Below.refl _ _).alloc (Nat.le_refl _) _
  have b5 : Box E1 g5 [.slice ap tp.length ac, .slice aq td.length ad] 26 := by rw [hE]; exact Box.newAt D1 _ _ hg
  have HE5 := Lib.hid hE
  have HG5 := Lib.hid hg
  clear hE hg
  replace h1 := h1.below hb
  replace ot := ot.belowT hb
  replace hB := hB.trans (hb.mono hB.size)
  clear hb
  go_upto_region 4 with fail
  rw [← HE5.out, ← HG5.out]
  clear HE5 HG5
  go_wp2_with fail
  refine (e8Transfer_any E1 h1 l1).mono ?_
  rintro e D2 ⟨ty, bp, bd, rfl, ob, bpl, bdl, hb⟩
  replace h1 := h1.below hb
  replace ot := ot.belowT hb
  replace b5 := b5.below hb
  replace hB := hB.trans (hb.mono hB.size)
  clear hb
  obtain ⟨bap, bac, baq, bad, rfl⟩ := ob.sl
  obtain ⟨E2, hE⟩ : ∃ E, E = D2.alloc (.cells #[.slice bap bp.length bac, .slice baq bd.length bad] 26) := ⟨_, rfl⟩
  obtain ⟨g6, hg⟩ : ∃ g, g = D2.heap.size := ⟨_, rfl⟩
  have hb : Below D2.heap.size D2 E2 := by rw [hE]; exact (Below.refl _ _).alloc (Nat.le_refl _) _
  have b6 : Box E2 g6 [.slice bap bp.length bac, .slice baq bd.length bad] 26 := by rw [hE]; exact Box.newAt D2 _ _ hg
  have HE6 := Lib.hid hE
  have HG6 := Lib.hid hg
  clear hE hg
  replace h1 := h1.below hb
  replace ot := ot.belowT hb
  replace b5 := b5.below hb
  replace ob := ob.belowT hb
  replace hB := hB.trans (hb.mono hB.size)
  clear hb
  go_upto_region 5 with fail
  rw [← HE6.out, ← HG6.out]
  clear HE6 HG6
  go_wp2_with fail
  refine (e8Signal_any 20 E2 h1 l1 (by omega)).mono ?_
  rintro e D3 ⟨ux, x, rfl, xa, xl, o, hb⟩
  replace h1 := h1.below hb
  replace ot := ot.belowT hb
  replace b5 := b5.below hb
  replace ob := ob.belowT hb
  replace b6 := b6.below hb
  replace hB := hB.trans (hb.mono hB.size)
  clear hb
  have rx := o.rdP
  clear o
  have HXA := Lib.hid xa
  clear xa
  have tpc := ot.den
  have bpc := ob.den
  have z0b5 := b5.cell 0 rfl
  have z1b5 := b5.cell 1 rfl
  have z0b6 := b6.cell 0 rfl
  have z1b6 := b6.cell 1 rfl
  go_wp2_with fail
  clear z0b5 z1b5
  clear z0b6 z1b6
  refine (cascade_any D3 (ot.rdT (by omega) (by omega)) (ob.rdT (by omega) (by omega)) (by omega) (by omega)).mono ?_
  rintro e D4 ⟨cv1, rfl, oc, hb⟩
  replace h1 := h1.below hb
  replace ot := ot.belowT hb
  replace b5 := b5.below hb
  replace ob := ob.belowT hb
  replace b6 := b6.below hb
  replace rx := rx.below hb
  replace hB := hB.trans (hb.mono hB.size)
  clear hb
  obtain ⟨cp, cc, cq, cd, rfl⟩ := oc.sl
  obtain ⟨E3, hE⟩ : ∃ E, E = D4.alloc (.cells #[.slice cp (mulL tp bp).length cc, .slice cq (mulL td bd).length cd] 26) := ⟨_, rfl⟩
  obtain ⟨g8, hg⟩ : ∃ g, g = D4.heap.size := ⟨_, rfl⟩
  have hb : Below D4.heap.size D4 E3 := by rw [hE]; exact (Below.refl _ _).alloc (Nat.le_refl _) _
  have b8 : Box E3 g8 [.slice cp (mulL tp bp).length cc, .slice cq (mulL td bd).length cd] 26 := by rw [hE]; exact Box.newAt D4 _ _ hg
  have HE8 := Lib.hid hE
  have HG8 := Lib.hid hg
  clear hE hg
  replace h1 := h1.below hb
  replace ot := ot.belowT hb
  replace b5 := b5.below hb
  replace ob := ob.belowT hb
  replace b6 := b6.below hb
  replace rx := rx.below hb
  replace oc := oc.belowT hb
  replace hB := hB.trans (hb.mono hB.size)
  clear hb
  go_upto_region 7 with fail
  rw [← HE8.out, ← HG8.out]
  clear HE8 HG8
  have z0b5 := b5.cell 0 rfl
  have z1b5 := b5.cell 1 rfl
  have z0b6 := b6.cell 0 rfl
  have z1b6 := b6.cell 1 rfl
  go_wp2_with fail
  clear z0b5 z1b5
  clear z0b6 z1b6
  refine (parallel_any E3 (ot.rdT (by omega) (by omega)) (ob.rdT (by omega) (by omega)) (by omega) (by omega) (by omega)).mono ?_
  rintro e D5 ⟨sv1, rfl, os, hb⟩
  replace h1 := h1.below hb
  replace ot := ot.belowT hb
  replace b5 := b5.below hb
  replace ob := ob.belowT hb
  replace b6 := b6.below hb
  replace rx := rx.below hb
  replace oc := oc.belowT hb
  replace b8 := b8.below hb
  replace hB := hB.trans (hb.mono hB.size)
  clear hb
  obtain ⟨sp, sc, sq, sd, rfl⟩ := os.sl
  obtain ⟨E4, hE⟩ : ∃ E, E = D5.alloc (.cells #[.slice sp (addL (mulL tp bd) (mulL bp td) 1).length sc, .slice sq (mulL td bd).length sd] 26) := ⟨_, rfl⟩
  obtain ⟨g10, hg⟩ : ∃ g, g = D5.heap.size := ⟨_, rfl⟩
  have hb : Below D5.heap.size D5 E4 := by rw [hE]; exact (Below.refl _ _).alloc (Nat.le_refl _) _
  have b10 : Box E4 g10 [.slice sp (addL (mulL tp bd) (mulL bp td) 1).length sc, .slice sq (mulL td bd).length sd] 26 := by rw [hE]; exact Box.newAt D5 _ _ hg
  have HE10 := Lib.hid hE
  have HG10 := Lib.hid hg
  clear hE hg
  replace h1 := h1.below hb
  replace ot := ot.belowT hb
  replace b5 := b5.below hb
  replace ob := ob.belowT hb
  replace b6 := b6.below hb
  replace rx := rx.below hb
  replace oc := oc.belowT hb
  replace b8 := b8.below hb
  replace os := os.belowT hb
  replace hB := hB.trans (hb.mono hB.size)
  clear hb
  go_upto_region 8 with fail
  rw [← HE10.out, ← HG10.out]
  clear HE10 HG10
  have HLN : Hid ((mulL tp bp).length ≤ 16 ∧ (mulL td bd).length ≤ 16 ∧ (addL (mulL tp bd) (mulL bp td) 1).length ≤ 16) := by
    have x1 := mulL_len tp bp tpc.2.2.1.1
    have x2 := mulL_len td bd tpc.1
    have x3 := mulL_len tp bd tpc.2.2.1.1
    have x4 := mulL_len bp td bpc.2.2.1.1
    have x5 : 1 ≤ (mulL tp bd).length := trimL_ne _
    have x6 := addL_len (mulL tp bd) (mulL bp td) 1 x5
    refine ⟨?_, ?_, ?_⟩ <;> omega
  have HCL := Lib.hid (fun z : List Int => casc_law (aN := tp) (aD := td) (bN := bp) (bD := bd) (cN := mulL tp bp) (cD := mulL td bd) (x := z) tpc.1 tpc.2.1 bpc.1 bpc.2.1 oc.den.1 oc.den.2.1 (gd_mul tp bp) (gd_mul td bd))
  have HSL := Lib.hid (fun z : List Int => par_law (aN := tp) (aD := td) (bN := bp) (bD := bd) (sN := addL (mulL tp bd) (mulL bp td) 1) (sD := mulL td bd) (x := z) tpc.1 tpc.2.1 bpc.1 bpc.2.1 os.den.1 os.den.2.1 (fun i => by unfold gd; rw [addL_get, mulL_get, mulL_get, smp_smp, Int.one_mul, smp_left, smp_right]) (gd_mul td bd))
  have HRI : Hid (respL tp td 129 = respL bp bd 129 ↔ mulL tp bd = mulL bp td) := resp_iff tpc.1 tpc.2.1 bpc.1 bpc.2.1 (by omega) (by omega) tpc.2.2.1.1 bpc.2.2.1.1
  generalize mulL tp bp = cN at *
  generalize mulL td bd = cD at *
  generalize addL (mulL tp bd) (mulL bp td) 1 = sN at *
  have hl8 := HLN.out
  obtain ⟨hl8a, hl8b, hl8c⟩ := hl8
  have z0b8 := b8.cell 0 rfl
  have z1b8 := b8.cell 1 rfl
  go_wp2_with fail
  clear z0b8 z1b8
  refine (validTransfer_true E4 (oc.rdT (by omega) (by omega))).mono ?_
  rintro e W1 ⟨rfl, hb⟩
  replace h1 := h1.below hb
  replace ot := ot.belowT hb
  replace b5 := b5.below hb
  replace ob := ob.belowT hb
  replace b6 := b6.below hb
  replace rx := rx.below hb
  replace oc := oc.belowT hb
  replace b8 := b8.below hb
  replace os := os.belowT hb
  replace b10 := b10.below hb
  replace hB := hB.trans (hb.mono hB.size)
  clear hb
  have z0b10 := b10.cell 0 rfl
  have z1b10 := b10.cell 1 rfl
  go_wp2_with fail
  clear z0b10 z1b10
  refine (validTransfer_true W1 (os.rdT (by omega) (by omega))).mono ?_
  rintro e W2 ⟨rfl, hb⟩
  replace h1 := h1.below hb
  replace ot := ot.belowT hb
  replace b5 := b5.below hb
  replace ob := ob.belowT hb
  replace b6 := b6.below hb
  replace rx := rx.below hb
  replace oc := oc.belowT hb
  replace b8 := b8.below hb
  replace os := os.belowT hb
  replace b10 := b10.below hb
  replace hB := hB.trans (hb.mono hB.size)
  clear hb
  have z0b5 := b5.cell 0 rfl
  have z1b5 := b5.cell 1 rfl
  go_wp2_with fail
  clear z0b5 z1b5
  refine (filterSignal_any W2 ot (by omega) (by omega) rx HXA.out (by omega)).mono ?_
  rintro e W3 ⟨uru, rfl, o, hb⟩
  replace h1 := h1.below hb
  replace ot := ot.belowT hb
  replace b5 := b5.below hb
  replace ob := ob.belowT hb
  replace b6 := b6.below hb
  replace rx := rx.below hb
  replace oc := oc.belowT hb
  replace b8 := b8.below hb
  replace os := os.belowT hb
  replace b10 := b10.below hb
  replace hB := hB.trans (hb.mono hB.size)
  clear hb
  have ru := o.rdP
  clear o
  have z0b6 := b6.cell 0 rfl
  have z1b6 := b6.cell 1 rfl
  go_wp2_with fail
  clear z0b6 z1b6
  refine (filterSignal_any W3 ob (by omega) (by omega) ru (filL_smp _ _ _) (by rw [filL_length]; omega)).mono ?_
  rintro e W4 ⟨urv, rfl, o, hb⟩
  replace h1 := h1.below hb
  replace ot := ot.belowT hb
  replace b5 := b5.below hb
  replace ob := ob.belowT hb
  replace b6 := b6.below hb
  replace rx := rx.below hb
  replace oc := oc.belowT hb
  replace b8 := b8.below hb
  replace os := os.belowT hb
  replace b10 := b10.below hb
  replace ru := ru.below hb
  replace hB := hB.trans (hb.mono hB.size)
  clear hb
  have rv := o.rdP
  clear o
  have z0b8 := b8.cell 0 rfl
  have z1b8 := b8.cell 1 rfl
  go_wp2_with fail
  clear z0b8 z1b8
  refine (filterSignal_any W4 oc (by omega) (by omega) rx HXA.out (by omega)).mono ?_
  rintro e W5 ⟨urw1, rfl, o, hb⟩
  replace h1 := h1.below hb
  replace ot := ot.belowT hb
  replace b5 := b5.below hb
  replace ob := ob.belowT hb
  replace b6 := b6.below hb
  replace rx := rx.below hb
  replace oc := oc.belowT hb
  replace b8 := b8.below hb
  replace os := os.belowT hb
  replace b10 := b10.below hb
  replace ru := ru.below hb
  replace rv := rv.below hb
  replace hB := hB.trans (hb.mono hB.size)
  clear hb
  have rw1 := o.rdP
  clear o
  have z0b6 := b6.cell 0 rfl
  have z1b6 := b6.cell 1 rfl
  go_wp2_with fail
  clear z0b6 z1b6
  refine (filterSignal_any W5 ob (by omega) (by omega) rx HXA.out (by omega)).mono ?_
  rintro e W6 ⟨ury, rfl, o, hb⟩
  replace h1 := h1.below hb
  replace ot := ot.belowT hb
  replace b5 := b5.below hb
  replace ob := ob.belowT hb
  replace b6 := b6.below hb
  replace rx := rx.below hb
  replace oc := oc.belowT hb
  replace b8 := b8.below hb
  replace os := os.belowT hb
  replace b10 := b10.below hb
  replace ru := ru.below hb
  replace rv := rv.below hb
  replace rw1 := rw1.below hb
  replace hB := hB.trans (hb.mono hB.size)
  clear hb
  have ry := o.rdP
  clear o
  have z0b10 := b10.cell 0 rfl
  have z1b10 := b10.cell 1 rfl
  go_wp2_with fail
  clear z0b10 z1b10
  refine (filterSignal_any W6 os (by omega) (by omega) rx HXA.out (by omega)).mono ?_
  rintro e W7 ⟨urz, rfl, o, hb⟩
  replace h1 := h1.below hb
  replace ot := ot.belowT hb
  replace b5 := b5.below hb
  replace ob := ob.belowT hb
  replace b6 := b6.below hb
  replace rx := rx.below hb
  replace oc := oc.belowT hb
  replace b8 := b8.below hb
  replace os := os.belowT hb
  replace b10 := b10.below hb
  replace ru := ru.below hb
  replace rv := rv.below hb
  replace rw1 := rw1.below hb
  replace ry := ry.below hb
  replace hB := hB.trans (hb.mono hB.size)
  clear hb
  have rz := o.rdP
  clear o
  clear b8 b10 oc os rx
  go_wp2_with fail
  refine (specAdd_any W7 ru ry (filL_smp _ _ _) (filL_smp _ _ _) (by rw [filL_length, filL_length]) (by rw [filL_length]; omega)).mono ?_
  rintro e W8 ⟨us, rfl, o, hb⟩
  replace h1 := h1.below hb
  replace ot := ot.belowT hb
  replace b5 := b5.below hb
  replace ob := ob.belowT hb
  replace b6 := b6.below hb
  replace ru := ru.below hb
  replace rv := rv.below hb
  replace rw1 := rw1.below hb
  replace ry := ry.below hb
  replace rz := rz.below hb
  replace hB := hB.trans (hb.mono hB.size)
  clear hb
  have rs := o.rdP
  clear o
  clear ru ry
  go_wp2_with fail
  refine (v8Same_eqT W8 rv rw1 (HCL.out x).symm (by rw [filL_length, filL_length]; omega)).mono ?_
  rintro e W9 ⟨rfl, hb⟩
  replace h1 := h1.below hb
  replace ot := ot.belowT hb
  replace b5 := b5.below hb
  replace ob := ob.belowT hb
  replace b6 := b6.below hb
  replace rv := rv.below hb
  replace rw1 := rw1.below hb
  replace rz := rz.below hb
  replace rs := rs.below hb
  replace hB := hB.trans (hb.mono hB.size)
  clear hb
  clear rv rw1
  go_wp2_with fail
  refine (v8Same_eqT W9 rs rz (by rw [HSL.out x, filL_length]) (by unfold adL; rw [tab_length, filL_length]; omega)).mono ?_
  rintro e W10 ⟨rfl, hb⟩
  replace h1 := h1.below hb
  replace ot := ot.belowT hb
  replace b5 := b5.below hb
  replace ob := ob.belowT hb
  replace b6 := b6.below hb
  replace rz := rz.below hb
  replace rs := rs.below hb
  replace hB := hB.trans (hb.mono hB.size)
  clear hb
  clear rs rz
  clear HCL HSL HLN hl8a hl8b hl8c
  have z0b5 := b5.cell 0 rfl
  have z1b5 := b5.cell 1 rfl
  go_wp2_with fail
  clear z0b5 z1b5
  refine (responseOf_any 129 W10 ot (by omega) (by omega) (by omega)).mono ?_
  rintro e V1 ⟨ur1, rfl, o, hb⟩
  replace h1 := h1.below hb
  replace ot := ot.belowT hb
  replace b5 := b5.below hb
  replace ob := ob.belowT hb
  replace b6 := b6.below hb
  replace hB := hB.trans (hb.mono hB.size)
  clear hb
  have r1 := o.rdP
  clear o
  have z0b6 := b6.cell 0 rfl
  have z1b6 := b6.cell 1 rfl
  go_wp2_with fail
  clear z0b6 z1b6
  refine (responseOf_any 129 V1 ob (by omega) (by omega) (by omega)).mono ?_
  rintro e V2 ⟨ur2, rfl, o, hb⟩
  replace h1 := h1.below hb
  replace ot := ot.belowT hb
  replace b5 := b5.below hb
  replace ob := ob.belowT hb
  replace b6 := b6.below hb
  replace r1 := r1.below hb
  replace hB := hB.trans (hb.mono hB.size)
  clear hb
  have r2 := o.rdP
  clear o
  have z0b5 := b5.cell 0 rfl
  have z1b5 := b5.cell 1 rfl
  go_wp2_with fail
  clear z0b5 z1b5
  refine (e8Alike_any V2 h1 l1 (ot.rdT (by omega) (by omega)) tpl tdl).mono ?_
  rintro e V3 ⟨xk, k, rfl, k1, k3, k0, ok, hb⟩
  replace h1 := h1.below hb
  replace ot := ot.belowT hb
  replace b5 := b5.below hb
  replace ob := ob.belowT hb
  replace b6 := b6.below hb
  replace r1 := r1.below hb
  replace r2 := r2.below hb
  replace hB := hB.trans (hb.mono hB.size)
  clear hb
  have HKL : Hid ((mulL tp k).length ≤ 16 ∧ (mulL td k).length ≤ 16) := by
    have x1 := mulL_len tp k tpc.2.2.1.1
    have x2 := mulL_len td k tpc.1
    constructor <;> omega
  go_wp2_with fail
  refine (responseOf_any 129 V3 ok (by have := HKL.out.1; omega) (by have := HKL.out.2; omega) (by omega)).mono ?_
  rintro e V4 ⟨ur3, rfl, o, hb⟩
  replace h1 := h1.below hb
  replace ot := ot.belowT hb
  replace b5 := b5.below hb
  replace ob := ob.belowT hb
  replace b6 := b6.below hb
  replace r1 := r1.below hb
  replace r2 := r2.below hb
  replace ok := ok.belowT hb
  replace hB := hB.trans (hb.mono hB.size)
  clear hb
  have r3 := o.rdP
  clear o
  have HRK : Hid (respL tp td 129 = respL (mulL tp k) (mulL td k) 129) := (resp_iff (a := tp) (b := td) (c := mulL tp k) (d := mulL td k) tpc.1 tpc.2.1 ok.den.1 ok.den.2.1 (by have := HKL.out.2; omega) (by have := HKL.out.1; omega) tpc.2.2.1.1 (trimL_ne _)).2 (like_eq tp td k)
  clear ok
  clear HKL k1 k3 k0
  have z0b5 := b5.cell 0 rfl
  have z1b5 := b5.cell 1 rfl
  go_wp2_with fail
  clear z0b5 z1b5
  refine (transferText_any V4 (ot.rdT (by omega) (by omega)) (HT.out.below hB)).mono ?_
  rintro e V5 ⟨rfl, hb⟩
  replace h1 := h1.below hb
  replace ot := ot.belowT hb
  replace b5 := b5.below hb
  replace ob := ob.belowT hb
  replace b6 := b6.below hb
  replace r1 := r1.below hb
  replace r2 := r2.below hb
  replace r3 := r3.below hb
  replace hB := hB.trans (hb.mono hB.size)
  clear hb
  go_wp2_with fail
  refine (readTransfer_any V5 ⟨tpc.2.2.1, tpc.2.2.2.2.1, by omega⟩ ⟨tpc.2.2.2.1, tpc.2.2.2.2.2, by omega⟩ tpc.2.1 (HT.out.below hB) (HE.out.below hB) (HC.out.below hB)).mono ?_
  rintro e V6 ⟨zx, rfl, oz, hb⟩
  replace h1 := h1.below hb
  replace ot := ot.belowT hb
  replace b5 := b5.below hb
  replace ob := ob.belowT hb
  replace b6 := b6.below hb
  replace r1 := r1.below hb
  replace r2 := r2.below hb
  replace r3 := r3.below hb
  replace hB := hB.trans (hb.mono hB.size)
  clear hb
  obtain ⟨zp, zc, zq, zd, rfl⟩ := oz.sl
  obtain ⟨E7, hE⟩ : ∃ E, E = V6.alloc (.cells #[.slice zp tp.length zc, .slice zq td.length zd] 26) := ⟨_, rfl⟩
  obtain ⟨g25, hg⟩ : ∃ g, g = V6.heap.size := ⟨_, rfl⟩
  have hb : Below V6.heap.size V6 E7 := by rw [hE]; exact (Below.refl _ _).alloc (Nat.le_refl _) _
  have b25 : Box E7 g25 [.slice zp tp.length zc, .slice zq td.length zd] 26 := by rw [hE]; exact Box.newAt V6 _ _ hg
  have HE25 := Lib.hid hE
  have HG25 := Lib.hid hg
  clear hE hg
  replace h1 := h1.below hb
  replace ot := ot.belowT hb
  replace b5 := b5.below hb
  replace ob := ob.belowT hb
  replace b6 := b6.below hb
  replace r1 := r1.below hb
  replace r2 := r2.below hb
  replace r3 := r3.below hb
  replace oz := oz.belowT hb
  replace hB := hB.trans (hb.mono hB.size)
  clear hb
  go_upto_region 22 with fail
  rw [← HE25.out, ← HG25.out]
  clear HE25 HG25
  have hcur : Below E7.heap.size E7 E7.drew := below_drew1 (Below.refl _ _)
  have CK : Hid (∀ W, Below E7.heap.size E7 W → W.cell? ⟨g5, 0, none⟩ = some (.slice ap tp.length ac) ∧ W.cell? ⟨g5, 1, none⟩ = some (.slice aq td.length ad) ∧ W.cell? ⟨g6, 0, none⟩ = some (.slice bap bp.length bac) ∧ W.cell? ⟨g6, 1, none⟩ = some (.slice baq bd.length bad) ∧ W.cell? ⟨g25, 0, none⟩ = some (.slice zp tp.length zc) ∧ W.cell? ⟨g25, 1, none⟩ = some (.slice zq td.length zd)) := fun W hW => ⟨(b5.below hW).cell 0 rfl, (b5.below hW).cell 1 rfl, (b6.below hW).cell 0 rfl, (b6.below hW).cell 1 rfl, (b25.below hW).cell 0 rfl, (b25.below hW).cell 1 rfl⟩
  have V13 : Hid (∀ W, Below E7.heap.size E7 W → Calls Tryz.prog 12 #[ur1, ur3] W fun e w' => e = .returned (.bool true) ∧ Below W.heap.size W w') := fun W hW => v8Same_eqT W (r1.below hW) (r3.below hW) HRK.out (by rw [respL_length]; omega)
  have AL : Hid (∀ W, Below E7.heap.size E7 W → Calls Tryz.prog 14 #[.slice p1 bs1.length c1, .agg #[.slice ap tp.length ac, .slice aq td.length ad]] W fun e w' => ∃ x' k, e = .returned x' ∧ (OwnT W.heap.size w' x' (mulL tp k) (mulL td k) ∧ k.length ≤ 3) ∧ Below W.heap.size W w') := fun W hW => (e8Alike_any W (h1.below hW) l1 ((ot.belowT hW).rdT (by omega) (by omega)) tpl tdl).mono fun e w' h => by
    obtain ⟨x', k, e1, k1, k3, k0, ok, hb⟩ := h
    exact ⟨x', k, e1, ⟨ok, k3⟩, hb⟩
  have EQ2 : Hid (∀ W x' k B, Below E7.heap.size E7 W → OwnT B W x' (mulL tp k) (mulL td k) → k.length ≤ 3 → Calls Tryz.prog 17 #[.agg #[.slice ap tp.length ac, .slice aq td.length ad], x'] W fun e w' => e = .returned (.bool true) ∧ Below W.heap.size W w') := fun W x' k B hW ho hk => by
    have x1 := mulL_len tp k tpc.2.2.1.1
    have x2 := mulL_len td k tpc.1
    have h := equalTransfers_any W ((ot.belowT hW).rdT (by omega) (by omega)) (ho.rdT (by omega) (by omega))
    rw [decide_eq_true (like_eq tp td k)] at h
    exact h
  have ST : Hid (∀ W, Below E7.heap.size E7 W → Calls Tryz.prog 18 #[.agg #[.slice zp tp.length zc, .slice zq td.length zd], .agg #[.slice ap tp.length ac, .slice aq td.length ad]] W fun e w' => e = .returned (.bool true) ∧ Below W.heap.size W w') := fun W hW => sameTransfer_true W ((oz.belowT hW).rdT (by omega) (by omega)) ((ot.belowT hW).rdT (by omega) (by omega))
  obtain ⟨b0, V12, EQ1⟩ : ∃ b0 : Bool, Hid (∀ W, Below E7.heap.size E7 W → Calls Tryz.prog 12 #[ur1, ur2] W fun e w' => e = .returned (.bool b0) ∧ Below W.heap.size W w') ∧ Hid (∀ W, Below E7.heap.size E7 W → Calls Tryz.prog 17 #[.agg #[.slice ap tp.length ac, .slice aq td.length ad], .agg #[.slice bap bp.length bac, .slice baq bd.length bad]] W fun e w' => e = .returned (.bool b0) ∧ Below W.heap.size W w') := by
    refine ⟨decide (mulL tp bd = mulL bp td), fun W hW => ?_, fun W hW => equalTransfers_any W ((ot.belowT hW).rdT (by omega) (by omega)) ((ob.belowT hW).rdT (by omega) (by omega))⟩
    by_cases hq : mulL tp bd = mulL bp td
    · rw [decide_eq_true hq]
      exact v8Same_eqT W (r1.below hW) (r2.below hW) (HRI.out.2 hq) (by rw [respL_length]; omega)
    · rw [decide_eq_false hq]
      exact v8Same_neT W (r1.below hW) (r2.below hW) (by rw [respL_length, respL_length]) (fun h => hq (HRI.out.1 h)) (by rw [respL_length]; omega)
  clear h1 ot ob oz b5 b6 b25 r1 r2 r3 HRI HRK tpc bpc HT HE HC HXA
  obtain ⟨z0, z1, z2, z3, z4, z5⟩ := CK.out _ hcur
  cases b0
  all_goals
    go_wp2_with fail
    go_region_held3 (fun W => W.cell? ⟨g5, 0, none⟩ = some (.slice ap tp.length ac) ∧ W.cell? ⟨g5, 1, none⟩ = some (.slice aq td.length ad) ∧ W.cell? ⟨g6, 0, none⟩ = some (.slice bap bp.length bac) ∧ W.cell? ⟨g6, 1, none⟩ = some (.slice baq bd.length bad) ∧ W.cell? ⟨g25, 0, none⟩ = some (.slice zp tp.length zc) ∧ W.cell? ⟨g25, 1, none⟩ = some (.slice zq td.length zd)) (first | go_keep | exact CK.out _ (by (repeat (first | exact Below.refl _ _ | assumption | refine Below.setCell ?_ (by first | exact Nat.le_refl _ | omega | (simp; done) | (simp; omega)) _ | refine Below.alloc ?_ (by first | exact Nat.le_refl _ | omega | (simp; done) | (simp; omega)) _ | refine below_drewN ?_ _)))) ((first | (go_at_call 12; first | (with_reducible refine (V12.out _ hcur).mono ?_; rintro e Wa ⟨rfl, hb⟩; have hcur := hcur.trans (hb.mono hcur.size)) | (with_reducible refine (V13.out _ hcur).mono ?_; rintro e Wa ⟨rfl, hb⟩; have hcur := hcur.trans (hb.mono hcur.size))) | (go_at_call 14; refine (AL.out _ hcur).mono ?_; rintro e Wb ⟨x', k', rfl, ⟨ok', hk'⟩, hb⟩; have hcur := hcur.trans (hb.mono hcur.size)) | (go_at_call 17; first | (with_reducible refine (EQ1.out _ hcur).mono ?_; rintro e Wa ⟨rfl, hb⟩; have hcur := hcur.trans (hb.mono hcur.size)) | (with_reducible refine (EQ2.out _ _ _ _ hcur ok' hk').mono ?_; rintro e Wa ⟨rfl, hb⟩; have hcur := hcur.trans (hb.mono hcur.size))) | (go_at_call 18; refine (ST.out _ hcur).mono ?_; rintro e Wa ⟨rfl, hb⟩; have hcur := hcur.trans (hb.mono hcur.size)) | fail))
    all_goals
      go_wp2_with fail
      go_ret
      exact ⟨rfl, hB.trans (hcur.mono hB.size)⟩
end Go.Proofs.YtljlcbichimhaaaGreatDoor
