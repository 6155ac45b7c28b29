/-
  The walk of the law on division.
-/
import Derived.Test.YtohacnlbconlaaaDivS
namespace Go.Proofs.Ytohacnlbconlaaa
open Go.ChangeShapes Go.WideShapes Go.ChangeAt Go.RowKit
set_option linter.unusedVariables false

set_option maxHeartbeats 8000000 in
set_option maxRecDepth 100000 in
theorem fnDivision_walk (w : World) {v0 : Value} {bs0 : List Int} (h0 : VB w v0 bs0) (hm0 : bs0.length ≤ maxLen) {v1 : Value} {bs1 : List Int} (h1 : VB w v1 bs1) (hm1 : bs1.length ≤ maxLen) :
    Calls Try.prog 5 #[v0, v1] w fun e w' => e = .returned (.bool true) ∧ Below w.heap.size w w' := by
  have hv0 := h0
  obtain ⟨p0, c0, rfl, -⟩ := hv0
  have hv1 := h1
  obtain ⟨p1, c1, rfl, -⟩ := hv1
  have LG := Lib.hid (v8Long_any p0 p1 bs0.length bs1.length c0 c1 w hm0 hm1)
  by_cases hl : ((1048576 : Int) < (bs0.length : Int)) ∨ ((1048576 : Int) < (bs1.length : Int))
  · have e : (decide ((1048576 : Int) < (bs0.length : Int)) || decide ((1048576 : Int) < (bs1.length : Int))) = true := by
      rw [Bool.or_eq_true, decide_eq_true_iff, decide_eq_true_iff]; exact hl
    rw [e] at LG
    clear hl e
    go_enter Try.func5, Try.ntmps5
    go_wp2_with (go_at_call 8; refine LG.out.mono ?_; rintro e w' ⟨rfl, rfl⟩)
    go_ret
    exact ⟨rfl, Below.refl _ _⟩
  have e : (decide ((1048576 : Int) < (bs0.length : Int)) || decide ((1048576 : Int) < (bs1.length : Int))) = false := by
    rw [Bool.or_eq_false_iff, decide_eq_false_iff_not, decide_eq_false_iff_not]; exact not_or.1 hl
  rw [e] at LG
  have l0 : bs0.length ≤ 1048576 := by omega
  have l1 : bs1.length ≤ 1048576 := by omega
  clear hl e hm0 hm1
  go_enter Try.func5, Try.ntmps5
  go_wp2_with fail
  refine LG.out.mono ?_
  rintro e w' ⟨rfl, rfl⟩
  clear LG
  go_wp2_with fail
  refine (e8Poly_any w h0 l0).mono ?_
  rintro e E1 ⟨ua, a, rfl, ac, aa, al, o, hb⟩
  have hB1 := hb
  replace h0 := h0.below hb
  replace h1 := h1.below hb
  have ra := o.rdP
  have pa : PolyV a := ⟨ac, aa, by omega⟩
  clear o hb ac aa
  go_wp2_with fail
  refine (e8Divisor_any E1 h1 l1).mono ?_
  rintro e E2 ⟨ub, b, rfl, pb, bl, bodd, o, hb⟩
  have hB2 := hB1.trans (hb.mono hB1.size)
  replace h0 := h0.below hb
  replace h1 := h1.below hb
  replace ra := ra.below hb
  clear hB1
  have rb := o.rdP
  clear o hb
  have a1 := pa.1.1
  have b1 := pb.1.1
  go_wp2_with fail
  refine (divPoly_any E2 ra rb pa pb bodd).mono ?_
  rintro e E3 ⟨uq, ur, rfl, oq, orr, hb⟩
  have hB3 := hB2.trans (hb.mono hB2.size)
  replace h0 := h0.below hb
  replace h1 := h1.below hb
  replace ra := ra.below hb
  replace rb := rb.below hb
  clear hB2
  have rq := oq.rdP
  have rr := orr.rdP
  clear oq orr hb
  have hinv := inv_mul bodd
  have DR := Lib.hid (div_ring pa b1 hinv)
  obtain ⟨pq, pr, ql, hlong, hshort⟩ := div_valid pa b1 hinv
  generalize divQ a b (invN (b.getD (b.length - 1) 0) 5) = Q at rq DR pq ql
  generalize divR a b (invN (b.getD (b.length - 1) 0) 5) = R at rr DR pr hlong hshort
  clear hinv bodd
  obtain ⟨qp, qc, rfl, -, -⟩ := id rq
  obtain ⟨rp, rc, rfl, rri, -⟩ := id rr
  obtain ⟨bp, bc, rfl, -, -⟩ := id rb
  have VQ := Lib.hid (validPoly_true E3 rq pq)
  have VR := Lib.hid (validPoly_true E3 rr pr)
  have CND : Hid (R.length < b.length ∨ (b.length = 1 ∧ R.length = 1 ∧ R.getD 0 0 = 0)) := by
    rcases Nat.lt_or_ge b.length 2 with h | h
    · have h1 : b.length = 1 := by omega
      exact .inr ⟨h1, hshort h1⟩
    · exact .inl (hlong h)
  clear hlong hshort
  rcases CND.out with hlt | ⟨hb1, hr1, hr0⟩
  · have hge : decide ((b.length : Int) ≤ (R.length : Int)) = false := decide_eq_false (by omega)
    go_wp2_with (first | (go_at_call_of 21 (Value.slice qp Q.length qc); refine VQ.out.mono ?_; rintro e w' ⟨rfl, rfl⟩) | (go_at_call_of 21 (Value.slice rp R.length rc); refine VR.out.mono ?_; rintro e w' ⟨rfl, rfl⟩))
    refine (specMulPoly_any E3 rq rb pq pb (by omega)).mono ?_
    rintro e E4 ⟨um, rfl, o, hb⟩
    have hB4 := hB3.trans (hb.mono hB3.size)
    replace h0 := h0.below hb
    replace h1 := h1.below hb
    replace ra := ra.below hb
    replace rb := rb.below hb
    replace rq := rq.below hb
    replace rr := rr.below hb
    clear hB3
    have rm := o.rdP
    clear o hb
    have pm : PolyV (mulL Q b) := mulL_poly (by omega)
    go_wp2_with fail
    refine (specAddPoly_any E4 rm rr pm pr).mono ?_
    rintro e E5 ⟨us, rfl, o, hb⟩
    have hB5 := hB4.trans (hb.mono hB4.size)
    replace h0 := h0.below hb
    replace h1 := h1.below hb
    replace ra := ra.below hb
    replace rb := rb.below hb
    replace rq := rq.below hb
    replace rr := rr.below hb
    replace rm := rm.below hb
    clear hB4
    have rs := o.rdP
    clear o hb
    rw [DR.out] at rs
    go_wp2_with fail
    refine (v8At_any 0 65536 E5 h0 l0 (by omega) (by omega) (by omega)).mono ?_
    rintro e w' ⟨t, t1, t2, rfl, rfl⟩
    go_wp2_with fail
    refine (specWrap_any _ _).mono ?_
    rintro e w' ⟨rfl, rfl⟩
    generalize hx : smp _ = xx
    have ix : isSmp xx = true := by rw [← hx]; exact smp_isSmp _
    have ox : xx % 2 = 1 := by obtain ⟨k, hk⟩ := smp_mod (2 * t * 32771 + 1); rw [← hx]; first | (rw [hk]; omega) | (rw [smp_eq (b := 2 * t * 32771 + 1) (by omega), hk]; omega)
    clear hx t1 t2
    go_wp2_with fail
    refine (inverseSample_any xx _ ix ox).mono ?_
    rintro e w' ⟨rfl, rfl⟩
    have hiv := inv_mul ox
    generalize invN xx 5 = yy at hiv ⊢
    have WM := Lib.hid (wrapMul_any xx yy)
    rw [hiv] at WM
    clear hiv
    go_wp2_with fail
    refine (v8Same_rd E5 rs ra (by omega)).mono ?_
    rintro e E6 ⟨rfl, hb⟩
    have hB6 := hB5.trans (hb.mono hB5.size)
    replace h0 := h0.below hb
    replace h1 := h1.below hb
    replace ra := ra.below hb
    replace rb := rb.below hb
    replace rq := rq.below hb
    replace rr := rr.below hb
    replace rm := rm.below hb
    replace rs := rs.below hb
    clear hB5
    clear hb
    go_wp2_with fail
    refine (WM.out _).mono ?_
    rintro e w' ⟨rfl, rfl⟩
    go_wp2_with fail
    go_ret
    exact ⟨rfl, hB6⟩
  · obtain ⟨zb, zo, rfl, -, zc⟩ := rri.pos (k := 0) (by omega)
    have z0 := zc 0 (by omega)
    rw [← getD_at (by omega), hr0, Nat.add_zero] at z0
    have q1 : ((b.length : Int) == 1) = true := by rw [beq_iff_eq]; omega
    have q2 : ((R.length : Int) == 1) = true := by rw [beq_iff_eq]; omega
    have hge : decide ((b.length : Int) ≤ (R.length : Int)) = true := decide_eq_true (by omega)
    have hpos : 0 < R.length := by omega
    have hgeN : b.length ≤ R.length := by omega
    clear zc hr0 hb1 hr1
    go_wp2_with (first | (go_at_call_of 21 (Value.slice qp Q.length qc); refine VQ.out.mono ?_; rintro e w' ⟨rfl, rfl⟩) | (go_at_call_of 21 (Value.slice (some ⟨zb, zo, none⟩) R.length rc); refine VR.out.mono ?_; rintro e w' ⟨rfl, rfl⟩))
    refine (specMulPoly_any E3 rq rb pq pb (by omega)).mono ?_
    rintro e E4 ⟨um, rfl, o, hb⟩
    have hB4 := hB3.trans (hb.mono hB3.size)
    replace h0 := h0.below hb
    replace h1 := h1.below hb
    replace ra := ra.below hb
    replace rb := rb.below hb
    replace rq := rq.below hb
    replace rr := rr.below hb
    clear hB3
    have rm := o.rdP
    clear o hb
    have pm : PolyV (mulL Q b) := mulL_poly (by omega)
    go_wp2_with fail
    refine (specAddPoly_any E4 rm rr pm pr).mono ?_
    rintro e E5 ⟨us, rfl, o, hb⟩
    have hB5 := hB4.trans (hb.mono hB4.size)
    replace h0 := h0.below hb
    replace h1 := h1.below hb
    replace ra := ra.below hb
    replace rb := rb.below hb
    replace rq := rq.below hb
    replace rr := rr.below hb
    replace rm := rm.below hb
    clear hB4
    have rs := o.rdP
    clear o hb
    rw [DR.out] at rs
    go_wp2_with fail
    refine (v8At_any 0 65536 E5 h0 l0 (by omega) (by omega) (by omega)).mono ?_
    rintro e w' ⟨t, t1, t2, rfl, rfl⟩
    go_wp2_with fail
    refine (specWrap_any _ _).mono ?_
    rintro e w' ⟨rfl, rfl⟩
    generalize hx : smp _ = xx
    have ix : isSmp xx = true := by rw [← hx]; exact smp_isSmp _
    have ox : xx % 2 = 1 := by obtain ⟨k, hk⟩ := smp_mod (2 * t * 32771 + 1); rw [← hx]; first | (rw [hk]; omega) | (rw [smp_eq (b := 2 * t * 32771 + 1) (by omega), hk]; omega)
    clear hx t1 t2
    go_wp2_with fail
    refine (inverseSample_any xx _ ix ox).mono ?_
    rintro e w' ⟨rfl, rfl⟩
    have hiv := inv_mul ox
    generalize invN xx 5 = yy at hiv ⊢
    have WM := Lib.hid (wrapMul_any xx yy)
    rw [hiv] at WM
    clear hiv
    go_wp2_with fail
    refine (v8Same_rd E5 rs ra (by omega)).mono ?_
    rintro e E6 ⟨rfl, hb⟩
    have hB6 := hB5.trans (hb.mono hB5.size)
    replace h0 := h0.below hb
    replace h1 := h1.below hb
    replace ra := ra.below hb
    replace rb := rb.below hb
    replace rq := rq.below hb
    replace rr := rr.below hb
    replace rm := rm.below hb
    replace rs := rs.below hb
    clear hB5
    clear hb
    go_wp2_with fail
    refine (WM.out _).mono ?_
    rintro e w' ⟨rfl, rfl⟩
    go_wp2_with fail
    go_ret
    exact ⟨rfl, hB6⟩
end Go.Proofs.Ytohacnlbconlaaa
