/-
  The walk of the law on polynomials.
-/
import Derived.Test.YtohacnlbconlaaaPolyF
namespace Go.Proofs.Ytohacnlbconlaaa
open Go.ChangeShapes Go.WideShapes Go.ChangeAt Go.RowKit
set_option linter.unusedVariables false

set_option maxHeartbeats 8000000 in
set_option maxRecDepth 100000 in
theorem fnPolys_walk (w : World) {v0 : Value} {bs0 : List Int} (h0 : VB w v0 bs0) (hm0 : bs0.length ≤ maxLen) {v1 : Value} {bs1 : List Int} (h1 : VB w v1 bs1) (hm1 : bs1.length ≤ maxLen) :
    Calls Try.prog 4 #[v0, v1] w fun e w' => e = .returned (.bool true) ∧ Below w.heap.size w w' := by
  have hv0 := h0
  obtain ⟨p0, c0, rfl, -⟩ := hv0
  have hv1 := h1
  obtain ⟨p1, c1, rfl, -⟩ := hv1
  have LG := Lib.hid (v8Long_any p0 p1 bs0.length bs1.length c0 c1 w hm0 hm1)
  by_cases hl : ((1048576 : Int) < (bs0.length : Int)) ∨ ((1048576 : Int) < (bs1.length : Int))
  · have e : (decide ((1048576 : Int) < (bs0.length : Int)) || decide ((1048576 : Int) < (bs1.length : Int))) = true := by
      rw [Bool.or_eq_true, decide_eq_true_iff, decide_eq_true_iff]; exact hl
    rw [e] at LG
    clear hl e
    go_enter Try.func4, Try.ntmps4
    go_wp2_with (go_at_call 8; refine LG.out.mono ?_; rintro e w' ⟨rfl, rfl⟩)
    go_ret
    exact ⟨rfl, Below.refl _ _⟩
  have e : (decide ((1048576 : Int) < (bs0.length : Int)) || decide ((1048576 : Int) < (bs1.length : Int))) = false := by
    rw [Bool.or_eq_false_iff, decide_eq_false_iff_not, decide_eq_false_iff_not]; exact not_or.1 hl
  rw [e] at LG
  have l0 : bs0.length ≤ 1048576 := by omega
  have l1 : bs1.length ≤ 1048576 := by omega
  clear hl e hm0 hm1
  go_enter Try.func4, Try.ntmps4
  go_wp2_with fail
  refine LG.out.mono ?_
  rintro e w' ⟨rfl, rfl⟩
  clear LG
  go_wp2_with fail
  refine (e8Poly_any w h0 l0).mono ?_
  rintro e E1 ⟨ua, a, rfl, ac, aa, al, o, hb⟩
  have hB1 := hb
  replace h0 := h0.below hb
  replace h1 := h1.below hb
  have ra := o.rdP
  have pa : PolyV a := ⟨ac, aa, by omega⟩
  clear o hb ac aa
  go_wp2_with fail
  refine (e8Poly_any E1 h1 l1).mono ?_
  rintro e E2 ⟨ub, b, rfl, bc, ba, bl, o, hb⟩
  have hB2 := hB1.trans (hb.mono hB1.size)
  replace h0 := h0.below hb
  replace h1 := h1.below hb
  replace ra := ra.below hb
  clear hB1
  have rb := o.rdP
  have pb : PolyV b := ⟨bc, ba, by omega⟩
  clear o hb bc ba
  go_wp2_with fail
  refine (e8Divisor_any E2 h0 l0).mono ?_
  rintro e E3 ⟨uc, c, rfl, pc, cl, -, o, hb⟩
  have hB3 := hB2.trans (hb.mono hB2.size)
  replace h0 := h0.below hb
  replace h1 := h1.below hb
  replace ra := ra.below hb
  replace rb := rb.below hb
  clear hB2
  have rc := o.rdP
  clear o hb
  have a1 := pa.1.1
  have b1 := pb.1.1
  have c1' := pc.1.1
  go_wp2_with fail
  refine (addPoly_any E3 ra rb pa pb).mono ?_
  rintro e E4 ⟨us, rfl, o, hb⟩
  have hB4 := hB3.trans (hb.mono hB3.size)
  replace h0 := h0.below hb
  replace h1 := h1.below hb
  replace ra := ra.below hb
  replace rb := rb.below hb
  replace rc := rc.below hb
  clear hB3
  have rs := o.rdP
  clear o hb
  have ps : PolyV (addL a b 1) := addL_poly 1 (by omega) (by omega)
  have sl : (addL a b 1).length ≤ 9 := by have := addL_len a b 1 a1; omega
  have s1 := ps.1.1
  change RdP _ us (addL a b 1) at rs
  go_wp2_with fail
  refine (subPoly_any E4 rs rb ps pb).mono ?_
  rintro e E5 ⟨uk, rfl, o, hb⟩
  have hB5 := hB4.trans (hb.mono hB4.size)
  replace h0 := h0.below hb
  replace h1 := h1.below hb
  replace ra := ra.below hb
  replace rb := rb.below hb
  replace rc := rc.below hb
  replace rs := rs.below hb
  clear hB4
  have rk := o.rdP
  clear o hb
  change RdP _ uk (addL (addL a b 1) b (-1)) at rk
  rw [sub_back pa] at rk
  go_wp2_with fail
  refine (mulPoly_any E5 ra rb pa pb (by omega)).mono ?_
  rintro e E6 ⟨uab, rfl, o, hb⟩
  have hB6 := hB5.trans (hb.mono hB5.size)
  replace h0 := h0.below hb
  replace h1 := h1.below hb
  replace ra := ra.below hb
  replace rb := rb.below hb
  replace rc := rc.below hb
  replace rs := rs.below hb
  replace rk := rk.below hb
  clear hB5
  have rab := o.rdP
  clear o hb
  have pab : PolyV (mulL a b) := mulL_poly (by omega)
  have abl : (mulL a b).length ≤ 18 := by have := mulL_len a b a1; omega
  go_wp2_with fail
  refine (mulPoly_any E6 rb ra pb pa (by omega)).mono ?_
  rintro e E7 ⟨uba, rfl, o, hb⟩
  have hB7 := hB6.trans (hb.mono hB6.size)
  replace h0 := h0.below hb
  replace h1 := h1.below hb
  replace ra := ra.below hb
  replace rb := rb.below hb
  replace rc := rc.below hb
  replace rs := rs.below hb
  replace rk := rk.below hb
  replace rab := rab.below hb
  clear hB6
  have rba := o.rdP
  clear o hb
  rw [← mul_comm' a b] at rba
  go_wp2_with fail
  refine (v8Same_rd E7 rk ra (by omega)).mono ?_
  rintro e E8 ⟨rfl, hb⟩
  have hB8 := hB7.trans (hb.mono hB7.size)
  replace h0 := h0.below hb
  replace h1 := h1.below hb
  replace ra := ra.below hb
  replace rb := rb.below hb
  replace rc := rc.below hb
  replace rs := rs.below hb
  replace rk := rk.below hb
  replace rab := rab.below hb
  replace rba := rba.below hb
  clear hB7
  clear hb
  go_wp2_with fail
  refine (v8Same_rd E8 rab rba (by omega)).mono ?_
  rintro e E9 ⟨rfl, hb⟩
  have hB9 := hB8.trans (hb.mono hB8.size)
  replace h0 := h0.below hb
  replace h1 := h1.below hb
  replace ra := ra.below hb
  replace rb := rb.below hb
  replace rc := rc.below hb
  replace rs := rs.below hb
  replace rk := rk.below hb
  replace rab := rab.below hb
  replace rba := rba.below hb
  clear hB8
  clear hb
  go_wp2_with fail
  refine (validPoly_true E9 rab pab).mono ?_
  rintro e w' ⟨rfl, rfl⟩
  go_wp2_with fail
  refine (mulPoly_any E9 rs rc ps pc (by omega)).mono ?_
  rintro e E10 ⟨ul, rfl, o, hb⟩
  have hB10 := hB9.trans (hb.mono hB9.size)
  replace h0 := h0.below hb
  replace h1 := h1.below hb
  replace ra := ra.below hb
  replace rb := rb.below hb
  replace rc := rc.below hb
  replace rs := rs.below hb
  replace rk := rk.below hb
  replace rab := rab.below hb
  replace rba := rba.below hb
  clear hB9
  have rl := o.rdP
  clear o hb
  go_wp2_with fail
  refine (mulPoly_any E10 ra rc pa pc (by omega)).mono ?_
  rintro e E11 ⟨uac, rfl, o, hb⟩
  have hB11 := hB10.trans (hb.mono hB10.size)
  replace h0 := h0.below hb
  replace h1 := h1.below hb
  replace ra := ra.below hb
  replace rb := rb.below hb
  replace rc := rc.below hb
  replace rs := rs.below hb
  replace rk := rk.below hb
  replace rab := rab.below hb
  replace rba := rba.below hb
  replace rl := rl.below hb
  clear hB10
  have rac := o.rdP
  clear o hb
  go_wp2_with fail
  refine (mulPoly_any E11 rb rc pb pc (by omega)).mono ?_
  rintro e E12 ⟨ubc, rfl, o, hb⟩
  have hB12 := hB11.trans (hb.mono hB11.size)
  replace h0 := h0.below hb
  replace h1 := h1.below hb
  replace ra := ra.below hb
  replace rb := rb.below hb
  replace rc := rc.below hb
  replace rs := rs.below hb
  replace rk := rk.below hb
  replace rab := rab.below hb
  replace rba := rba.below hb
  replace rl := rl.below hb
  replace rac := rac.below hb
  clear hB11
  have rbc := o.rdP
  clear o hb
  have pac : PolyV (mulL a c) := mulL_poly (by omega)
  have pbc : PolyV (mulL b c) := mulL_poly (by omega)
  have acl : (mulL a c).length ≤ 15 := by have := mulL_len a c a1; omega
  have bcl : (mulL b c).length ≤ 15 := by have := mulL_len b c b1; omega
  have ac1 := pac.1.1
  go_wp2_with fail
  refine (addPoly_any E12 rac rbc pac pbc).mono ?_
  rintro e E13 ⟨ur, rfl, o, hb⟩
  have hB13 := hB12.trans (hb.mono hB12.size)
  replace h0 := h0.below hb
  replace h1 := h1.below hb
  replace ra := ra.below hb
  replace rb := rb.below hb
  replace rc := rc.below hb
  replace rs := rs.below hb
  replace rk := rk.below hb
  replace rab := rab.below hb
  replace rba := rba.below hb
  replace rl := rl.below hb
  replace rac := rac.below hb
  replace rbc := rbc.below hb
  clear hB12
  have rr := o.rdP
  clear o hb
  change RdP _ ur (addL (mulL a c) (mulL b c) 1) at rr
  rw [← mul_add'] at rr
  have rl1 : (mulL (addL a b 1) c).length ≤ 15 := by have := mulL_len (addL a b 1) c s1; omega
  go_wp2_with fail
  refine (v8Same_rd E13 rl rr (by omega)).mono ?_
  rintro e E14 ⟨rfl, hb⟩
  have hB14 := hB13.trans (hb.mono hB13.size)
  replace h0 := h0.below hb
  replace h1 := h1.below hb
  replace ra := ra.below hb
  replace rb := rb.below hb
  replace rc := rc.below hb
  replace rs := rs.below hb
  replace rk := rk.below hb
  replace rab := rab.below hb
  replace rba := rba.below hb
  replace rl := rl.below hb
  replace rac := rac.below hb
  replace rbc := rbc.below hb
  replace rr := rr.below hb
  clear hB13
  clear hb
  go_wp2_with fail
  refine (v8At_any 2 65536 E14 h1 l1 (by omega) (by omega) (by omega)).mono ?_
  rintro e w' ⟨r, r1, r2, rfl, rfl⟩
  go_wp2_with fail
  refine (specWrap_any _ _).mono ?_
  rintro e w' ⟨rfl, rfl⟩
  generalize hx : smp _ = x
  have ix : isSmp x = true := by rw [← hx]; exact smp_isSmp _
  clear hx r1 r2
  go_wp2_with fail
  refine (evalPoly_any x E14 ra pa ix).mono ?_
  rintro e w' ⟨rfl, rfl⟩
  go_wp2_with fail
  refine (evalPoly_any x E14 rb pb ix).mono ?_
  rintro e w' ⟨rfl, rfl⟩
  go_wp2_with fail
  refine (evalPoly_any x E14 rab pab ix).mono ?_
  rintro e w' ⟨rfl, rfl⟩
  go_wp2_with fail
  refine (evalPoly_any x E14 rs ps ix).mono ?_
  rintro e w' ⟨rfl, rfl⟩
  rw [ev_mul x a1, ev_add x a1]
  generalize evL a x = ea
  generalize evL b x = eb
  go_wp2_with fail
  refine (powPoly_any E14 ra pa al).mono ?_
  rintro e E15 ⟨up, rfl, o, hb⟩
  have hB15 := hB14.trans (hb.mono hB14.size)
  replace h0 := h0.below hb
  replace h1 := h1.below hb
  replace ra := ra.below hb
  replace rb := rb.below hb
  replace rc := rc.below hb
  replace rs := rs.below hb
  replace rk := rk.below hb
  replace rab := rab.below hb
  replace rba := rba.below hb
  replace rl := rl.below hb
  replace rac := rac.below hb
  replace rbc := rbc.below hb
  replace rr := rr.below hb
  clear hB14
  have rp := o.rdP
  rw [powL_two pa] at rp
  clear o hb
  go_wp2_with fail
  refine (mulPoly_any E15 ra ra pa pa (by omega)).mono ?_
  rintro e E16 ⟨uq, rfl, o, hb⟩
  have hB16 := hB15.trans (hb.mono hB15.size)
  replace h0 := h0.below hb
  replace h1 := h1.below hb
  replace ra := ra.below hb
  replace rb := rb.below hb
  replace rc := rc.below hb
  replace rs := rs.below hb
  replace rk := rk.below hb
  replace rab := rab.below hb
  replace rba := rba.below hb
  replace rl := rl.below hb
  replace rac := rac.below hb
  replace rbc := rbc.below hb
  replace rr := rr.below hb
  replace rp := rp.below hb
  clear hB15
  have rq := o.rdP
  clear o hb
  have aal : (mulL a a).length ≤ 18 := by have := mulL_len a a a1; omega
  go_wp2_with fail
  refine (wrapMul_any ea eb _).mono ?_
  rintro e w' ⟨rfl, rfl⟩
  go_wp2_with fail
  refine (wrapAdd_any ea eb _).mono ?_
  rintro e w' ⟨rfl, rfl⟩
  go_wp2_with fail
  refine (v8Same_rd E16 rp rq (by omega)).mono ?_
  rintro e E17 ⟨rfl, hb⟩
  have hB17 := hB16.trans (hb.mono hB16.size)
  replace h0 := h0.below hb
  replace h1 := h1.below hb
  replace ra := ra.below hb
  replace rb := rb.below hb
  replace rc := rc.below hb
  replace rs := rs.below hb
  replace rk := rk.below hb
  replace rab := rab.below hb
  replace rba := rba.below hb
  replace rl := rl.below hb
  replace rac := rac.below hb
  replace rbc := rbc.below hb
  replace rr := rr.below hb
  replace rp := rp.below hb
  replace rq := rq.below hb
  clear hB16
  clear hb
  go_wp2_with fail
  go_ret
  exact ⟨rfl, hB17⟩
end Go.Proofs.Ytohacnlbconlaaa
