/-
  The walk of the law on series.
-/
import Derived.Test.YtohacnlbconlaaaSer2
namespace Go.Proofs.Ytohacnlbconlaaa
open Go.ChangeShapes Go.WideShapes Go.ChangeAt Go.RowKit
set_option linter.unusedVariables false

theorem canon_set {xs : List Int} (h : Canon xs) (x : Int) : Canon (xs.set 0 x) := by
  obtain ⟨h1, h2⟩ := h
  refine ⟨by rw [List.length_set]; exact h1, ?_⟩
  rw [List.length_set]
  by_cases e : xs.length = 1
  · exact .inl e
  · right
    have h3 := h2.resolve_left e
    rw [List.getD_eq_getElem?_getD, List.getElem?_set_ne (by omega), ← List.getD_eq_getElem?_getD]
    exact h3
theorem alls_set {xs : List Int} (h : AllS xs) {x : Int} (hx : isSmp x = true) (k : Nat) : AllS (xs.set k x) := by
  intro y hy
  rcases List.mem_or_eq_of_mem_set hy with h1 | h1
  · exact h y h1
  · rw [h1]; exact hx
theorem e8Unit_any {v : Value} {bs : List Int} (w : World) (h : VB w v bs) (hl : bs.length ≤ 1048576) :
    Calls Try.prog 10 #[v] w fun e w' => ∃ u ys, e = .returned u ∧ Canon ys ∧ AllS ys ∧ ys.length ≤ 7 ∧ ys.getD 0 0 % 2 = 1 ∧ OwnI w.heap.size w' u ys ∧ Below w.heap.size w w' := by
  obtain ⟨p, c, rfl, hr⟩ := h
  go_enter Try.func10, Try.ntmps10
  go_wp2_with fail
  refine (l00From_any (c := c) w hr hl).mono ?_
  rintro e w1 ⟨rfl, hs1, hb1⟩
  have hz1 : w.heap.size < w1.heap.size := hs1.lt
  obtain ⟨g, hg⟩ : ∃ g, g = w.heap.size := ⟨_, rfl⟩
  rw [← hg] at hs1 hz1 ⊢
  have HG := Lib.hid hg
  clear hg
  go_wp2_with fail
  refine (l04Draw_any 6 w1 hs1 (by omega) (by omega)).mono ?_
  rintro e w2 ⟨u, ys, rfl, hc, ha, hn, ho, hs2, hf⟩
  have hb2 : Below g w w2 := by
    rw [HG.out]; exact hb1.trans (hf.below (B := w.heap.size) (fun k hk => by have : k = g := hk; rw [this, HG.out]; exact Nat.le_refl _) hb1.size)
  rcases ho.cases with ⟨-, he⟩ | ⟨k, cap, rfl, hk1, hk2, hk3, hrd⟩
  · have := hc.1; rw [he] at this; simp at this
  have hpos := hc.1
  have AM := Lib.hid (amongLit_any [1, -1, 3, 7, -2147483647] w2 hs2 (by simp) (by simp) (by omega))
  have HC := Lib.hid hc
  have HA := Lib.hid ha
  clear hc ha hrd hb1 hs1 hf hs2
  go_wp2_with (go_at_call 39; refine AM.out.mono ?_; rintro e w3 ⟨x, hx, rfl, hs3, ho3⟩; have HX := Lib.hid hx; clear hx; have ho4 := ho.off ho3 (by omega); obtain ⟨-, -, hgl, hz, hfr, hset⟩ := ho4.storing (k := 0) hpos; have hb3 : Below g w w3 := hb2.trans (ho3.below (B := g) (fun k hk => by have : k = g := hk; omega) (by omega)))
  go_ret
  have hx1 : x % 2 = 1 ∧ isSmp x = true := by
    have hx := HX.out
    simp only [List.mem_cons, List.not_mem_nil, or_false] at hx
    refine ⟨by omega, isSmp_iff.2 (by omega)⟩
  exact ⟨_, ys.set 0 x, rfl, canon_set HC.out x, alls_set HA.out hx1.2 0, by rw [List.length_set]; omega, by rw [List.getD_eq_getElem?_getD, List.getElem?_set_self (by omega)]; exact hx1.1, (hset x).mono (by rw [← HG.out]; omega), by rw [← HG.out]; exact hb3.setCell (p := ⟨k, 0, none⟩) (show g ≤ k by omega) _⟩
theorem wrapAdd_any (a b : Int) (w : World) :
    Calls Try.prog 14 #[.int .i64 a, .int .i64 b] w fun e w' => e = .returned (.int .i64 (smp (a + b))) ∧ w = w' := by
  go_enter Try.func14, Try.ntmps14
  go_wp2_with (go_at_call 44; refine (l01Add_any _ _ _).mono ?_; rintro e w' ⟨rfl, rfl⟩)
  go_ret
  exact ⟨rfl, rfl⟩
theorem wrapMul_any (a b : Int) (w : World) :
    Calls Try.prog 15 #[.int .i64 a, .int .i64 b] w fun e w' => e = .returned (.int .i64 (smp (a * b))) ∧ w = w' := by
  go_enter Try.func15, Try.ntmps15
  go_wp2_with (go_at_call 45; refine (l01Mul_any _ _ _).mono ?_; rintro e w' ⟨rfl, rfl⟩)
  go_ret
  exact ⟨rfl, rfl⟩
theorem getD_nil_of_le {xs : List Int} {k : Nat} (h : ¬ k < xs.length) : xs.getD k 0 = 0 := by
  rw [List.getD_eq_getElem?_getD, List.getElem?_eq_none (by omega)]; rfl
set_option maxHeartbeats 8000000 in
set_option maxRecDepth 100000 in
theorem fnSeries_walk (w : World) {v0 : Value} {bs0 : List Int} (h0 : VB w v0 bs0) (hm0 : bs0.length ≤ maxLen) {v1 : Value} {bs1 : List Int} (h1 : VB w v1 bs1) (hm1 : bs1.length ≤ maxLen) :
    Calls Try.prog 3 #[v0, v1] w fun e w' => e = .returned (.bool true) ∧ Below w.heap.size w w' := by
  have hv0 := h0
  obtain ⟨p0, c0, rfl, -⟩ := hv0
  have hv1 := h1
  obtain ⟨p1, c1, rfl, -⟩ := hv1
  have LG := Lib.hid (v8Long_any p0 p1 bs0.length bs1.length c0 c1 w hm0 hm1)
  by_cases hl : ((1048576 : Int) < (bs0.length : Int)) ∨ ((1048576 : Int) < (bs1.length : Int))
  · have e : (decide ((1048576 : Int) < (bs0.length : Int)) || decide ((1048576 : Int) < (bs1.length : Int))) = true := by
      rw [Bool.or_eq_true, decide_eq_true_iff, decide_eq_true_iff]; exact hl
    rw [e] at LG
    clear hl e
    go_enter Try.func3, Try.ntmps3
    go_wp2_with (go_at_call 8; refine LG.out.mono ?_; rintro e w' ⟨rfl, rfl⟩)
    go_ret
    exact ⟨rfl, Below.refl _ _⟩
  have e : (decide ((1048576 : Int) < (bs0.length : Int)) || decide ((1048576 : Int) < (bs1.length : Int))) = false := by
    rw [Bool.or_eq_false_iff, decide_eq_false_iff_not, decide_eq_false_iff_not]; exact not_or.1 hl
  rw [e] at LG
  have l0 : bs0.length ≤ 1048576 := by omega
  have l1 : bs1.length ≤ 1048576 := by omega
  clear hl e hm0 hm1
  go_enter Try.func3, Try.ntmps3
  go_wp2_with fail
  refine LG.out.mono ?_
  rintro e w' ⟨rfl, rfl⟩
  clear LG
  go_wp2_with fail
  refine (e8Poly_any w h0 l0).mono ?_
  rintro e E1 ⟨u1, ps, rfl, pc, pa, pl, po, hb1⟩
  have hv := po.rd
  obtain ⟨pp, pcap, rfl, -⟩ := hv
  go_wp2_with fail
  refine (e8Unit_any E1 (h1.below hb1) l1).mono ?_
  rintro e E2 ⟨u2, us, rfl, uc, ua, ul, uodd, uo, hb2⟩
  have hv := uo.rd
  obtain ⟨up, ucap, rfl, -⟩ := hv
  have hB2 := hb1.trans (hb2.mono hb1.size)
  have po2 := po.below hb2
  clear po hb1 hb2
  go_wp2_with fail
  refine (v8At_any 1 40 E2 (h0.below hB2) l0 (by omega) (by omega) (by omega)).mono ?_
  rintro e w' ⟨r, r1, r2, rfl, rfl⟩
  obtain ⟨n, rfl⟩ : ∃ n : Nat, r = n := ⟨r.toNat, by omega⟩
  have hn : n < 40 := by omega
  clear r1 r2
  go_wp2_with fail
  refine (seriesInverse_any n E2 uo.rdP uc ua (by omega) uodd (by omega)).mono ?_
  rintro e E3 ⟨x1, rfl, i1, hb3⟩
  have hB3 := hB2.trans (hb3.mono hB2.size)
  have po3 := po2.below hb3
  have uo3 := uo.below hb3
  clear po2 uo hb3
  have hv := i1.rd
  rw [quo_length] at hv
  obtain ⟨ip, icap, rfl, -⟩ := hv
  go_wp2_with fail
  refine (seriesQuotient_any n E3 po3.rdP uo3.rdP pc pa (by omega) uc ua (by omega) uodd (by omega)).mono ?_
  rintro e E4 ⟨x2, rfl, q1, hb4⟩
  have hB4 := hB3.trans (hb4.mono hB3.size)
  have hv := q1.rd
  rw [quo_length] at hv
  obtain ⟨qp, qcap, rfl, qr⟩ := hv
  obtain ⟨-, pr⟩ := (po3.below hb4).rdAt
  obtain ⟨-, ur⟩ := (uo3.below hb4).rdAt
  obtain ⟨-, ir⟩ := (i1.below hb4).rdAt
  have HU1 : Hid (∀ i, i < n → lsum us (quo [1] us (invN (us.getD 0 0) 5) n) i (qcnt us i + 1) = smp (([1] : List Int).getD i 0)) := fun i hi => quo_law uc.1 uodd hi
  have HU2 : Hid (∀ i, i < n → lsum us (quo ps us (invN (us.getD 0 0) 5) n) i (qcnt us i + 1) = ps.getD i 0) := fun i hi => by rw [quo_law uc.1 uodd hi]; exact smp_id (getD_smp pa i)
  have HI : Hid ((quo [1] us (invN (us.getD 0 0) 5) n).length = n) := quo_length _ _ _ _
  have HQ : Hid ((quo ps us (invN (us.getD 0 0) 5) n).length = n) := quo_length _ _ _ _
  generalize quo [1] us (invN (us.getD 0 0) 5) n = I at ir HU1 HI
  generalize quo ps us (invN (us.getD 0 0) 5) n = Q at qr HU2 HQ
  have HPL := Lib.hid pc.1
  have HUL := Lib.hid uc.1
  clear po3 uo3 i1 q1 hb4 hB2 hB3 pc pa uc ua uodd h0 h1 l0 l1
  go_wp2_with fail
  go_loopw [12] (fun i wr => ∃ k : Nat, k ≤ n ∧ i = .int .i64 (k : Int) ∧ Drawn E4 wr) (fun i _ => n - (intOf i).toNat)
  case atStart => exact ⟨0, Nat.zero_le _, rfl, Drawn.refl _⟩
  case round =>
    obtain ⟨i, hi, rfl, hdr⟩ := hrel
    obtain ⟨wi, rfl⟩ : ∃ wi : World, wi = wr := ⟨_, rfl⟩
    by_cases hlt : i < n
    · have HL1 := Lib.hid (HU1.out i hlt)
      have HL2 := Lib.hid (HU2.out i hlt)
      go_wp2_with fail
      go_loopw [13, 14, 15] (fun s t k wr => ∃ j : Nat, j ≤ qcnt us i + 1 ∧ k = .int .i64 (j : Int) ∧ s = .int .i64 (lsum us I i j) ∧ t = .int .i64 (lsum us Q i j) ∧ Drawn E4 wr) (fun _ _ k _ => i + 1 - (intOf k).toNat)
      case atStart => exact ⟨0, Nat.zero_le _, rfl, rfl, rfl, hdr⟩
      case round =>
        obtain ⟨j, hj, rfl, rfl, rfl, hdr1⟩ := hrel
        clear hdr
        by_cases hgo : j < us.length ∧ j ≤ i
        · obtain ⟨hj1, hj2⟩ := hgo
          obtain ⟨d1, hd⟩ : ∃ d, i = d + j := ⟨i - j, by omega⟩
          have eD : ((i : Int) - (j : Int)) = (d1 : Int) := by omega
          have HD1 : Hid (d1 < I.length) := by unfold Hid; rw [HI.out]; omega
          have HD2 : Hid (d1 < Q.length) := by unfold Hid; rw [HQ.out]; omega
          have hdn : d1 < n := by omega
          obtain ⟨b1, o1, rfl, hbk1, hc1⟩ := (hdr1.rdI ur).pos hj1
          obtain ⟨b2, o2, rfl, hbk2, hc2⟩ := (hdr1.rdI ir).pos HD1.out
          obtain ⟨b3, o3, rfl, hbk3, hc3⟩ := (hdr1.rdI qr).pos HD2.out
          have z1 := hc1 j hj1
          have z2 := hc2 d1 HD1.out
          have z3 := hc3 d1 HD2.out
          have HS1 : Hid (lsum us I i (j + 1) = smp (lsum us I i j + smp (us[j] * I[d1]'HD1.out))) := by
            unfold Hid; rw [lsum, getD_at hj1, show i - j = d1 by omega, getD_at HD1.out]
          have HS2 : Hid (lsum us Q i (j + 1) = smp (lsum us Q i j + smp (us[j] * Q[d1]'HD2.out))) := by
            unfold Hid; rw [lsum, getD_at hj1, show i - j = d1 by omega, getD_at HD2.out]
          have HJ : Hid (j + 1 ≤ qcnt us i + 1) := by unfold Hid qcnt; omega
          generalize us[j] = y1 at z1 HS1 HS2
          generalize I[d1]'HD1.out = y2 at z2 HS1
          generalize Q[d1]'HD2.out = y3 at z3 HS2
          generalize lsum us I i j = s1 at HS1
          generalize lsum us Q i j = s2 at HS2
          clear hc1 hc2 hc3 hj hd
          have HM : Hid (∀ (W : World) (x y : Int), Calls Try.prog 15 #[.int .i64 x, .int .i64 y] W fun e w' => e = .returned (.int .i64 (smp (x * y))) ∧ w' = W) := fun W x y => Calls.turn (wrapMul_any x y W)
          have HA : Hid (∀ (W : World) (x y : Int), Calls Try.prog 14 #[.int .i64 x, .int .i64 y] W fun e w' => e = .returned (.int .i64 (smp (x + y))) ∧ w' = W) := fun W x y => Calls.turn (wrapAdd_any x y W)
          go_wp2_with fail
          go_quiet ((first | (go_at_call 15; exact Calls.quiet_of_same (HM.out _ _ _)) | (go_at_call 14; exact Calls.quiet_of_same (HA.out _ _ _))))
          have y_1 : (wr.drewN nq).cell? ⟨b1, o1 + j, none⟩ = some (.int .i64 y1) := z1
          have y_3 : (wr.drewN nq).cell? ⟨b3, o3 + d1, none⟩ = some (.int .i64 y3) := z3
          have hdr2 := hdr1.on nq
          clear hdr1 z1 z2 z3
          generalize wr.drewN nq = F2 at y_1 y_3 hdr2 ⊢
          go_wp2_with fail
          go_quiet ((first | (go_at_call 15; exact Calls.quiet_of_same (HM.out _ _ _)) | (go_at_call 14; exact Calls.quiet_of_same (HA.out _ _ _))))
          go_wp2_with fail
          go_roundw
          case rel => exact ⟨j + 1, HJ.out, by go_num, by rw [HS1.out], by rw [HS2.out], hdr2.on _⟩
          case measure => simp [intOf] <;> omega
        · have hjq : j = qcnt us i + 1 := by unfold qcnt at hj ⊢; have := HUL.out; omega
          have EL1 : lsum us I i j = smp (([1] : List Int).getD i 0) := by rw [hjq]; exact HL1.out
          have EL2 : lsum us Q i j = ps.getD i 0 := by rw [hjq]; exact HL2.out
          rw [EL1, EL2]
          have hpl : 0 < ps.length := HPL.out
          have PR := hdr1.rdI pr
          clear EL1 EL2 hjq hj
          by_cases hj2 : j ≤ i
          · have hj1 : ¬ j < us.length := fun h => hgo ⟨h, hj2⟩
            clear hgo
            by_cases h00 : i = 0
            · exact absurd (show j < us.length by have := HUL.out; omega) hj1
            · have e1 : smp (([1] : List Int).getD i 0) = 0 := by
                obtain ⟨m, rfl⟩ : ∃ m, i = m + 1 := ⟨i - 1, by omega⟩
                rfl
              have qi : ((i : Int) == 0) = false := by rw [beq_eq_false_iff_ne]; omega
              rw [e1]
              clear e1
              by_cases hp : i < ps.length
              · obtain ⟨b4, o4, rfl, hbk4, hc4⟩ := PR.pos hp
                have z4 := hc4 i hp
                rw [getD_at hp]
                generalize ps[i] = z at z4 ⊢
                clear hc4
                go_wp2_with fail
                go_roundw
                case rel => exact ⟨i + 1, by omega, by go_num, hdr1⟩
                case measure => simp [intOf] <;> omega
              · rw [getD_nil_of_le hp]
                go_wp2_with fail
                go_roundw
                case rel => exact ⟨i + 1, by omega, by go_num, hdr1⟩
                case measure => simp [intOf] <;> omega
          · clear hgo
            by_cases h00 : i = 0
            · subst h00
              obtain ⟨b4, o4, rfl, hbk4, hc4⟩ := PR.pos hpl
              have z4 := hc4 0 hpl
              rw [Nat.add_zero] at z4
              have e1 : smp (([1] : List Int).getD 0 0) = 1 := rfl
              rw [e1, getD_at hpl]
              generalize ps[0] = z at z4 ⊢
              clear hc4 e1
              go_wp2_with fail
              go_roundw
              case rel => exact ⟨0 + 1, by omega, by first | rfl | go_num, hdr1⟩
              case measure => simp [intOf] <;> omega
            · have e1 : smp (([1] : List Int).getD i 0) = 0 := by
                obtain ⟨m, rfl⟩ : ∃ m, i = m + 1 := ⟨i - 1, by omega⟩
                rfl
              have qi : ((i : Int) == 0) = false := by rw [beq_eq_false_iff_ne]; omega
              rw [e1]
              clear e1
              by_cases hp : i < ps.length
              · obtain ⟨b4, o4, rfl, hbk4, hc4⟩ := PR.pos hp
                have z4 := hc4 i hp
                rw [getD_at hp]
                generalize ps[i] = z at z4 ⊢
                clear hc4
                go_wp2_with fail
                go_roundw
                case rel => exact ⟨i + 1, by omega, by go_num, hdr1⟩
                case measure => simp [intOf] <;> omega
              · rw [getD_nil_of_le hp]
                go_wp2_with fail
                go_roundw
                case rel => exact ⟨i + 1, by omega, by go_num, hdr1⟩
                case measure => simp [intOf] <;> omega
    · obtain rfl : i = n := by omega
      go_wp2_with fail
      go_ret
      obtain ⟨m, rfl⟩ := hdr
      exact ⟨rfl, below_drewN hB4 m⟩
end Go.Proofs.Ytohacnlbconlaaa
