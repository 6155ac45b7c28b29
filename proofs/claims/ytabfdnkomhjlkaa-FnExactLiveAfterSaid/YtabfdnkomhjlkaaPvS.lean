/-
  Programs: nodes and stores, registers, on the reference's side.
-/
import Derived.Test.YtabfdnkomhjlkaaPvM
import Derived.Test.YtabfdnkomhjlkaaAppN
import Derived.Test.YtabfdnkomhjlkaaPat
namespace Go.Proofs.Ytabfdnkomhjlkaa
open Go.ChangeShapes Go.WideShapes Go.ChangeAt Go.RowKit Go.Sort
set_option linter.unusedVariables false
set_option linter.unusedSimpArgs false

theorem pr_stop {l : List InstrD} {k : Nat} {s : PrS} (hk : k < l.length) (hs : prRun (l.take k) = some s) (h : prStep s l[k] = none) : pairsB l = false := by
  have : prRun l = none := prRun_stop (k := k + 1) (by rw [List.take_succ_eq_append_getElem hk, prRun_snoc, hs]; exact h)
  unfold pairsB; rw [this]
theorem pr_step {l : List InstrD} {k : Nat} {s s' : PrS} (hk : k < l.length) (hs : prRun (l.take k) = some s) (h : prStep s l[k] = some s') : prRun (l.take (k + 1)) = some s' := by
  rw [List.take_succ_eq_append_getElem hk, prRun_snoc, hs]; exact h
theorem filt_succ (xs : List Int) (n : Int) {j : Nat} (h : j < xs.length) : (xs.take (j + 1)).filter (fun y => y != n) = (xs.take j).filter (fun y => y != n) ++ (if xs[j] != n then [xs[j]] else []) := by
  rw [List.take_succ_eq_append_getElem h, List.filter_append, List.filter_cons, List.filter_nil]
set_option maxHeartbeats 16000000 in
set_option maxRecDepth 100000 in
theorem l11Pairs_any {p : Option Addr} {c : Nat} {l : List InstrD} (w : World) (h : RdInstrS w p l) (hm : l.length ≤ 48) :
    Calls Try.prog 35 #[.slice p l.length c] w fun e w' => e = .returned (.bool (pairsB l)) ∧ Below w.heap.size w w' := by
  obtain ⟨E1, hE1⟩ : ∃ E, E = w.alloc (.cells #[] 2) := ⟨_, rfl⟩
  obtain ⟨E2, hE2⟩ : ∃ E, E = E1.alloc (.cells #[] 2) := ⟨_, rfl⟩
  have o1 : OwnI w.heap.size E2 (.slice (some ⟨w.heap.size, 0, none⟩) 0 0) [] := by
    rw [hE2, hE1]; exact (OwnI.lit (B := w.heap.size) w [] (Nat.le_refl _) (by simp [maxLen])).alloc _
  have o2 : OwnI w.heap.size E2 (.slice (some ⟨E1.heap.size, 0, none⟩) 0 0) [] := by
    rw [hE2]; exact OwnI.lit (B := w.heap.size) E1 [] (by rw [hE1]; simp) (by simp [maxLen])
  have hap : ∀ b, (Value.slice (some ⟨w.heap.size, 0, none⟩) 0 0).ownBlock = some b → (Value.slice (some ⟨E1.heap.size, 0, none⟩) 0 0).ownBlock ≠ some b := by
    intro b hb hb'
    simp only [Value.ownBlock, Option.some.injEq] at hb hb'
    rw [hE1] at hb'
    simp at hb'
    omega
  have hB2 : Below w.heap.size w E2 := by rw [hE2, hE1]; exact ((Below.refl _ _).alloc (Nat.le_refl _) _).alloc (by simp) _
  have HE1 := Lib.hid hE1
  have HE2 := Lib.hid hE2
  have O1 := Lib.hid o1
  have O2 := Lib.hid o2
  have HAP := Lib.hid hap
  have HRL := Lib.hid h
  obtain ⟨n, hn⟩ : ∃ n, n = l.length := ⟨_, rfl⟩
  have HN := Lib.hid hn
  rw [← hn] at hm
  generalize hR : pairsB l = R
  have HRE := Lib.hid hR
  clear hE1 hE2 o1 o2 hap h hn hR
  rw [← HN.out]
  go_enter Try.func35, Try.ntmps35
  go_upto_region 2 with fail
  rw [← HE1.out]
  go_upto_region 3 with fail
  rw [← HE2.out]
  go_wp2_with fail
  go_loopw [3, 4, 5] (fun sv ov i wr => ∃ (k : Nat) (s : PrS), k ≤ n ∧ i = .int .i64 (k : Int) ∧ prRun (l.take k) = some s ∧ OwnI w.heap.size wr sv s.1 ∧ OwnI w.heap.size wr ov s.2 ∧ (∀ b, sv.ownBlock = some b → ov.ownBlock ≠ some b) ∧ Below w.heap.size w wr ∧ s.1.length ≤ k ∧ s.2.length ≤ k) (fun _ _ i _ => n - (intOf i).toNat)
  case atStart => exact ⟨0, _, Nat.zero_le _, rfl, rfl, O1.out, O2.out, HAP.out, hB2, Nat.le_refl _, Nat.le_refl _⟩
  case round =>
    obtain ⟨k, s, hk, rfl, hs, os, oo, hap, hb, hl1, hl2⟩ := hrel
    have HS := Lib.hid hs
    have HAP2 := Lib.hid hap
    clear hs hap O1 O2 HAP hB2
    obtain ⟨wi, rfl⟩ : ∃ wi : World, wi = wr := ⟨_, rfl⟩
    have hz := hb.size
    by_cases hlt : k < n
    · have hlt' : k < l.length := by have := HN.out; omega
      obtain ⟨b, o, rfl, hbl, hcs⟩ := HRL.out.pos hlt'
      have hin := hcs k hlt'
      have STOP : Hid (prStep s l[k] = none → pairsB l = false) := fun h => pr_stop hlt' HS.out h
      have STEP : Hid (∀ s', prStep s l[k] = some s' → prRun (l.take (k + 1)) = some s') := fun s' h => pr_step hlt' HS.out h
      clear hcs
      generalize l[k] = y at hin STOP STEP
      obtain ⟨s1, s2⟩ := s
      simp only at os oo hl1 hl2
      obtain ⟨qs, cs, rfl, hrs⟩ := os.rd
      obtain ⟨qo, co, rfl, hro⟩ := oo.rd
      have LS := Lib.hid (l00Has_any (c := cs) y.node wi hrs)
      have LO := Lib.hid (l00Has_any (c := co) y.node wi hro)
      rw [any_contains] at LS LO
      have HOS := Lib.hid os
      have HOO := Lib.hid oo
      have y0 := (hin.below hb).c0
      have y3 := (hin.below hb).c3
      have HIN := Lib.hid hin
      clear hin hrs os oo
      by_cases k18 : y.kind = 18
      · have hk18 : (y.kind == 18) = true := by simp [k18]
        cases co1 : s2.contains y.node
        · have HSO : Hid (pairsB l = false) := STOP.out (by unfold prStep; rw [if_pos k18]; simp only [co1]; rfl)
          have hR : R = false := by rw [← HRE.out]; exact HSO.out
          subst hR
          rw [co1] at LO
          clear k18 co1 hro
          go_wp2_with (first | (go_at_call 45; refine LO.out.mono ?_; rintro e w' ⟨rfl, rfl⟩) | fail)
          go_ret
          exact ⟨rfl, hb⟩
        · have HST := Lib.hid (STEP.out (s1, s2.filter fun z => z != y.node) (by unfold prStep; rw [if_pos k18]; simp only [co1, if_true]))
          rw [co1] at LO
          clear k18 co1
          have o3 := OwnI.lit (B := wi.heap.size) wi [] (Nat.le_refl _) (by simp [maxLen])
          have hb3 := (Below.refl wi.heap.size wi).alloc (Nat.le_refl _) (.cells #[] 2)
          obtain ⟨E3, hE3⟩ : ∃ E, E = wi.alloc (.cells #[] 2) := ⟨_, rfl⟩
          have o3' : OwnI wi.heap.size E3 (.slice (some ⟨wi.heap.size, 0, none⟩) 0 0) [] := by rw [hE3]; exact o3
          rw [← hE3] at hb3
          have HO3 := Lib.hid o3'
          have HE3 := Lib.hid hE3
          have HRO := Lib.hid hro
          clear o3 o3' hE3 hro
          go_upto_region 11 with (first | (go_at_call 45; refine LO.out.mono ?_; rintro e w' ⟨rfl, rfl⟩) | fail)
          rw [← HE3.out]
          go_wp2_with fail
          go_loopw [7, 8] (fun rv j wr => ∃ jj : Nat, jj ≤ s2.length ∧ j = .int .i64 (jj : Int) ∧ OwnI wi.heap.size wr rv ((s2.take jj).filter fun z => z != y.node) ∧ Below wi.heap.size wi wr) (fun _ j _ => s2.length - (intOf j).toNat)
          case atStart => exact ⟨0, Nat.zero_le _, rfl, by simpa using HO3.out, hb3⟩
          case round =>
            obtain ⟨jj, hjj, rfl, orv, hbj⟩ := hrel
            obtain ⟨wj, rfl⟩ : ∃ wj : World, wj = wr := ⟨_, rfl⟩
            clear hb3 y0 y3
            have hin2 := HIN.out.below (hb.trans (hbj.mono hz))
            have y0 := hin2.c0
            have y3 := hin2.c3
            have hzj := hbj.size
            by_cases hjt : jj < s2.length
            · obtain ⟨b', o', rfl, hbl', hcs'⟩ := (HRO.out.below hbj).pos hjt
              have hcj := hcs' jj hjt
              have hfl : ((s2.take jj).filter fun z => z != y.node).length ≤ 48 := by
                have := List.length_filter_le (fun z => z != y.node) (s2.take jj)
                rw [List.length_take] at this; omega
              have HF := Lib.hid (filt_succ s2 y.node hjt)
              clear hcs' hin2
              generalize s2[jj] = f at hcj HF
              generalize ((s2.take jj).filter fun z => z != y.node) = fl at orv hfl HF
              by_cases hf : f = y.node
              · have hne : (f != y.node) = false := by simp [hf]
                rw [hne, if_neg (by simp), List.append_nil] at HF
                clear hf
                go_wp2_with fail
                go_quiet (fail)
                go_wp2_with fail
                generalize hw7 : wj.drewN _ = w7
                have hb7 : Below wi.heap.size wi w7 := by rw [← hw7]; exact below_drewN hbj _
                have o7 := orv.keep (w' := w7) (fun j _ => by rw [← hw7]; rfl)
                clear hw7
                go_roundw
                case rel => exact ⟨jj + 1, by omega, by go_num, by rw [HF.out]; exact o7, hb7⟩
                case measure => simp [intOf] <;> omega
              · have hne : (f != y.node) = true := by simp [hf]
                rw [hne, if_pos rfl] at HF
                clear hf
                go_wp2_with fail
                go_quiet (fail)
                generalize hw7 : wj.drewN _ = w7
                have hb7 : Below wi.heap.size wi w7 := by rw [← hw7]; exact below_drewN hbj _
                have o7 := orv.keep (w' := w7) (fun j _ => by rw [← hw7]; rfl)
                have c7 : w7.cell? ⟨b', o' + jj, none⟩ = some (.int .i64 f) := by rw [← hw7]; exact hcj
                have hz7 : wi.heap.size ≤ w7.heap.size := hb7.size
                clear hw7 hcj y0 y3
                go_wp2_with (first | (at_builtin; refine wpList_append_one rfl _ _ rfl rfl o7 rfl hb7 (by omega) hz7 (Nat.le_refl _) ?_; intro v' w4 hown4 hb4 hz4 hk4) | fail)
                go_roundw
                case rel => exact ⟨jj + 1, by omega, by go_num, by rw [HF.out]; exact hown4, hb4⟩
                case measure => simp [intOf] <;> omega
            · obtain rfl : jj = s2.length := by omega
              rw [List.take_length] at orv
              have os2 := HOS.out.below hbj
              have oo2 := orv.mono (B' := w.heap.size) hz
              obtain ⟨qr, cr, rfl, -⟩ := orv.rd
              have HAP3 : Hid (∀ b, (Value.slice qs s1.length cs).ownBlock = some b → (Value.slice qr (s2.filter fun z => z != y.node).length cr).ownBlock ≠ some b) := fun b hb1 hb2 => by have := (HOS.out.lt hb1).2; have := (orv.lt hb2).1; omega
              have hfl : (s2.filter fun z => z != y.node).length ≤ s2.length := List.length_filter_le _ _
              have HOS2 := Lib.hid os2
              have HOO2 := Lib.hid oo2
              have hbb := hb.trans (hbj.mono hz)
              generalize (s2.filter fun z => z != y.node) = fl at HOO2 HST hfl HAP3 ⊢
              clear orv os2 oo2 hin2
              go_wp2_with fail
              go_roundw
              case rel => exact ⟨k + 1, _, by omega, by go_num, HST.out, HOS2.out, HOO2.out, HAP3.out, hbb, by show s1.length ≤ k + 1; omega, by show fl.length ≤ k + 1; omega⟩
              case measure => simp [intOf] <;> omega
      · have hk18 : (y.kind == 18) = false := by simp [k18]
        cases cs1 : s1.contains y.node
        case true =>
          have HSO : Hid (pairsB l = false) := STOP.out (by unfold prStep; rw [if_neg k18]; simp only [cs1, if_true])
          have hR : R = false := by rw [← HRE.out]; exact HSO.out
          subst hR
          rw [cs1] at LS
          clear k18 cs1 hro
          go_wp2_with (first | (go_at_call 45; refine LS.out.mono ?_; rintro e w' ⟨rfl, rfl⟩) | fail)
          go_ret
          exact ⟨rfl, hb⟩
        case false =>
          have HST := Lib.hid (STEP.out (s1 ++ [y.node], if y.kind = 6 then s2 ++ [y.node] else s2) (by unfold prStep; rw [if_neg k18]; simp only [cs1]; rfl))
          rw [cs1] at LS
          have os := HOS.out
          clear k18 cs1 hro
          by_cases k6 : y.kind = 6
          · have hk6 : (y.kind == 6) = true := by simp [k6]
            rw [if_pos k6] at HST
            clear k6
            go_upto_region 20 with (first | (go_at_call 45; refine LS.out.mono ?_; rintro e w' ⟨rfl, rfl⟩) | (at_builtin; refine wpList_append_new rfl _ _ rfl rfl os rfl hb (by omega) hz (Nat.le_refl _) ?_; intro v' w4 hown4 hb4 hz4 hk4 hw4) | fail)
            have hin4 := HIN.out.below hb4
            have z0 := hin4.c0
            have z3 := hin4.c3
            have oo4 := HOO.out.keep (w' := w4) (fun j hj => hk4 j (HOO.out.lt hj).2 (fun e => HAP2.out j e hj))
            have HAP4 : Hid (∀ b, v'.ownBlock = some b → (Value.slice qo s2.length co).ownBlock ≠ some b) := fun b hb1 hb2 => by
              rcases hw4 b hb1 with h | h
              · exact HAP2.out b h hb2
              · have := (HOO.out.lt hb2).2; omega
            have HOS4 := Lib.hid hown4
            have HOO4 := Lib.hid oo4
            have hz5 : w.heap.size ≤ w4.heap.size := hb4.size
            clear hk4 hw4 hown4 hin4 oo4 os
            have oo5 := HOO4.out
            go_wp2_with (first | (at_builtin; refine wpList_append_new rfl _ _ rfl rfl oo5 rfl hb4 (by omega) hz5 (Nat.le_refl _) ?_; intro v2 w6 hown6 hb6 hz6 hk6 hw6) | fail)
            have os6 := HOS4.out.keep (w' := w6) (fun j hj => hk6 j (HOS4.out.lt hj).2 (fun e => HAP4.out j hj e))
            have HAP6 : Hid (∀ b, v'.ownBlock = some b → v2.ownBlock ≠ some b) := fun b hb1 hb2 => by
              rcases hw6 b hb2 with h | h
              · exact HAP4.out b hb1 h
              · have := (HOS4.out.lt hb1).2; omega
            have HO6 := Lib.hid hown6
            have HS6 := Lib.hid os6
            clear hk6 hw6 hown6 os6 oo5
            go_roundw
            case rel => exact ⟨k + 1, _, by omega, by go_num, HST.out, HS6.out, HO6.out, HAP6.out, hb6, by simp; omega, by simp; omega⟩
            case measure => simp [intOf] <;> omega
          · have hk6 : (y.kind == 6) = false := by simp [k6]
            rw [if_neg k6] at HST
            clear k6
            go_upto_region 20 with (first | (go_at_call 45; refine LS.out.mono ?_; rintro e w' ⟨rfl, rfl⟩) | (at_builtin; refine wpList_append_new rfl _ _ rfl rfl os rfl hb (by omega) hz (Nat.le_refl _) ?_; intro v' w4 hown4 hb4 hz4 hk4 hw4) | fail)
            have hin4 := HIN.out.below hb4
            have z0 := hin4.c0
            have oo4 := HOO.out.keep (w' := w4) (fun j hj => hk4 j (HOO.out.lt hj).2 (fun e => HAP2.out j e hj))
            have HAP4 : Hid (∀ b, v'.ownBlock = some b → (Value.slice qo s2.length co).ownBlock ≠ some b) := fun b hb1 hb2 => by
              rcases hw4 b hb1 with h | h
              · exact HAP2.out b h hb2
              · have := (HOO.out.lt hb2).2; omega
            have HOS4 := Lib.hid hown4
            have HOO4 := Lib.hid oo4
            clear hk4 hw4 hown4 hin4 oo4 os
            go_wp2_with fail
            go_roundw
            case rel => exact ⟨k + 1, _, by omega, by go_num, HST.out, HOS4.out, HOO4.out, HAP4.out, hb4, by simp; omega, by show s2.length ≤ k + 1; omega⟩
            case measure => simp [intOf] <;> omega
    · obtain rfl : k = n := by omega
      have HS2 : Hid (prRun l = some s) := by have := HS.out; rw [HN.out, List.take_length] at this; exact this
      have hRv : R = decide (s.2.length = 0) := by rw [← HRE.out]; unfold pairsB; rw [HS2.out]
      obtain ⟨qo, co, rfl, hro⟩ := oo.rd
      have hq : ((s.2.length : Int) == 0) = R := by rw [hRv, Bool.eq_iff_iff, beq_iff_eq, decide_eq_true_iff]; omega
      clear HS2 HS hro hRv
      generalize s.2.length = m at *
      go_wp2_with fail
      go_ret
      exact ⟨rfl, hb⟩
end Go.Proofs.Ytabfdnkomhjlkaa
