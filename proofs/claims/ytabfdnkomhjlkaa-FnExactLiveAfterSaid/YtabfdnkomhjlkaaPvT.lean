/-
  Programs: validity on the reference's side.
-/
import Derived.Test.YtabfdnkomhjlkaaPvS
import Derived.Test.YtabfdnkomhjlkaaPvW
namespace Go.Proofs.Ytabfdnkomhjlkaa
open Go.ChangeShapes Go.WideShapes Go.ChangeAt Go.RowKit Go.Sort
set_option linter.unusedVariables false
set_option linter.unusedSimpArgs false

/-- a program lies in a block -/
def PProgram (w : World) (g : Nat) (x : ProgramD) : Prop := ∃ p2 c2 p3 c3 p4 c4, Box w g [.int .i64 x.inputs, .int .i64 x.registers, .slice p2 x.tables.length c2, .slice p3 x.code.length c3, .slice p4 x.outputs.length c4] 31 ∧ RdII w p2 x.tables ∧ RdInstrS w p3 x.code ∧ RdI w p4 x.outputs
theorem PProgram.lt {w : World} {g : Nat} {x : ProgramD} (h : PProgram w g x) : g < w.heap.size := by
  obtain ⟨_, _, _, _, _, _, hb, _⟩ := h
  exact hb.lt
theorem PProgram.below {w w' : World} {g : Nat} {x : ProgramD} (h : PProgram w g x) (hb : Below w.heap.size w w') : PProgram w' g x := by
  obtain ⟨p1, c1, p2, c2, p3, c3, b, r1, r2, r3⟩ := h
  exact ⟨p1, c1, p2, c2, p3, c3, b.below hb, r1.below hb, r2.below hb, r3.below hb⟩
theorem PProgram.of {w : World} {x : ProgramD} {v : Value} (h : VProgram w v x) : ∃ p2 c2 p3 c3 p4 c4, v = .agg #[.int .i64 x.inputs, .int .i64 x.registers, .slice p2 x.tables.length c2, .slice p3 x.code.length c3, .slice p4 x.outputs.length c4] ∧
    PProgram (w.alloc (.cells #[.int .i64 x.inputs, .int .i64 x.registers, .slice p2 x.tables.length c2, .slice p3 x.code.length c3, .slice p4 x.outputs.length c4] 31)) w.heap.size x := by
  obtain ⟨p1, c1, p2, c2, p3, c3, rfl, r1, r2, r3⟩ := h
  have hB0 : Below w.heap.size w (w.alloc (.cells #[.int .i64 x.inputs, .int .i64 x.registers, .slice p1 x.tables.length c1, .slice p2 x.code.length c2, .slice p3 x.outputs.length c3] 31)) := (Below.refl _ _).alloc (Nat.le_refl _) _
  exact ⟨p1, c1, p2, c2, p3, c3, rfl, p1, c1, p2, c2, p3, c3, Box.newAt w _ _ rfl, r1.below hB0, r2.below hB0, r3.below hB0⟩
set_option maxHeartbeats 8000000 in
set_option maxRecDepth 100000 in
theorem l11Written_any {g : Nat} {x : ProgramD} (w : World) (h : PProgram w g x) (hm : x.code.length ≤ 48) :
    Calls Try.prog 36 #[.pointer (some ⟨g, 0, none⟩)] w fun e w' => e = .returned (.bool (writtenB x.code x.outputs)) ∧ Below w.heap.size w w' := by
  have hgl := h.lt
  obtain ⟨p2, c2, p3, c3, p4, c4, bx, -, r3, r4⟩ := h
  obtain ⟨n, hn⟩ : ∃ n, n = x.code.length := ⟨_, rfl⟩
  rw [← hn] at bx hm
  have HN := Lib.hid hn
  obtain ⟨E1, hE1⟩ : ∃ E, E = w.alloc (.cells #[] 2) := ⟨_, rfl⟩
  have o1 : OwnI w.heap.size E1 (.slice (some ⟨w.heap.size, 0, none⟩) 0 0) [] := by rw [hE1]; exact OwnI.lit (B := w.heap.size) w [] (Nat.le_refl _) (by simp [maxLen])
  have hB1 : Below w.heap.size w E1 := by rw [hE1]; exact (Below.refl _ _).alloc (Nat.le_refl _) _
  have HE1 := Lib.hid hE1
  have O1 := Lib.hid o1
  have BX := Lib.hid bx
  have HR3 := Lib.hid r3
  have HR4 := Lib.hid r4
  generalize hR : writtenB x.code x.outputs = R
  have HRE := Lib.hid hR
  clear hn hE1 o1 bx r3 r4 hR
  go_enter Try.func36, Try.ntmps36
  go_upto_region 2 with fail
  rw [← HE1.out]
  go_wp2_with fail
  go_loopw [3, 4] (fun hv i wr => ∃ (k : Nat) (h : List Int), k ≤ n ∧ i = .int .i64 (k : Int) ∧ wrRun (x.code.take k) = some h ∧ OwnI w.heap.size wr hv h ∧ Below w.heap.size w wr ∧ h.length ≤ k) (fun _ i _ => n - (intOf i).toNat)
  case atStart => exact ⟨0, _, Nat.zero_le _, rfl, rfl, O1.out, hB1, Nat.le_refl _⟩
  case round =>
    obtain ⟨k, h, hk, rfl, hs, oh, hb, hl⟩ := hrel
    have HS := Lib.hid hs
    clear hs O1 hB1
    obtain ⟨wi, rfl⟩ : ∃ wi : World, wi = wr := ⟨_, rfl⟩
    have hz := hb.size
    have z3 := (BX.out.below hb).cell 3 rfl
    by_cases hlt : k < n
    · have hlt' : k < x.code.length := by have := HN.out; omega
      obtain ⟨b, o, rfl, hbl, hcs⟩ := HR3.out.pos hlt'
      have hin := hcs k hlt'
      have STOP : Hid (x.code[k].src.all (fun f => h.contains f) = false → writtenB x.code x.outputs = false) := fun hh => wr_stop hlt' HS.out hh
      have STEP : Hid (x.code[k].src.all (fun f => h.contains f) = true → wrRun (x.code.take (k + 1)) = some (if x.code[k].kind = 18 then h else h ++ [x.code[k].dest])) := fun hh => wr_step hlt' HS.out hh
      clear hcs
      generalize x.code[k] = y at hin STOP STEP
      have HIN := Lib.hid hin
      obtain ⟨y0, y1, y2, y3, ⟨q, d, y4, hr⟩, y5⟩ := hin.below hb
      obtain ⟨qh, ch, rfl, hrh⟩ := oh.rd
      have LA := Lib.hid (l07All_any (c := d) (d := ch) wi hr hrh)
      have OH := Lib.hid oh
      clear hin hr hrh oh
      cases ha : y.src.all fun f => h.contains f
      · rw [ha] at LA
        have HSO : Hid (writtenB x.code x.outputs = false) := STOP.out ha
        have hR : R = false := by rw [← HRE.out]; exact HSO.out
        subst hR
        clear ha STOP STEP
        go_wp2_with (first | (go_at_call 49; refine LA.out.mono ?_; rintro e w' ⟨rfl, rfl⟩) | fail)
        go_ret
        exact ⟨rfl, hb⟩
      · rw [ha] at LA
        have HSTP := Lib.hid (STEP.out ha)
        clear ha STOP STEP
        by_cases k18 : y.kind = 18
        · have hk18 : (y.kind != 18) = false := by simp [k18]
          rw [if_pos k18] at HSTP
          clear k18
          go_wp2_with (first | (go_at_call 49; refine LA.out.mono ?_; rintro e w' ⟨rfl, rfl⟩) | fail)
          go_roundw
          case rel => exact ⟨k + 1, h, by omega, by go_num, HSTP.out, OH.out, hb, by omega⟩
          case measure => simp [intOf] <;> omega
        · have hk18 : (y.kind != 18) = true := by simp [k18]
          rw [if_neg k18] at HSTP
          clear k18
          have oh := OH.out
          go_wp2_with (first | (go_at_call 49; refine LA.out.mono ?_; rintro e w' ⟨rfl, rfl⟩) | (at_builtin; refine wpList_append_one rfl _ _ rfl rfl oh rfl hb (by omega) hz (Nat.le_refl _) ?_; intro v' w4 hown4 hb4 hz4 hk4) | fail)
          have HO4 := Lib.hid hown4
          clear hk4 hown4 oh
          go_roundw
          case rel => exact ⟨k + 1, _, by omega, by go_num, HSTP.out, HO4.out, hb4, by simp; omega⟩
          case measure => simp [intOf] <;> omega
    · obtain rfl : k = n := by omega
      have HS2 : Hid (wrRun x.code = some h) := by have := HS.out; rw [HN.out, List.take_length] at this; exact this
      have z4 := (BX.out.below hb).cell 4 rfl
      obtain ⟨qh, ch, rfl, hrh⟩ := oh.rd
      have hro := HR4.out.below hb
      have LA := Lib.hid (l07All_any (c := c4) (d := ch) wi hro hrh)
      have hRv : x.outputs.all (fun f => h.contains f) = R := by rw [← HRE.out]; unfold writtenB; rw [HS2.out]
      rw [hRv] at LA
      clear hRv hro hrh HS HS2 oh
      go_wp2_with (first | (go_at_call 49; refine LA.out.mono ?_; rintro e w' ⟨rfl, rfl⟩) | fail)
      go_ret
      exact ⟨rfl, hb⟩
theorem progS_eqs (x : ProgramD) :
    (inB x.inputs 0 4 = false → progB x = false) ∧
    (inB x.registers 0 24 = false → progB x = false) ∧
    (tablesB x.tables = false → progB x = false) ∧
    (¬ x.code.length ≤ 48 → progB x = false) ∧
    (¬ x.outputs.length ≤ 4 → progB x = false) ∧
    (x.code.all (insB x.registers x.tables.length x.inputs) = false → progB x = false) ∧
    (inB x.inputs 0 4 = true → inB x.registers 0 24 = true → tablesB x.tables = true → x.code.length ≤ 48 → x.outputs.length ≤ 4 →
      x.code.all (insB x.registers x.tables.length x.inputs) = true → progB x = (pairsB x.code && writtenB x.code x.outputs)) := by
  unfold progB
  refine ⟨?_, ?_, ?_, ?_, ?_, ?_, ?_⟩
  · intro h; rw [h]; rfl
  · intro h; rw [h]; simp
  · intro h; rw [h]; simp
  · intro h; rw [decide_eq_false h]; simp
  · intro h; rw [decide_eq_false h]; simp
  · intro h; rw [h]; simp
  · intro h1 h2 h3 h4 h5 h7; rw [h1, h2, h3, decide_eq_true h4, decide_eq_true h5, h7]; rfl
set_option maxHeartbeats 8000000 in
set_option maxRecDepth 100000 in
theorem l11Ok_any {g : Nat} {x : ProgramD} (w : World) (h : PProgram w g x) :
    Calls Try.prog 19 #[.pointer (some ⟨g, 0, none⟩)] w fun e w' => e = .returned (.bool (progB x)) ∧ Below w.heap.size w w' := by
  have hgl := h.lt
  have HP := Lib.hid h
  obtain ⟨p2, c2, p3, c3, p4, c4, bx, r2, r3, r4⟩ := h
  have hl2 := r2.len
  have hl3 := r3.len
  have hl4 := r4.len
  unfold maxLen at hl2 hl3 hl4
  have HR := Lib.hid (progS_eqs x)
  generalize hRR : progB x = R at HR ⊢
  clear hRR
  have z0 := bx.cell 0 rfl
  have z1 := bx.cell 1 rfl
  have z2 := bx.cell 2 rfl
  have TB := Lib.hid (l06Tables_any (c := c2) w r2)
  have WI : Hid (∀ n lo hi b, inB n lo hi = b → Calls Try.prog 26 #[.int .i64 n, .int .i64 lo, .int .i64 hi] w fun e w' => e = .returned (.bool b) ∧ w' = w) := fun n lo hi b hb => by
    have := Calls.turn (l00In_any n lo hi w)
    rwa [hb] at this
  have BX := Lib.hid bx
  cases e1 : inB x.inputs 0 4
  case false =>
    obtain rfl := HR.out.1 e1
    go_enter Try.func19, Try.ntmps19
    go_wp2_with (first | (go_at_call 26; with_reducible refine (WI.out _ _ _ _ e1).mono ?_; rintro e w' ⟨rfl, hw⟩; rw [hw]) | fail)
    go_ret
    exact ⟨rfl, Below.refl _ _⟩
  cases e2 : inB x.registers 0 24
  case false =>
    obtain rfl := HR.out.2.1 e2
    go_enter Try.func19, Try.ntmps19
    go_wp2_with (first | (go_at_call 26; with_reducible refine (WI.out _ _ _ _ e1).mono ?_; rintro e w' ⟨rfl, hw⟩; rw [hw]) | (go_at_call 26; with_reducible refine (WI.out _ _ _ _ e2).mono ?_; rintro e w' ⟨rfl, hw⟩; rw [hw]) | fail)
    go_ret
    exact ⟨rfl, Below.refl _ _⟩
  have hr24 : 0 ≤ x.registers ∧ x.registers ≤ 24 := by have := inB_iff.1 e2; exact this
  have hra := hr24.1
  have hrb := hr24.2
  clear hr24
  cases e3 : tablesB x.tables
  case false =>
    rw [e3] at TB
    obtain rfl := HR.out.2.2.1 e3
    clear e3
    go_enter Try.func19, Try.ntmps19
    go_wp2_with (first | (go_at_call 26; with_reducible refine (WI.out _ _ _ _ e1).mono ?_; rintro e w' ⟨rfl, hw⟩; rw [hw]) | (go_at_call 26; with_reducible refine (WI.out _ _ _ _ e2).mono ?_; rintro e w' ⟨rfl, hw⟩; rw [hw]) | (go_at_call 33; refine TB.out.mono ?_; rintro e W1 ⟨rfl, hb1⟩) | fail)
    go_ret
    exact ⟨rfl, hb1⟩
  rw [e3] at TB
  have HT3 := Lib.hid e3
  clear e3
  by_cases h4 : x.code.length ≤ 48
  case neg =>
    obtain rfl := HR.out.2.2.2.1 h4
    go_enter Try.func19, Try.ntmps19
    go_wp2_with (first | (go_at_call 26; with_reducible refine (WI.out _ _ _ _ e1).mono ?_; rintro e w' ⟨rfl, hw⟩; rw [hw]) | (go_at_call 26; with_reducible refine (WI.out _ _ _ _ e2).mono ?_; rintro e w' ⟨rfl, hw⟩; rw [hw]) | (go_at_call 33; refine TB.out.mono ?_; rintro e W1 ⟨rfl, hb1⟩; have bx1 := BX.out.below hb1; have w3 := bx1.cell 3 rfl; have w4 := bx1.cell 4 rfl) | fail)
    go_ret
    exact ⟨rfl, hb1⟩
  by_cases h5 : x.outputs.length ≤ 4
  case neg =>
    obtain rfl := HR.out.2.2.2.2.1 h5
    go_enter Try.func19, Try.ntmps19
    go_wp2_with (first | (go_at_call 26; with_reducible refine (WI.out _ _ _ _ e1).mono ?_; rintro e w' ⟨rfl, hw⟩; rw [hw]) | (go_at_call 26; with_reducible refine (WI.out _ _ _ _ e2).mono ?_; rintro e w' ⟨rfl, hw⟩; rw [hw]) | (go_at_call 33; refine TB.out.mono ?_; rintro e W1 ⟨rfl, hb1⟩; have bx1 := BX.out.below hb1; have w3 := bx1.cell 3 rfl; have w4 := bx1.cell 4 rfl) | fail)
    go_ret
    exact ⟨rfl, hb1⟩
  have HR7 : Hid (x.code.all (insB x.registers x.tables.length x.inputs) = false → R = false) := HR.out.2.2.2.2.2.1
  have HR8 : Hid (x.code.all (insB x.registers x.tables.length x.inputs) = true → R = (pairsB x.code && writtenB x.code x.outputs)) := fun h7 => HR.out.2.2.2.2.2.2 e1 e2 HT3.out h4 h5 h7
  clear HR
  go_enter Try.func19, Try.ntmps19
  go_wp2_with (first | (go_at_call 26; with_reducible refine (WI.out _ _ _ _ e1).mono ?_; rintro e w' ⟨rfl, hw⟩; rw [hw]) | (go_at_call 26; with_reducible refine (WI.out _ _ _ _ e2).mono ?_; rintro e w' ⟨rfl, hw⟩; rw [hw]) | (go_at_call 33; refine TB.out.mono ?_; rintro e W1 ⟨rfl, hb1⟩; have bx1 := BX.out.below hb1; have w3 := bx1.cell 3 rfl; have w4 := bx1.cell 4 rfl) | fail)
  have HB1 := Lib.hid hb1
  have bx := BX.out.below hb1
  replace r3 := r3.below hb1
  have HP1 := Lib.hid (HP.out.below hb1)
  clear z0 z1 z2 w3 w4 bx1 TB r2 r4 e1 e2 WI hb1 BX HP
  go_loopw [3] (fun i wr => ∃ k : Nat, k ≤ x.code.length ∧ i = .int .i64 k ∧ (x.code.take k).all (insB x.registers x.tables.length x.inputs) = true ∧ Below W1.heap.size W1 wr) (fun i _ => x.code.length - (intOf i).toNat)
  case atStart => exact ⟨0, Nat.zero_le _, rfl, by simp, Below.refl _ _⟩
  case round =>
    obtain ⟨k, hk, rfl, hall, hbel⟩ := hrel
    have HA := Lib.hid hall; clear hall
    obtain ⟨wi, rfl⟩ : ∃ wi : World, wi = wr := ⟨_, rfl⟩
    have bx1 := bx.below hbel
    have z0 := bx1.cell 0 rfl
    have z1 := bx1.cell 1 rfl
    have z2 := bx1.cell 2 rfl
    have z3 := bx1.cell 3 rfl
    by_cases hlt2 : k < x.code.length
    · obtain ⟨b, o, rfl, hb, hc⟩ := (r3.below hbel).pos hlt2
      have hnd := hc k hlt2
      clear hc
      generalize hx : x.code[k] = nd at hnd
      have HX := Lib.hid hx; clear hx
      have HND := Lib.hid hnd
      have s0 := cell_regrown z0
      have s1 := cell_regrown z1
      have s2 := cell_regrown z2
      have t0 := cell_regrown hnd.c0
      have t1 := cell_regrown hnd.c1
      have K1 : Hid (∀ bb, instrB nd x.registers (x.tables.length : Int) = bb → ∀ n os, Calls Try.prog 34 #[.pointer (some ⟨b, o + k * 6, none⟩), .int .i64 x.registers, .int .i64 (x.tables.length : Int)] (grow (redrawn wi n) os) fun e w'' => e = .returned (.bool bb) ∧ ∃ p : Regrown, w'' = grow (redrawn wi p.d) p.os) := fun bb hbb n os => Calls.regrown_of (by rw [← hbb]; exact l11Instr_any _ _ _ (HND.out.below (below_regrown wi n os)) hra (by omega))
      clear z0 z1 z2 hnd
      cases eN : instrB nd x.registers (x.tables.length : Int)
      case false =>
        have K2 := Lib.hid (K1.out _ eN)
        have hR : R = false := HR7.out (all_false hlt2 (by rw [HX.out]; unfold insB; rw [eN]; rfl))
        subst hR
        clear eN K1
        go_wp2_with fail
        refine wp_region_quiet_below (by kernel_rfl) (by kernel_rfl) ?_
        repeat (first | go_big_quiet_step ((go_at_call 34; exact K2.out _ _)) | quiet_step ((go_at_call 34; exact K2.out _ _)))
        refine wpQuiet_nil ?_
        intro _ hw'
        obtain ⟨⟨dq, osq⟩, hw''⟩ := hw'
        subst hw''
        have hq := hbel.trans ((below_regrown wi dq osq).mono hbel.size)
        go_wp2_with fail
        go_ret
        exact ⟨rfl, HB1.out.trans (hq.mono HB1.out.size)⟩
      have K2 := Lib.hid (K1.out _ eN)
      have HN := Lib.hid eN
      clear eN K1
      by_cases hin : nd.kind = 1 ∧ x.inputs ≤ nd.a
      · have q1 : (nd.kind == 1) = true := by rw [beq_iff_eq]; exact hin.1
        have q2 := hin.2
        have hR : R = false := HR7.out (all_false hlt2 (by rw [HX.out]; unfold insB; rw [HN.out, q1, decide_eq_true q2]; rfl))
        subst hR
        clear hin
        go_wp2_with fail
        refine wp_region_quiet_below (by kernel_rfl) (by kernel_rfl) ?_
        repeat (first | go_big_quiet_step ((go_at_call 34; exact K2.out _ _)) | quiet_step ((go_at_call 34; exact K2.out _ _)))
        refine wpQuiet_nil ?_
        intro _ hw'
        obtain ⟨⟨dq, osq⟩, hw''⟩ := hw'
        subst hw''
        have hq := hbel.trans ((below_regrown wi dq osq).mono hbel.size)
        go_wp2_with fail
        go_ret
        exact ⟨rfl, HB1.out.trans (hq.mono HB1.out.size)⟩
      have HQ : ((nd.kind == 1) = true ∧ nd.a < x.inputs) ∨ (nd.kind == 1) = false := by
        by_cases k1 : nd.kind = 1
        · exact .inl ⟨by rw [beq_iff_eq]; exact k1, by have := fun h => hin ⟨k1, h⟩; omega⟩
        · exact .inr (by rw [beq_eq_false_iff_ne]; exact k1)
      have HS : Hid ((x.code.take (k + 1)).all (insB x.registers x.tables.length x.inputs) = true) := by
        refine all_step hlt2 HA.out ?_
        rw [HX.out]; unfold insB; rw [HN.out]
        rcases HQ with ⟨_, h⟩ | h
        · rw [decide_eq_false (by omega)]; simp
        · rw [h]; rfl
      clear hin
      rcases HQ with ⟨q1, q2⟩ | q1
      all_goals
        go_wp2_with fail
        refine wp_region_quiet_below (by kernel_rfl) (by kernel_rfl) ?_
        repeat (first | go_big_quiet_step ((go_at_call 34; exact K2.out _ _)) | quiet_step ((go_at_call 34; exact K2.out _ _)))
        refine wpQuiet_nil ?_
        intro _ hw'
        obtain ⟨⟨dq, osq⟩, hw''⟩ := hw'
        subst hw''
        have hq := hbel.trans ((below_regrown wi dq osq).mono hbel.size)
        generalize grow (redrawn wi dq) osq = F2 at hq ⊢
        go_wp2_with fail
        go_roundw
        case rel => exact ⟨k + 1, by omega, by go_num, HS.out, hq⟩
        case measure => simp [intOf] <;> omega
    · obtain rfl : k = x.code.length := by omega
      have hALL := all_done HA.out
      have HRE := Lib.hid (HR8.out hALL)
      have HPi := HP1.out.below hbel
      have LP := Lib.hid (l11Pairs_any (c := c3) wi (r3.below hbel) h4)
      have LW : Hid (∀ W, Below wi.heap.size wi W → Calls Try.prog 36 #[.pointer (some ⟨g, 0, none⟩)] W fun e w' => e = .returned (.bool (writtenB x.code x.outputs)) ∧ Below W.heap.size W w') := fun W hW => l11Written_any W (HPi.below hW) h4
      have hBi := HB1.out.trans (hbel.mono HB1.out.size)
      clear HPi hALL HA
      generalize writtenB x.code x.outputs = wb at LW HRE
      cases hs : pairsB x.code
      · rw [hs] at LP HRE
        obtain rfl := HRE.out
        clear hs
        go_wp2_with (first | (go_at_call 35; refine LP.out.mono ?_; rintro e W2 ⟨rfl, hb2⟩) | fail)
        go_ret
        exact ⟨rfl, hBi.trans (hb2.mono hBi.size)⟩
      · rw [hs] at LP HRE
        clear hs
        have hRw : R = wb := by rw [HRE.out, Bool.true_and]
        subst hRw
        go_wp2_with (first | (go_at_call 35; refine LP.out.mono ?_; rintro e W2 ⟨rfl, hb2⟩) | (go_at_call 36; refine (LW.out _ hb2).mono ?_; rintro e W3 ⟨rfl, hb3⟩) | fail)
        go_ret
        exact ⟨rfl, (hBi.trans (hb2.mono hBi.size)).trans (hb3.mono (Nat.le_trans hBi.size hb2.size))⟩
theorem specValidProgram_v {v : Value} {x : ProgramD} (w : World) (h : VProgram w v x) :
    Calls Try.prog 6 #[v] w fun e w' => e = .returned (.bool (progB x)) ∧ Below w.heap.size w w' := by
  obtain ⟨p1, c1, p2, c2, p3, c3, rfl, hp⟩ := PProgram.of h
  have hB0 : Below w.heap.size w (w.alloc (.cells #[.int .i64 x.inputs, .int .i64 x.registers, .slice p1 x.tables.length c1, .slice p2 x.code.length c2, .slice p3 x.outputs.length c3] 31)) := (Below.refl _ _).alloc (Nat.le_refl _) _
  have OK := Lib.hid (l11Ok_any _ hp)
  clear hp h
  go_enter Try.func6, Try.ntmps6
  go_wp2_with (go_at_call 19; refine OK.out.mono ?_; rintro e W1 ⟨rfl, hb1⟩)
  go_ret
  exact ⟨rfl, hB0.trans (hb1.mono hB0.size)⟩
end Go.Proofs.Ytabfdnkomhjlkaa
