/-
  Programs: validity on the program's side.
-/
import Derived.Test.YtabfdnkomhjlkaaPvW
namespace Go.Proofs.Ytabfdnkomhjlkaa
open Go.ChangeShapes Go.WideShapes Go.ChangeAt Go.RowKit Go.Sort Go.Maps
set_option linter.unusedVariables false
set_option linter.unusedSimpArgs false

/-- what is left of validity behind the checks of the instructions -/
theorem prog_eqs (x : ProgramD) :
    (inB x.inputs 0 4 = false → progB x = false) ∧
    (inB x.registers 0 24 = false → progB x = false) ∧
    (tablesB x.tables = false → progB x = false) ∧
    (¬ x.code.length ≤ 48 → progB x = false) ∧
    (¬ x.outputs.length ≤ 4 → progB x = false) ∧
    (x.outputs.all (fun f => inB f 0 (x.registers - 1)) = false → progB x = false) ∧
    (x.code.all (insB x.registers x.tables.length x.inputs) = false → progB x = false) ∧
    (inB x.inputs 0 4 = true → inB x.registers 0 24 = true → tablesB x.tables = true → x.code.length ≤ 48 → x.outputs.length ≤ 4 → x.outputs.all (fun f => inB f 0 (x.registers - 1)) = true →
      x.code.all (insB x.registers x.tables.length x.inputs) = true → progB x = (hasB x.code && writtenB x.code x.outputs)) := by
  rw [progB_has]
  refine ⟨?_, ?_, ?_, ?_, ?_, ?_, ?_, ?_⟩
  · intro h; rw [h]; rfl
  · intro h; rw [h]; simp
  · intro h; rw [h]; simp
  · intro h; rw [decide_eq_false h]; simp
  · intro h; rw [decide_eq_false h]; simp
  · intro h; rw [h]; simp
  · intro h; rw [h]; simp
  · intro h1 h2 h3 h4 h5 h6 h7; rw [h1, h2, h3, decide_eq_true h4, decide_eq_true h5, h6, h7]; rfl
set_option maxHeartbeats 8000000 in
set_option maxRecDepth 100000 in
theorem isProgram_v {v : Value} {x : ProgramD} (w : World) (h : VProgram w v x) :
    Calls Try.prog 23 #[v] w fun e w' => e = .returned (.bool (progB x)) ∧ Below w.heap.size w w' := by
  have hv := h
  obtain ⟨p2, c2, p3, c3, p4, c4, rfl, r2, r3, r4⟩ := h
  have hl2 := r2.len
  have hl3 := r3.len
  have hl4 := r4.len
  have hm2 := r2.len
  unfold maxLen at hl2 hl3 hl4
  have HR := Lib.hid (prog_eqs x)
  generalize hRR : progB x = R at HR ⊢
  clear hRR
  obtain ⟨E0, hE0⟩ : ∃ E, E = w.alloc (.cells #[.int .i64 x.inputs, .int .i64 x.registers, .slice p2 x.tables.length c2, .slice p3 x.code.length c3, .slice p4 x.outputs.length c4] 31) := ⟨_, rfl⟩
  have hB0 : Below w.heap.size w E0 := by rw [hE0]; exact (Below.refl _ _).alloc (Nat.le_refl _) _
  have bx : Box E0 w.heap.size [.int .i64 x.inputs, .int .i64 x.registers, .slice p2 x.tables.length c2, .slice p3 x.code.length c3, .slice p4 x.outputs.length c4] 31 := by rw [hE0]; exact Box.newAt w _ _ rfl
  have HE := Lib.hid hE0
  clear hE0
  have HV := Lib.hid (hv.below hB0)
  replace r2 := r2.below hB0
  replace r3 := r3.below hB0
  replace r4 := r4.below hB0
  clear hv
  have z0 := bx.cell 0 rfl
  have z1 := bx.cell 1 rfl
  have z2 := bx.cell 2 rfl
  have z3 := bx.cell 3 rfl
  have z4 := bx.cell 4 rfl
  have TB := Lib.hid (areTables_any (c := c2) E0 r2)
  have WI : Hid (∀ n lo hi b, inB n lo hi = b → Calls Try.prog 28 #[.int .i64 n, .int .i64 lo, .int .i64 hi] E0 fun e w' => e = .returned (.bool b) ∧ w' = E0) := fun n lo hi b hb => by
    have := Calls.turn (within_any n lo hi E0)
    rwa [hb] at this
  cases e1 : inB x.inputs 0 4
  case false =>
    obtain rfl := HR.out.1 e1
    go_enter Try.func23, Try.ntmps23
    go_upto_region 1 with fail
    rw [← HE.out]
    go_wp2_with (first | (go_at_call 28; with_reducible refine (WI.out _ _ _ _ e1).mono ?_; rintro e w' ⟨rfl, hw⟩; rw [hw]) | fail)
    go_ret
    exact ⟨rfl, hB0⟩
  cases e2 : inB x.registers 0 24
  case false =>
    obtain rfl := HR.out.2.1 e2
    go_enter Try.func23, Try.ntmps23
    go_upto_region 1 with fail
    rw [← HE.out]
    go_wp2_with (first | (go_at_call 28; with_reducible refine (WI.out _ _ _ _ e1).mono ?_; rintro e w' ⟨rfl, hw⟩; rw [hw]) | (go_at_call 28; with_reducible refine (WI.out _ _ _ _ e2).mono ?_; rintro e w' ⟨rfl, hw⟩; rw [hw]) | fail)
    go_ret
    exact ⟨rfl, hB0⟩
  have hr24 : 0 ≤ x.registers ∧ x.registers ≤ 24 := by have := inB_iff.1 e2; exact this
  have hra := hr24.1
  have hrb := hr24.2
  clear hr24
  have AI := Lib.hid (areIndices_any (c := c4) x.registers E0 r4 hra (by omega))
  cases e3 : tablesB x.tables
  case false =>
    rw [e3] at TB
    obtain rfl := HR.out.2.2.1 e3
    clear e3
    go_enter Try.func23, Try.ntmps23
    go_upto_region 1 with fail
    rw [← HE.out]
    go_wp2_with (first | (go_at_call 28; with_reducible refine (WI.out _ _ _ _ e1).mono ?_; rintro e w' ⟨rfl, hw⟩; rw [hw]) | (go_at_call 28; with_reducible refine (WI.out _ _ _ _ e2).mono ?_; rintro e w' ⟨rfl, hw⟩; rw [hw]) | (go_at_call 38; refine TB.out.mono ?_; rintro e w' ⟨rfl, rfl⟩) | fail)
    go_ret
    exact ⟨rfl, hB0⟩
  rw [e3] at TB
  have HT3 := Lib.hid e3
  clear e3
  by_cases h4 : x.code.length ≤ 48
  case neg =>
    obtain rfl := HR.out.2.2.2.1 h4
    go_enter Try.func23, Try.ntmps23
    go_upto_region 1 with fail
    rw [← HE.out]
    go_wp2_with (first | (go_at_call 28; with_reducible refine (WI.out _ _ _ _ e1).mono ?_; rintro e w' ⟨rfl, hw⟩; rw [hw]) | (go_at_call 28; with_reducible refine (WI.out _ _ _ _ e2).mono ?_; rintro e w' ⟨rfl, hw⟩; rw [hw]) | (go_at_call 38; refine TB.out.mono ?_; rintro e w' ⟨rfl, rfl⟩) | fail)
    go_ret
    exact ⟨rfl, hB0⟩
  by_cases h5 : x.outputs.length ≤ 4
  case neg =>
    obtain rfl := HR.out.2.2.2.2.1 h5
    go_enter Try.func23, Try.ntmps23
    go_upto_region 1 with fail
    rw [← HE.out]
    go_wp2_with (first | (go_at_call 28; with_reducible refine (WI.out _ _ _ _ e1).mono ?_; rintro e w' ⟨rfl, hw⟩; rw [hw]) | (go_at_call 28; with_reducible refine (WI.out _ _ _ _ e2).mono ?_; rintro e w' ⟨rfl, hw⟩; rw [hw]) | (go_at_call 38; refine TB.out.mono ?_; rintro e w' ⟨rfl, rfl⟩) | fail)
    go_ret
    exact ⟨rfl, hB0⟩
  cases e6 : x.outputs.all (fun f => inB f 0 (x.registers - 1))
  case false =>
    rw [e6] at AI
    obtain rfl := HR.out.2.2.2.2.2.1 e6
    clear e6
    go_enter Try.func23, Try.ntmps23
    go_upto_region 1 with fail
    rw [← HE.out]
    go_wp2_with (first | (go_at_call 28; with_reducible refine (WI.out _ _ _ _ e1).mono ?_; rintro e w' ⟨rfl, hw⟩; rw [hw]) | (go_at_call 28; with_reducible refine (WI.out _ _ _ _ e2).mono ?_; rintro e w' ⟨rfl, hw⟩; rw [hw]) | (go_at_call 38; refine TB.out.mono ?_; rintro e w' ⟨rfl, rfl⟩) | (go_at_call 39; refine AI.out.mono ?_; rintro e w' ⟨rfl, rfl⟩) | fail)
    go_ret
    exact ⟨rfl, hB0⟩
  rw [e6] at AI
  have HOI := Lib.hid e6
  have HR7 : Hid (x.code.all (insB x.registers x.tables.length x.inputs) = false → R = false) := HR.out.2.2.2.2.2.2.1
  have HR8 : Hid (x.code.all (insB x.registers x.tables.length x.inputs) = true → R = (hasB x.code && writtenB x.code x.outputs)) := fun h7 => HR.out.2.2.2.2.2.2.2 e1 e2 HT3.out h4 h5 e6 h7
  clear e6 HR
  go_enter Try.func23, Try.ntmps23
  go_upto_region 1 with fail
  rw [← HE.out]
  go_wp2_with (first | (go_at_call 28; with_reducible refine (WI.out _ _ _ _ e1).mono ?_; rintro e w' ⟨rfl, hw⟩; rw [hw]) | (go_at_call 28; with_reducible refine (WI.out _ _ _ _ e2).mono ?_; rintro e w' ⟨rfl, hw⟩; rw [hw]) | (go_at_call 38; refine TB.out.mono ?_; rintro e w' ⟨rfl, rfl⟩) | (go_at_call 39; refine AI.out.mono ?_; rintro e w' ⟨rfl, rfl⟩) | fail)
  clear z0 z1 z2 z3 z4 TB r2 r4 e1 e2 AI WI HE
  go_loopw [44] (fun i wr => ∃ k : Nat, k ≤ x.code.length ∧ i = .int .i64 k ∧ (x.code.take k).all (insB x.registers x.tables.length x.inputs) = true ∧ Below E0.heap.size E0 wr) (fun i _ => x.code.length - (intOf i).toNat)
  case atStart => exact ⟨0, Nat.zero_le _, rfl, by simp, Below.refl _ _⟩
  case round =>
    obtain ⟨k, hk, rfl, hall, hbel⟩ := hrel
    have HA := Lib.hid hall; clear hall
    obtain ⟨wi, rfl⟩ : ∃ wi : World, wi = wr := ⟨_, rfl⟩
    by_cases hlt2 : k < x.code.length
    · obtain ⟨b, o, rfl, hb, hc⟩ := (r3.below hbel).pos hlt2
      have hnd := hc k hlt2
      clear hc
      generalize hx : x.code[k] = nd at hnd
      have HX := Lib.hid hx; clear hx
      obtain ⟨y0, y1, y2, y3, ⟨q, d, y4, hr⟩, y5⟩ := hnd
      obtain ⟨F, hF⟩ : ∃ F, F = wi.alloc (.cells #[.int .i64 nd.kind, .int .i64 nd.a, .int .i64 nd.b, .int .i64 nd.node, .slice q nd.src.length d, .int .i64 nd.dest] 54) := ⟨_, rfl⟩
      have hBF : Below wi.heap.size wi F := by rw [hF]; exact (Below.refl _ _).alloc (Nat.le_refl _) _
      have bn : Box F wi.heap.size [.int .i64 nd.kind, .int .i64 nd.a, .int .i64 nd.b, .int .i64 nd.node, .slice q nd.src.length d, .int .i64 nd.dest] 54 := by rw [hF]; exact Box.newAt _ _ _ rfl
      have HF := Lib.hid hF
      have hbF := hbel.trans (hBF.mono hbel.size)
      have bx1 := bx.below hbF
      have hrF := hr.below hBF
      have s0 := cell_regrown (bx1.cell 0 rfl)
      have s1 := cell_regrown (bx1.cell 1 rfl)
      have s2 := cell_regrown (bx1.cell 2 rfl)
      have t0 := cell_regrown (bn.cell 0 rfl)
      have t1 := cell_regrown (bn.cell 1 rfl)
      have t2 := cell_regrown (bn.cell 2 rfl)
      have t3 := cell_regrown (bn.cell 3 rfl)
      have t4 := cell_regrown (bn.cell 4 rfl)
      have t5 := cell_regrown (bn.cell 5 rfl)
      have K0 : Hid (∀ n os, Calls Try.prog 41 #[.slice p2 x.tables.length c2] (grow (redrawn F n) os) fun e w'' => e = .returned (.int .i64 (x.tables.length : Int)) ∧ ∃ p : Regrown, w'' = grow (redrawn F p.d) p.os) := fun n os => Calls.regrown_of (Calls.same_below (sizeII_any p2 x.tables.length c2 _ hm2))
      have K1 : Hid (∀ bb, instrB nd x.registers (x.tables.length : Int) = bb → ∀ n os, Calls Try.prog 40 #[.agg #[.int .i64 nd.kind, .int .i64 nd.a, .int .i64 nd.b, .int .i64 nd.node, .slice q nd.src.length d, .int .i64 nd.dest], .int .i64 x.registers, .int .i64 (x.tables.length : Int)] (grow (redrawn F n) os) fun e w'' => e = .returned (.bool bb) ∧ ∃ p : Regrown, w'' = grow (redrawn F p.d) p.os) := fun bb hbb n os => Calls.regrown_of (by rw [← hbb]; exact isInstr_v _ _ _ ⟨q, d, rfl, hrF.below (below_regrown F n os)⟩ hra (by omega))
      clear hF hr hBF bn bx1 hrF
      cases eN : instrB nd x.registers (x.tables.length : Int)
      case false =>
        have K2 := Lib.hid (K1.out _ eN)
        have hR : R = false := HR7.out (all_false hlt2 (by rw [HX.out]; unfold insB; rw [eN]; rfl))
        subst hR
        clear eN K1
        go_wp2_with fail
        rw [← HF.out]
        refine wp_region_quiet_below (by kernel_rfl) (by kernel_rfl) ?_
        repeat (first | go_big_quiet_step ((first | (go_at_call 41; exact K0.out _ _) | (go_at_call 40; exact K2.out _ _))) | quiet_step ((first | (go_at_call 41; exact K0.out _ _) | (go_at_call 40; exact K2.out _ _))))
        refine wpQuiet_nil ?_
        intro _ hw'
        obtain ⟨⟨dq, osq⟩, hw''⟩ := hw'
        subst hw''
        have hq := hbF.trans ((below_regrown F dq osq).mono hbF.size)
        go_wp2_with fail
        go_ret
        exact ⟨rfl, hB0.trans (hq.mono hB0.size)⟩
      have K2 := Lib.hid (K1.out _ eN)
      have HN := Lib.hid eN
      clear eN K1
      by_cases hin : nd.kind = 1 ∧ x.inputs ≤ nd.a
      · have q1 : (nd.kind == 1) = true := by rw [beq_iff_eq]; exact hin.1
        have q2 := hin.2
        have hR : R = false := HR7.out (all_false hlt2 (by rw [HX.out]; unfold insB; rw [HN.out, q1, decide_eq_true q2]; rfl))
        subst hR
        clear hin
        go_wp2_with fail
        rw [← HF.out]
        refine wp_region_quiet_below (by kernel_rfl) (by kernel_rfl) ?_
        repeat (first | go_big_quiet_step ((first | (go_at_call 41; exact K0.out _ _) | (go_at_call 40; exact K2.out _ _))) | quiet_step ((first | (go_at_call 41; exact K0.out _ _) | (go_at_call 40; exact K2.out _ _))))
        refine wpQuiet_nil ?_
        intro _ hw'
        obtain ⟨⟨dq, osq⟩, hw''⟩ := hw'
        subst hw''
        have hq := hbF.trans ((below_regrown F dq osq).mono hbF.size)
        go_wp2_with fail
        go_ret
        exact ⟨rfl, hB0.trans (hq.mono hB0.size)⟩
      have HQ : ((nd.kind == 1) = true ∧ nd.a < x.inputs) ∨ (nd.kind == 1) = false := by
        by_cases k1 : nd.kind = 1
        · exact .inl ⟨by rw [beq_iff_eq]; exact k1, by have := fun h => hin ⟨k1, h⟩; omega⟩
        · exact .inr (by rw [beq_eq_false_iff_ne]; exact k1)
      have HS : Hid ((x.code.take (k + 1)).all (insB x.registers x.tables.length x.inputs) = true) := by
        refine all_step hlt2 HA.out ?_
        rw [HX.out]; unfold insB; rw [HN.out]
        rcases HQ with ⟨_, h⟩ | h
        · rw [decide_eq_false (by omega)]; simp
        · rw [h]; rfl
      clear hin
      rcases HQ with ⟨q1, q2⟩ | q1
      all_goals
        go_wp2_with fail
        rw [← HF.out]
        refine wp_region_quiet_below (by kernel_rfl) (by kernel_rfl) ?_
        repeat (first | go_big_quiet_step ((first | (go_at_call 41; exact K0.out _ _) | (go_at_call 40; exact K2.out _ _))) | quiet_step ((first | (go_at_call 41; exact K0.out _ _) | (go_at_call 40; exact K2.out _ _))))
        refine wpQuiet_nil ?_
        intro _ hw'
        obtain ⟨⟨dq, osq⟩, hw''⟩ := hw'
        subst hw''
        have hq := hbF.trans ((below_regrown F dq osq).mono hbF.size)
        generalize grow (redrawn F dq) osq = F2 at hq ⊢
        go_wp2_with fail
        go_roundw
        case rel => exact ⟨k + 1, by omega, by go_num, HS.out, hq⟩
        case measure => simp [intOf] <;> omega
    · obtain rfl : k = x.code.length := by omega
      have hALL := all_done HA.out
      have HRE := Lib.hid (HR8.out hALL)
      have hins := insB_all hALL
      have HVi := HV.out.below hbel
      have bxi := bx.below hbel
      have z0 := bxi.cell 0 rfl
      have z1 := bxi.cell 1 rfl
      have z2 := bxi.cell 2 rfl
      have z3 := bxi.cell 3 rfl
      have z4 := bxi.cell 4 rfl
      have HST := Lib.hid (hasStores_v wi HVi (fun y hy => ⟨instr_bounds (hins y hy), instr_node (hins y hy)⟩) h4)
      have HWT : Hid (∀ W, Below wi.heap.size wi W → Calls Try.prog 43 #[.agg #[.int .i64 x.inputs, .int .i64 x.registers, .slice p2 x.tables.length c2, .slice p3 x.code.length c3, .slice p4 x.outputs.length c4]] W fun e w' => e = .returned (.bool (writtenB x.code x.outputs)) ∧ Below W.heap.size W w') := fun W hW =>
        writesFirst_v W (HVi.below hW) hra hrb (fun f hf => by have := List.all_eq_true.1 HOI.out f hf; exact inB_iff.1 this) (fun y hy => ⟨instr_src (hins y hy), instr_dest (hins y hy)⟩) h4
      have hBi := hB0.trans (hbel.mono hB0.size)
      have HBI := Lib.hid bxi
      clear hins HVi hALL bxi HA
      generalize writtenB x.code x.outputs = wb at HWT HRE
      cases hs : hasB x.code
      · rw [hs] at HST HRE
        obtain rfl := HRE.out
        clear hs
        go_wp2_with (first | (go_at_call 42; refine HST.out.mono ?_; rintro e W1 ⟨rfl, hb1⟩) | fail)
        go_ret
        exact ⟨rfl, hBi.trans (hb1.mono hBi.size)⟩
      · rw [hs] at HST HRE
        clear hs
        have hRw : R = wb := by rw [HRE.out, Bool.true_and]
        subst hRw
        go_wp2_with (first | (go_at_call 42; refine HST.out.mono ?_; rintro e W1 ⟨rfl, hb1⟩; have bxj := HBI.out.below hb1; have zz0 := bxj.cell 0 rfl; have zz1 := bxj.cell 1 rfl; have zz2 := bxj.cell 2 rfl; have zz3 := bxj.cell 3 rfl; have zz4 := bxj.cell 4 rfl) | (go_at_call 43; refine (HWT.out _ hb1).mono ?_; rintro e W2 ⟨rfl, hb2⟩) | fail)
        go_ret
        exact ⟨rfl, (hBi.trans (hb1.mono hBi.size)).trans (hb2.mono (Nat.le_trans hBi.size hb1.size))⟩
theorem implValidProgram_v {v : Value} {x : ProgramD} (w : World) (h : VProgram w v x) :
    Calls Try.prog 8 #[v] w fun e w' => e = .returned (.bool (progB x)) ∧ Below w.heap.size w w' := by
  have hv := h
  obtain ⟨p2, c2, p3, c3, p4, c4, rfl, r2, r3, r4⟩ := h
  have hB0 : Below w.heap.size w (w.alloc (.cells #[.int .i64 x.inputs, .int .i64 x.registers, .slice p2 x.tables.length c2, .slice p3 x.code.length c3, .slice p4 x.outputs.length c4] 31)) := (Below.refl _ _).alloc (Nat.le_refl _) _
  have OK := Lib.hid (isProgram_v _ (hv.below hB0))
  clear hv r2 r3 r4
  go_enter Try.func8, Try.ntmps8
  go_wp2_with (go_at_call 23; refine OK.out.mono ?_; rintro e W1 ⟨rfl, hb1⟩)
  go_ret
  exact ⟨rfl, hB0.trans (hb1.mono hB0.size)⟩
end Go.Proofs.Ytabfdnkomhjlkaa
