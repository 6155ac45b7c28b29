/-
  Programs: nodes and stores, on the program's side.
-/
import Derived.Test.YtabfdnkomhjlkaaMapU
import Derived.Lib.QuietBelow
namespace Go.Proofs.Ytabfdnkomhjlkaa
open Go.ChangeShapes Go.WideShapes Go.ChangeAt Go.RowKit Go.Maps
set_option linter.unusedVariables false
set_option linter.unusedSimpArgs false

theorem hsStep_store {s : HsS} {x : InstrD} (hk : x.kind = 18) (h6 : s.1 x.node = 6) (hs : s.2 x.node = false) : hsStep s x = some (s.1, up s.2 x.node true) := by
  unfold hsStep; rw [if_pos hk, if_pos ⟨h6, hs⟩]
theorem hsStep_store1 {s : HsS} {x : InstrD} (hk : x.kind = 18) (h6 : s.1 x.node ≠ 6) : hsStep s x = none := by
  unfold hsStep; rw [if_pos hk, if_neg (fun h => h6 h.1)]
theorem hsStep_store2 {s : HsS} {x : InstrD} (hk : x.kind = 18) (hs : s.2 x.node = true) : hsStep s x = none := by
  unfold hsStep; rw [if_pos hk, if_neg (fun h => by rw [hs] at h; cases h.2)]
theorem hsStep_new {s : HsS} {x : InstrD} (hk : x.kind ≠ 18) (h0 : s.1 x.node = 0) : hsStep s x = some (up s.1 x.node x.kind, s.2) := by
  unfold hsStep; rw [if_neg hk, if_pos h0]
theorem hsStep_old {s : HsS} {x : InstrD} (hk : x.kind ≠ 18) (h0 : s.1 x.node ≠ 0) : hsStep s x = none := by
  unfold hsStep; rw [if_neg hk, if_neg h0]
theorem has_stop {l : List InstrD} {k : Nat} {s : HsS} (hk : k < l.length) (hs : hsRun (l.take k) = some s) (h : hsStep s l[k] = none) : hasB l = false := by
  have : hsRun l = none := hsRun_stop (k := k + 1) (by rw [List.take_succ_eq_append_getElem hk, hsRun_snoc, hs]; exact h)
  unfold hasB; rw [this]
theorem has_step {l : List InstrD} {k : Nat} {s s' : HsS} (hk : k < l.length) (hs : hsRun (l.take k) = some s) (h : hsStep s l[k] = some s') : hsRun (l.take (k + 1)) = some s' := by
  rw [List.take_succ_eq_append_getElem hk, hsRun_snoc, hs]; exact h
theorem has_end {l : List InstrD} (h0 : ∀ x ∈ l, x.kind ≠ 0) {s : HsS} (hs : hsRun l = some s) {P : Int → Prop} (hP : ∀ x ∈ l, P x.node) (h : ∀ y, P y → s.1 y = 6 → s.2 y = true) : hasB l = true := by
  have ok := hsOk_run h0 hs
  unfold hasB; rw [hs]
  show l.all _ = true
  rw [List.all_eq_true]
  intro x hx
  by_cases k6 : x.kind = 6
  · rw [h _ (hP x hx) (by rw [ok.kept x hx (by omega), k6])]; simp
  · simp [k6]
theorem has_bad {l : List InstrD} (h0 : ∀ x ∈ l, x.kind ≠ 0) {s : HsS} (hs : hsRun l = some s) {y : Int} (h6 : s.1 y = 6) (hn : s.2 y = false) : hasB l = false := by
  have ok := hsOk_run h0 hs
  obtain ⟨x, hx, h18, hn', hk⟩ := ok.from_ y (by rw [h6]; decide)
  unfold hasB; rw [hs]
  show l.all _ = false
  cases e : l.all fun x => x.kind != 6 || s.2 x.node
  · rfl
  · have := List.all_eq_true.1 e x hx
    rw [hk, h6, hn', hn] at this
    simp at this
set_option maxHeartbeats 8000000 in
set_option maxRecDepth 100000 in
theorem hasStores_v {v : Value} {x : ProgramD} (w : World) (h : VProgram w v x) (hc : ∀ y ∈ x.code, (1 ≤ y.kind ∧ y.kind ≤ 18) ∧ 0 ≤ y.node ∧ y.node ≤ 23) (hm : x.code.length ≤ 48) :
    Calls Try.prog 42 #[v] w fun e w' => e = .returned (.bool (hasB x.code)) ∧ Below w.heap.size w w' := by
  obtain ⟨p2, c2, p3, c3, p4, c4, rfl, -, r3, -⟩ := h
  have HC := Lib.hid hc
  have HNZ : Hid (∀ y ∈ x.code, y.kind ≠ 0) := fun y hy => by have := hc y hy; omega
  obtain ⟨n, hn⟩ : ∃ n, n = x.code.length := ⟨_, rfl⟩
  have HN := Lib.hid hn
  have HR3 := Lib.hid r3
  rw [← hn] at hm
  obtain ⟨l, hl⟩ : ∃ l, l = x.code := ⟨_, rfl⟩
  obtain ⟨E0, hE0⟩ : ∃ E, E = w.alloc (.cells #[.int .i64 x.inputs, .int .i64 x.registers, .slice p2 x.tables.length c2, .slice p3 n c3, .slice p4 x.outputs.length c4] 31) := ⟨_, rfl⟩
  have hB0 : Below w.heap.size w E0 := by rw [hE0]; exact (Below.refl _ _).alloc (Nat.le_refl _) _
  have bx : Box E0 w.heap.size [.int .i64 x.inputs, .int .i64 x.registers, .slice p2 x.tables.length c2, .slice p3 n c3, .slice p4 x.outputs.length c4] 31 := by rw [hE0]; exact Box.newAt w _ _ rfl
  have HE := Lib.hid hE0
  obtain ⟨b1, hb1⟩ : ∃ b, b = E0.heap.size := ⟨_, rfl⟩
  obtain ⟨E1, hE1⟩ : ∃ E, E = (E0.alloc (.map #[] 0)).alloc (.map #[] 0) := ⟨_, rfl⟩
  have m1 : MapI E1 b1 0 (fun _ => 0) := by rw [hE1, hb1]; exact (MapI.new E0).alloc _
  have m2 : MapB E1 (b1 + 1) 0 (fun _ => false) := by
    have := MapB.new (E0.alloc (.map #[] 0))
    rw [hE1, hb1]; simpa using this
  have hw1 : w.heap.size < b1 := by rw [hb1, hE0]; simp
  have hB1 : Below w.heap.size w E1 := by rw [hE1]; exact ((hB0.alloc (by omega) _).alloc (by simp; omega) _)
  have bx1 : Box E1 w.heap.size [.int .i64 x.inputs, .int .i64 x.registers, .slice p2 x.tables.length c2, .slice p3 n c3, .slice p4 x.outputs.length c4] 31 := by rw [hE1]; exact (bx.alloc _).alloc _
  have z3 := bx1.cell 3 rfl
  have HE1 := Lib.hid hE1
  have HB1 := Lib.hid hb1
  have hmm := @run_makeMap Try.prog
  have HM1 := Lib.hid m1
  have HM2 := Lib.hid m2
  have HRS : Hid (∀ b, hasB x.code = b → hasB x.code = b) := fun b hb => hb
  generalize hR : hasB x.code = R at HRS ⊢
  have HRE := Lib.hid hR
  clear hc hn r3 hl hE0 hb1 hE1 m1 m2 hB0 bx bx1 HRS hR
  rw [← HN.out]
  go_enter Try.func42, Try.ntmps42
  go_upto_region 1 with fail
  rw [← HE.out]
  go_upto_region 2 with fail
  rw [← HE1.out, ← HB1.out]
  go_wp2_with fail
  clear z3 hmm
  go_loopw [14] (fun i wr => ∃ (k : Nat) (s : HsS), k ≤ n ∧ i = .int .i64 (k : Int) ∧ hsRun (x.code.take k) = some s ∧ MapI wr b1 k s.1 ∧ MapB wr (b1 + 1) k s.2 ∧ Below w.heap.size w wr) (fun i _ => n - (intOf i).toNat)
  case atStart => exact ⟨0, _, Nat.zero_le _, rfl, rfl, HM1.out, HM2.out, hB1⟩
  case round =>
    obtain ⟨k, s, hk, rfl, hs, m1, m2, hb⟩ := hrel
    have HS := Lib.hid hs
    clear hs
    obtain ⟨wi, rfl⟩ : ∃ wi : World, wi = wr := ⟨_, rfl⟩
    clear hB1
    by_cases hlt : k < n
    · have hlt' : k < x.code.length := by have := HN.out; omega
      obtain ⟨b, o, rfl, hbl, hcs⟩ := (HR3.out.below hb).pos hlt'
      have hin := hcs k hlt'
      have hci := HC.out _ (List.getElem_mem hlt')
      have STOP : Hid (hsStep s x.code[k] = none → hasB x.code = false) := fun h => has_stop hlt' HS.out h
      have STEP : Hid (∀ s', hsStep s x.code[k] = some s' → hsRun (x.code.take (k + 1)) = some s') := fun s' h => has_step hlt' HS.out h
      clear hcs
      generalize x.code[k] = y at hin hci STOP STEP
      obtain ⟨y0, y1, y2, y3, ⟨q, d, y4, hr⟩, y5⟩ := hin
      have hwn : Wf y.node := wf_of (by omega) (by omega)
      have hwk : Wf y.kind := wf_of (by omega) (by omega)
      have HWN := Lib.hid hwn
      have HWK := Lib.hid hwk
      obtain ⟨F, hF⟩ : ∃ F, F = wi.alloc (.cells #[.int .i64 y.kind, .int .i64 y.a, .int .i64 y.b, .int .i64 y.node, .slice q y.src.length d, .int .i64 y.dest] 54) := ⟨_, rfl⟩
      have bn : Box F wi.heap.size [.int .i64 y.kind, .int .i64 y.a, .int .i64 y.b, .int .i64 y.node, .slice q y.src.length d, .int .i64 y.dest] 54 := by rw [hF]; exact Box.newAt _ _ _ rfl
      have hbF : Below w.heap.size w F := by rw [hF]; exact hb.alloc hb.size _
      have f1 : MapI F b1 k s.1 := by rw [hF]; exact m1.alloc _
      have f2 : MapB F (b1 + 1) k s.2 := by rw [hF]; exact m2.alloc _
      have HF := Lib.hid hF
      have t0 := bn.cell 0 rfl
      have t3 := bn.cell 3 rfl
      have L1 := Lib.hid (f1.look hwn)
      have L2 := Lib.hid (f2.look hwn)
      have HH1 := Lib.hid f1
      have HH2 := Lib.hid f2
      clear hF hwn hwk hr bn f1 f2 m1 m2
      by_cases k18 : y.kind = 18
      · have hk18 : (y.kind != 18) = false := by simp [k18]
        by_cases c6 : s.1 y.node = 6
        · have hc6 : (s.1 y.node != 6) = false := by simp [c6]
          cases cs : s.2 y.node
          · have HST := Lib.hid (STEP.out _ (hsStep_store k18 c6 cs))
            rw [cs] at L2
            clear STOP STEP k18 c6 cs hci
            generalize s.1 y.node = cc at L1 hc6
            go_upto_region 5 with fail
            rw [← HF.out]
            go_wp2_with (first | (at_lookup; refine wpList_look rfl _ _ _ rfl rfl rfl L1.out ?_) | (at_lookup; refine wpList_look rfl _ _ _ rfl rfl rfl L2.out ?_) | (at_mapUpdate; refine wpList_putB rfl _ _ _ rfl rfl HH2.out (by unfold maxLen; omega) rfl rfl HWN.out ?_; intro w1 g2 hg))
            have g1 := HH1.out.keep (hg.block b1 HH1.out.lt (by simp))
            have hbw := hbF.grown hg hbF.size (fun j hj => by simp only [Option.some.injEq] at hj; omega)
            go_roundw
            case rel => exact ⟨k + 1, _, by omega, by go_num, HST.out, g1.mono (by omega), g2, hbw⟩
            case measure => simp [intOf] <;> omega
          · have HSO : Hid (hasB x.code = false) := STOP.out (hsStep_store2 k18 cs)
            rw [cs] at L2
            have hR : R = false := by rw [← HRE.out]; exact HSO.out
            subst hR
            clear STOP STEP k18 c6 cs hci
            generalize s.1 y.node = cc at L1 hc6
            go_upto_region 5 with fail
            rw [← HF.out]
            go_wp2_with (first | (at_lookup; refine wpList_look rfl _ _ _ rfl rfl rfl L1.out ?_) | (at_lookup; refine wpList_look rfl _ _ _ rfl rfl rfl L2.out ?_))
            go_ret
            exact ⟨rfl, hbF⟩
        · have hc6 : (s.1 y.node != 6) = true := by simp [c6]
          have HSO : Hid (hasB x.code = false) := STOP.out (hsStep_store1 k18 c6)
          have hR : R = false := by rw [← HRE.out]; exact HSO.out
          subst hR
          clear STOP STEP k18 c6 hci
          generalize s.1 y.node = cc at L1 hc6
          go_upto_region 5 with fail
          rw [← HF.out]
          go_wp2_with (first | (at_lookup; refine wpList_look rfl _ _ _ rfl rfl rfl L1.out ?_) | (at_lookup; refine wpList_look rfl _ _ _ rfl rfl rfl L2.out ?_))
          go_ret
          exact ⟨rfl, hbF⟩
      · have hk18 : (y.kind != 18) = true := by simp [k18]
        by_cases c0 : s.1 y.node = 0
        · have hc0 : (s.1 y.node != 0) = false := by simp [c0]
          have HST := Lib.hid (STEP.out _ (hsStep_new k18 c0))
          clear STOP STEP k18 c0 hci
          generalize s.1 y.node = cc at L1 hc0
          go_upto_region 5 with fail
          rw [← HF.out]
          go_wp2_with (first | (at_lookup; refine wpList_look rfl _ _ _ rfl rfl rfl L1.out ?_) | (at_mapUpdate; refine wpList_putI rfl _ _ _ rfl rfl HH1.out (by unfold maxLen; omega) rfl rfl HWN.out HWK.out ?_; intro w1 g1 hg))
          have g2 := HH2.out.keep (hg.block (b1 + 1) HH2.out.lt (by simp))
          have hbw := hbF.grown hg hbF.size (fun j hj => by simp only [Option.some.injEq] at hj; omega)
          go_roundw
          case rel => exact ⟨k + 1, _, by omega, by go_num, HST.out, g1, g2.mono (by omega), hbw⟩
          case measure => simp [intOf] <;> omega
        · have hc0 : (s.1 y.node != 0) = true := by simp [c0]
          have HSO : Hid (hasB x.code = false) := STOP.out (hsStep_old k18 c0)
          have hR : R = false := by rw [← HRE.out]; exact HSO.out
          subst hR
          clear STOP STEP k18 c0 hci
          generalize s.1 y.node = cc at L1 hc0
          go_upto_region 5 with fail
          rw [← HF.out]
          go_wp2_with (first | (at_lookup; refine wpList_look rfl _ _ _ rfl rfl rfl L1.out ?_))
          go_ret
          exact ⟨rfl, hbF⟩
    · obtain rfl : k = n := by omega
      have HS2 : Hid (hsRun x.code = some s) := by have := HS.out; rw [HN.out, List.take_length] at this; exact this
      have HEND : Hid ((∀ y, Wf y → s.1 y = 6 → s.2 y = true) → hasB x.code = true) := fun h => has_end HNZ.out HS2.out (P := Wf) (fun z hz => wf_of (by have := HC.out z hz; omega) (by have := HC.out z hz; omega)) h
      have HBAD : Hid (∀ y, s.1 y = 6 → s.2 y = false → hasB x.code = false) := fun y h1 h2 => has_bad HNZ.out HS2.out h1 h2
      clear HS2 HS
      go_wp2_with (first | (at_range; refine wpList_rangeI rfl _ rfl rfl m1 ?_; intro w0 left cnt hrg hleft hg0 hs0) | fail)
      go_frame
      have g2 := m2.keep (hg0.block (b1 + 1) m2.lt (by simp))
      have hb0 := hb.grown hg0 hb.size (fun j hj => by cases hj)
      have hri : w.heap.size ≤ wi.heap.size := hb.size
      have hrb : wi.heap.size ≠ b1 + 1 := by have := m2.lt; omega
      have HLEFT := Lib.hid hleft
      clear hleft m1 m2 hg0 hs0
      go_loopw [7] (fun _ wr => ∃ (left : Int → Bool) (cnt : Nat), RangesI wr b1 wi.heap.size k left cnt s.1 ∧ MapB wr (b1 + 1) k s.2 ∧ Below w.heap.size w wr ∧ ∀ y, Wf y → s.1 y = 6 → left y = false → s.2 y = true) (fun _ wr => wr.rangeLeft b1 wi.heap.size)
      case atStart => exact ⟨left, cnt, hrg, g2, hb0, fun y hy h6 hl => by rw [HLEFT.out y hy (by rw [h6]; decide)] at hl; cases hl⟩
      case round =>
        obtain ⟨left2, cnt2, hr2, m2, hb2, hdone⟩ := hrel
        obtain ⟨wj, rfl⟩ : ∃ wj : World, wj = wr := ⟨_, rfl⟩
        have HD := Lib.hid hdone
        clear hdone g2 hb0 hrg HLEFT
        have hT : ∀ y, (∀ z, left2 z = false) → Wf y → s.1 y = 6 → s.2 y = true := fun y hl hy h6 => HD.out y hy h6 (hl y)
        have HT := Lib.hid hT
        clear hT
        go_wp2_with (first | (at_next; refine wpList_nextI rfl _ rfl rfl hr2 ?_ ?_) | fail)
        · intro hl
          have hR : R = true := by rw [← HRE.out]; exact HEND.out (fun y hy h6 => HT.out y hl hy h6)
          subst hR
          have HL := Lib.hid hl
          clear hl
          go_wp2_with fail
          go_ret
          exact ⟨rfl, hb2⟩
        · intro y w1 left1 cnt1 hwy hly hr1 hsame hlt2 hg1 hs1 hen
          have m3 := m2.keep (hg1.block (b1 + 1) m2.lt (by simp only [ne_eq, Option.some.injEq]; omega))
          have hb3 := hb2.grown hg1 hb2.size (fun j hj => by simp only [Option.some.injEq] at hj; omega)
          have L3 := Lib.hid (m3.look hwy)
          have M3 := Lib.hid m3
          have HSM := Lib.hid hsame
          have HR1 := Lib.hid hr1
          have HR2 := Lib.hid hr2
          clear hsame hr1 hr2 m2 m3 hg1 hs1 hb2
          by_cases c6 : s.1 y = 6
          · have hc6 : (s.1 y == 6) = true := by simp [c6]
            cases cs : s.2 y
            · have hR : R = false := by rw [← HRE.out]; exact HBAD.out y c6 cs
              subst hR
              rw [cs] at L3
              clear c6 cs
              generalize s.1 y = cc at hen hc6
              go_wp2_with (first | (at_lookup; refine wpList_look rfl _ _ _ rfl rfl rfl L3.out ?_) | fail)
              go_ret
              exact ⟨rfl, hb3⟩
            · have HC6 : Hid (s.2 y = true) := cs
              rw [cs] at L3
              clear c6 cs
              have HDN : Hid (∀ z, Wf z → s.1 z = 6 → left1 z = false → s.2 z = true) := fun z hz h6 hl => by
                by_cases e : z = y
                · rw [e]; exact HC6.out
                · exact HD.out z hz h6 (by rw [← HSM.out z e]; exact hl)
              generalize s.1 y = cc at hen hc6
              go_wp2_with (first | (at_lookup; refine wpList_look rfl _ _ _ rfl rfl rfl L3.out ?_) | fail)
              go_roundw
              case rel => exact ⟨left1, cnt1, HR1.out, M3.out, hb3, HDN.out⟩
              case measure => rw [HR1.out.left_eq, HR2.out.left_eq]; omega
          · have hc6 : (s.1 y == 6) = false := by simp [c6]
            have HDN : Hid (∀ z, Wf z → s.1 z = 6 → left1 z = false → s.2 z = true) := fun z hz h6 hl => by
              by_cases e : z = y
              · rw [e] at h6; exact absurd h6 c6
              · exact HD.out z hz h6 (by rw [← HSM.out z e]; exact hl)
            clear c6
            generalize s.1 y = cc at hen hc6
            go_wp2_with (first | (at_lookup; refine wpList_look rfl _ _ _ rfl rfl rfl L3.out ?_) | fail)
            go_roundw
            case rel => exact ⟨left1, cnt1, HR1.out, M3.out, hb3, HDN.out⟩
            case measure => rw [HR1.out.left_eq, HR2.out.left_eq]; omega
end Go.Proofs.Ytabfdnkomhjlkaa
