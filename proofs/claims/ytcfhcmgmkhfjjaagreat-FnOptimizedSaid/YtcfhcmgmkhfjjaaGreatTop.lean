/-
  The walk of the law on optimized patches.
-/
import Derived.Test.YtcfhcmgmkhfjjaaGreatPk14
import Derived.Test.YtcfhcmgmkhfjjaaGreatPk15
import Derived.Test.YtcfhcmgmkhfjjaaGreatPk11
namespace Go.Proofs.YtcfhcmgmkhfjjaaGreat
open Go.ChangeShapes Go.WideShapes Go.ChangeAt Go.RowKit Go.Sort
set_option linter.unusedVariables false
set_option linter.unusedSimpArgs false

/-- what the first rewrite makes of a patch -/
theorem ap_first {x : PatchD} (ok : okB x = true) (h : nxB x = true) : apRes x (nxR x) (nxN x) = nxP x ∧ apCode x (nxR x) (nxN x) = 0 := by
  obtain ⟨h1, h2, h3⟩ := nx_step h
  have hr := need_rng _ (nx_need h)
  have hok : apOk x (nxR x) (nxN x) = true := by
    unfold apOk
    rw [h2]
    simp only [Bool.and_eq_true, inB_iff, Bool.not_eq_true', beq_iff_eq, beq_eq_false_iff_ne]
    exact ⟨by omega, h1, trivial⟩
  obtain ⟨e1, e2⟩ := ap_yes ok hok
  exact ⟨by rw [e1, h3, h2], e2⟩
set_option maxHeartbeats 3200000 in
set_option maxRecDepth 100000 in
theorem fnOptimized_walk (w : World) {v0 : Value} {bs0 : List Int} (h0 : VB w v0 bs0) (hm0 : bs0.length ≤ maxLen) {v1 : Value} {bs1 : List Int} (h1 : VB w v1 bs1) (hm1 : bs1.length ≤ maxLen) :
    Calls Tryz.prog 3 #[v0, v1] w fun e w' => e = .returned (.bool true) ∧ Below w.heap.size w w' := by
  have h1v := h1
  obtain ⟨p0, c0, rfl, r0⟩ := h0
  obtain ⟨p1, c1, rfl, r1⟩ := h1
  have L0 := Lib.hid (b10Long_any p0 bs0.length c0 w hm0)
  have L1 := Lib.hid (b10Long_any p1 bs1.length c1 w hm1)
  by_cases hl0 : (1048576 : Int) < (bs0.length : Int)
  · rw [decide_eq_true hl0] at L0
    clear L1
    go_enter Tryz.func3, Tryz.ntmps3
    go_wp2_with (go_at_call 4; refine L0.out.mono ?_; rintro e w' ⟨rfl, hw⟩; obtain rfl := hw.symm)
    go_ret
    exact ⟨rfl, Below.refl _ _⟩
  rw [decide_eq_false hl0] at L0
  by_cases hl1 : (1048576 : Int) < (bs1.length : Int)
  · rw [decide_eq_true hl1] at L1
    go_enter Tryz.func3, Tryz.ntmps3
    go_wp2_with (go_at_call 4; (first | (with_reducible refine L0.out.mono ?_) | (with_reducible refine L1.out.mono ?_)); rintro e w' ⟨rfl, hw⟩; obtain rfl := hw.symm)
    go_ret
    exact ⟨rfl, Below.refl _ _⟩
  rw [decide_eq_false hl1] at L1
  have hs0 : bs0.length ≤ 1048576 := by omega
  have hs1 : bs1.length ≤ 1048576 := by omega
  clear hl0 hl1 hm0 hm1
  go_enter Tryz.func3, Tryz.ntmps3
  go_upto_region 3 with (go_at_call 4; (first | (with_reducible refine L0.out.mono ?_) | (with_reducible refine L1.out.mono ?_)); rintro e w' ⟨rfl, hw⟩; obtain rfl := hw.symm)
  clear L0 L1
  go_wp2_with fail
  refine (drawOptimize_any (c := c0) w r0 hs0).mono ?_
  rintro e W1 ⟨x, vx, rfl, hx, hb1⟩
  obtain ⟨p11, c11, p12, c12, p13, c13, rfl, -⟩ := id hx
  obtain ⟨g5, hg5⟩ : ∃ g, g = W1.heap.size := ⟨_, rfl⟩
  obtain ⟨E2, hE2⟩ : ∃ E, E = W1.alloc (.cells #[.int .i64 x.inputs, .slice p11 x.tables.length c11, .slice p12 x.nodes.length c12, .slice p13 x.outputs.length c13] 28) := ⟨_, rfl⟩
  have hb2 : Below W1.heap.size W1 E2 := by rw [hE2]; exact (Below.refl _ _).alloc (Nat.le_refl _) _
  have b5 : Box E2 g5 [.int .i64 x.inputs, .slice p11 x.tables.length c11, .slice p12 x.nodes.length c12, .slice p13 x.outputs.length c13] 28 := by rw [hE2]; exact Box.newAt W1 [.int .i64 x.inputs, .slice p11 x.tables.length c11, .slice p12 x.nodes.length c12, .slice p13 x.outputs.length c13] _ hg5
  have hE2' := Lib.hid hE2
  have HG5 := Lib.hid hg5
  replace hx := hx.below hb2
  replace h1v := (h1v.below hb1).below hb2
  have hB := hb1.trans (hb2.mono hb1.size)
  clear hE2 hg5 hb1 hb2 r0 r1
  go_upto_region 4 with fail
  rw [← hE2'.out, ← HG5.out]
  have x0 := b5.cell 0 rfl
  have x1 := b5.cell 1 rfl
  have x2 := b5.cell 2 rfl
  have x3 := b5.cell 3 rfl
  go_wp2_with fail
  clear x0 x1 x2 x3
  refine (implOptimizePatch_v E2 hx).mono ?_
  rintro e W3 ⟨u, L, rfl, ou, -, hb3⟩
  have hz := ou.rd
  clear ou
  obtain ⟨p21, c21, p22, c22, p23, c23, rfl, -⟩ := id hz
  obtain ⟨cc, hcc⟩ : ∃ cc, cc = okCode x := ⟨_, rfl⟩
  obtain ⟨z, hzz⟩ : ∃ z, z = optRes x := ⟨_, rfl⟩
  rw [← hzz] at hz ⊢
  rw [← hcc]
  have HCC := Lib.hid hcc
  have HZZ := Lib.hid hzz
  clear hcc hzz
  replace hx := hx.below hb3
  replace h1v := h1v.below hb3
  replace b5 := b5.below hb3
  replace hB := hB.trans (hb3.mono hB.size)
  obtain ⟨g6, hg6⟩ : ∃ g, g = W3.heap.size := ⟨_, rfl⟩
  obtain ⟨E3, hE3⟩ : ∃ E, E = W3.alloc (.cells #[.int .i64 z.inputs, .slice p21 z.tables.length c21, .slice p22 z.nodes.length c22, .slice p23 z.outputs.length c23] 28) := ⟨_, rfl⟩
  have hb4 : Below W3.heap.size W3 E3 := by rw [hE3]; exact (Below.refl _ _).alloc (Nat.le_refl _) _
  have b6 : Box E3 g6 [.int .i64 z.inputs, .slice p21 z.tables.length c21, .slice p22 z.nodes.length c22, .slice p23 z.outputs.length c23] 28 := by rw [hE3]; exact Box.newAt W3 [.int .i64 z.inputs, .slice p21 z.tables.length c21, .slice p22 z.nodes.length c22, .slice p23 z.outputs.length c23] _ hg6
  replace hx := hx.below hb4
  replace hz := hz.below hb4
  replace h1v := h1v.below hb4
  replace b5 := b5.below hb4
  replace hB := hB.trans (hb4.mono hB.size)
  have HE3 := Lib.hid hE3
  have HG6 := Lib.hid hg6
  clear hE3 hg6 hb3 hb4
  go_upto_region 5 with fail
  rw [← HE3.out, ← HG6.out]
  have x0 := b5.cell 0 rfl
  have x1 := b5.cell 1 rfl
  have x2 := b5.cell 2 rfl
  have x3 := b5.cell 3 rfl
  by_cases hcz : cc ≠ 0
  · have hbad : okB x = false := by
      cases e : okB x
      · rfl
      · exact absurd (HCC.out.trans (by unfold okCode; rw [if_pos e])) hcz
    have VP := Lib.hid (specValidPatch_v E3 hx)
    rw [hbad] at VP
    go_wp2_with (first | (go_at_call 7; refine VP.out.mono ?_; rintro e W4 ⟨rfl, hb4⟩) | fail)
    go_ret
    exact ⟨rfl, hB.trans (hb4.mono hB.size)⟩
  obtain rfl : cc = 0 := by simpa using hcz
  clear hcz
  have ok : okB x = true := by
    cases e : okB x
    · have := HCC.out; unfold okCode at this; rw [e] at this; simp at this
    · rfl
  obtain ⟨f1, f2, f3, f4, f5⟩ := opt_facts ok
  rw [← HZZ.out] at f1 f2 f3 f4 f5
  have HOK := Lib.hid ok
  have HCO : Hid (okCode x = 0) := HCC.out.symm
  have SV := Lib.hid (implSavedNodes_v E3 hx)
  rw [HCO.out] at SV
  have HF1 := Lib.hid f1
  have HF2 := Lib.hid f2
  have HF3 := Lib.hid f3
  have HSV := Lib.hid f5
  obtain ⟨nx, hnx⟩ : ∃ n : Nat, n = x.nodes.length := ⟨_, rfl⟩
  have hn24 : x.nodes.length ≤ 24 := (okR_len ok).2.2
  clear ok f1 f2 f3 f5
  rw [HSV.out] at SV
  go_upto_region 8 with (first | (go_at_call 8; refine SV.out.mono ?_; rintro e W4 ⟨rfl, hb4⟩) | fail)
  have VQ := Lib.hid (specValidPatch_v W4 (hz.below hb4))
  rw [HF1.out] at VQ
  clear x0 x1 x2 x3
  have x0 := (b5.below hb4).cell 0 rfl
  have x1 := (b5.below hb4).cell 1 rfl
  have x2 := (b5.below hb4).cell 2 rfl
  have x3 := (b5.below hb4).cell 3 rfl
  have z0 := (b6.below hb4).cell 0 rfl
  have z1 := (b6.below hb4).cell 1 rfl
  have z2 := (b6.below hb4).cell 2 rfl
  have z3 := (b6.below hb4).cell 3 rfl
  go_upto_region 10 with (first | (go_at_call 7; refine VQ.out.mono ?_; rintro e W5 ⟨rfl, hb5⟩; have hb45 := hb4.trans (hb5.mono hb4.size); have z0 := (b6.below hb45).cell 0 rfl; have z1 := (b6.below hb45).cell 1 rfl; have z2 := (b6.below hb45).cell 2 rfl; have z3 := (b6.below hb45).cell 3 rfl) | (go_at_call 9; refine (implIsOptimal_v W5 (hz.below hb45)).mono ?_; rw [HF2.out]; rintro e W6 ⟨rfl, hb6⟩; have hb46 := hb45.trans (hb6.mono hb45.size); have z2 := (b6.below hb46).cell 2 rfl; have x2 := (b5.below hb46).cell 2 rfl) | fail)
  have hb46' : Below E3.heap.size E3 W6 := hb46
  obtain ⟨Eb, rfl⟩ : ∃ E, E = W6 := ⟨_, rfl⟩
  replace hx := hx.below hb46'
  replace hz := hz.below hb46'
  replace h1v := h1v.below hb46'
  replace b5 := b5.below hb46'
  replace b6 := b6.below hb46'
  replace hB := hB.trans (hb46'.mono hB.size)
  clear x0 x1 x2 x3 z0 z1 z2 z3 hb4 hb5 hb45 hb46 hb46' SV VQ
  obtain ⟨hi0, hi4⟩ := (formed_iff.1 (okR_len HOK.out).1).1
  obtain ⟨ni, hni⟩ := Int.eq_ofNat_of_zero_le hi0
  have HNI := Lib.hid hni
  have hn4 : ni ≤ 4 := by omega
  clear hi0 hi4
  rw [hni] at b5
  clear hni
  have o9 := OwnII.empty (B := Eb.heap.size) Eb (Nat.le_refl _)
  have hb9 := (Below.refl Eb.heap.size Eb).alloc (Nat.le_refl _) (.cells #[] 26)
  go_wp2_with fail
  go_loopw [10, 11] (fun s9 s10 wr => ∃ (k : Nat) (xss : List (List Int)) (L : List Value), k ≤ ni ∧ s10 = .int .i64 (k : Int) ∧ xss.length = k ∧ RowsS 8 xss ∧ OwnII Eb.heap.size wr s9 xss L ∧ Below Eb.heap.size Eb wr) (fun _ i _ => ni - (intOf i).toNat)
  case atStart => exact ⟨0, [], [], Nat.zero_le _, rfl, rfl, fun _ h => (by simp at h), o9, hb9⟩
  case round =>
    obtain ⟨k, xss, L, hk, rfl, hxl, hrs, hown, hbel⟩ := hrel
    clear o9 hb9
    obtain ⟨wi, rfl⟩ : ∃ W : World, W = wr := ⟨_, rfl⟩
    have hsz := hbel.size
    have x0 := (b5.below hbel).cell 0 rfl
    have HXL := Lib.hid hxl
    clear hxl
    by_cases hlt : k < ni
    · have o11 : OwnI wi.heap.size (wi.alloc (.cells #[] 2)) (.slice (some ⟨wi.heap.size, 0, none⟩) 0 0) [] := OwnI.lit (B := wi.heap.size) wi [] (Nat.le_refl _) (by simp [maxLen])
      have hb11 : Below wi.heap.size wi (wi.alloc (.cells #[] 2)) := (Below.refl wi.heap.size wi).alloc (Nat.le_refl _) _
      have HRS := Lib.hid hrs
      have HOW := Lib.hid hown
      have HBL := Lib.hid hbel
      clear hrs hown hbel
      go_wp2_with fail
      go_loopw [12, 13] (fun s11 s12 w3 => ∃ (j : Nat) (row : List Int), j ≤ 8 ∧ s12 = .int .i64 (j : Int) ∧ row.length = j ∧ row.all isSmp = true ∧ OwnI wi.heap.size w3 s11 row ∧ Below wi.heap.size wi w3) (fun _ i _ => 8 - (intOf i).toNat)
      case atStart => exact ⟨0, [], Nat.zero_le _, rfl, rfl, rfl, o11, hb11⟩
      case round =>
        obtain ⟨j, row, hj, rfl, hrl, hra, hro, hbj⟩ := hrel
        clear o11 hb11 x0
        obtain ⟨wj, rfl⟩ : ∃ W : World, W = wr := ⟨_, rfl⟩
        have hszj := hbj.size
        have HRL := Lib.hid hrl
        have HRA := Lib.hid hra
        clear hrl hra
        by_cases hlt2 : j < 8
        · have AT : Hid (Calls Tryz.prog 10 #[.slice p1 bs1.length c1, .int .i64 (8 * (k : Int) + (j : Int)), .int .i64 256] wj fun e w' => ∃ r, 0 ≤ r ∧ r < 256 ∧ e = .returned (.int .i64 r) ∧ wj = w') := by
            have := b10At_any (8 * k + j) 256 wj ((h1v.below HBL.out).below hbj) hs1 (by omega) (by omega) (by omega)
            rwa [show ((8 * k + j : Nat) : Int) = 8 * (k : Int) + (j : Int) by omega] at this
          have hrl5 : row.length < 17592186044415 := by have := HRL.out; omega
          go_wp2_with (first | (go_at_call 10; refine AT.out.mono ?_; rintro e w' ⟨r, hr0, hr1, rfl, hw⟩; subst hw; clear AT) | (at_builtin; refine wpList_append_one rfl _ _ rfl rfl hro rfl hbj hrl5 hszj (Nat.le_refl _) ?_; intro v' w4 hown4 hb4 hz4 hk4) | fail)
          have hsmp : isSmp (3000 * (r - 128)) = true := isSmp_iff.2 (by omega)
          have HR2 := Lib.hid (all_smp_snoc HRA.out hsmp)
          clear hsmp hk4
          go_roundw
          case rel => exact ⟨j + 1, row ++ [3000 * (r - 128)], by omega, by go_num, by simp [HRL.out], HR2.out, hown4, hb4⟩
          case measure => simp [intOf] <;> omega
        · obtain rfl : j = 8 := by omega
          obtain ⟨qv, cv, rfl, -⟩ := hro.rd
          have hown := HOW.out.below hbj
          have hbel := HBL.out.trans (hbj.mono HBL.out.size)
          have hnew : ∀ b, (Value.slice qv row.length cv).ownBlock = some b → ¬ Blk L b := fun b hb hbk => by
            have h1 := (hro.lt hb).1
            have h2 := (HOW.out.2.1.blk hbk).2.1
            omega
          have HNEW := Lib.hid hnew
          have hlen : L.length < 1099511627776 := by have := hown.2.1.1; have := HXL.out; omega
          have hone := hro.oneCell
          have hrow2 := hro.mono hsz
          have hsz3 := hbel.size
          have HR2 := Lib.hid (HRS.out.snoc HRL.out HRA.out)
          clear hnew hro HBL
          rw [HRL.out] at hrow2 HNEW hone ⊢
          go_wp2_with (first | (at_builtin; refine wpList_append_val rfl _ _ rfl 24 (.slice none 0 0) Tryz.underlying24 infoII rfl (by omega) rfl hown.1 rfl hone hbel hlen hsz3 (Nat.le_refl _) ?_; intro v' w1 hown1 hbel1 _ hk1) | fail)
          have hfin := hown.snoc hrow2 HNEW.out hown1 hk1
          have HF := Lib.hid hfin
          clear hfin hk1 hown1 hown
          go_roundw
          case rel => exact ⟨k + 1, _, _, by omega, by go_num, by simp [HXL.out], HR2.out, HF.out, hbel1⟩
          case measure => simp [intOf] <;> omega
    · obtain rfl : ni = k := by omega
      obtain ⟨q9, c9, rfl, r9⟩ := hown.rd
      have hS : sigsB x xss = true := hrs.sigs (by omega) (by rw [HXL.out]; exact HNI.out.symm)
      have hIO := sigsB_ok hS
      have hSz : sigsB z xss = true := hrs.sigs (by omega) (by rw [HXL.out, HF3.out]; exact HNI.out.symm)
      obtain ⟨e1, e2⟩ := renCode_zero (n := 20) HOK.out hS (by omega)
      obtain ⟨e3, e4⟩ := renCode_zero (n := 20) HF1.out hSz (by omega)
      have hEq : renL z xss 20 = renL x xss 20 := by rw [HZZ.out]; exact opt_render HOK.out hIO 20
      have hrow := renL_rows (n := 20) (okR_len HOK.out).1 hIO
      have RX : Hid (∀ W, Below Eb.heap.size Eb W → Below wi.heap.size wi W → Calls Tryz.prog 11 #[.agg #[.int .i64 (ni : Int), .slice p11 x.tables.length c11, .slice p12 x.nodes.length c12, .slice p13 x.outputs.length c13], .slice q9 xss.length c9, .int .i64 20] W (RetII W (renL x xss 20) 0)) := fun W h1 h2 => by
        have := specRender_any (ci := c9) 20 W (hx.below h1) (r9.below h2)
        rwa [show (20 : Int) = ((20 : Nat) : Int) from rfl, e1, e2, HNI.out] at this
      have RZ : Hid (∀ W, Below Eb.heap.size Eb W → Below wi.heap.size wi W → Calls Tryz.prog 11 #[.agg #[.int .i64 z.inputs, .slice p21 z.tables.length c21, .slice p22 z.nodes.length c22, .slice p23 z.outputs.length c23], .slice q9 xss.length c9, .int .i64 20] W (RetII W (renL x xss 20) 0)) := fun W h1 h2 => by
        have := specRender_any (ci := c9) 20 W (hz.below h1) (r9.below h2)
        rwa [show (20 : Int) = ((20 : Nat) : Int) from rfl, e3, e4, hEq] at this
      have HNP : Hid (nxB x = true → okB (nxP x) = true ∧ renCode (nxP x) xss 20 = 0 ∧ renRes (nxP x) xss 20 = renL x xss 20) := fun h => by
        have ok2 := nx_ok HOK.out h
        have hS2 : sigsB (nxP x) xss = true := hrs.sigs (by omega) (by rw [HXL.out, nx_inputs h]; exact HNI.out.symm)
        obtain ⟨a1, a2⟩ := renCode_zero (n := 20) ok2 hS2 (by omega)
        exact ⟨ok2, a1, a2.trans (nx_render HOK.out hIO h 20)⟩
      have HLZ : Hid ((renL x xss 20).length ≤ 1048576 ∧ ∀ a ∈ renL x xss 20, a.length ≤ 1048576) := by
        refine ⟨?_, fun a ha => ?_⟩
        · have := (formed_iff.1 (okR_len HOK.out).1).2.2.2.1
          unfold renL
          rw [List.length_map]
          omega
        · have := (hrow a ha).1
          omega
      generalize renL x xss 20 = xx at RX RZ HNP HLZ
      clear hEq e1 e2 e3 e4 hS hSz hIO hrow hrs hown
      have x1 := (b5.below hbel).cell 1 rfl
      have x2 := (b5.below hbel).cell 2 rfl
      have x3 := (b5.below hbel).cell 3 rfl
      go_wp2_with fail
      refine (RX.out wi hbel (Below.refl _ _)).mono ?_
      rintro e W5' ⟨ux, Lx, rfl, ox, hb5⟩
      obtain ⟨qx, cx, rfl, rx⟩ := ox.rd
      have hbe5 := hbel.trans (hb5.mono hsz)
      have z0 := (b6.below hbe5).cell 0 rfl
      have z1 := (b6.below hbe5).cell 1 rfl
      have z2 := (b6.below hbe5).cell 2 rfl
      have z3 := (b6.below hbe5).cell 3 rfl
      clear x0 x1 x2 x3
      go_wp2_with fail
      refine (RZ.out W5' hbe5 hb5).mono ?_
      rintro e W6' ⟨uy, Ly, rfl, oy, hb6⟩
      obtain ⟨qy, cy, rfl, ry⟩ := oy.rd
      have hbe6 := hbe5.trans (hb6.mono hbe5.size)
      have hbw6 : Below wi.heap.size wi W6' := hb5.trans (hb6.mono hb5.size)
      clear z0 z1 z2 z3
      have BL := Lib.hid (b10Lists_true (c := cx) (d := cy) W6' (rx.below hb6) ry HLZ.out.1 HLZ.out.2)
      go_upto_region 24 with (first | (go_at_call 12; refine BL.out.mono ?_; rintro e W7 ⟨rfl, hb7⟩) | fail)
      have hbe7 := hbe6.trans (hb7.mono hbe6.size)
      have hbw7 := hbw6.trans (hb7.mono hbw6.size)
      have x0 := (b5.below hbe7).cell 0 rfl
      have x1 := (b5.below hbe7).cell 1 rfl
      have x2 := (b5.below hbe7).cell 2 rfl
      have x3 := (b5.below hbe7).cell 3 rfl
      have NX := Lib.hid (implNextRewrite_v W7 (hx.below hbe7))
      rw [HNI.out] at NX
      have hnr : nrR x = nxR x ∧ nrN x = nxN x := by unfold nrR nrN; rw [if_pos HOK.out, if_pos HOK.out]; exact ⟨rfl, rfl⟩
      rw [hnr.1, hnr.2] at NX
      clear hnr
      cases hnb : nxB x
      · have hcode : nrCode x = 3 := by unfold nrCode; rw [if_pos HOK.out, hnb]; rfl
        rw [hcode] at NX
        clear hcode
        go_upto_region 25 with (first | (go_at_call 13; refine NX.out.mono ?_; rintro e W8 ⟨rfl, hb8⟩) | fail)
        have hbe8 := hbe7.trans (hb8.mono hbe7.size)
        clear x0 x1 x2 x3 NX
        obtain ⟨E9, hE9⟩ : ∃ E, E = W8.alloc (.cells #[.int .i64 (nxR x), .int .i64 (nxN x)] 40) := ⟨_, rfl⟩
        have hb9' : Below W8.heap.size W8 E9 := by rw [hE9]; exact (Below.refl _ _).alloc (Nat.le_refl _) _
        rw [← hE9]
        clear hE9
        have hbe9 := hbe8.trans (hb9'.mono hbe8.size)
        have z0 := (b6.below hbe9).cell 0 rfl
        have z1 := (b6.below hbe9).cell 1 rfl
        have z2 := (b6.below hbe9).cell 2 rfl
        have z3 := (b6.below hbe9).cell 3 rfl
        have IO := Lib.hid (specIsOptimal_v E9 (hz.below hbe9))
        rw [HF2.out] at IO
        go_wp2_with (first | (go_at_call 14; refine IO.out.mono ?_; rintro e W10 ⟨rfl, hb10⟩) | fail)
        go_ret
        exact ⟨rfl, hB.trans ((hbe9.trans (hb10.mono hbe9.size)).mono hB.size)⟩
      · have hcode : nrCode x = 0 := by unfold nrCode; rw [if_pos HOK.out, hnb]; rfl
        rw [hcode] at NX
        clear hcode
        obtain ⟨oky, hc1, hc2⟩ := HNP.out hnb
        obtain ⟨ha1, ha2⟩ := ap_first HOK.out hnb
        go_upto_region 25 with (first | (go_at_call 13; refine NX.out.mono ?_; rintro e W8 ⟨rfl, hb8⟩) | fail)
        have hbe8 := hbe7.trans (hb8.mono hbe7.size)
        have hbw8 := hbw7.trans (hb8.mono hbw7.size)
        clear x0 x1 x2 x3 NX
        obtain ⟨g18, hg18⟩ : ∃ g, g = W8.heap.size := ⟨_, rfl⟩
        obtain ⟨E9, hE9⟩ : ∃ E, E = W8.alloc (.cells #[.int .i64 (nxR x), .int .i64 (nxN x)] 40) := ⟨_, rfl⟩
        have hb9' : Below W8.heap.size W8 E9 := by rw [hE9]; exact (Below.refl _ _).alloc (Nat.le_refl _) _
        have b18 : Box E9 g18 [.int .i64 (nxR x), .int .i64 (nxN x)] 40 := by rw [hE9]; exact Box.newAt W8 [.int .i64 (nxR x), .int .i64 (nxN x)] _ hg18
        rw [← hE9, ← hg18]
        clear hE9 hg18
        have hbe9 := hbe8.trans (hb9'.mono hbe8.size)
        have hbw9 := hbw8.trans (hb9'.mono hbw8.size)
        have x0 := (b5.below hbe9).cell 0 rfl
        have x1 := (b5.below hbe9).cell 1 rfl
        have x2 := (b5.below hbe9).cell 2 rfl
        have x3 := (b5.below hbe9).cell 3 rfl
        have w0 := b18.cell 0 rfl
        have w1 := b18.cell 1 rfl
        have AP := Lib.hid (implApplyRewrite_v (r := nxR x) (n := nxN x) E9 (hx.below hbe9))
        rw [HNI.out, ha1, ha2] at AP
        obtain ⟨y, hy⟩ : ∃ y, y = nxP x := ⟨_, rfl⟩
        rw [← hy] at AP oky hc1 hc2
        clear hy ha1 ha2
        generalize nxR x = nr at w0 AP
        generalize nxN x = nn at w1 AP
        go_upto_region 28 with (first | (go_at_call 15; refine AP.out.mono ?_; rintro e W10 ⟨u10, L10, rfl, o10, -, hb10⟩; have hy10 := o10.rd; obtain ⟨p31, c31, p32, c32, p33, c33, rfl, -⟩ := id hy10) | fail)
        clear x0 x1 x2 x3 w0 w1 AP o10
        have hbe10 := hbe9.trans (hb10.mono hbe9.size)
        have hbw10 := hbw9.trans (hb10.mono hbw9.size)
        obtain ⟨g20, hg20⟩ : ∃ g, g = W10.heap.size := ⟨_, rfl⟩
        obtain ⟨E11, hE11⟩ : ∃ E, E = W10.alloc (.cells #[.int .i64 y.inputs, .slice p31 y.tables.length c31, .slice p32 y.nodes.length c32, .slice p33 y.outputs.length c33] 28) := ⟨_, rfl⟩
        have hb11 : Below W10.heap.size W10 E11 := by rw [hE11]; exact (Below.refl _ _).alloc (Nat.le_refl _) _
        have b20 : Box E11 g20 [.int .i64 y.inputs, .slice p31 y.tables.length c31, .slice p32 y.nodes.length c32, .slice p33 y.outputs.length c33] 28 := by rw [hE11]; exact Box.newAt W10 [.int .i64 y.inputs, .slice p31 y.tables.length c31, .slice p32 y.nodes.length c32, .slice p33 y.outputs.length c33] _ hg20
        rw [← hE11, ← hg20]
        clear hE11 hg20
        have hbe11 := hbe10.trans (hb11.mono hbe10.size)
        have hbw11 := hbw10.trans (hb11.mono hbw10.size)
        have y0 := b20.cell 0 rfl
        have y1 := b20.cell 1 rfl
        have y2 := b20.cell 2 rfl
        have y3 := b20.cell 3 rfl
        have RY := Lib.hid (specRender_any (ci := c9) 20 E11 (hy10.below hb11) (r9.below hbw11))
        rw [show (20 : Int) = ((20 : Nat) : Int) from rfl] at hc1 hc2 RY
        rw [hc1, hc2] at RY
        go_upto_region 29 with (first | (go_at_call 11; refine RY.out.mono ?_; rintro e W12 ⟨u12, L12, rfl, o12, hb12⟩; obtain ⟨q12, c12, rfl, r12⟩ := o12.rd) | fail)
        have hbe12 := hbe11.trans (hb12.mono hbe11.size)
        have hc8 := hb7.trans (hb8.mono hb7.size)
        have hc9 := hc8.trans (hb9'.mono hc8.size)
        have hc10 := hc9.trans (hb10.mono hc9.size)
        have hc11 := hc10.trans (hb11.mono hc10.size)
        have hb612 := hc11.trans (hb12.mono hc11.size)
        have BL2 := Lib.hid (b10Lists_true (c := cx) (d := c12) W12 ((rx.below hb6).below hb612) r12 HLZ.out.1 HLZ.out.2)
        clear y0 y1 y2 y3
        go_wp2_with (first | (go_at_call 12; refine BL2.out.mono ?_; rintro e w' ⟨rfl, hb13⟩) | fail)
        go_ret
        exact ⟨rfl, hB.trans ((hbe12.trans (hb13.mono hbe12.size)).mono hB.size)⟩
end Go.Proofs.YtcfhcmgmkhfjjaaGreat
