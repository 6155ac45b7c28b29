/-
  The walk of the law on chained patches.
-/
import Derived.Test.YtdjoaaccnadccaaPk8
import Derived.Test.YtdjoaaccnadccaaPk9
import Derived.Test.YtdjoaaccnadccaaPk11
namespace Go.Proofs.Ytdjoaaccnadccaa
open Go.ChangeShapes Go.WideShapes Go.ChangeAt Go.RowKit Go.Sort
set_option linter.unusedVariables false
set_option linter.unusedSimpArgs false

theorem chCode_zero {x y : PatchD} (h : chCode x y = 0) : okB x = true ∧ okB y = true ∧ (x.outputs.length : Int) = y.inputs ∧ chFull x y = false ∧ chRes x y = chainP x y := by
  unfold chCode at h
  cases e1 : okB x && okB y
  · rw [e1] at h; simp at h
  · rw [e1, if_pos rfl] at h
    rw [Bool.and_eq_true] at e1
    by_cases e2 : (x.outputs.length : Int) = y.inputs
    · rw [if_pos e2] at h
      cases e3 : chFull x y
      · exact ⟨e1.1, e1.2, e2, rfl, (ch_good e1.1 e1.2 e2 e3).1⟩
      · rw [e3] at h; simp at h
    · rw [if_neg e2] at h; simp at h
/-- rows of samples, all of one length -/
def RowsS (n : Nat) (xss : List (List Int)) : Prop := ∀ a ∈ xss, a.length = n ∧ a.all isSmp = true
theorem RowsS.snoc {n : Nat} {xss : List (List Int)} (h : RowsS n xss) {a : List Int} (h1 : a.length = n) (h2 : a.all isSmp = true) : RowsS n (xss ++ [a]) := fun b hb => by
  rcases List.mem_append.1 hb with hb | hb
  · exact h b hb
  · rw [List.mem_singleton] at hb; subst hb; exact ⟨h1, h2⟩
theorem RowsS.sigs {n : Nat} {xss : List (List Int)} {x : PatchD} (h : RowsS n xss) (hn : n ≤ 4000) (hl : (xss.length : Int) = x.inputs) : sigsB x xss = true := by
  unfold sigsB
  rw [Bool.and_eq_true, List.all_eq_true, decide_eq_true_iff]
  refine ⟨fun a ha => ?_, hl⟩
  rw [Bool.and_eq_true, decide_eq_true_iff]
  exact ⟨by have := (h a ha).1; omega, (h a ha).2⟩
theorem renCode_zero {x : PatchD} {ins : List (List Int)} {n : Nat} (hx : okB x = true) (hs : sigsB x ins = true) (hn : n ≤ 4000) : renCode x ins (n : Int) = 0 ∧ renRes x ins (n : Int) = renL x ins n := by
  have : renCode x ins (n : Int) = 0 := by
    unfold renCode
    rw [if_pos hx, hs, Bool.true_and, if_pos (inB_iff.2 (by omega))]
  refine ⟨this, ?_⟩
  unfold renRes
  rw [if_pos this]
  rfl
theorem all_smp_snoc {xs : List Int} {y : Int} (h : xs.all isSmp = true) (hy : isSmp y = true) : (xs ++ [y]).all isSmp = true := by
  rw [List.all_append, h]; simp [hy]
set_option maxHeartbeats 1600000 in
set_option maxRecDepth 100000 in
theorem fnChain_walk (w : World) {v0 : Value} {bs0 : List Int} (h0 : VB w v0 bs0) (hm0 : bs0.length ≤ maxLen) {v1 : Value} {bs1 : List Int} (h1 : VB w v1 bs1) (hm1 : bs1.length ≤ maxLen) :
    Calls Try.prog 3 #[v0, v1] w fun e w' => e = .returned (.bool true) ∧ Below w.heap.size w w' := by
  have h1v := h1
  obtain ⟨p0, c0, rfl, r0⟩ := h0
  obtain ⟨p1, c1, rfl, r1⟩ := h1
  have L0 := Lib.hid (b10Long_any p0 bs0.length c0 w hm0)
  have L1 := Lib.hid (b10Long_any p1 bs1.length c1 w hm1)
  by_cases hl0 : (1048576 : Int) < (bs0.length : Int)
  · rw [decide_eq_true hl0] at L0
    clear L1
    go_enter Try.func3, Try.ntmps3
    go_wp2_with (go_at_call 4; refine L0.out.mono ?_; rintro e w' ⟨rfl, hw⟩; obtain rfl := hw.symm)
    go_ret
    exact ⟨rfl, Below.refl _ _⟩
  rw [decide_eq_false hl0] at L0
  by_cases hl1 : (1048576 : Int) < (bs1.length : Int)
  · rw [decide_eq_true hl1] at L1
    go_enter Try.func3, Try.ntmps3
    go_wp2_with (go_at_call 4; (first | (with_reducible refine L0.out.mono ?_) | (with_reducible refine L1.out.mono ?_)); rintro e w' ⟨rfl, hw⟩; obtain rfl := hw.symm)
    go_ret
    exact ⟨rfl, Below.refl _ _⟩
  rw [decide_eq_false hl1] at L1
  have hs0 : bs0.length ≤ 1048576 := by omega
  have hs1 : bs1.length ≤ 1048576 := by omega
  clear hl0 hl1 hm0 hm1
  go_enter Try.func3, Try.ntmps3
  go_upto_region 3 with (go_at_call 4; (first | (with_reducible refine L0.out.mono ?_) | (with_reducible refine L1.out.mono ?_)); rintro e w' ⟨rfl, hw⟩; obtain rfl := hw.symm)
  clear L0 L1
  go_wp2_with fail
  refine (drawChain_any (c := c0) w r0 hs0).mono ?_
  rintro e W1 ⟨x, y, vx, vy, rfl, hx, hy, hb1⟩
  obtain ⟨p11, c11, p12, c12, p13, c13, rfl, -⟩ := id hx
  obtain ⟨p21, c21, p22, c22, p23, c23, rfl, -⟩ := id hy
  obtain ⟨g5, hg5⟩ : ∃ g, g = W1.heap.size := ⟨_, rfl⟩
  obtain ⟨g6, hg6⟩ : ∃ g, g = W1.heap.size + 1 := ⟨_, rfl⟩
  obtain ⟨E2, hE2⟩ : ∃ E, E = (W1.alloc (.cells #[.int .i64 x.inputs, .slice p11 x.tables.length c11, .slice p12 x.nodes.length c12, .slice p13 x.outputs.length c13] 28)).alloc (.cells #[.int .i64 y.inputs, .slice p21 y.tables.length c21, .slice p22 y.nodes.length c22, .slice p23 y.outputs.length c23] 28) := ⟨_, rfl⟩
  have hb2 : Below W1.heap.size W1 E2 := by rw [hE2]; exact ((Below.refl _ _).alloc (Nat.le_refl _) _).alloc (by simp) _
  have b5 : Box E2 g5 [.int .i64 x.inputs, .slice p11 x.tables.length c11, .slice p12 x.nodes.length c12, .slice p13 x.outputs.length c13] 28 := by rw [hE2, hg5]; exact (Box.newAt W1 [.int .i64 x.inputs, .slice p11 x.tables.length c11, .slice p12 x.nodes.length c12, .slice p13 x.outputs.length c13] _ rfl).alloc _
  have b6 : Box E2 g6 [.int .i64 y.inputs, .slice p21 y.tables.length c21, .slice p22 y.nodes.length c22, .slice p23 y.outputs.length c23] 28 := by rw [hE2]; exact Box.newAt (W1.alloc (.cells #[.int .i64 x.inputs, .slice p11 x.tables.length c11, .slice p12 x.nodes.length c12, .slice p13 x.outputs.length c13] 28)) [.int .i64 y.inputs, .slice p21 y.tables.length c21, .slice p22 y.nodes.length c22, .slice p23 y.outputs.length c23] _ (by rw [hg6]; simp)
  have hE2' := Lib.hid hE2
  have HG5 := Lib.hid hg5
  have HG6 := Lib.hid hg6
  replace hx := hx.below hb2
  replace hy := hy.below hb2
  replace h1v := (h1v.below hb1).below hb2
  have hB := hb1.trans (hb2.mono hb1.size)
  clear hE2 hg5 hg6 hb1 hb2 r0 r1
  go_upto_region 4 with fail
  rw [← hE2'.out, ← HG6.out, ← HG5.out]
  have x0 := b5.cell 0 rfl
  have x1 := b5.cell 1 rfl
  have x2 := b5.cell 2 rfl
  have x3 := b5.cell 3 rfl
  have y0 := b6.cell 0 rfl
  have y1 := b6.cell 1 rfl
  have y2 := b6.cell 2 rfl
  have y3 := b6.cell 3 rfl
  go_wp2_with fail
  clear x0 x1 x2 x3 y0 y1 y2 y3
  refine (implChainPatches_v E2 hx hy).mono ?_
  rintro e W3 ⟨u, L, rfl, ou, -, hb3⟩
  have hz := ou.rd
  clear ou
  obtain ⟨p31, c31, p32, c32, p33, c33, rfl, -⟩ := id hz
  obtain ⟨cc, hcc⟩ : ∃ cc, cc = chCode x y := ⟨_, rfl⟩
  obtain ⟨z, hzz⟩ : ∃ z, z = chRes x y := ⟨_, rfl⟩
  rw [← hzz] at hz ⊢
  rw [← hcc]
  have HCC := Lib.hid hcc
  have HZZ := Lib.hid hzz
  clear hcc hzz
  replace hx := hx.below hb3
  replace hy := hy.below hb3
  replace h1v := h1v.below hb3
  replace b5 := b5.below hb3
  replace b6 := b6.below hb3
  replace hB := hB.trans (hb3.mono hB.size)
  obtain ⟨g7, hg7⟩ : ∃ g, g = W3.heap.size := ⟨_, rfl⟩
  obtain ⟨E3, hE3⟩ : ∃ E, E = W3.alloc (.cells #[.int .i64 z.inputs, .slice p31 z.tables.length c31, .slice p32 z.nodes.length c32, .slice p33 z.outputs.length c33] 28) := ⟨_, rfl⟩
  have hb4 : Below W3.heap.size W3 E3 := by rw [hE3]; exact (Below.refl _ _).alloc (Nat.le_refl _) _
  have b7 : Box E3 g7 [.int .i64 z.inputs, .slice p31 z.tables.length c31, .slice p32 z.nodes.length c32, .slice p33 z.outputs.length c33] 28 := by rw [hE3]; exact Box.newAt W3 [.int .i64 z.inputs, .slice p31 z.tables.length c31, .slice p32 z.nodes.length c32, .slice p33 z.outputs.length c33] _ hg7
  replace hx := hx.below hb4
  replace hy := hy.below hb4
  replace hz := hz.below hb4
  replace h1v := h1v.below hb4
  replace b5 := b5.below hb4
  replace b6 := b6.below hb4
  replace hB := hB.trans (hb4.mono hB.size)
  have HE3 := Lib.hid hE3
  have HG7 := Lib.hid hg7
  clear hE3 hg7 hb3 hb4
  go_upto_region 5 with fail
  rw [← HE3.out, ← HG7.out]
  by_cases hcz : cc ≠ 0
  · go_wp2_with fail
    go_ret
    exact ⟨rfl, hB⟩
  obtain rfl : cc = 0 := by simpa using hcz
  clear hcz
  obtain ⟨k1, k2, k3, k4, k5⟩ := chCode_zero HCC.out.symm
  have HK1 := Lib.hid k1
  have HK2 := Lib.hid k2
  have HK3 := Lib.hid k3
  have HK4 := Lib.hid k4
  have HK5 := Lib.hid (HZZ.out.trans k5)
  obtain ⟨hi0, hi4⟩ := (formed_iff.1 (okR_len k1).1).1
  obtain ⟨ni, hni⟩ := Int.eq_ofNat_of_zero_le hi0
  have HNI := Lib.hid hni
  have hn4 : ni ≤ 4 := by omega
  clear k1 k2 k3 k4 k5 hi0 hi4
  rw [hni] at b5
  clear hni HCC HZZ
  have o9 := OwnII.empty (B := E3.heap.size) E3 (Nat.le_refl _)
  have hb9 := (Below.refl E3.heap.size E3).alloc (Nat.le_refl _) (.cells #[] 26)
  go_wp2_with fail
  go_loopw [9, 10] (fun s9 s10 wr => ∃ (k : Nat) (xss : List (List Int)) (L : List Value), k ≤ ni ∧ s10 = .int .i64 (k : Int) ∧ xss.length = k ∧ RowsS 10 xss ∧ OwnII E3.heap.size wr s9 xss L ∧ Below E3.heap.size E3 wr) (fun _ i _ => ni - (intOf i).toNat)
  case atStart => exact ⟨0, [], [], Nat.zero_le _, rfl, rfl, fun _ h => (by simp at h), o9, hb9⟩
  case round =>
    obtain ⟨k, xss, L, hk, rfl, hxl, hrs, hown, hbel⟩ := hrel
    clear o9 hb9
    obtain ⟨wi, rfl⟩ : ∃ W : World, W = wr := ⟨_, rfl⟩
    have hsz := hbel.size
    have x0 := (b5.below hbel).cell 0 rfl
    have HXL := Lib.hid hxl
    clear hxl
    by_cases hlt : k < ni
    · have o11 : OwnI wi.heap.size (wi.alloc (.cells #[] 2)) (.slice (some ⟨wi.heap.size, 0, none⟩) 0 0) [] := OwnI.lit (B := wi.heap.size) wi [] (Nat.le_refl _) (by simp [maxLen])
      have hb11 : Below wi.heap.size wi (wi.alloc (.cells #[] 2)) := (Below.refl wi.heap.size wi).alloc (Nat.le_refl _) _
      have HRS := Lib.hid hrs
      have HOW := Lib.hid hown
      have HBL := Lib.hid hbel
      clear hrs hown hbel
      go_wp2_with fail
      go_loopw [11, 12] (fun s11 s12 w3 => ∃ (j : Nat) (row : List Int), j ≤ 10 ∧ s12 = .int .i64 (j : Int) ∧ row.length = j ∧ row.all isSmp = true ∧ OwnI wi.heap.size w3 s11 row ∧ Below wi.heap.size wi w3) (fun _ i _ => 10 - (intOf i).toNat)
      case atStart => exact ⟨0, [], Nat.zero_le _, rfl, rfl, rfl, o11, hb11⟩
      case round =>
        obtain ⟨j, row, hj, rfl, hrl, hra, hro, hbj⟩ := hrel
        clear o11 hb11 x0
        obtain ⟨wj, rfl⟩ : ∃ W : World, W = wr := ⟨_, rfl⟩
        have hszj := hbj.size
        have HRL := Lib.hid hrl
        have HRA := Lib.hid hra
        clear hrl hra
        by_cases hlt2 : j < 10
        · have AT : Hid (Calls Try.prog 7 #[.slice p1 bs1.length c1, .int .i64 (10 * (k : Int) + (j : Int)), .int .i64 256] wj fun e w' => ∃ r, 0 ≤ r ∧ r < 256 ∧ e = .returned (.int .i64 r) ∧ wj = w') := by
            have := b10At_any (10 * k + j) 256 wj ((h1v.below HBL.out).below hbj) hs1 (by omega) (by omega) (by omega)
            rwa [show ((10 * k + j : Nat) : Int) = 10 * (k : Int) + (j : Int) by omega] at this
          have hrl5 : row.length < 17592186044415 := by have := HRL.out; omega
          go_wp2_with (first | (go_at_call 7; refine AT.out.mono ?_; rintro e w' ⟨r, hr0, hr1, rfl, hw⟩; subst hw; clear AT) | (at_builtin; refine wpList_append_one rfl _ _ rfl rfl hro rfl hbj hrl5 hszj (Nat.le_refl _) ?_; intro v' w4 hown4 hb4 hz4 hk4) | fail)
          have hsmp : isSmp (r - 128) = true := isSmp_iff.2 (by omega)
          have HR2 := Lib.hid (all_smp_snoc HRA.out hsmp)
          clear hsmp hk4
          go_roundw
          case rel => exact ⟨j + 1, row ++ [r - 128], by omega, by go_num, by simp [HRL.out], HR2.out, hown4, hb4⟩
          case measure => simp [intOf] <;> omega
        · obtain rfl : j = 10 := by omega
          obtain ⟨qv, cv, rfl, -⟩ := hro.rd
          have hown := HOW.out.below hbj
          have hbel := HBL.out.trans (hbj.mono HBL.out.size)
          have hnew : ∀ b, (Value.slice qv row.length cv).ownBlock = some b → ¬ Blk L b := fun b hb hbk => by
            have h1 := (hro.lt hb).1
            have h2 := (HOW.out.2.1.blk hbk).2.1
            omega
          have HNEW := Lib.hid hnew
          have hlen : L.length < 1099511627776 := by have := hown.2.1.1; have := HXL.out; omega
          have hone := hro.oneCell
          have hrow2 := hro.mono hsz
          have hsz3 := hbel.size
          have HR2 := Lib.hid (HRS.out.snoc HRL.out HRA.out)
          clear hnew hro HBL
          rw [HRL.out] at hrow2 HNEW hone ⊢
          go_wp2_with (first | (at_builtin; refine wpList_append_val rfl _ _ rfl 24 (.slice none 0 0) Try.underlying24 infoII rfl (by omega) rfl hown.1 rfl hone hbel hlen hsz3 (Nat.le_refl _) ?_; intro v' w1 hown1 hbel1 _ hk1) | fail)
          have hfin := hown.snoc hrow2 HNEW.out hown1 hk1
          have HF := Lib.hid hfin
          clear hfin hk1 hown1 hown
          go_roundw
          case rel => exact ⟨k + 1, _, _, by omega, by go_num, by simp [HXL.out], HR2.out, HF.out, hbel1⟩
          case measure => simp [intOf] <;> omega
    · obtain rfl : ni = k := by omega
      obtain ⟨q9, c9, rfl, r9⟩ := hown.rd
      have hS : sigsB x xss = true := hrs.sigs (by omega) (by rw [HXL.out]; exact HNI.out.symm)
      obtain ⟨e1, e2⟩ := renCode_zero (n := 12) HK1.out hS (by omega)
      have hrow1 := renL_rows (n := 12) (okR_len HK1.out).1 (sigsB_ok hS)
      have hS2 : sigsB y (renL x xss 12) = true := RowsS.sigs (n := 12) hrow1 (by omega) (by rw [← HK3.out]; unfold renL; rw [List.length_map])
      obtain ⟨e3, e4⟩ := renCode_zero (n := 12) HK2.out hS2 (by omega)
      have hfull : chCnt x.nodes.length y.nodes ≤ 24 ∧ x.tables.length + y.tables.length ≤ 4 := by
        have := HK4.out
        unfold chFull at this
        rw [Bool.or_eq_false_iff, decide_eq_false_iff_not, decide_eq_false_iff_not] at this
        omega
      have hZ : okB z = true := by rw [HK5.out]; exact chain_okB HK1.out HK2.out HK3.out hfull.1 hfull.2
      have hS3 : sigsB z xss = true := hrs.sigs (by omega) (by rw [HXL.out, HK5.out]; exact HNI.out.symm)
      obtain ⟨e5, e6⟩ := renCode_zero (n := 12) hZ hS3 (by omega)
      have hEq : renL y (renL x xss 12) 12 = renL z xss 12 := by rw [HK5.out]; exact chain_render HK1.out HK2.out HK3.out hfull.1 hfull.2 xss 12
      have hrow2 := renL_rows (n := 12) (okR_len HK2.out).1 (sigsB_ok hS2)
      have RX : Hid (∀ W, Below E3.heap.size E3 W → Below wi.heap.size wi W → Calls Try.prog 8 #[.agg #[.int .i64 (ni : Int), .slice p11 x.tables.length c11, .slice p12 x.nodes.length c12, .slice p13 x.outputs.length c13], .slice q9 xss.length c9, .int .i64 12] W (RetII W (renL x xss 12) 0)) := fun W h1 h2 => by
        have := specRender_any (ci := c9) 12 W (hx.below h1) (r9.below h2)
        rwa [show (12 : Int) = ((12 : Nat) : Int) from rfl, e1, e2, HNI.out] at this
      have RZ : Hid (∀ W, Below E3.heap.size E3 W → Below wi.heap.size wi W → Calls Try.prog 8 #[.agg #[.int .i64 z.inputs, .slice p31 z.tables.length c31, .slice p32 z.nodes.length c32, .slice p33 z.outputs.length c33], .slice q9 xss.length c9, .int .i64 12] W (RetII W (renL z xss 12) 0)) := fun W h1 h2 => by
        have := specRender_any (ci := c9) 12 W (hz.below h1) (r9.below h2)
        rwa [show (12 : Int) = ((12 : Nat) : Int) from rfl, e5, e6] at this
      have RY : Hid (∀ W q c, Below E3.heap.size E3 W → RdII W q (renL x xss 12) → Calls Try.prog 8 #[.agg #[.int .i64 y.inputs, .slice p21 y.tables.length c21, .slice p22 y.nodes.length c22, .slice p23 y.outputs.length c23], .slice q (renL x xss 12).length c, .int .i64 12] W (RetII W (renL z xss 12) 0)) := fun W q c h1 h2 => by
        have := specRender_any (ci := c) 12 W (hy.below h1) h2
        rwa [show (12 : Int) = ((12 : Nat) : Int) from rfl, e3, e4, hEq] at this
      have HLZ : Hid ((renL z xss 12).length ≤ 1048576 ∧ ∀ a ∈ renL z xss 12, a.length ≤ 1048576) := by
        refine ⟨?_, fun a ha => ?_⟩
        · have := (formed_iff.1 (okR_len hZ).1).2.2.2.1
          unfold renL
          rw [List.length_map]
          omega
        · rw [← hEq] at ha
          have := (hrow2 a ha).1
          omega
      generalize renL z xss 12 = yy at RZ RY HLZ
      generalize renL x xss 12 = xx at RX RY
      clear hEq e1 e2 e3 e4 e5 e6 hS hS2 hS3 hrow1 hrow2 hfull hZ HK1 HK2 HK3 HK4 HK5 hrs hx hy hz h1v r9 hown
      have x1 := (b5.below hbel).cell 1 rfl
      have x2 := (b5.below hbel).cell 2 rfl
      have x3 := (b5.below hbel).cell 3 rfl
      go_wp2_with fail
      refine (RX.out wi hbel (Below.refl _ _)).mono ?_
      rintro e W5 ⟨ux, Lx, rfl, ox, hb5⟩
      obtain ⟨qx, cx, rfl, rx⟩ := ox.rd
      have hbe5 := hbel.trans (hb5.mono hsz)
      have y0 := (b6.below hbe5).cell 0 rfl
      have y1 := (b6.below hbe5).cell 1 rfl
      have y2 := (b6.below hbe5).cell 2 rfl
      have y3 := (b6.below hbe5).cell 3 rfl
      clear x0 x1 x2 x3
      go_wp2_with fail
      refine (RY.out W5 qx cx hbe5 rx).mono ?_
      rintro e W6 ⟨uy, Ly, rfl, oy, hb6⟩
      obtain ⟨qy, cy, rfl, ry⟩ := oy.rd
      have hbe6 := hbe5.trans (hb6.mono hbe5.size)
      have hbw6 : Below wi.heap.size wi W6 := hb5.trans (hb6.mono hb5.size)
      have z0 := (b7.below hbe6).cell 0 rfl
      have z1 := (b7.below hbe6).cell 1 rfl
      have z2 := (b7.below hbe6).cell 2 rfl
      have z3 := (b7.below hbe6).cell 3 rfl
      clear y0 y1 y2 y3
      go_wp2_with fail
      refine (RZ.out W6 hbe6 hbw6).mono ?_
      rintro e W7 ⟨uz, Lz, rfl, oz, hb7⟩
      obtain ⟨qz, cz, rfl, rz⟩ := oz.rd
      have hbe7 := hbe6.trans (hb7.mono hbe6.size)
      clear z0 z1 z2 z3
      have BL := Lib.hid (b10Lists_true (c := cy) (d := cz) W7 (ry.below hb7) rz HLZ.out.1 HLZ.out.2)
      go_wp2_with (first | (go_at_call 9; refine BL.out.mono ?_; rintro e w' ⟨rfl, hb8⟩) | fail)
      go_ret
      exact ⟨rfl, hB.trans ((hbe7.trans (hb8.mono hbe7.size)).mono hB.size)⟩
end Go.Proofs.Ytdjoaaccnadccaa
