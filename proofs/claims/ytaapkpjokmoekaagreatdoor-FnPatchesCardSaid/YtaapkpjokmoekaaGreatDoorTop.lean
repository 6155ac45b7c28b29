/-
  The walk of the law on patches: their order, their text, their trimmed form.
-/
import Derived.Test.YtaapkpjokmoekaaGreatDoorPk8
import Derived.Test.YtaapkpjokmoekaaGreatDoorPk9
import Derived.Test.YtaapkpjokmoekaaGreatDoorPk10
import Derived.Test.YtaapkpjokmoekaaGreatDoorPk3
import Derived.Test.YtaapkpjokmoekaaGreatDoorPk15
import Derived.BigQuiet
namespace Go.Proofs.YtaapkpjokmoekaaGreatDoor
open Go.ChangeShapes Go.WideShapes Go.ChangeAt Go.RowKit Go.Sort
set_option linter.unusedVariables false
set_option linter.unusedSimpArgs false

theorem patchStr_small {x : PatchD} (ok : okB x = true) : (bs (patchStr x)).size ≤ 1048576 := by
  rw [bs_size]
  unfold patchStr
  have h1 := join_le 6000 (linesP x) (lines_le ok)
  have h2 := lines_n ok
  rw [List.length_append]
  have h3 : (linesP x).length * (6000 + 1) ≤ 30 * 6001 := Nat.mul_le_mul h2 (Nat.le_refl _)
  simp only [List.length_cons, List.length_nil]
  omega
theorem pEq_refl (x : PatchD) : pEq x x = true := by unfold pEq; simp
theorem orderCode_ok {x : PatchD} : orderCode x = 0 ↔ okB x = true := by
  unfold orderCode okB
  cases formedB x
  · simp
  · rw [if_pos rfl, Bool.true_and, decide_eq_true_iff]
    split
    · rename_i h; simp [h]
    · rename_i h; simp [h]
theorem sigsB_trim (x : PatchD) (ins : List (List Int)) : sigsB (trimP x) ins = sigsB x ins := rfl
theorem renCode_trim {x : PatchD} (ok : okB x = true) (ins : List (List Int)) (n : Int) : renCode (trimP x) ins n = renCode x ins n := by
  unfold renCode
  rw [if_pos ok, if_pos (trim_okB ok), sigsB_trim]
theorem renRes_trim {x : PatchD} (ok : okB x = true) (ins : List (List Int)) (n : Int) : renRes (trimP x) ins n = renRes x ins n := by
  unfold renRes
  rw [renCode_trim ok, trim_render ok]
theorem renRes_small {x : PatchD} {ins : List (List Int)} {n : Int} (ok : okB x = true) : (renRes x ins n).length ≤ 1048576 ∧ ∀ a ∈ renRes x ins n, a.length ≤ 1048576 := by
  unfold renRes
  split
  · rename_i h
    obtain ⟨-, -, h3, h4⟩ := renCode_ok h
    refine ⟨?_, fun a ha => ?_⟩
    · have := (formed_iff.1 (okR_len ok).1).2.2.2.1
      unfold renL
      rw [List.length_map]
      omega
    · unfold renL at ha
      obtain ⟨o, _, rfl⟩ := List.mem_map.1 ha
      rw [List.length_map, List.length_range]
      omega
  · exact ⟨by simp, by simp⟩
set_option maxHeartbeats 3200000 in
set_option maxRecDepth 100000 in
theorem fnPatches_walk (w : World) {v0 : Value} {bs0 : List Int} (h0 : VB w v0 bs0) (hm0 : bs0.length ≤ maxLen) (hT : TxtT w) (hE : TxtE w) (hC : TxtC w) :
    Calls Tryz.prog 3 #[v0] w fun e w' => e = .returned (.bool true) ∧ Below w.heap.size w w' := by
  obtain ⟨p0, c0, rfl, r0⟩ := h0
  have L0 := Lib.hid (b10Long_any p0 bs0.length c0 w hm0)
  have HT := Lib.hid hT
  have HEE := Lib.hid hE
  have HC := Lib.hid hC
  clear hT hE hC
  by_cases hl0 : (1048576 : Int) < (bs0.length : Int)
  · rw [decide_eq_true hl0] at L0
    go_enter Tryz.func3, Tryz.ntmps3
    go_wp2_with (go_at_call 4; refine L0.out.mono ?_; rintro e w' ⟨rfl, hw⟩; obtain rfl := hw.symm)
    go_ret
    exact ⟨rfl, Below.refl _ _⟩
  rw [decide_eq_false hl0] at L0
  have hs0 : bs0.length ≤ 1048576 := by omega
  clear hl0 hm0
  go_enter Tryz.func3, Tryz.ntmps3
  go_upto_region 3 with (go_at_call 4; refine L0.out.mono ?_; rintro e w' ⟨rfl, hw⟩; obtain rfl := hw.symm)
  clear L0
  go_wp2_with fail
  refine (drawRender_any (c := c0) w r0 hs0).mono ?_
  rintro e W1 ⟨x, vx, ins, qi, ci, n, rfl, hx, hin, hi6, hir, hn1, hn2, hb1⟩
  obtain ⟨p1, c1, p2, c2, p3, c3, rfl, -, rn, -⟩ := id hx
  obtain ⟨g3, hg3⟩ : ∃ g, g = W1.heap.size := ⟨_, rfl⟩
  obtain ⟨E2, hE2⟩ : ∃ E, E = W1.alloc (.cells #[.int .i64 x.inputs, .slice p1 x.tables.length c1, .slice p2 x.nodes.length c2, .slice p3 x.outputs.length c3] 28) := ⟨_, rfl⟩
  have hb2 : Below W1.heap.size W1 E2 := by rw [hE2]; exact (Below.refl _ _).alloc (Nat.le_refl _) _
  have b3 : Box E2 g3 [.int .i64 x.inputs, .slice p1 x.tables.length c1, .slice p2 x.nodes.length c2, .slice p3 x.outputs.length c3] 28 := by rw [hE2]; exact Box.newAt W1 [.int .i64 x.inputs, .slice p1 x.tables.length c1, .slice p2 x.nodes.length c2, .slice p3 x.outputs.length c3] _ hg3
  have HE2 := Lib.hid hE2
  have HG3 := Lib.hid hg3
  replace hx := hx.below hb2
  replace hin := hin.below hb2
  replace rn := rn.below hb2
  have hB := hb1.trans (hb2.mono hb1.size)
  have HT2 := Lib.hid (HT.out.below hB)
  have HEE2 := Lib.hid (HEE.out.below hB)
  have HC2 := Lib.hid (HC.out.below hB)
  clear hE2 hg3 hb1 hb2 r0 HT HEE HC
  go_upto_region 4 with fail
  rw [← HE2.out, ← HG3.out]
  have x0 := b3.cell 0 rfl
  have x1 := b3.cell 1 rfl
  have x2 := b3.cell 2 rfl
  have x3 := b3.cell 3 rfl
  have ORD := Lib.hid (implOrderOf_v E2 hx)
  go_upto_region 5 with (first | (go_at_call 6; refine ORD.out.mono ?_; rintro e W3 ⟨u6, M6, rfl, o6, -, hb3⟩; obtain ⟨q6, c6, rfl, r6⟩ := o6.1.rd) | fail)
  clear x0 x1 x2 x3 ORD
  obtain ⟨cc, hcc⟩ : ∃ cc, cc = orderCode x := ⟨_, rfl⟩
  rw [← hcc]
  have HCC := Lib.hid hcc
  clear hcc
  have y0 := (b3.below hb3).cell 0 rfl
  have y1 := (b3.below hb3).cell 1 rfl
  have y2 := (b3.below hb3).cell 2 rfl
  have y3 := (b3.below hb3).cell 3 rfl
  by_cases hcz : cc ≠ 0
  · have hbad : okB x = false := by
      cases e : okB x
      · rfl
      · exact absurd (HCC.out.trans (orderCode_ok.2 e)) hcz
    have VP := Lib.hid (implValidPatch_v W3 (hx.below hb3))
    rw [hbad] at VP
    go_wp2_with (first | (go_at_call 7; refine VP.out.mono ?_; rintro e W4 ⟨rfl, hb4⟩) | fail)
    go_ret
    exact ⟨rfl, hB.trans ((hb3.trans (hb4.mono hb3.size)).mono hB.size)⟩
  obtain rfl : cc = 0 := by simpa using hcz
  clear hcz
  have ok : okB x = true := orderCode_ok.1 HCC.out.symm
  have HOK := Lib.hid ok
  have hres : orderRes x = orderL x.nodes := by unfold orderRes; rw [if_pos ok]
  have hol : (orderL x.nodes).length = x.nodes.length := (okR_len ok).2.1
  have hn24 : x.nodes.length ≤ 24 := (okR_len ok).2.2
  rw [hres] at r6
  have hrl : (orderRes x).length = x.nodes.length := by rw [hres, hol]
  rw [hrl]
  have VS := Lib.hid (specValidPatch_v W3 (hx.below hb3))
  rw [ok] at VS
  have HOL := Lib.hid hol
  clear ok hres hol hrl HCC o6
  go_upto_region 9 with (first | (go_at_call 8; refine VS.out.mono ?_; rintro e W4 ⟨rfl, hb4⟩; have y2' := (b3.below (hb3.trans (hb4.mono hb3.size))).cell 2 rfl) | fail)
  have hB4 := hb3.trans (hb4.mono hb3.size)
  replace r6 := r6.below hb4
  clear y0 y1 y2 y3 y2' VS
  obtain ⟨N, hN⟩ : ∃ N, N = x.nodes.length := ⟨_, rfl⟩
  have hNb : N ≤ 24 := by omega
  have hmk := fun W => run_make_row' (P := Tryz.prog) 26 2 (.int .i64 0) 8 Tryz.underlying26 infoI rfl .i64 .i64 N (by omega) (by omega) W
  obtain ⟨gp, hgp⟩ : ∃ g, g = W4.heap.size := ⟨_, rfl⟩
  obtain ⟨E5, hE5⟩ : ∃ E, E = W4.alloc (.cells (madeCells #[.int .i64 0] N) 2) := ⟨_, rfl⟩
  have o8 : OwnI W4.heap.size E5 (.slice (some ⟨gp, 0, none⟩) N N) (plK N (orderL x.nodes) 0) := by
    have := OwnI.made (B := W4.heap.size) W4 N (Nat.le_refl _) (by unfold maxLen; omega)
    rw [hE5, hgp]; exact this
  have hb5 : Below W4.heap.size W4 E5 := by rw [hE5]; exact (Below.refl _ _).alloc (Nat.le_refl _) _
  have hB4' := hB4
  have HE5 := Lib.hid hE5
  have HGP := Lib.hid hgp
  have HN := Lib.hid hN
  have OLN : Hid ((orderL x.nodes).length = N) := by unfold Hid; rw [hN]; exact HOL.out
  have ORR : Hid (∀ o ∈ orderL x.nodes, 0 ≤ o ∧ o < (N : Int)) := by rw [hN]; exact order_rng HOK.out
  have hgpb : E2.heap.size ≤ gp := by rw [hgp]; exact hB4.size
  clear hE5 hgp
  rw [← hN]
  clear hN
  generalize hord : orderL x.nodes = ord at o8 r6 OLN ORR
  have HORD := Lib.hid hord
  clear hord
  have HND : Hid (ord.Nodup) := by rw [← HORD.out]; exact orderL_nodup x.nodes
  go_upto_region 10 with fail
  rw [← HE5.out, ← HGP.out]
  clear hmk
  go_wp2_with fail
  go_loopw [9] (fun s9 wr => ∃ k : Nat, k ≤ N ∧ s9 = .int .i64 (k : Int) ∧ OwnI W4.heap.size wr (.slice (some ⟨gp, 0, none⟩) N N) (plK N ord k) ∧ Below W4.heap.size W4 wr) (fun i _ => N - (intOf i).toNat)
  case atStart => exact ⟨0, Nat.zero_le _, rfl, o8, hb5⟩
  case round =>
    obtain ⟨k, hk, rfl, hown, hbel⟩ := hrel
    clear o8 hb5
    obtain ⟨wi, rfl⟩ : ∃ W : World, W = wr := ⟨_, rfl⟩
    by_cases hlt : k < N
    · have hkO : k < ord.length := by have := OLN.out; omega
      obtain ⟨b6, o6', rfl, hb6, hc6'⟩ := r6.pos hkO
      have hc6 := fun i hi => (hbel.cell (p := ⟨b6, o6' + i, none⟩) hb6).trans (hc6' i hi)
      have y6 := hc6 k hkO
      have hrk := ORR.out _ (List.getElem_mem hkO)
      have hnew := plK_new HND.out ORR.out k k hkO (Nat.le_refl _)
      have hsucc : plK N ord (k + 1) = (plK N ord k).set (ord[k]).toNat ((k : Int) + 1) := by
        show (plK N ord k).set (ord.getD k 0).toNat ((k : Int) + 1) = _
        rw [List.getD_eq_getElem?_getD, List.getElem?_eq_getElem hkO]; rfl
      obtain ⟨o, ho⟩ := Int.eq_ofNat_of_zero_le hrk.1
      rw [ho] at y6 hnew hsucc hrk
      rw [Int.toNat_natCast] at hnew hsucc
      have hoN : o < N := by omega
      have hpl : o < (plK N ord k).length := by rw [plK_len]; exact hoN
      obtain ⟨-, hBg, hgl, hcell, hfro, hset⟩ := hown.storing hpl
      have hval : (plK N ord k)[o] = 0 := by
        rw [List.getD_eq_getElem?_getD, List.getElem?_eq_getElem hpl] at hnew; exact hnew
      rw [hval] at hcell
      have hne : b6 ≠ gp := by have := HGP.out; omega
      have hset' := hset ((k : Int) + 1)
      rw [← hsucc] at hset'
      have hn1' : ¬ ((o : Int) < 0) := by omega
      have hn2' : ¬ ((N : Int) ≤ (o : Int)) := by omega
      have HS := Lib.hid hset'
      clear hc6 hc6' hnew hsucc hval hset hset' hpl ho hrk hown
      have hbS := hbel.setCell (p := ⟨gp, o, none⟩) (by have := HGP.out; show W4.heap.size ≤ gp; omega) (.int .i64 ((k : Int) + 1))
      go_wp2_with fail
      go_roundw
      case rel => exact ⟨k + 1, by omega, by go_num, HS.out, hbS⟩
      case measure => simp [intOf] <;> omega
    · obtain rfl : N = k := by omega
      have hPLr := hown.rd_at2.2
      have hPLn := plK_len N ord N
      have HPL : Hid (∀ i, i < N → ∀ s ∈ waits (ndI x.nodes (i : Int)), (plK N ord N).getD s.toNat 0 < (plK N ord N).getD i 0) := fun i hi s hs => by
        have := place_lt HOK.out (i := i) (by have := HN.out; omega) hs
        rw [HORD.out, ← HN.out] at this
        exact this
      generalize plK N ord N = PL at hPLr hPLn HPL
      have HPN := Lib.hid hPLn
      clear hown hPLn r6
      have hBi := hB4'.trans (hbel.mono hB4'.size)
      clear hbel
      go_wp2_with fail
      go_loopw [10] (fun s10 wr => ∃ i : Nat, i ≤ N ∧ s10 = .int .i64 (i : Int) ∧ Below wi.heap.size wi wr) (fun i _ => N - (intOf i).toNat)
      case atStart => exact ⟨0, Nat.zero_le _, rfl, Below.refl _ _⟩
      case round =>
        obtain ⟨i, hi, rfl, hbel⟩ := hrel
        obtain ⟨wj, rfl⟩ : ∃ W : World, W = wr := ⟨_, rfl⟩
        have hEj := hBi.trans (hbel.mono hBi.size)
        have z2 := (b3.below hEj).cell 2 rfl
        by_cases hlt : i < N
        · have hiN : i < x.nodes.length := by have := HN.out; omega
          obtain ⟨bn, on, rfl, hbn, hcn⟩ := (rn.below hEj).pos hiN
          have hnd := hcn i hiN
          have HW : Hid (∀ s, x.nodes[i].kind ≠ 6 → s ∈ x.nodes[i].src → PL.getD s.toNat 0 < PL.getD i 0 ∧ 0 ≤ s ∧ s < (N : Int)) := fun s h6 hs => by
            have hw : s ∈ waits (ndI x.nodes (i : Int)) := by
              rw [ndI_at hiN]; unfold waits; rw [if_neg h6]; exact hs
            have hr := formedR_src (okR_len HOK.out).1 hiN s (by rw [ndI_at hiN]; exact hs)
            exact ⟨HPL.out i hlt s hw, hr.1, by have := HN.out; omega⟩
          generalize x.nodes[i] = nd at hnd HW
          obtain ⟨y0, y1, y2, qs, cs, y3, hrs⟩ := hnd
          have hsl := hrs.len
          unfold maxLen at hsl
          clear hcn
          go_wp2_with fail
          go_loopw [11] (fun s11 w3 => ∃ k : Nat, k ≤ nd.src.length ∧ s11 = .int .i64 (k : Int) ∧ Below wj.heap.size wj w3) (fun i _ => nd.src.length - (intOf i).toNat)
          case atStart => exact ⟨0, Nat.zero_le _, rfl, Below.refl _ _⟩
          case round =>
            obtain ⟨k, hk, rfl, hbk⟩ := hrel
            obtain ⟨wk, rfl⟩ : ∃ W : World, W = wr := ⟨_, rfl⟩
            have hEk := hEj.trans (hbk.mono hEj.size)
            have z2k := (b3.below hEk).cell 2 rfl
            have y0k := (hbk.cell (p := ⟨bn, on + i * 4, none⟩) hbn).trans y0
            have y3k := (hbk.cell (p := ⟨bn, on + i * 4 + 3, none⟩) hbn).trans y3
            have hrsk := hrs.below hbk
            have hPk := hPLr.below (hbel.trans (hbk.mono hbel.size))
            have HBE := Lib.hid (hbel.trans (hbk.mono hbel.size))
            clear z2
            by_cases hkl : k < nd.src.length
            · cases e6 : (nd.kind != 6)
              · go_wp2_with fail
                go_roundw
                case rel => exact ⟨i + 1, by omega, by go_num, HBE.out⟩
                case measure => simp [intOf] <;> omega
              · have h6 : nd.kind ≠ 6 := by simpa using e6
                obtain ⟨hpl, hs0, hs1⟩ := HW.out _ h6 (List.getElem_mem hkl)
                obtain ⟨bs, os, rfl, hbs, hcs⟩ := hrsk.pos hkl
                have ys := hcs k hkl
                obtain ⟨sN, hsN⟩ := Int.eq_ofNat_of_zero_le hs0
                rw [hsN] at ys hpl hs1
                rw [Int.toNat_natCast] at hpl
                have hsl' : sN < PL.length := by have := HPN.out; omega
                have hil : i < PL.length := by have := HPN.out; omega
                obtain ⟨bp, op, epp, hbp, hcp⟩ := hPk.pos hsl'
                obtain ⟨rfl, rfl⟩ : gp = bp ∧ 0 = op := by
                  have := Option.some.inj epp
                  exact ⟨congrArg Addr.block this, congrArg Addr.off this⟩
                have ps := hcp sN hsl'
                have pi := hcp i hil
                rw [Nat.zero_add] at ps pi
                rw [List.getD_eq_getElem?_getD, List.getD_eq_getElem?_getD, List.getElem?_eq_getElem hsl', List.getElem?_eq_getElem hil] at hpl
                have hpl' : PL[sN] < PL[i] := hpl
                generalize PL[sN] = vs at ps hpl'
                generalize PL[i] = vi at pi hpl'
                have hnle : ¬ (vi ≤ vs) := by omega
                have hsN2 : sN < N := by omega
                clear hcs hcp hpl hsN hs1 hs0 hsl' hil h6 epp
                go_wp2_with fail
                go_quiet (fail)
                go_wp2_with fail
                go_roundw
                case rel => exact ⟨k + 1, by omega, by go_num, below_drewN hbk _⟩
                case measure => simp [intOf] <;> omega
            · obtain rfl : k = nd.src.length := by omega
              go_wp2_with fail
              go_roundw
              case rel => exact ⟨i + 1, by omega, by go_num, HBE.out⟩
              case measure => simp [intOf] <;> omega
        · obtain rfl : N = i := by omega
          have hnN : ¬ (N < x.nodes.length) := by have := HN.out; omega
          clear HPL hPLr HPN z2
          have hTx : patchRes x = bs (patchStr x) := by unfold patchRes; rw [if_pos HOK.out]
          have hTs := patchStr_small HOK.out
          have hRd : patchRd (bs (patchStr x)) = x ∧ okRdP (bs (patchStr x)) = true := by
            have := (readPI_iff (bs (patchStr x)) x).2 ⟨HOK.out, rfl⟩
            unfold patchRd okRdP
            rw [this]; exact ⟨rfl, rfl⟩
          have PT := Lib.hid (implPatchText_v wj (hx.below hEj) (HT2.out.below hEj))
          rw [hTx] at PT
          have RP : Hid (∀ W, Below E2.heap.size E2 W → Calls Tryz.prog 9 #[.string (bs (patchStr x))] W fun e w' => ∃ u L, e = .returned (.tuple #[u, .bool true]) ∧ OwnPatch W.heap.size w' u x L ∧ Dis L ∧ Below W.heap.size W w') := fun W hW => by
            have := implReadPatch_v W hTs (HT2.out.below hW) (HEE2.out.below hW) (HC2.out.below hW)
            unfold RetPt at this
            rw [hRd.1, hRd.2] at this
            exact this
          clear hRd hTx
          generalize bs (patchStr x) = T at PT RP hTs
          have y0 := (b3.below (hEj)).cell 0 rfl
          have y1 := (b3.below (hEj)).cell 1 rfl
          have y2 := (b3.below (hEj)).cell 2 rfl
          have y3 := (b3.below (hEj)).cell 3 rfl
          go_upto_region 25 with (first | (go_at_call 10; refine PT.out.mono ?_; rintro e W6 ⟨rfl, hb6⟩; have hE6 := hEj.trans (hb6.mono hEj.size)) | (go_at_call 9; refine (RP.out W6 hE6).mono ?_; rintro e W7 ⟨u7, L7, rfl, o7, -, hb7⟩; have h7 := o7.rd; obtain ⟨r1, d1, r2, d2, r3, d3, rfl, -⟩ := id h7; have hE7 := hE6.trans (hb7.mono hE6.size)) | fail)
          clear y0 y1 y2 y3 PT RP o7
          obtain ⟨g12, hg12⟩ : ∃ g, g = W7.heap.size := ⟨_, rfl⟩
          obtain ⟨E8, hE8⟩ : ∃ E, E = W7.alloc (.cells #[.int .i64 x.inputs, .slice r1 x.tables.length d1, .slice r2 x.nodes.length d2, .slice r3 x.outputs.length d3] 28) := ⟨_, rfl⟩
          have hb8 : Below W7.heap.size W7 E8 := by rw [hE8]; exact (Below.refl _ _).alloc (Nat.le_refl _) _
          have b12 : Box E8 g12 [.int .i64 x.inputs, .slice r1 x.tables.length d1, .slice r2 x.nodes.length d2, .slice r3 x.outputs.length d3] 28 := by rw [hE8]; exact Box.newAt W7 [.int .i64 x.inputs, .slice r1 x.tables.length d1, .slice r2 x.nodes.length d2, .slice r3 x.outputs.length d3] _ hg12
          rw [← hE8, ← hg12]
          have hE8' := hE7.trans (hb8.mono hE7.size)
          replace h7 := h7.below hb8
          clear hE8 hg12 hb8 hE7 hE6 hb7 hb6
          have y0 := (b3.below (hE8')).cell 0 rfl
          have y1 := (b3.below (hE8')).cell 1 rfl
          have y2 := (b3.below (hE8')).cell 2 rfl
          have y3 := (b3.below (hE8')).cell 3 rfl
          have TP := Lib.hid (implTrimPatch_v E8 (hx.below hE8'))
          go_upto_region 26 with (first | (go_at_call 11; refine TP.out.mono ?_; rintro e W9 ⟨u9, L9, rfl, o9, -, hb9⟩; have h9 := o9.rd; obtain ⟨t1, f1, t2, f2, t3, f3, rfl, -⟩ := id h9; have hE9 := hE8'.trans (hb9.mono hE8'.size)) | fail)
          clear y0 y1 y2 y3 TP o9
          have hzz : trimRes x = trimP x := by unfold trimRes; rw [if_pos HOK.out]
          have hcz : okCode x = 0 := by unfold okCode; rw [if_pos HOK.out]
          rw [hzz] at h9 ⊢
          rw [hcz]
          have HCZ := Lib.hid hcz
          clear hzz hcz
          obtain ⟨z, hz⟩ : ∃ z, z = trimP x := ⟨_, rfl⟩
          rw [← hz] at h9 ⊢
          have HZ := Lib.hid hz
          clear hz
          obtain ⟨g14, hg14⟩ : ∃ g, g = W9.heap.size := ⟨_, rfl⟩
          obtain ⟨E10, hE10⟩ : ∃ E, E = W9.alloc (.cells #[.int .i64 z.inputs, .slice t1 z.tables.length f1, .slice t2 z.nodes.length f2, .slice t3 z.outputs.length f3] 28) := ⟨_, rfl⟩
          have hb10 : Below W9.heap.size W9 E10 := by rw [hE10]; exact (Below.refl _ _).alloc (Nat.le_refl _) _
          have b14 : Box E10 g14 [.int .i64 z.inputs, .slice t1 z.tables.length f1, .slice t2 z.nodes.length f2, .slice t3 z.outputs.length f3] 28 := by rw [hE10]; exact Box.newAt W9 [.int .i64 z.inputs, .slice t1 z.tables.length f1, .slice t2 z.nodes.length f2, .slice t3 z.outputs.length f3] _ hg14
          rw [← hE10, ← hg14]
          have hE10' := hE9.trans (hb10.mono hE9.size)
          have hb8X := hb9.trans (hb10.mono hb9.size)
          replace h9 := h9.below hb10
          replace h7 := h7.below hb8X
          replace b12 := b12.below hb8X
          clear hE10 hg14 hb10 hE9 hb9 hb8X
          have y0 := (b3.below (hE10')).cell 0 rfl
          have y1 := (b3.below (hE10')).cell 1 rfl
          have y2 := (b3.below (hE10')).cell 2 rfl
          have y3 := (b3.below (hE10')).cell 3 rfl
          have NN := Lib.hid (implNeededNodes_v E10 (hx.below hE10'))
          go_upto_region 27 with (first | (go_at_call 12; refine NN.out.mono ?_; rintro e W11 ⟨u11, L11, rfl, o11, -, hb11⟩; obtain ⟨q11, c11, rfl, -⟩ := o11.1.rd; have hE11 := hE10'.trans (hb11.mono hE10'.size)) | fail)
          clear y0 y1 y2 y3 NN o11
          have hlz : (needRes x).length = z.nodes.length := by
            unfold needRes
            rw [if_pos HOK.out, HZ.out, trim_len]
          rw [hlz, HCZ.out]
          clear hlz
          have SP := Lib.hid (specSamePatch_v W11 (h7.below hb11) (hx.below hE11))
          rw [pEq_refl] at SP
          have y0 := (b3.below (hE11)).cell 0 rfl
          have y1 := (b3.below (hE11)).cell 1 rfl
          have y2 := (b3.below (hE11)).cell 2 rfl
          have y3 := (b3.below (hE11)).cell 3 rfl
          have s0 := (b12.below hb11).cell 0 rfl
          have s1 := (b12.below hb11).cell 1 rfl
          have s2 := (b12.below hb11).cell 2 rfl
          have s3 := (b12.below hb11).cell 3 rfl
          go_upto_region 29 with (first | (go_at_call 13; refine SP.out.mono ?_; rintro e W12 ⟨rfl, hb12⟩; have hb12' := hb11.trans (hb12.mono hb11.size); have hE12 := hE11.trans (hb12.mono hE11.size); have k2 := (b14.below hb12').cell 2 rfl) | fail)
          clear y0 y1 y2 y3 s0 s1 s2 s3 k2 SP
          have y0 := (b3.below (hE12)).cell 0 rfl
          have y1 := (b3.below (hE12)).cell 1 rfl
          have y2 := (b3.below (hE12)).cell 2 rfl
          have y3 := (b3.below (hE12)).cell 3 rfl
          have RX := Lib.hid (specRender_any (ci := ci) n W12 (hx.below hE12) (hin.below hE12))
          go_upto_region 30 with (first | (go_at_call 14; refine RX.out.mono ?_; rintro e W13 ⟨u13, L13, rfl, o13, hb13⟩; obtain ⟨q13, c13, rfl, r13⟩ := o13.rd) | fail)
          clear y0 y1 y2 y3 RX o13
          have hE13 := hE12.trans (hb13.mono hE12.size)
          have hb13' := hb12'.trans (hb13.mono hb12'.size)
          have y0 := (b14.below (hb13')).cell 0 rfl
          have y1 := (b14.below (hb13')).cell 1 rfl
          have y2 := (b14.below (hb13')).cell 2 rfl
          have y3 := (b14.below (hb13')).cell 3 rfl
          have RZ := Lib.hid (specRender_any (ci := ci) n W13 (h9.below hb13') (hin.below hE13))
          rw [HZ.out, renRes_trim HOK.out, renCode_trim HOK.out, ← HZ.out] at RZ
          have HSM := Lib.hid (renRes_small (x := x) (ins := ins) (n := n) HOK.out)
          generalize renRes x ins n = RR at r13 RZ HSM
          generalize renCode x ins n = CC at RZ
          go_upto_region 31 with (first | (go_at_call 14; refine RZ.out.mono ?_; rintro e W14 ⟨u14, L14, rfl, o14, hb14⟩; obtain ⟨q14, c14, rfl, r14⟩ := o14.rd) | fail)
          clear y0 y1 y2 y3 RZ o14
          have hE14 := hE13.trans (hb14.mono hE13.size)
          have BL := Lib.hid (b10Lists_true (c := c13) (d := c14) W14 (r13.below hb14) r14 HSM.out.1 HSM.out.2)
          go_wp2_with (first | (go_at_call 15; refine BL.out.mono ?_; rintro e w' ⟨rfl, hb15⟩) | fail)
          go_ret
          exact ⟨rfl, hB.trans ((hE14.trans (hb15.mono hE14.size)).mono hB.size)⟩
end Go.Proofs.YtaapkpjokmoekaaGreatDoor
