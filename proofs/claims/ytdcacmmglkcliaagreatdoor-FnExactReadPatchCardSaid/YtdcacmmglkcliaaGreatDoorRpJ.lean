/-
  impl.ReadPatch, and the size of a patch that was read.
-/
import Derived.Test.YtdcacmmglkcliaaGreatDoorRpI
namespace Go.Proofs.YtdcacmmglkcliaaGreatDoor
open Go.ChangeShapes Go.WideShapes Go.ChangeAt Go.RowKit Go.Sort
set_option linter.unusedVariables false
set_option linter.unusedSimpArgs false

theorem okB_smallR {x : PatchD} (h : okB x = true) : Small x := by
  obtain ⟨q1, q2, q3, q4, q5, q6, q7⟩ := okB_parts h
  exact ⟨by omega, fun t ht => by have := (q3 t ht).2; omega, by omega, fun n hn => by have := (nodeB_bounds (q5 n hn)).2.2.2; omega, by omega⟩
theorem lens_rowsR : ∀ (ts : List (List Int)) (m : Nat), (∀ t ∈ ts, t.length ≤ m) → lens ts ≤ m * ts.length
  | [], m, _ => by simp [lens]
  | t :: ts, m, h => by
    have h1 := h t (List.mem_cons_self ..)
    have h2 := lens_rowsR ts m fun u hu => h u (List.mem_cons_of_mem _ hu)
    rw [lens_cons, List.length_cons, Nat.mul_add]
    omega
theorem cntPatch_smallR {x : PatchD} (sm : Small x) : cntPatch x ≤ 6291456 := by
  have h1 := lens_rowsR x.tables 1000 sm.rows
  have h2 := lens_rowsR (x.nodes.map NodeD.src) 1000 fun t ht => by
    obtain ⟨n, hn, rfl⟩ := List.mem_map.1 ht
    exact sm.srcs n hn
  have h3 := sm.tables
  have h4 := sm.nodes
  have h5 := sm.outs
  rw [List.length_map] at h2
  unfold cntPatch cntII cntNodeS cntI
  omega
theorem patchRd_small (s : ByteArray) : cntPatch (patchRd s) ≤ 6291456 := by
  unfold patchRd
  cases h : readPI s with
  | none => simp [zP, cntPatch, cntII, cntNodeS, cntI, lens]
  | some x => exact cntPatch_smallR (okB_smallR ((readPI_iff s x).1 h).1)
theorem bne_str {a b : ByteArray} (h : a ≠ b) : (a.toList != b.toList) = true := by
  rw [bne, str_beq_false h]; rfl
set_option maxHeartbeats 8000000 in
set_option maxRecDepth 100000 in
theorem implReadPatch_v {s : ByteArray} (w : World) (hs : s.size ≤ 1048576) (hT : TxtT w) (hE : TxtE w) (hC : TxtC w) :
    Calls Tryz.prog 18 #[.string s] w (RetPt w s) := by
  obtain ⟨r, hr⟩ : ∃ r, r = w.heap.size := ⟨_, rfl⟩
  obtain ⟨E0, hE0⟩ : ∃ E, E = w.alloc (.cells #[.int .i64 0, .slice none 0 0, .slice none 0 0, .slice none 0 0] 46) := ⟨_, rfl⟩
  have hB0 : Below w.heap.size w E0 := by rw [hE0]; exact (Below.refl _ _).alloc (Nat.le_refl _) _
  have q0 : Box E0 r zPatch 46 := by rw [hE0, hr]; exact Box.newAt w zPatch _ rfl
  have RP := Lib.hid (readPatch_v E0 hs (hT.below hB0) (hE.below hB0) (hC.below hB0))
  have HNone : Hid (∀ W', readPI s = none → Below w.heap.size w W' → RetPt w s (.returned (.tuple #[.agg #[.int .i64 0, .slice none 0 0, .slice none 0 0, .slice none 0 0], .bool false])) W') := fun W' h hb => retPt_none h hb
  have HSome : Hid (∀ W' (x : PatchD) v1 v2 v3 L1 L, readPI s = some x → OwnP w.heap.size W' v1 v2 v3 x.tables x.nodes x.outputs L1 L → Below w.heap.size w W' → RetPt w s (.returned (.tuple #[.agg #[.int .i64 x.inputs, v1, v2, v3], .bool true])) W') := fun W' x v1 v2 v3 L1 L h ho hb => retPt_some h ho hb
  have HSQ : Hid (readPI s = checkP s (foldP stepI (linesB (trimN s)) zP)) := rfl
  have HT := Lib.hid (hT.below hB0)
  have HE0 := Lib.hid hE0
  have HRR := Lib.hid hr
  have HB0 := Lib.hid hB0
  have HQ0 := Lib.hid q0
  have hE02 : w.heap.size ≤ E0.heap.size := hB0.size
  generalize RetPt w s = RR at *
  clear hE0 hr hT hE hC hB0 q0
  cases hf : foldP stepI (linesB (trimN s)) zP with
  | none =>
    have HF0 : Hid (readPI s = none) := by unfold Hid; rw [HSQ.out, hf]; rfl
    have RP0 : Hid (Calls Tryz.prog 51 #[.string s] E0 fun e w' => e = .returned (.tuple #[.agg #[.int .i64 0, .slice none 0 0, .slice none 0 0, .slice none 0 0], .bool false]) ∧ Below E0.heap.size E0 w') := RP.out.mono fun e w' h => by
      obtain ⟨hb, h⟩ := h
      rw [hf] at h
      exact ⟨h, hb⟩
    clear hf RP HSQ
    go_enter Tryz.func18, Tryz.ntmps18
    go_upto_region 1 with fail
    rw [← HE0.out, ← HRR.out]
    go_upto_region 3 with (first | (go_at_call 51; refine RP0.out.mono ?_; rintro e w1 ⟨rfl, hb1⟩) | fail)
    have hwF : Below w1.heap.size w1 (w1.alloc (.cells #[.int .i64 0, .slice none 0 0, .slice none 0 0, .slice none 0 0] 46)) := (Below.refl _ _).alloc (Nat.le_refl _) _
    obtain ⟨F, hF⟩ : ∃ F, F = w1.alloc (.cells #[.int .i64 0, .slice none 0 0, .slice none 0 0, .slice none 0 0] 46) := ⟨_, rfl⟩
    rw [← hF] at hwF
    have bn : Box F w1.heap.size zPatch 46 := by rw [hF]; exact Box.newAt _ _ _ rfl
    have hpbF : PB E0.heap.size E0 F w1.heap.size 0 (.slice none 0 0) (.slice none 0 0) (.slice none 0 0) [] [] [] [] [] := ⟨OwnP.nil F (OwnI.nil _ _), bn, hb1.trans (hwF.mono hb1.size), Nat.le_refl _, hb1.size⟩
    rw [← hF]
    clear hF hwF bn hb1
    have hnone : readPI s = none := HF0.out
    have R1 := hpbF
    have hbx := HB0.out.trans (R1.bel.mono HB0.out.size)
    have bx2 := HQ0.out.below R1.bel
    have u0 := bx2.cell 0 rfl
    have u1 := bx2.cell 1 rfl
    have u2 := bx2.cell 2 rfl
    have u3 := bx2.cell 3 rfl
    have v0 := bx2.frozen 0
    have v1 := bx2.frozen 1
    have v2 := bx2.frozen 2
    have v3 := bx2.frozen 3
    obtain ⟨W', hW, bx, be⟩ := R1.exitZ bx2 hbx (by rw [HRR.out]; exact Nat.le_refl _)
    have k0' := bx.cell 0 rfl
    have k1' := bx.cell 1 rfl
    have k2' := bx.cell 2 rfl
    have k3' := bx.cell 3 rfl
    have FIN := Lib.hid (HNone.out W' hnone be)
    have HWW := Lib.hid hW
    clear hW bx be bx2 hbx R1 hnone
    go_wp2_with fail
    rw [← HWW.out]
    refine bodyPost_ret (v := .tuple #[.agg #[.int .i64 0, .slice none 0 0, .slice none 0 0, .slice none 0 0], .bool false]) (by simp [results, Tryz.results18, go_sem, *]) rfl ?_
    exact FIN.out
  | some p =>
    have HCK : Hid (readPI s = if okB p = true ∧ bs (patchStr p) = s then some p else none) := by unfold Hid; rw [HSQ.out, hf]; rfl
    have RP1 : Hid (Calls Tryz.prog 51 #[.string s] E0 fun e w' => ∃ p1 c1 p2 c2 p3 c3 L1 L, e = .returned (.tuple #[.agg #[.int .i64 p.inputs, .slice p1 p.tables.length c1, .slice p2 p.nodes.length c2, .slice p3 p.outputs.length c3], .bool true]) ∧ OwnP E0.heap.size w' (.slice p1 p.tables.length c1) (.slice p2 p.nodes.length c2) (.slice p3 p.outputs.length c3) p.tables p.nodes p.outputs L1 L ∧ Below E0.heap.size E0 w') := RP.out.mono fun e w' h => by
      obtain ⟨hb, h⟩ := h
      rw [hf] at h
      obtain ⟨v1, v2, v3, L1, L, he, ho⟩ := h
      obtain ⟨p1, c1, p2, c2, p3, c3, ep, -, -, -⟩ := (ho.patch p.inputs).1.rd
      simp only [Value.agg.injEq, Array.mk.injEq, List.cons.injEq, and_true, true_and] at ep
      obtain ⟨rfl, rfl, rfl⟩ := ep
      exact ⟨p1, c1, p2, c2, p3, c3, L1, L, he, ho, hb⟩
    clear hf RP HSQ
    go_enter Tryz.func18, Tryz.ntmps18
    go_upto_region 1 with fail
    rw [← HE0.out, ← HRR.out]
    go_upto_region 2 with (first | (go_at_call 51; refine RP1.out.mono ?_; rintro e w1 ⟨p1, c1, p2, c2, p3, c3, L1, L, rfl, ho, hb1⟩) | fail)
    obtain ⟨F, hF⟩ : ∃ F, F = w1.alloc (.cells #[.int .i64 p.inputs, .slice p1 p.tables.length c1, .slice p2 p.nodes.length c2, .slice p3 p.outputs.length c3] 46) := ⟨_, rfl⟩
    have hwF : Below w1.heap.size w1 F := by rw [hF]; exact (Below.refl _ _).alloc (Nat.le_refl _) _
    have bn : Box F w1.heap.size [.int .i64 p.inputs, .slice p1 p.tables.length c1, .slice p2 p.nodes.length c2, .slice p3 p.outputs.length c3] 46 := by rw [hF]; exact Box.newAt _ _ _ rfl
    have hpb : PB E0.heap.size E0 F w1.heap.size p.inputs (.slice p1 p.tables.length c1) (.slice p2 p.nodes.length c2) (.slice p3 p.outputs.length c3) p.tables p.nodes p.outputs L1 L := ⟨ho.below hwF, bn, hb1.trans (hwF.mono hb1.size), Nat.le_refl _, hb1.size⟩
    obtain ⟨g, hg⟩ : ∃ g, g = w1.heap.size := ⟨_, rfl⟩
    rw [← hF]
    rw [← hg] at hpb ⊢
    have hvp : VPatch F (.agg #[.int .i64 p.inputs, .slice p1 p.tables.length c1, .slice p2 p.nodes.length c2, .slice p3 p.outputs.length c3]) p := (hpb.own.patch p.inputs).1.rd
    have OKP := Lib.hid (isPatch_v F hvp)
    have LTX : Hid (okB p = true → ∀ W, Below F.heap.size F W → Calls Tryz.prog 53 #[.agg #[.int .i64 p.inputs, .slice p1 p.tables.length c1, .slice p2 p.nodes.length c2, .slice p3 p.outputs.length c3]] W fun e w' => e = .returned (.string (bs (patchStr p))) ∧ Below W.heap.size W w') := fun hk W hW => patchText_v W (hvp.below hW) hk ((HT.out.below hpb.bel).below hW)
    have y0 := hpb.out.cell 0 rfl
    have y1 := hpb.out.cell 1 rfl
    have y2 := hpb.out.cell 2 rfl
    have y3 := hpb.out.cell 3 rfl
    have HPB := Lib.hid hpb
    clear hF hg hvp hwF bn hb1 ho hpb RP1
    cases hok : okB p
    · rw [hok] at OKP
      have HF0 : Hid (readPI s = none) := by unfold Hid; rw [HCK.out, if_neg (by rw [hok]; simp)]
      clear hok LTX HCK
      go_upto_region 3 with (first | (go_at_call 52; refine OKP.out.mono ?_; rintro e w2 ⟨rfl, hb2⟩) | fail)
      have hpbF := HPB.out.below hb2
      have hnone : readPI s = none := HF0.out
      have R1 := hpbF
      have hbx := HB0.out.trans (R1.bel.mono HB0.out.size)
      have bx2 := HQ0.out.below R1.bel
      have u0 := bx2.cell 0 rfl
      have u1 := bx2.cell 1 rfl
      have u2 := bx2.cell 2 rfl
      have u3 := bx2.cell 3 rfl
      have v0 := bx2.frozen 0
      have v1 := bx2.frozen 1
      have v2 := bx2.frozen 2
      have v3 := bx2.frozen 3
      obtain ⟨W', hW, bx, be⟩ := R1.exitZ bx2 hbx (by rw [HRR.out]; exact Nat.le_refl _)
      have k0' := bx.cell 0 rfl
      have k1' := bx.cell 1 rfl
      have k2' := bx.cell 2 rfl
      have k3' := bx.cell 3 rfl
      have FIN := Lib.hid (HNone.out W' hnone be)
      have HWW := Lib.hid hW
      clear hW bx be bx2 hbx R1 hnone
      go_wp2_with fail
      rw [← HWW.out]
      refine bodyPost_ret (v := .tuple #[.agg #[.int .i64 0, .slice none 0 0, .slice none 0 0, .slice none 0 0], .bool false]) (by simp [results, Tryz.results18, go_sem, *]) rfl ?_
      exact FIN.out
    · rw [hok] at OKP
      have LT2 := Lib.hid (LTX.out hok)
      clear LTX
      by_cases hq : bs (patchStr p) = s
      · have hsome : readPI s = some p := by rw [HCK.out, if_pos ⟨hok, hq⟩]
        rw [hq] at LT2
        have HSM := Lib.hid hsome
        clear hok hq hsome HCK
        go_upto_region 4 with (first | (go_at_call 52; refine OKP.out.mono ?_; rintro e w2 ⟨rfl, hb2⟩; have hz := HPB.out.out.below hb2; have z0 := hz.cell 0 rfl; have z1 := hz.cell 1 rfl; have z2 := hz.cell 2 rfl; have z3 := hz.cell 3 rfl; clear hz) | (go_at_call 53; refine (LT2.out _ hb2).mono ?_; rintro e w3 ⟨rfl, hb3⟩) | fail)
        have R1 := (HPB.out.below hb2).below hb3
        have hbx := HB0.out.trans (R1.bel.mono HB0.out.size)
        have bx2 := HQ0.out.below R1.bel
        have u0 := bx2.cell 0 rfl
        have u1 := bx2.cell 1 rfl
        have u2 := bx2.cell 2 rfl
        have u3 := bx2.cell 3 rfl
        have f0 := bx2.frozen 0
        have f1 := bx2.frozen 1
        have f2 := bx2.frozen 2
        have f3 := bx2.frozen 3
        have x0 := R1.out.cell 0 rfl
        have x1 := R1.out.cell 1 rfl
        have x2 := R1.out.cell 2 rfl
        have x3 := R1.out.cell 3 rfl
        obtain ⟨W', hW, bx, be, ou⟩ := R1.exitP bx2 hbx (by rw [HRR.out]; exact Nat.le_refl _) hE02
        have k0' := bx.cell 0 rfl
        have k1' := bx.cell 1 rfl
        have k2' := bx.cell 2 rfl
        have k3' := bx.cell 3 rfl
        have FIN := Lib.hid (HSome.out W' p _ _ _ _ _ HSM.out ou be)
        have HWW := Lib.hid hW
        clear hW bx be ou bx2 hbx R1
        go_wp2_with fail
        rw [← HWW.out]
        refine bodyPost_ret (v := .tuple #[.agg #[.int .i64 p.inputs, .slice p1 p.tables.length c1, .slice p2 p.nodes.length c2, .slice p3 p.outputs.length c3], .bool true]) (by simp [results, Tryz.results18, go_sem, *]) rfl ?_
        exact FIN.out
      · have HF0 : Hid (readPI s = none) := by unfold Hid; rw [HCK.out, if_neg (fun h => hq h.2)]
        have hqb := str_beq_false hq
        have hqn := bne_str hq
        generalize bs (patchStr p) = ST at hqb hqn LT2
        clear hok hq HCK
        go_upto_region 3 with (first | (go_at_call 52; refine OKP.out.mono ?_; rintro e w2 ⟨rfl, hb2⟩; have hz := HPB.out.out.below hb2; have z0 := hz.cell 0 rfl; have z1 := hz.cell 1 rfl; have z2 := hz.cell 2 rfl; have z3 := hz.cell 3 rfl; clear hz) | (go_at_call 53; refine (LT2.out _ hb2).mono ?_; rintro e w3 ⟨rfl, hb3⟩) | fail)
        have hpbF := (HPB.out.below hb2).below hb3
        have hnone : readPI s = none := HF0.out
        have R1 := hpbF
        have hbx := HB0.out.trans (R1.bel.mono HB0.out.size)
        have bx2 := HQ0.out.below R1.bel
        have u0 := bx2.cell 0 rfl
        have u1 := bx2.cell 1 rfl
        have u2 := bx2.cell 2 rfl
        have u3 := bx2.cell 3 rfl
        have v0 := bx2.frozen 0
        have v1 := bx2.frozen 1
        have v2 := bx2.frozen 2
        have v3 := bx2.frozen 3
        obtain ⟨W', hW, bx, be⟩ := R1.exitZ bx2 hbx (by rw [HRR.out]; exact Nat.le_refl _)
        have k0' := bx.cell 0 rfl
        have k1' := bx.cell 1 rfl
        have k2' := bx.cell 2 rfl
        have k3' := bx.cell 3 rfl
        have FIN := Lib.hid (HNone.out W' hnone be)
        have HWW := Lib.hid hW
        clear hW bx be bx2 hbx R1 hnone
        go_wp2_with fail
        rw [← HWW.out]
        refine bodyPost_ret (v := .tuple #[.agg #[.int .i64 0, .slice none 0 0, .slice none 0 0, .slice none 0 0], .bool false]) (by simp [results, Tryz.results18, go_sem, *]) rfl ?_
        exact FIN.out
end Go.Proofs.YtdcacmmglkcliaaGreatDoor
