/-
  The nodes that outputs need: contracts of the functions of both sides.
-/
import Derived.Test.YtonkdndpfnapjaaGreatPatU
import Derived.Test.YtonkdndpfnapjaaGreatQueue
import Derived.Test.YtonkdndpfnapjaaGreatPut
namespace Go.Proofs.YtonkdndpfnapjaaGreat
open Go.ChangeShapes Go.WideShapes Go.ChangeAt Go.RowKit
set_option linter.unusedVariables false

theorem mbool (m : List Bool) {f : Nat} (h : f < m.length) (h' : f < (m.map Value.bool).length) : (m.map Value.bool)[f] = .bool (m.getD f false) := by
  rw [List.getElem_map, List.getD_eq_getElem?_getD, List.getElem?_eq_getElem h]; rfl
theorem OwnV.apart {B B' : Nat} {w : World} {E E' : TypeId} {v v' : Value} {L L' : List Value} (h : OwnV B w E v L) (h' : OwnV B' w E' v' L') (hE : E ≠ E') {k : Nat} (hk : v.ownBlock = some k) : v'.ownBlock ≠ some k := by
  intro hk'
  rcases h.cases with ⟨rfl, -⟩ | ⟨g, cap, rfl, -, -, ⟨cur, hg⟩, -⟩
  · simp [Value.ownBlock] at hk
  rcases h'.cases with ⟨rfl, -⟩ | ⟨g', cap', rfl, -, -, ⟨cur', hg'⟩, -⟩
  · simp [Value.ownBlock] at hk'
  simp only [Value.ownBlock, Option.some.injEq] at hk hk'
  subst hk hk'
  rw [hg] at hg'
  simp only [Option.some.injEq, Obj.cells.injEq] at hg'
  exact hE hg'.2.1
theorem OwnI.asV {B : Nat} {w : World} {v : Value} {xs : List Int} (h : OwnI B w v xs) : OwnV B w 2 v (xs.map (Value.int .i64)) := by
  unfold OwnV; rw [List.length_map]; exact h
set_option maxHeartbeats 3200000 in
set_option maxRecDepth 100000 in
theorem neededMarks_v {v : Value} {x : PatchD} (w : World) (h : VPatch w v x) (ok : SrcOk x.nodes) (ho : ∀ i ∈ x.outputs, 0 ≤ i ∧ i < (x.nodes.length : Int)) (hn24 : x.nodes.length ≤ 24) (ho4 : x.outputs.length ≤ 4) :
    Calls Tryz.prog 74 #[v] w fun e w' => ∃ u, e = .returned u ∧ OwnV w.heap.size w' 4 u ((marksL x.nodes x.outputs).map Value.bool) ∧ Below w.heap.size w w' := by
  obtain ⟨p1, c1, p2, c2, p3, c3, rfl, r1, r2, r3⟩ := h
  clear r1
  obtain ⟨s, hs⟩ : ∃ s, s = w.heap.size := ⟨_, rfl⟩
  obtain ⟨E0, hE0⟩ : ∃ E, E = w.alloc (.cells #[.int .i64 x.inputs, .slice p1 x.tables.length c1, .slice p2 x.nodes.length c2, .slice p3 x.outputs.length c3] 32) := ⟨_, rfl⟩
  have hB0 : Below s w E0 := by rw [hE0, hs]; exact (Below.refl _ _).alloc (Nat.le_refl _) _
  have bx : Box E0 s [.int .i64 x.inputs, .slice p1 x.tables.length c1, .slice p2 x.nodes.length c2, .slice p3 x.outputs.length c3] 32 := by rw [hE0, hs]; exact Box.newAt w _ _ rfl
  have hsz0 : E0.heap.size = s + 1 := by rw [hE0, hs]; simp
  have HE := Lib.hid hE0
  have HS0 := Lib.hid hs
  clear hE0 hs
  have hmk := fun W => run_make_row' (P := Tryz.prog) 95 4 (.bool false) 1 Tryz.underlying95 infoB rfl .i64 .i64 x.nodes.length (by omega) (by omega) W
  have ht0 := OwnV.made (B := s + 1) E0 4 (.bool false) x.nodes.length (by omega) (by unfold maxLen; omega)
  obtain ⟨E1, hE1⟩ : ∃ E, E = E0.alloc (.cells (madeCells #[.bool false] x.nodes.length) 4) := ⟨_, rfl⟩
  rw [← hE1, hsz0] at ht0
  have hsz1 : E1.heap.size = s + 1 + 1 := by rw [hE1]; simp [hsz0]
  have hB1 : Below s w E1 := by rw [hE1]; exact hB0.alloc (by omega) _
  have hB01 : Below E0.heap.size E0 E1 := by rw [hE1]; exact (Below.refl _ _).alloc (Nat.le_refl _) _
  have bx1 := bx.below hB01
  have HE1 := Lib.hid hE1.symm
  clear hE1 hB01 hB0
  rw [← List.map_replicate (f := Value.bool)] at ht0
  have hMM : Hid (qrun x.nodes (4 * x.nodes.length + x.outputs.length) (List.replicate x.nodes.length false) x.outputs = marksL x.nodes x.outputs) := rfl
  generalize marksL x.nodes x.outputs = M at hMM ⊢
  have HC : Hid (Calls Tryz.prog 106 #[.slice p3 x.outputs.length c3] E1 fun e w' => ∃ v, e = .returned v ∧ OwnI E1.heap.size w' v x.outputs ∧ Below E1.heap.size E1 w') := clone_any E1 (r3.below (by rw [← HS0.out]; exact hB1)) (by omega)
  have z2 := bx.cell 2 rfl
  have z3 := bx1.cell 3 rfl
  have OK := Lib.hid ok
  have HO := Lib.hid ho
  clear ok ho r3
  go_enter Tryz.func74, Tryz.ntmps74
  go_upto_region 1 with fail
  rw [← HE.out, ← HS0.out]
  go_upto_region 2 with fail
  rw [HE1.out]
  clear z2
  go_wp2_with fail
  refine HC.out.mono ?_
  rintro e E2 ⟨v, rfl, hown, hb2⟩
  have hB2 := hB1.trans (hb2.mono (by omega))
  have bx2 := bx1.below hb2
  have ht2 := ht0.below hb2
  have hq2 := (OwnQ.of hown).below (Below.refl _ _)
  rw [hsz1] at hq2
  clear z3 HC ht0 hown bx bx1 hmk HE HE1
  go_wp2_with fail
  go_loopg [4, 5] (4 * x.nodes.length + x.outputs.length) (fun f tv iv wr => ∃ (m : List Bool) (t : List Int), f ≤ 100 ∧ Hid (qrun x.nodes f m t = M) ∧ Hid (4 * unm m + t.length ≤ f) ∧ t.length ≤ f ∧ Hid (m.length = x.nodes.length) ∧ Hid (∀ i ∈ t, 0 ≤ i ∧ i < (x.nodes.length : Int)) ∧
      OwnQ (s + 1 + 1) wr tv t ∧ OwnV (s + 1) wr 4 (.slice (some ⟨s + 1, 0, none⟩) x.nodes.length x.nodes.length) (m.map Value.bool) ∧ Below s w wr ∧ Box wr s [.int .i64 x.inputs, .slice p1 x.tables.length c1, .slice p2 x.nodes.length c2, .slice p3 x.outputs.length c3] 32)
  case atStart => exact ⟨_, x.outputs, by omega, hMM, by unfold Hid; rw [unm_false]; omega, by omega, by unfold Hid; simp, HO, hq2, ht2, hB2, bx2⟩
  case round =>
    obtain ⟨m, t, hf, HQ, HU, htl, HL, HT, hq, hm, hbel, hbx⟩ := hrel
    clear hq2 ht2 hB2 bx2 hMM HO
    obtain ⟨wi, rfl⟩ : ∃ wi : World, wi = wr := ⟨_, rfl⟩
    cases t with
    | nil =>
      obtain ⟨qp, qc, rfl, -, -, -⟩ := hq
      have HM : Hid (m = M) := by have := HQ.out; cases gk <;> exact this
      go_wp2_with fail
      go_ret
      exact ⟨_, rfl, by rw [← HM.out, ← HS0.out]; exact hm.mono (by omega), by rw [← HS0.out]; exact hbel⟩
    | cons i t =>
      obtain ⟨g, o, c, rfl, hc1, hc2, hBg, hgl, hci, hqt⟩ := hq.cons
      obtain ⟨hi0, hi1⟩ := HT.out i (List.mem_cons_self ..)
      obtain ⟨k, rfl⟩ : ∃ k : Nat, i = k := ⟨i.toNat, by omega⟩
      have hkn : k < x.nodes.length := by omega
      simp only [List.length_cons] at htl
      obtain ⟨f, rfl⟩ : ∃ f, gk = f + 1 := ⟨gk - 1, by omega⟩
      have hkm : k < m.length := by rw [HL.out]; exact hkn
      have hkv : k < (m.map Value.bool).length := by rw [List.length_map]; exact hkm
      obtain ⟨-, -, hsl, hck, hfk, hset⟩ := hm.storing (k := k) hkv
      rw [mbool m hkm hkv] at hck
      have hbel' : Below w.heap.size w wi := by rw [← HS0.out]; exact hbel
      have HCH : Hid (∃ p' c', OwnQ (s + 1 + 1) wi (.slice p' t.length c') t ∧ ((c = 0 ∧ p' = some ⟨g, o, none⟩ ∧ c' = 0) ∨ ∃ c2, c = c2 + 1 ∧ p' = some ⟨g, o + 1, none⟩ ∧ c' = c2 + 1)) := by
        rcases Nat.eq_zero_or_pos c with rfl | hcp
        · exact ⟨_, _, hqt, .inl ⟨rfl, by simp, rfl⟩⟩
        · exact ⟨_, _, hqt, .inr ⟨c - 1, by omega, by rw [if_neg (by omega)], by omega⟩⟩
      have HG1 := Lib.hid hBg
      clear hqt hc1
      cases hb : m.getD k false
      case true =>
        rw [hb] at hck
        have HN : Hid (qrun x.nodes f m t = M) := by have := HQ.out; rw [qrun, Int.toNat_natCast, if_pos hb] at this; exact this
        have HU' : Hid (4 * unm m + t.length ≤ f) := by have := HU.out; unfold Hid; simp only [List.length_cons] at this; omega
        have HT' : Hid (∀ i ∈ t, 0 ≤ i ∧ i < (x.nodes.length : Int)) := fun i hi => HT.out i (List.mem_cons_of_mem _ hi)
        clear hb HQ HU HT hset hkv hkm
        obtain ⟨p', c', hqt, ⟨rfl, rfl, rfl⟩ | ⟨c2, rfl, rfl, rfl⟩⟩ := HCH.out
        all_goals
          clear HCH
          have HQT := Lib.hid hqt
          clear hqt
          go_wp2_with fail
          go_roundg f
          case measure => omega
          case rel => exact ⟨m, t, by omega, HN, HU', by omega, HL, HT', HQT.out, hm, hbel, hbx⟩
      case false =>
        rw [hb] at hck
        have HN : Hid (qrun x.nodes f (m.set k true) (t ++ srcs x.nodes k) = M) := by have := HQ.out; rw [qrun, Int.toNat_natCast, if_neg (by rw [hb]; simp)] at this; exact this
        have hs3 := srcs_len OK.out (k : Int)
        have HU' : Hid (4 * unm (m.set k true) + (t ++ srcs x.nodes k).length ≤ f) := by
          have h1 := HU.out
          have h2 := unm_set m k hkm hb
          unfold Hid
          simp only [List.length_cons] at h1
          rw [List.length_append]
          omega
        have htl' : t.length + (srcs x.nodes k).length ≤ f := by have := HU'.out; rw [List.length_append] at this; omega
        have HT' : Hid (∀ i ∈ t ++ srcs x.nodes k, 0 ≤ i ∧ i < (x.nodes.length : Int)) := fun i hi => by
          rcases List.mem_append.1 hi with hi | hi
          · exact HT.out i (List.mem_cons_of_mem _ hi)
          · exact srcs_rng OK.out hi
        have hse : srcs x.nodes (k : Int) = x.nodes[k].src := by unfold srcs; rw [Int.toNat_natCast, getD_node hkn]
        obtain ⟨b2, o2, rfl, hbl2, hcc⟩ := r2.pos hkn
        obtain ⟨-, -, -, q, d, y3, hr⟩ := hcc k hkn
        rw [← hse] at y3 hr
        generalize srcs x.nodes (k : Int) = ys at HN hs3 HU' htl' HT' y3 hr
        have HM1 : Hid (OwnV (s + 1) (wi.setCell ⟨s + 1, k, none⟩ (.bool true)) 4 (.slice (some ⟨s + 1, 0, none⟩) x.nodes.length x.nodes.length) ((m.set k true).map Value.bool)) := by
          have := hset (.bool true)
          rw [← List.map_set] at this
          exact this
        have hb1 : Below w.heap.size w (wi.setCell ⟨s + 1, k, none⟩ (.bool true)) := hbel'.setCell (by simp; rw [← HS0.out]; omega) _
        have hbx1 := hbx.other (a := ⟨s + 1, k, none⟩) (by simp) (.bool true)
        obtain ⟨F, hF⟩ : ∃ F, F = wi.setCell ⟨s + 1, k, none⟩ (.bool true) := ⟨_, rfl⟩
        rw [← hF] at HM1 hb1 hbx1
        have HF := Lib.hid hF
        have hrF := hr.below hb1
        have Y3 := (hb1.cell (p := ⟨b2, o2 + k * 4 + 3, none⟩) hbl2).trans y3
        have z2 := hbx1.cell 2 rfl
        have HCF : Hid (∀ p' c', OwnQ (s + 1 + 1) wi (.slice p' t.length c') t → OwnQ (s + 1 + 1) F (.slice p' t.length c') t) := fun p' c' hqt => by
          rw [hF]; exact hqt.keep (by simp [World.setCell]) fun j hj _ _ => Below.heap_setCell _ _ _ _ (by simp; omega)
        have hlF : s + 1 + 1 ≤ F.heap.size := by rw [hF]; simp [World.setCell]; omega
        have HLM : Hid ((m.set k true).length = x.nodes.length) := by unfold Hid; rw [List.length_set]; exact HL.out
        clear hb HQ HU HT hset hkv hkm hse hcc hr y3 hm hF
        obtain ⟨p', c', hqt, ⟨rfl, rfl, rfl⟩ | ⟨c2, rfl, rfl, rfl⟩⟩ := HCH.out
        all_goals
          have hqF := HCF.out _ _ hqt
          clear hqt HCH HCF
          go_upto_region 8 with fail
          rw [← HF.out]
          go_wp2_with (at_builtin; refine wpList_append_q rfl _ _ rfl rfl hqF hrF rfl rfl (by omega) hlF ?_; intro v' w4 hq4 hg4)
          replace hg4 : F.grownBy w4 (some g) := hg4
          have hb4 : Below w.heap.size w w4 := by
            refine hb1.grown hg4 (by have := HS0.out; omega) fun j hj => ?_
            have e1 := HG1.out
            have e2 := HS0.out
            simp only [Option.some.injEq] at hj
            omega
          have hm4 := HM1.out.keep (w' := w4) fun j hj => by
            have e1 := HG1.out
            have e3 := (HM1.out.lt hj).2
            have e4 : s + 1 = j := by simpa [Value.ownBlock] using hj
            exact hg4.block j e3 (by simp; omega)
          have hbx4 := hbx1.keep (hg4.block s (by omega) (by have := HG1.out; simp; omega))
          go_roundg f
          case measure => omega
          case rel => exact ⟨m.set k true, t ++ ys, by omega, HN, HU', by rw [List.length_append]; omega, HLM, HT', hq4, hm4, by rw [HS0.out]; exact hb4, hbx4⟩
theorem formed_src {x : PatchD} (h : formedB x = true) : SrcOk x.nodes := by
  have hf := (formed_iff.1 h).2.2.2.2.1
  refine ⟨fun y hy s hs => ndB_src (hf y hy) s hs, fun y hy => ?_⟩
  have h1 := hf y hy
  unfold ndB at h1
  simp only [Bool.and_eq_true] at h1
  exact src_le3 h1.1.1
theorem formed_outs {x : PatchD} (h : formedB x = true) : ∀ i ∈ x.outputs, 0 ≤ i ∧ i < (x.nodes.length : Int) := (formed_iff.1 h).2.2.2.2.2
set_option maxHeartbeats 1600000 in
set_option maxRecDepth 100000 in
theorem needed_v {v : Value} {x : PatchD} (w : World) (h : VPatch w v x) (hf : formedB x = true) :
    Calls Tryz.prog 96 #[v] w fun e w' => ∃ u, e = .returned u ∧ OwnI w.heap.size w' u (need x) ∧ Below w.heap.size w w' := by
  have hv := h
  have hn24 := (formed_iff.1 hf).2.2.1
  have ho4 := (formed_iff.1 hf).2.2.2.1
  obtain ⟨p1, c1, p2, c2, p3, c3, rfl, r1, r2, r3⟩ := h
  clear r1 r2 r3
  obtain ⟨s, hs⟩ : ∃ s, s = w.heap.size := ⟨_, rfl⟩
  obtain ⟨E1, hE1⟩ : ∃ E, E = (w.alloc (.cells #[.int .i64 x.inputs, .slice p1 x.tables.length c1, .slice p2 x.nodes.length c2, .slice p3 x.outputs.length c3] 32)).alloc (.cells #[] 2) := ⟨_, rfl⟩
  have hB0 : Below w.heap.size w (w.alloc (.cells #[.int .i64 x.inputs, .slice p1 x.tables.length c1, .slice p2 x.nodes.length c2, .slice p3 x.outputs.length c3] 32)) := (Below.refl _ _).alloc (Nat.le_refl _) _
  have hB1 : Below w.heap.size w E1 := by rw [hE1]; exact hB0.alloc (by simp) _
  have bx : Box E1 s [.int .i64 x.inputs, .slice p1 x.tables.length c1, .slice p2 x.nodes.length c2, .slice p3 x.outputs.length c3] 32 := by rw [hE1, hs]; exact (Box.newAt w _ _ rfl).alloc _
  have h0 : OwnI (s + 1) E1 (.slice (some ⟨s + 1, 0, none⟩) 0 0) [] := by
    have := OwnI.lit (B := s + 1) (w.alloc (.cells #[.int .i64 x.inputs, .slice p1 x.tables.length c1, .slice p2 x.nodes.length c2, .slice p3 x.outputs.length c3] 32)) [] (by rw [hs]; simp) (by simp [maxLen])
    rw [hE1]
    rw [hs] at this ⊢
    simpa using this
  have HN : Hid (Calls Tryz.prog 74 #[.agg #[.int .i64 x.inputs, .slice p1 x.tables.length c1, .slice p2 x.nodes.length c2, .slice p3 x.outputs.length c3]] E1 fun e w' => ∃ u, e = .returned u ∧ OwnV E1.heap.size w' 4 u ((marksL x.nodes x.outputs).map Value.bool) ∧ Below E1.heap.size E1 w') := neededMarks_v E1 (hv.below hB1) (formed_src hf) (formed_outs hf) hn24 ho4
  have HML : Hid ((marksL x.nodes x.outputs).length = x.nodes.length) := (marksL_end (formed_src hf) (formed_outs hf)).len
  have HNE : Hid (ups (marksL x.nodes x.outputs) x.nodes.length = need x) := rfl
  generalize need x = R at HNE ⊢
  generalize marksL x.nodes x.outputs = M at HN HML HNE
  have hsz1 : E1.heap.size = s + 1 + 1 := by rw [hE1, hs]; simp
  have HE := Lib.hid hE1
  have HS := Lib.hid hs
  clear hE1 hs hv hf hB0
  have z0 := bx.cell 0 rfl
  have z1 := bx.cell 1 rfl
  have z2 := bx.cell 2 rfl
  have z3 := bx.cell 3 rfl
  go_enter Tryz.func96, Tryz.ntmps96
  go_upto_region 2 with fail
  rw [← HE.out, ← HS.out]
  go_wp2_with fail
  refine HN.out.mono ?_
  rintro e E2 ⟨u, rfl, hm, hb2⟩
  have h02 := h0.below hb2
  have hB2 := hB1.trans (hb2.mono hB1.size)
  rcases hm.cases with ⟨rfl, e0⟩ | ⟨g, mc, rfl, hgB, hgl, -, -⟩
  · have hn0 : x.nodes.length = 0 := by rw [← HML.out]; simpa using congrArg List.length e0
    have HR : Hid ([] = R) := by unfold Hid; rw [← HNE.out, hn0]; rfl
    clear HN HNE HML z0 z1 z2 z3 bx h0
    have : (List.map Value.bool M).length = 0 := by rw [e0]; rfl
    go_wp2_with fail
    go_loopw [3, 4, 5, 10] (fun ov _ _ iv wr => iv = .int .i64 (0 : Nat) ∧ ov = .slice (some ⟨s + 1, 0, none⟩) 0 0 ∧ wr = E2) (fun _ _ _ _ _ => 0)
    case atStart => exact ⟨rfl, rfl, rfl⟩
    case round =>
      obtain ⟨rfl, rfl, rfl⟩ := hrel
      go_wp2_with fail
      go_ret
      exact ⟨_, rfl, by rw [← HR.out, ← HS.out]; exact h02.mono (by omega), hB2⟩
  have hcl : (List.map Value.bool M).length = x.nodes.length := by rw [List.length_map]; exact HML.out
  rw [hcl] at hm ⊢
  clear hcl HN z0 z1 z2 z3 bx h0
  go_wp2_with fail
  go_loopw [3, 4, 5, 10] (fun ov _ _ iv wr => ∃ k : Nat, k ≤ x.nodes.length ∧ iv = .int .i64 k ∧ OwnI (s + 1) wr ov (ups M k) ∧ OwnV E1.heap.size wr 4 (.slice (some ⟨g, 0, none⟩) x.nodes.length mc) (M.map Value.bool) ∧ Below w.heap.size w wr) (fun _ _ _ iv _ => x.nodes.length - (intOf iv).toNat)
  case atStart => exact ⟨0, Nat.zero_le _, rfl, h02, hm, hB2⟩
  case round =>
    obtain ⟨k, hk, rfl, hown, hmr, hbel⟩ := hrel
    clear h02 hm hB2
    obtain ⟨wi, rfl⟩ : ∃ wi : World, wi = wr := ⟨_, rfl⟩
    have hul := ups_length M k
    have hsz := hbel.size
    by_cases hlt : k < x.nodes.length
    · have hkm : k < M.length := by rw [HML.out]; exact hlt
      have hkv : k < (M.map Value.bool).length := by rw [List.length_map]; exact hkm
      obtain ⟨-, -, hgl2, hck, -, -⟩ := hmr.storing (k := k) hkv
      rw [mbool M hkm hkv] at hck
      have HU : Hid (∀ b, M.getD k false = b → ups M (k + 1) = ups M k ++ (if b then [(k : Int)] else [])) := fun b hb => ups_succ M k hb
      cases hb : M.getD k false
      case false =>
        rw [hb] at hck
        have HU2 := Lib.hid (HU.out _ hb)
        clear hb HU hkm hkv
        go_wp2_with fail
        go_roundw
        case rel => exact ⟨k + 1, by omega, by go_num, by rw [HU2.out]; simpa using hown, hmr, hbel⟩
        case measure => simp [intOf] <;> omega
      case true =>
        rw [hb] at hck
        have HU2 := Lib.hid (HU.out _ hb)
        clear hb HU hkm hkv
        have hs1 : s + 1 ≤ wi.heap.size := by omega
        go_wp2_with (at_builtin; refine wpList_append_one rfl _ _ rfl rfl hown rfl hbel (by omega) hs1 (by have := HS.out; omega) ?_; intro v' w4 hown4 hb4 hz4 hk4)
        go_roundw
        case rel => exact ⟨k + 1, by omega, by go_num, by rw [HU2.out]; exact hown4, hmr.keep fun j hj => hk4 j (hmr.lt hj).2 (fun e => hmr.apart hown.asV (by decide) hj e), hb4⟩
        case measure => simp [intOf] <;> omega
    · obtain rfl : k = x.nodes.length := by omega
      have HR := HNE
      clear HNE
      generalize hU : ups M x.nodes.length = U at hown HR hul
      clear hU
      have hh := hown
      obtain ⟨up, uc, rfl, -⟩ := hh.rd
      have HO := Lib.hid hown
      clear hown hh
      go_wp2_with fail
      go_ret
      exact ⟨_, rfl, by rw [← HR.out, ← HS.out]; exact HO.out.mono (by omega), hbel⟩
end Go.Proofs.YtonkdndpfnapjaaGreat
