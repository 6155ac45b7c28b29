/-
  How many cells has a patch: contracts of both sides.
-/
import Derived.Test.YtalomhakmfknjaaLinP
namespace Go.Proofs.Ytalomhakmfknjaa
open Go.ChangeShapes Go.WideShapes Go.ChangeAt Go.RowKit
set_option linter.unusedVariables false

def cntS (x : PatchD) : Int := if okB x then (lens ((need x).map fun i => startL (nodeAt x.nodes i)) : Int) else 0
theorem trimP_count (x : PatchD) : lens ((trimP x).nodes.map startL) = lens ((need x).map fun i => startL (nodeAt x.nodes i)) := by
  show lens (((need x).map (keepN x.nodes _)).map startL) = _
  rw [List.map_map]
  rfl
theorem keepN_ok {x : PatchD} (h : formedB x = true) {keep : List Int} (hk : keep.length ≤ 24) {i : Int} (h0 : 0 ≤ i) (h1 : i < (x.nodes.length : Int)) : nodeB (keepN x.nodes (byL x.nodes.length keep) i) 4 = true := by
  have hf := formed_iff.1 h
  obtain ⟨m, rfl⟩ : ∃ m : Nat, i = m := ⟨i.toNat, by omega⟩
  have hm : m < x.nodes.length := by omega
  have hn := hf.2.2.2.2.1 _ (List.getElem_mem hm)
  have ht := hf.2.1
  unfold tablesB at ht
  unfold ndB nodeB at hn
  simp only [Bool.and_eq_true, decide_eq_true_eq, Bool.or_eq_true] at hn ht
  unfold keepN nodeB
  rw [nodeAt_eq hm]
  simp only [Bool.and_eq_true, decide_eq_true_eq, Bool.or_eq_true, List.all_eq_true, inB_iff, mapL_length]
  refine ⟨⟨⟨⟨inB_iff.1 hn.1.1.1.1.1.1, hn.1.1.1.1.1.2⟩, fun s hs => ?_⟩, hn.1.1.1.2⟩, ?_⟩
  · have := mapL_rng (byL_rng (n := x.nodes.length) hk (by omega)) (by omega) s hs
    omega
  · rcases hn.1.1.2 with h | h
    · exact .inl h
    · exact .inr (by omega)
theorem trimP_ok {x : PatchD} (h : okB x = true) : (∀ n ∈ (trimP x).nodes, nodeB n 4 = true) ∧ (trimP x).nodes.length ≤ 24 := by
  have h24 := okB_n24 h
  have hl := need_length x
  constructor
  · intro n hn
    obtain ⟨i, hi, rfl⟩ := List.mem_map.1 hn
    exact keepN_ok (okB_len h).1 (by omega) (need_rng i hi).1 (need_rng i hi).2
  · show ((need x).map _).length ≤ 24
    rw [List.length_map]; omega
theorem lens16 : ∀ (ns : List NodeD), (∀ n ∈ ns, nodeB n 4 = true) → lens (ns.map startL) ≤ 16 * ns.length
  | [], _ => by simp [lens]
  | n :: ns, h => by
    have h1 := startL_length (startOk_of (h n (List.mem_cons_self ..)))
    have h2 := lens16 ns fun m hm => h m (List.mem_cons_of_mem _ hm)
    rw [List.map_cons, lens_cons, List.length_cons]
    omega
theorem lens_map_succ {α : Type} {f : α → List Int} {xs : List α} {k : Nat} (h : k < xs.length) : lens ((xs.take (k + 1)).map f) = lens ((xs.take k).map f) + (f xs[k]).length := by
  rw [List.take_succ_eq_append_getElem h, List.map_append, lens_append]
  congr 1
set_option maxHeartbeats 800000 in
theorem l09Count_any {g : Nat} {x : PatchD} (w : World) (h : PPatch w g x) (hn : ∀ n ∈ x.nodes, nodeB n 4 = true) (hl : x.nodes.length ≤ 24) :
    Calls Try.prog 64 #[.pointer (some ⟨g, 0, none⟩)] w fun e w' => e = .returned (.int .i64 (lens (x.nodes.map startL) : Int)) ∧ Below w.heap.size w w' := by
  obtain ⟨p1, c1, p2, c2, p3, c3, bx, r1, r2, r3⟩ := h
  clear r1 r3
  have HN := Lib.hid hn
  clear hn
  have H16 : Hid (∀ k, lens ((x.nodes.take k).map startL) ≤ 16 * k) := fun k => by
    have := lens16 (x.nodes.take k) fun n hn => HN.out n (List.mem_of_mem_take hn)
    rw [List.length_take] at this
    omega
  go_enter Try.func64, Try.ntmps64
  go_wp2_with fail
  go_loopw [3, 4] (fun nv i wr => ∃ (k s : Nat), k ≤ x.nodes.length ∧ i = .int .i64 k ∧ nv = .int .i64 s ∧ Hid (s = lens ((x.nodes.take k).map startL)) ∧ s ≤ 16 * k ∧ Below w.heap.size w wr) (fun _ i _ => x.nodes.length - (intOf i).toNat)
  case atStart => exact ⟨0, 0, Nat.zero_le _, rfl, rfl, by unfold Hid; simp [lens], Nat.le_refl _, Below.refl _ _⟩
  case round =>
    obtain ⟨k, s, hk, rfl, rfl, HS, hs, hbel⟩ := hrel
    obtain ⟨wi, rfl⟩ : ∃ wi : World, wi = wr := ⟨_, rfl⟩
    have z2 := (bx.below hbel).cell 2 rfl
    by_cases hlt : k < x.nodes.length
    · obtain ⟨b, o, rfl, hb, hc⟩ := (r2.below hbel).pos hlt
      obtain ⟨y0, y1, y2, q, d, y3, hr⟩ := hc k hlt
      have hnk := HN.out _ (List.getElem_mem hlt)
      have HST := Lib.hid (lens_map_succ (f := startL) hlt)
      have hle := H16.out (k + 1)
      have hsl := startL_length (startOk_of hnk)
      generalize x.nodes[k] = nd at y0 y1 y2 y3 hr hnk HST hsl
      have SS := specStateSize_v (x := nd) wi ⟨q, d, rfl, hr⟩
      rw [show startSize nd = ((startL nd).length : Int) by unfold startSize; rw [if_pos hnk]] at SS
      have SSH := Lib.hid SS
      generalize (startL nd).length = m at SSH HST hsl
      clear hc hr hnk SS
      go_wp2_with (go_at_call 103; refine SSH.out.mono ?_; rintro e w1 ⟨rfl, hb1⟩)
      go_roundw
      case rel => exact ⟨k + 1, s + m, by omega, by go_num, by go_num, by unfold Hid; rw [HST.out, HS.out], by omega, hbel.trans (hb1.mono hbel.size)⟩
      case measure => simp [intOf] <;> omega
    · obtain rfl : k = x.nodes.length := by omega
      have HF : Hid (s = lens (x.nodes.map startL)) := by have := HS.out; rw [List.take_length] at this; exact this
      go_wp2_with fail
      go_ret
      exact ⟨ret_int (by rw [HF.out]), hbel⟩
set_option maxHeartbeats 800000 in
theorem specStateCount_v {v : Value} {x : PatchD} (w : World) (h : VPatch w v x) :
    Calls Try.prog 27 #[v] w fun e w' => e = .returned (.tuple #[.int .i64 (cntS x), .int .i64 (okCode x)]) ∧ Below w.heap.size w w' := by
  obtain ⟨p1, c1, p2, c2, p3, c3, rfl, hp⟩ := PPatch.of h
  have hB0 : Below w.heap.size w (w.alloc (.cells #[.int .i64 x.inputs, .slice p1 x.tables.length c1, .slice p2 x.nodes.length c2, .slice p3 x.outputs.length c3] 34)) := (Below.refl _ _).alloc (Nat.le_refl _) _
  generalize hE : w.alloc (.cells #[.int .i64 x.inputs, .slice p1 x.tables.length c1, .slice p2 x.nodes.length c2, .slice p3 x.outputs.length c3] 34) = E0 at *
  have HE := Lib.hid hE.symm
  clear hE h
  have OK := Lib.hid (l07Ok_any _ hp)
  cases hF : okB x
  case false =>
    rw [hF] at OK
    rw [show cntS x = 0 from by unfold cntS; rw [hF]; rfl, show okCode x = 1 from by unfold okCode; rw [hF]; rfl]
    go_enter Try.func27, Try.ntmps27
    go_upto_region 1 with fail
    rw [← HE.out]
    go_wp2_with fail
    refine OK.out.mono ?_
    rintro e W1 ⟨rfl, hb1⟩
    go_wp2_with fail
    refine bodyPost_ret (v := .tuple #[.int .i64 0, .int .i64 1]) (by simp [results, Try.results27, go_sem, *]) rfl ?_
    exact ⟨rfl, hB0.trans (hb1.mono hB0.size)⟩
  rw [hF] at OK
  rw [show cntS x = (lens ((trimP x).nodes.map startL) : Int) from by unfold cntS; rw [hF, trimP_count]; rfl, show okCode x = 0 from by unfold okCode; rw [hF]; rfl]
  have TR := Lib.hid (fun W hW => l09Trim_any W (hp.below hW) (okB_len hF).1)
  obtain ⟨hkn, hkl⟩ := trimP_ok hF
  generalize trimP x = KP at TR hkn hkl ⊢
  have HKN := Lib.hid hkn
  clear hkn
  obtain ⟨R, hR⟩ : ∃ R, R = lens (KP.nodes.map startL) := ⟨_, rfl⟩
  rw [← hR]
  have HRL := Lib.hid hR
  clear hR
  go_enter Try.func27, Try.ntmps27
  go_upto_region 1 with fail
  rw [← HE.out]
  go_wp2_with fail
  refine OK.out.mono ?_
  rintro e W1 ⟨rfl, hb1⟩
  go_wp2_with fail
  refine (TR.out W1 hb1).mono ?_
  rintro e W2 ⟨v1, v2, v3, L1, L, rfl, hop, hb2⟩
  have hB2 := (hB0.trans (hb1.mono hB0.size)).trans (hb2.mono (hB0.trans (hb1.mono hB0.size)).size)
  have hvp := hop.vpatch KP.inputs
  obtain ⟨q1, d1, e1⟩ := hop.o1.sl'
  obtain ⟨q2, d2, e2⟩ := hop.o2.sl
  obtain ⟨q3, d3, e3, -⟩ := hop.o3.rd
  subst e1 e2 e3
  have hvp2 := hvp.below ((Below.refl W2.heap.size W2).alloc (Nat.le_refl _) (.cells #[.int .i64 KP.inputs, .slice q1 L1.length d1, .slice q2 KP.nodes.length d2, .slice q3 KP.outputs.length d3] 34))
  have hpp := pp_of hvp2 (Box.newAt W2 [.int .i64 KP.inputs, .slice q1 L1.length d1, .slice q2 KP.nodes.length d2, .slice q3 KP.outputs.length d3] 34 rfl)
  have hB3 := hB2.alloc hB2.size (.cells #[.int .i64 KP.inputs, .slice q1 L1.length d1, .slice q2 KP.nodes.length d2, .slice q3 KP.outputs.length d3] 34)
  obtain ⟨s0, hs0⟩ : ∃ s, s = W2.heap.size := ⟨_, rfl⟩
  rw [← hs0] at hpp
  have HS0 := Lib.hid hs0
  generalize hE3 : W2.alloc (.cells #[.int .i64 KP.inputs, .slice q1 L1.length d1, .slice q2 KP.nodes.length d2, .slice q3 KP.outputs.length d3] 34) = E3 at *
  have HE3 := Lib.hid hE3.symm
  have IS0 := l09Count_any E3 hpp HKN.out hkl
  rw [← HRL.out] at IS0
  have IS := Lib.hid IS0
  clear IS0
  clear hop hvp hvp2 hs0 hE3 hpp hB2
  go_upto_region 4 with fail
  rw [← HE3.out, ← HS0.out]
  go_wp2_with fail
  refine IS.out.mono ?_
  rintro e W4 ⟨rfl, hb4⟩
  go_wp2_with fail
  refine bodyPost_ret (v := .tuple #[.int .i64 (R : Int), .int .i64 0]) (by simp [results, Try.results27, go_sem, *]) rfl ?_
  exact ⟨rfl, hB3.trans (hb4.mono hB3.size)⟩
set_option maxHeartbeats 1600000 in
theorem stateCount_v {v : Value} {x : PatchD} (w : World) (h : VPatch w v x) (hok : okB x = true) :
    Calls Try.prog 65 #[v] w fun e w' => e = .returned (.int .i64 (lens ((need x).map fun i => startL (nodeAt x.nodes i)) : Int)) ∧ Below w.heap.size w w' := by
  have hv := h
  have hf := (okB_len hok).1
  have hn24 := (formed_iff.1 hf).2.2.1
  obtain ⟨p1, c1, p2, c2, p3, c3, rfl, r1, r2, r3⟩ := h
  clear r1 r3
  have hB0 : Below w.heap.size w (w.alloc (.cells #[.int .i64 x.inputs, .slice p1 x.tables.length c1, .slice p2 x.nodes.length c2, .slice p3 x.outputs.length c3] 34)) := (Below.refl _ _).alloc (Nat.le_refl _) _
  have bx := Box.newAt w [.int .i64 x.inputs, .slice p1 x.tables.length c1, .slice p2 x.nodes.length c2, .slice p3 x.outputs.length c3] 34 rfl
  obtain ⟨g, hg⟩ : ∃ g, g = w.heap.size := ⟨_, rfl⟩
  rw [← hg] at bx
  generalize hE : w.alloc (.cells #[.int .i64 x.inputs, .slice p1 x.tables.length c1, .slice p2 x.nodes.length c2, .slice p3 x.outputs.length c3] 34) = E0 at *
  have HE := Lib.hid hE.symm
  have HG := Lib.hid hg
  have NE := Lib.hid (needed_v E0 (hv.below hB0) hf)
  have hnl := need_length x
  have HNR : Hid (∀ i ∈ need x, 0 ≤ i ∧ i < (x.nodes.length : Int)) := need_rng
  have HSO := Lib.hid (okB_start hok)
  generalize need x = nd at NE hnl HNR ⊢
  clear hE hg hv hf hok
  have H16 : Hid (∀ k, k ≤ nd.length → lens ((nd.take k).map fun i => startL (nodeAt x.nodes i)) ≤ 16 * k) := fun k hk => by
    have := lens_map_start ((nd.take k).map (nodeAt x.nodes)) fun n hn => by
      obtain ⟨i, hi, rfl⟩ := List.mem_map.1 hn
      obtain ⟨m, hm⟩ : ∃ m : Nat, i = m := ⟨i.toNat, by have := HNR.out i (List.mem_of_mem_take hi); omega⟩
      have hmn : m < x.nodes.length := by have := HNR.out i (List.mem_of_mem_take hi); omega
      rw [hm, nodeAt_eq hmn]
      exact HSO.out _ (List.getElem_mem hmn)
    rw [List.map_map, List.length_map, List.length_take] at this
    have e : min k nd.length = k := by omega
    rw [e] at this
    exact this
  have z0 := bx.cell 0 rfl
  have z1 := bx.cell 1 rfl
  have z2 := bx.cell 2 rfl
  have z3 := bx.cell 3 rfl
  go_enter Try.func65, Try.ntmps65
  go_upto_region 2 with fail
  rw [← HE.out, ← HG.out]
  go_wp2_with fail
  refine NE.out.mono ?_
  rintro e W1 ⟨u, rfl, hu, hb1⟩
  obtain ⟨uq, uc, rfl, hur⟩ := hu.rd
  have hB1 := hB0.trans (hb1.mono hB0.size)
  have bx1 := bx.below hb1
  clear z0 z1 z2 z3 hu
  go_wp2_with fail
  go_loopw [3, 5, 9] (fun nv _ i wr => ∃ (k s : Nat), k ≤ nd.length ∧ i = .int .i64 k ∧ nv = .int .i64 s ∧ Hid (s = lens ((nd.take k).map fun i => startL (nodeAt x.nodes i))) ∧ s ≤ 16 * k ∧ Below W1.heap.size W1 wr) (fun _ _ i _ => nd.length - (intOf i).toNat)
  case atStart => exact ⟨0, 0, Nat.zero_le _, rfl, rfl, by unfold Hid; simp [lens], Nat.le_refl _, Below.refl _ _⟩
  case round =>
    obtain ⟨k, s, hk, rfl, rfl, HS, hs, hbel⟩ := hrel
    obtain ⟨wi, rfl⟩ : ∃ wi : World, wi = wr := ⟨_, rfl⟩
    have z2 := (bx1.below hbel).cell 2 rfl
    have hbw := hB1.trans (hbel.mono hB1.size)
    by_cases hlt : k < nd.length
    · obtain ⟨ub, uo, rfl, hub, huc⟩ := (hur.below hbel).pos hlt
      have huk := huc k hlt
      have hrk := HNR.out _ (List.getElem_mem hlt)
      obtain ⟨m, hm⟩ : ∃ m : Nat, nd[k] = m := ⟨nd[k].toNat, by omega⟩
      have hmn : m < x.nodes.length := by omega
      have HST : Hid (lens ((nd.take (k + 1)).map fun i => startL (nodeAt x.nodes i)) = lens ((nd.take k).map fun i => startL (nodeAt x.nodes i)) + (startL x.nodes[m]).length) := by
        unfold Hid; rw [lens_map_succ hlt, hm, nodeAt_eq hmn]
      obtain ⟨b, o, rfl, hb, hc⟩ := (r2.below hbw).pos hmn
      obtain ⟨y0, y1, y2, q, d, y3, hr⟩ := hc m hmn
      have hso := HSO.out _ (List.getElem_mem hmn)
      have hsl := startL_length hso
      have hle := H16.out (k + 1) hlt
      rw [hm] at huk
      generalize x.nodes[m] = nn at y0 y1 y2 y3 hr hso HST hsl
      have ST := Lib.hid (start_v (x := nn) wi ⟨q, d, rfl, hr⟩ hso)
      have SZ : Hid (∀ (W : World) p n c, n ≤ 16 → Calls Try.prog 70 #[.slice p n c] W fun e w' => e = .returned (.int .i64 n) ∧ W = w') := fun W p n c hn => sizeI_any p n c W (by unfold maxLen; omega)
      generalize startL nn = sn at ST HST hsl
      clear hc hr hso huc hm hrk
      go_wp2_with (first | (go_at_call 86; refine ST.out.mono ?_; rintro e w1 ⟨su, rfl, hsu, hb1'⟩; obtain ⟨sq, sc, rfl, -⟩ := hsu.rd) | (go_at_call 70; refine (SZ.out _ _ _ _ hsl).mono ?_; rintro e w2 ⟨rfl, rfl⟩) | fail)
      go_roundw
      case rel => exact ⟨k + 1, s + sn.length, by omega, by go_num, by go_num, by unfold Hid; rw [HST.out, HS.out], by omega, hbel.trans (hb1'.mono hbel.size)⟩
      case measure => simp [intOf] <;> omega
    · obtain rfl : k = nd.length := by omega
      have HF : Hid (s = lens (nd.map fun i => startL (nodeAt x.nodes i))) := by have := HS.out; rw [List.take_length] at this; exact this
      go_wp2_with fail
      go_ret
      exact ⟨ret_int (by rw [HF.out]), hbw⟩
set_option maxHeartbeats 800000 in
theorem implStateCount_v {v : Value} {x : PatchD} (w : World) (h : VPatch w v x) :
    Calls Try.prog 28 #[v] w fun e w' => e = .returned (.tuple #[.int .i64 (cntS x), .int .i64 (okCode x)]) ∧ Below w.heap.size w w' := by
  have hv := h
  obtain ⟨p1, c1, p2, c2, p3, c3, rfl, r1, r2, r3⟩ := h
  clear r1 r2 r3
  have hB0 : Below w.heap.size w (w.alloc (.cells #[.int .i64 x.inputs, .slice p1 x.tables.length c1, .slice p2 x.nodes.length c2, .slice p3 x.outputs.length c3] 34)) := (Below.refl _ _).alloc (Nat.le_refl _) _
  have bx := Box.newAt w [.int .i64 x.inputs, .slice p1 x.tables.length c1, .slice p2 x.nodes.length c2, .slice p3 x.outputs.length c3] 34 rfl
  generalize hE : w.alloc (.cells #[.int .i64 x.inputs, .slice p1 x.tables.length c1, .slice p2 x.nodes.length c2, .slice p3 x.outputs.length c3] 34) = E0 at *
  have HE := Lib.hid hE.symm
  clear hE
  have OK := Lib.hid (isPatch_v _ (hv.below hB0))
  have z0 := bx.cell 0 rfl
  have z1 := bx.cell 1 rfl
  have z2 := bx.cell 2 rfl
  have z3 := bx.cell 3 rfl
  cases hF : okB x
  case false =>
    rw [hF] at OK
    rw [show cntS x = 0 from by unfold cntS; rw [hF]; rfl, show okCode x = 1 from by unfold okCode; rw [hF]; rfl]
    go_enter Try.func28, Try.ntmps28
    go_upto_region 1 with fail
    rw [← HE.out]
    go_wp2_with fail
    refine OK.out.mono ?_
    rintro e W1 ⟨rfl, hb1⟩
    clear z0 z1 z2 z3
    go_wp2_with fail
    refine bodyPost_ret (v := .tuple #[.int .i64 0, .int .i64 1]) (by simp [results, Try.results28, go_sem, *]) rfl ?_
    exact ⟨rfl, hB0.trans (hb1.mono hB0.size)⟩
  rw [hF] at OK
  rw [show cntS x = (lens ((need x).map fun i => startL (nodeAt x.nodes i)) : Int) from by unfold cntS; rw [hF]; rfl, show okCode x = 0 from by unfold okCode; rw [hF]; rfl]
  have SC : Hid (∀ W, Below E0.heap.size E0 W → Calls Try.prog 65 #[.agg #[.int .i64 x.inputs, .slice p1 x.tables.length c1, .slice p2 x.nodes.length c2, .slice p3 x.outputs.length c3]] W fun e w' => e = .returned (.int .i64 (lens ((need x).map fun i => startL (nodeAt x.nodes i)) : Int)) ∧ Below W.heap.size W w') := fun W hW => stateCount_v W (hv.below (hB0.trans (hW.mono hB0.size))) hF
  generalize lens ((need x).map fun i => startL (nodeAt x.nodes i)) = R at SC ⊢
  clear hv
  go_enter Try.func28, Try.ntmps28
  go_upto_region 1 with fail
  rw [← HE.out]
  go_wp2_with fail
  refine OK.out.mono ?_
  rintro e W1 ⟨rfl, hb1⟩
  have bx1 := bx.below hb1
  clear z0 z1 z2 z3
  have z0 := bx1.cell 0 rfl
  have z1 := bx1.cell 1 rfl
  have z2 := bx1.cell 2 rfl
  have z3 := bx1.cell 3 rfl
  go_wp2_with fail
  refine (SC.out W1 hb1).mono ?_
  rintro e W2 ⟨rfl, hb2⟩
  have hB1 := hB0.trans (hb1.mono hB0.size)
  clear z0 z1 z2 z3
  go_wp2_with fail
  refine bodyPost_ret (v := .tuple #[.int .i64 (R : Int), .int .i64 0]) (by simp [results, Try.results28, go_sem, *]) rfl ?_
  exact ⟨rfl, hB1.trans (hb2.mono hB1.size)⟩
end Go.Proofs.Ytalomhakmfknjaa
