/-
  Is a patch linear, how many cells has it: contracts of both sides.
-/
import Derived.Test.YtalomhakmfknjaaTrimS
namespace Go.Proofs.Ytalomhakmfknjaa
open Go.ChangeShapes Go.WideShapes Go.ChangeAt Go.RowKit
set_option linter.unusedVariables false

def linK (n : NodeD) : Bool := kindLinear n.kind
def linP (x : PatchD) : Bool := okB x && (need x).all fun i => linK (nodeAt x.nodes i)
theorem trimP_lin (x : PatchD) : (trimP x).nodes.all linK = (need x).all fun i => linK (nodeAt x.nodes i) := by
  show ((need x).map (keepN x.nodes _)).all linK = _
  rw [List.all_map]
  rfl
set_option maxHeartbeats 800000 in
theorem l09Is_any {g : Nat} {x : PatchD} (w : World) (h : PPatch w g x) :
    Calls Try.prog 62 #[.pointer (some ⟨g, 0, none⟩)] w fun e w' => e = .returned (.bool (x.nodes.all linK)) ∧ Below w.heap.size w w' := by
  obtain ⟨p1, c1, p2, c2, p3, c3, bx, r1, r2, r3⟩ := h
  have hm2 := r2.len
  unfold maxLen at hm2
  clear r1 r3
  go_enter Try.func62, Try.ntmps62
  go_wp2_with fail
  go_loopw [3] (fun i wr => ∃ k : Nat, k ≤ x.nodes.length ∧ i = .int .i64 k ∧ Hid ((x.nodes.take k).all linK = true) ∧ Below w.heap.size w wr) (fun i _ => x.nodes.length - (intOf i).toNat)
  case atStart => exact ⟨0, Nat.zero_le _, rfl, by unfold Hid; simp, Below.refl _ _⟩
  case round =>
    obtain ⟨k, hk, rfl, HA, hbel⟩ := hrel
    obtain ⟨wi, rfl⟩ : ∃ wi : World, wi = wr := ⟨_, rfl⟩
    have z2 := (bx.below hbel).cell 2 rfl
    by_cases hlt : k < x.nodes.length
    · obtain ⟨b, o, rfl, hb, hc⟩ := (r2.below hbel).pos hlt
      have y0 := (hc k hlt).c0
      have HK : Hid (linK x.nodes[k] = kindLinear x.nodes[k].kind) := rfl
      have LK := Lib.hid (l06Linear_any x.nodes[k].kind wi)
      clear hc
      cases hb : linK x.nodes[k]
      case false =>
        have HF := Lib.hid (all_false hlt hb)
        rw [← HK.out, hb] at LK
        clear hb
        go_wp2_with (go_at_call 101; refine LK.out.mono ?_; rintro e w1 ⟨rfl, hb1⟩)
        go_ret
        exact ⟨ret_bool HF.out.symm, hbel.trans (hb1.mono hbel.size)⟩
      case true =>
        have HF := Lib.hid (all_step hlt HA.out hb)
        rw [← HK.out, hb] at LK
        clear hb
        go_wp2_with (go_at_call 101; refine LK.out.mono ?_; rintro e w1 ⟨rfl, hb1⟩)
        go_roundw
        case rel => exact ⟨k + 1, by omega, by go_num, HF, hbel.trans (hb1.mono hbel.size)⟩
        case measure => simp [intOf] <;> omega
    · obtain rfl : k = x.nodes.length := by omega
      have HF := Lib.hid (all_done HA.out)
      go_wp2_with fail
      go_ret
      exact ⟨ret_bool HF.out.symm, hbel⟩
set_option maxHeartbeats 800000 in
theorem specIsLinearPatch_v {v : Value} {x : PatchD} (w : World) (h : VPatch w v x) :
    Calls Try.prog 25 #[v] w fun e w' => e = .returned (.bool (linP x)) ∧ Below w.heap.size w w' := by
  obtain ⟨p1, c1, p2, c2, p3, c3, rfl, hp⟩ := PPatch.of h
  have hB0 : Below w.heap.size w (w.alloc (.cells #[.int .i64 x.inputs, .slice p1 x.tables.length c1, .slice p2 x.nodes.length c2, .slice p3 x.outputs.length c3] 34)) := (Below.refl _ _).alloc (Nat.le_refl _) _
  generalize hE : w.alloc (.cells #[.int .i64 x.inputs, .slice p1 x.tables.length c1, .slice p2 x.nodes.length c2, .slice p3 x.outputs.length c3] 34) = E0 at *
  have HE := Lib.hid hE.symm
  clear hE h
  have OK := Lib.hid (l07Ok_any _ hp)
  have HL : Hid (∀ b, okB x = b → linP x = (b && (trimP x).nodes.all linK)) := fun b hb => by rw [trimP_lin]; unfold linP; rw [hb]
  generalize linP x = R at HL ⊢
  cases hF : okB x
  case false =>
    rw [hF] at OK
    obtain rfl := HL.out _ hF
    go_enter Try.func25, Try.ntmps25
    go_upto_region 1 with fail
    rw [← HE.out]
    go_wp2_with fail
    refine OK.out.mono ?_
    rintro e W1 ⟨rfl, hb1⟩
    go_wp2_with fail
    go_ret
    exact ⟨rfl, hB0.trans (hb1.mono hB0.size)⟩
  rw [hF] at OK
  obtain rfl := HL.out _ hF
  have TR := Lib.hid (fun W hW => l09Trim_any W (hp.below hW) (okB_len hF).1)
  rw [Bool.true_and]
  generalize trimP x = KP at TR ⊢
  clear HL
  go_enter Try.func25, Try.ntmps25
  go_upto_region 1 with fail
  rw [← HE.out]
  go_wp2_with fail
  refine OK.out.mono ?_
  rintro e W1 ⟨rfl, hb1⟩
  go_wp2_with fail
  refine (TR.out W1 hb1).mono ?_
  rintro e W2 ⟨v1, v2, v3, L1, L, rfl, hop, hb2⟩
  have hB2 := (hB0.trans (hb1.mono hB0.size)).trans (hb2.mono (hB0.trans (hb1.mono hB0.size)).size)
  have hvp := hop.vpatch KP.inputs
  obtain ⟨q1, d1, e1⟩ := hop.o1.sl'
  obtain ⟨q2, d2, e2⟩ := hop.o2.sl
  obtain ⟨q3, d3, e3, -⟩ := hop.o3.rd
  subst e1 e2 e3
  have hvp2 := hvp.below ((Below.refl W2.heap.size W2).alloc (Nat.le_refl _) (.cells #[.int .i64 KP.inputs, .slice q1 L1.length d1, .slice q2 KP.nodes.length d2, .slice q3 KP.outputs.length d3] 34))
  have hpp := pp_of hvp2 (Box.newAt W2 [.int .i64 KP.inputs, .slice q1 L1.length d1, .slice q2 KP.nodes.length d2, .slice q3 KP.outputs.length d3] 34 rfl)
  have hB3 := hB2.alloc hB2.size (.cells #[.int .i64 KP.inputs, .slice q1 L1.length d1, .slice q2 KP.nodes.length d2, .slice q3 KP.outputs.length d3] 34)
  obtain ⟨s0, hs0⟩ : ∃ s, s = W2.heap.size := ⟨_, rfl⟩
  rw [← hs0] at hpp
  have HS0 := Lib.hid hs0
  generalize hE3 : W2.alloc (.cells #[.int .i64 KP.inputs, .slice q1 L1.length d1, .slice q2 KP.nodes.length d2, .slice q3 KP.outputs.length d3] 34) = E3 at *
  have HE3 := Lib.hid hE3.symm
  have IS := Lib.hid (l09Is_any E3 hpp)
  clear hop hvp hvp2 hs0 hE3 hpp hB2
  go_upto_region 4 with fail
  rw [← HE3.out, ← HS0.out]
  go_wp2_with fail
  refine IS.out.mono ?_
  rintro e W4 ⟨rfl, hb4⟩
  go_wp2_with fail
  go_ret
  exact ⟨rfl, hB3.trans (hb4.mono hB3.size)⟩
set_option maxHeartbeats 1600000 in
theorem isLinearPatch_v {v : Value} {x : PatchD} (w : World) (h : VPatch w v x) (hf : formedB x = true) :
    Calls Try.prog 63 #[v] w fun e w' => e = .returned (.bool ((need x).all fun i => linK (nodeAt x.nodes i))) ∧ Below w.heap.size w w' := by
  have hv := h
  have hn24 := (formed_iff.1 hf).2.2.1
  obtain ⟨p1, c1, p2, c2, p3, c3, rfl, r1, r2, r3⟩ := h
  clear r1 r3
  have hB0 : Below w.heap.size w (w.alloc (.cells #[.int .i64 x.inputs, .slice p1 x.tables.length c1, .slice p2 x.nodes.length c2, .slice p3 x.outputs.length c3] 34)) := (Below.refl _ _).alloc (Nat.le_refl _) _
  have bx := Box.newAt w [.int .i64 x.inputs, .slice p1 x.tables.length c1, .slice p2 x.nodes.length c2, .slice p3 x.outputs.length c3] 34 rfl
  obtain ⟨g, hg⟩ : ∃ g, g = w.heap.size := ⟨_, rfl⟩
  rw [← hg] at bx
  generalize hE : w.alloc (.cells #[.int .i64 x.inputs, .slice p1 x.tables.length c1, .slice p2 x.nodes.length c2, .slice p3 x.outputs.length c3] 34) = E0 at *
  have HE := Lib.hid hE.symm
  have HG := Lib.hid hg
  have NE := Lib.hid (needed_v E0 (hv.below hB0) hf)
  have hnl := need_length x
  have HNR : Hid (∀ i ∈ need x, 0 ≤ i ∧ i < (x.nodes.length : Int)) := need_rng
  generalize need x = nd at NE hnl HNR ⊢
  clear hE hg hv hf
  have z0 := bx.cell 0 rfl
  have z1 := bx.cell 1 rfl
  have z2 := bx.cell 2 rfl
  have z3 := bx.cell 3 rfl
  obtain ⟨f, hfd⟩ : ∃ f : Int → Bool, f = fun i => linK (nodeAt x.nodes i) := ⟨_, rfl⟩
  rw [← hfd]
  have HF := Lib.hid hfd
  clear hfd
  go_enter Try.func63, Try.ntmps63
  go_upto_region 1 with fail
  rw [← HE.out, ← HG.out]
  go_wp2_with fail
  refine NE.out.mono ?_
  rintro e W1 ⟨u, rfl, hu, hb1⟩
  obtain ⟨uq, uc, rfl, hur⟩ := hu.rd
  have hB1 := hB0.trans (hb1.mono hB0.size)
  have bx1 := bx.below hb1
  clear z0 z1 z2 z3 hu
  go_wp2_with fail
  go_loopw [4, 8] (fun _ i wr => ∃ k : Nat, k ≤ nd.length ∧ i = .int .i64 k ∧ Hid ((nd.take k).all f = true) ∧ Below W1.heap.size W1 wr) (fun _ i _ => nd.length - (intOf i).toNat)
  case atStart => exact ⟨0, Nat.zero_le _, rfl, by unfold Hid; simp, Below.refl _ _⟩
  case round =>
    obtain ⟨k, hk, rfl, HA, hbel⟩ := hrel
    obtain ⟨wi, rfl⟩ : ∃ wi : World, wi = wr := ⟨_, rfl⟩
    have z2 := (bx1.below hbel).cell 2 rfl
    have hbw := hB1.trans (hbel.mono hB1.size)
    by_cases hlt : k < nd.length
    · obtain ⟨ub, uo, rfl, hub, huc⟩ := (hur.below hbel).pos hlt
      have huk := huc k hlt
      have hrk := HNR.out _ (List.getElem_mem hlt)
      obtain ⟨m, hm⟩ : ∃ m : Nat, nd[k] = m := ⟨nd[k].toNat, by omega⟩
      have hmn : m < x.nodes.length := by omega
      have HK : Hid (f nd[k] = kindLinear x.nodes[m].kind) := by unfold Hid; rw [HF.out]; show linK (nodeAt x.nodes nd[k]) = _; rw [hm, nodeAt_eq hmn]; rfl
      obtain ⟨b, o, rfl, hb, hc⟩ := (r2.below hbw).pos hmn
      have y0 := (hc m hmn).c0
      have LK := Lib.hid (implLinearKind_any x.nodes[m].kind wi)
      rw [hm] at huk
      clear hc huc
      cases hb : f nd[k]
      case false =>
        have HFF := Lib.hid (all_false hlt hb)
        rw [← HK.out, hb] at LK
        clear hb hm hrk
        go_wp2_with (go_at_call 102; refine LK.out.mono ?_; rintro e w1 ⟨rfl, hb1'⟩)
        go_ret
        exact ⟨ret_bool HFF.out.symm, hbw.trans (hb1'.mono hbw.size)⟩
      case true =>
        have HFF := Lib.hid (all_step hlt HA.out hb)
        rw [← HK.out, hb] at LK
        clear hb hm hrk
        go_wp2_with (go_at_call 102; refine LK.out.mono ?_; rintro e w1 ⟨rfl, hb1'⟩)
        go_roundw
        case rel => exact ⟨k + 1, by omega, by go_num, HFF, hbel.trans (hb1'.mono hbel.size)⟩
        case measure => simp [intOf] <;> omega
    · obtain rfl : k = nd.length := by omega
      have HFF := Lib.hid (all_done HA.out)
      go_wp2_with fail
      go_ret
      exact ⟨ret_bool HFF.out.symm, hbw⟩
set_option maxHeartbeats 1600000 in
set_option maxRecDepth 100000 in
theorem implIsLinearPatch_v {v : Value} {x : PatchD} (w : World) (h : VPatch w v x) :
    Calls Try.prog 26 #[v] w fun e w' => e = .returned (.bool (linP x)) ∧ Below w.heap.size w w' := by
  have HR : Hid (∀ b, okB x = b → linP x = (b && (need x).all fun i => linK (nodeAt x.nodes i))) := fun b hb => by unfold linP; rw [hb]
  generalize linP x = R at HR ⊢
  have hv := h
  obtain ⟨p1, c1, p2, c2, p3, c3, rfl, r1, r2, r3⟩ := h
  clear r1 r2 r3
  have hB0 : Below w.heap.size w (w.alloc (.cells #[.int .i64 x.inputs, .slice p1 x.tables.length c1, .slice p2 x.nodes.length c2, .slice p3 x.outputs.length c3] 34)) := (Below.refl _ _).alloc (Nat.le_refl _) _
  have bx := Box.newAt w [.int .i64 x.inputs, .slice p1 x.tables.length c1, .slice p2 x.nodes.length c2, .slice p3 x.outputs.length c3] 34 rfl
  obtain ⟨g, hg⟩ : ∃ g, g = w.heap.size := ⟨_, rfl⟩
  rw [← hg] at bx
  generalize hE : w.alloc (.cells #[.int .i64 x.inputs, .slice p1 x.tables.length c1, .slice p2 x.nodes.length c2, .slice p3 x.outputs.length c3] 34) = E0 at *
  have HE := Lib.hid hE.symm
  have HG := Lib.hid hg
  have OK := Lib.hid (isPatch_v E0 (hv.below hB0))
  clear hE hg
  have z0 := bx.cell 0 rfl
  have z1 := bx.cell 1 rfl
  have z2 := bx.cell 2 rfl
  have z3 := bx.cell 3 rfl
  cases hF : okB x
  case false =>
    obtain rfl := HR.out _ hF
    rw [hF] at OK
    rw [Bool.false_and]
    go_enter Try.func26, Try.ntmps26
    go_upto_region 1 with fail
    rw [← HE.out, ← HG.out]
    go_wp2_with (go_at_call 54; refine OK.out.mono ?_; rintro e W1 ⟨rfl, hb1⟩)
    go_ret
    exact ⟨rfl, hB0.trans (hb1.mono hB0.size)⟩
  obtain rfl := HR.out _ hF
  rw [hF] at OK
  rw [Bool.true_and]
  have LP := Lib.hid (fun W hW => isLinearPatch_v W ((hv.below hB0).below hW) (okB_len hF).1)
  generalize ((need x).all fun i => linK (nodeAt x.nodes i)) = R at LP ⊢
  clear HR hv
  go_enter Try.func26, Try.ntmps26
  go_upto_region 1 with fail
  rw [← HE.out, ← HG.out]
  go_wp2_with (first | (go_at_call 54; refine OK.out.mono ?_; rintro e W1 ⟨rfl, hb1⟩; have y0 := (bx.below hb1).cell 0 rfl; have y1 := (bx.below hb1).cell 1 rfl; have y2 := (bx.below hb1).cell 2 rfl; have y3 := (bx.below hb1).cell 3 rfl) | (go_at_call 63; refine (LP.out W1 hb1).mono ?_; rintro e W2 ⟨rfl, hb2⟩) | fail)
  go_ret
  exact ⟨rfl, (hB0.trans (hb1.mono hB0.size)).trans (hb2.mono (hB0.trans (hb1.mono hB0.size)).size)⟩
end Go.Proofs.Ytalomhakmfknjaa
