/-
  Patches: well-formedness; contracts of both sides.
-/
import Derived.Test.YtdcacmmglkcliaaGreatDoorPat
namespace Go.Proofs.YtdcacmmglkcliaaGreatDoor
open Go.ChangeShapes Go.WideShapes Go.ChangeAt Go.RowKit Go.Sort
set_option linter.unusedVariables false

/-- a patch lies in a block -/
def PPatch (w : World) (g : Nat) (x : PatchD) : Prop := ∃ p1 c1 p2 c2 p3 c3, Box w g [.int .i64 x.inputs, .slice p1 x.tables.length c1, .slice p2 x.nodes.length c2, .slice p3 x.outputs.length c3] 46 ∧ RdII w p1 x.tables ∧ RdNodeS w p2 x.nodes ∧ RdI w p3 x.outputs
theorem PPatch.lt {w : World} {g : Nat} {x : PatchD} (h : PPatch w g x) : g < w.heap.size := by
  obtain ⟨_, _, _, _, _, _, hb, _⟩ := h
  exact hb.lt
theorem PPatch.below {w w' : World} {g : Nat} {x : PatchD} (h : PPatch w g x) (hb : Below w.heap.size w w') : PPatch w' g x := by
  obtain ⟨p1, c1, p2, c2, p3, c3, b, r1, r2, r3⟩ := h
  exact ⟨p1, c1, p2, c2, p3, c3, b.below hb, r1.below hb, r2.below hb, r3.below hb⟩
theorem nodeB_src {x : NodeD} {t : Int} (h : nodeB x t = true) : ∀ f ∈ x.src, 0 ≤ f := by
  unfold nodeB at h
  simp only [Bool.and_eq_true, List.all_eq_true, inB_iff] at h
  intro f hf
  exact (h.1.1.2 f hf).1
set_option maxHeartbeats 6400000 in
set_option maxRecDepth 100000 in
theorem l07Formed_any {g : Nat} {x : PatchD} (w : World) (h : PPatch w g x) :
    Calls Tryz.prog 92 #[.pointer (some ⟨g, 0, none⟩)] w fun e w' => e = .returned (.bool (formedB x)) ∧ Below w.heap.size w w' := by
  have hlt := h.lt
  obtain ⟨p1, c1, p2, c2, p3, c3, bx, r1, r2, r3⟩ := h
  have hl1 := r1.len
  have hl2 := r2.len
  have hl3 := r3.len
  unfold maxLen at hl1 hl2 hl3
  have HR : Hid (∀ b1 b2 b3 b4 b5 b6, inB x.inputs 0 4 = b1 → tablesB x.tables = b2 → decide (x.nodes.length ≤ 24) = b3 → decide (x.outputs.length ≤ 4) = b4 → x.nodes.all (ndB x.inputs x.tables.length x.nodes.length) = b5 → x.outputs.all (fun f => inB f 0 (x.nodes.length - 1)) = b6 → formedB x = (b1 && b2 && b3 && b4 && b5 && b6)) := by
    intro b1 b2 b3 b4 b5 b6 h1 h2 h3 h4 h5 h6
    subst h1 h2 h3 h4 h5 h6; rfl
  generalize formedB x = R at HR ⊢
  have z0 := bx.cell 0 rfl
  have z1 := bx.cell 1 rfl
  have z2 := bx.cell 2 rfl
  have z3 := bx.cell 3 rfl
  have TB := Lib.hid (l06Tables_any (c := c1) w r1)
  cases e1 : inB x.inputs 0 4
  case false =>
    have hR : R = false := by rw [HR.out _ _ _ _ _ _ e1 rfl rfl rfl rfl rfl]; rfl
    subst hR
    go_enter Tryz.func92, Tryz.ntmps92
    go_wp2_with (go_at_call 68; refine (l00In_any _ _ _ _).mono ?_; rintro e w' ⟨rfl, rfl⟩)
    go_ret
    exact ⟨rfl, Below.refl _ _⟩
  cases e2 : tablesB x.tables
  case false =>
    rw [e2] at TB
    have hR : R = false := by rw [HR.out _ _ _ _ _ _ e1 e2 rfl rfl rfl rfl]; rfl
    subst hR
    go_enter Tryz.func92, Tryz.ntmps92
    go_wp2_with (first | (go_at_call 68; refine (l00In_any _ _ _ _).mono ?_; rintro e w' ⟨rfl, rfl⟩) | (go_at_call 116; refine TB.out.mono ?_; rintro e W1 ⟨rfl, hb1⟩))
    go_ret
    exact ⟨rfl, hb1⟩
  rw [e2] at TB
  by_cases h3 : x.nodes.length ≤ 24
  case neg =>
    have hR : R = false := by rw [HR.out _ _ _ _ _ _ e1 e2 (decide_eq_false h3) rfl rfl rfl]; rfl
    subst hR
    clear e2
    go_enter Tryz.func92, Tryz.ntmps92
    go_wp2_with (first | (go_at_call 68; refine (l00In_any _ _ _ _).mono ?_; rintro e w' ⟨rfl, rfl⟩) | (go_at_call 116; refine TB.out.mono ?_; rintro e W1 ⟨rfl, hb1⟩))
    go_ret
    exact ⟨rfl, hb1⟩
  by_cases h4 : x.outputs.length ≤ 4
  case neg =>
    have hR : R = false := by rw [HR.out _ _ _ _ _ _ e1 e2 (decide_eq_true h3) (decide_eq_false h4) rfl rfl]; rfl
    subst hR
    clear e2
    go_enter Tryz.func92, Tryz.ntmps92
    go_wp2_with (first | (go_at_call 68; refine (l00In_any _ _ _ _).mono ?_; rintro e w' ⟨rfl, rfl⟩) | (go_at_call 116; refine TB.out.mono ?_; rintro e W1 ⟨rfl, hb1⟩; have y3 := (bx.below hb1).cell 3 rfl))
    go_ret
    exact ⟨rfl, hb1⟩
  have HR2 : Hid (∀ b5 b6, x.nodes.all (ndB x.inputs x.tables.length x.nodes.length) = b5 → x.outputs.all (fun f => inB f 0 (x.nodes.length - 1)) = b6 → R = (b5 && b6)) := by
    intro b5 b6 h5 h6
    rw [HR.out _ _ _ _ _ _ e1 e2 (decide_eq_true h3) (decide_eq_true h4) h5 h6]; simp
  clear e2 HR
  go_enter Tryz.func92, Tryz.ntmps92
  go_wp2_with (first | (go_at_call 68; refine (l00In_any _ _ _ _).mono ?_; rintro e w' ⟨rfl, rfl⟩) | (go_at_call 116; refine TB.out.mono ?_; rintro e W1 ⟨rfl, hb1⟩; have y3 := (bx.below hb1).cell 3 rfl))
  replace bx := bx.below hb1
  replace r2 := r2.below hb1
  replace r3 := r3.below hb1
  clear z0 z1 z2 z3 y3 TB r1 e1
  go_loopw [4] (fun i wr => ∃ k : Nat, k ≤ x.nodes.length ∧ i = .int .i64 k ∧ (x.nodes.take k).all (ndB x.inputs x.tables.length x.nodes.length) = true ∧ Below W1.heap.size W1 wr) (fun i _ => x.nodes.length - (intOf i).toNat)
  case atStart => exact ⟨0, Nat.zero_le _, rfl, by simp, Below.refl _ _⟩
  case round =>
    obtain ⟨k, hk, rfl, hall, hbel⟩ := hrel
    have HA := Lib.hid hall; clear hall
    obtain ⟨wi, rfl⟩ : ∃ wi : World, wi = wr := ⟨_, rfl⟩
    have bx1 := bx.below hbel
    have z0 := bx1.cell 0 rfl
    have z1 := bx1.cell 1 rfl
    have z2 := bx1.cell 2 rfl
    by_cases hlt2 : k < x.nodes.length
    · obtain ⟨b, o, rfl, hb, hc⟩ := (r2.below hbel).pos hlt2
      have hnd := hc k hlt2
      clear hc
      generalize hx : x.nodes[k] = nd at hnd
      have HX := Lib.hid hx; clear hx
      have HND := Lib.hid hnd
      obtain ⟨y0, y1, y2, q, d, y3, hr⟩ := hnd
      have s0 := cell_regrown z0
      have s1 := cell_regrown z1
      have t0 := cell_regrown y0
      have t1 := cell_regrown y1
      have K1 : Hid (∀ bb, nodeB nd (x.tables.length : Int) = bb → ∀ n os, Calls Tryz.prog 25 #[.pointer (some ⟨b, o + k * 4, none⟩), .int .i64 (x.tables.length : Int)] (grow (redrawn wi n) os) fun e w'' => e = .returned (.bool bb) ∧ ∃ p : Regrown, w'' = grow (redrawn wi p.d) p.os) := fun bb hbb n os => Calls.regrown_of (by rw [← hbb]; exact l06Ok_any _ _ (HND.out.below (below_regrown wi n os)))
      clear z0 z1 y0 y1 y2 y3 hr
      cases eN : nodeB nd (x.tables.length : Int)
      case false =>
        have K2 := Lib.hid (K1.out _ eN)
        have hR : R = false := by rw [HR2.out _ _ (all_false hlt2 (by rw [HX.out]; unfold ndB; rw [eN]; rfl)) rfl]; rfl
        subst hR
        clear eN K1
        go_wp2_with fail
        refine wp_region_quiet_below (by kernel_rfl) (by kernel_rfl) ?_
        repeat (first | go_big_quiet_step ((go_at_call 25; exact K2.out _ _)) | quiet_step ((go_at_call 25; exact K2.out _ _)))
        refine wpQuiet_nil ?_
        intro _ hw'
        obtain ⟨⟨dq, osq⟩, hw''⟩ := hw'
        subst hw''
        have hq := hbel.trans ((below_regrown wi dq osq).mono hbel.size)
        go_wp2_with fail
        go_ret
        exact ⟨rfl, hb1.trans (hq.mono hb1.size)⟩
      have K2 := Lib.hid (K1.out _ eN)
      have HN := Lib.hid eN
      clear eN K1
      by_cases hin : nd.kind = 1 ∧ x.inputs ≤ nd.a
      · have q1 : (nd.kind == 1) = true := by rw [beq_iff_eq]; exact hin.1
        have q2 := hin.2
        have hR : R = false := by
          rw [HR2.out _ _ (all_false hlt2 (by rw [HX.out]; unfold ndB; rw [HN.out, q1, decide_eq_true q2]; rfl)) rfl]; rfl
        subst hR
        clear hin
        go_wp2_with fail
        refine wp_region_quiet_below (by kernel_rfl) (by kernel_rfl) ?_
        repeat (first | go_big_quiet_step ((go_at_call 25; exact K2.out _ _)) | quiet_step ((go_at_call 25; exact K2.out _ _)))
        refine wpQuiet_nil ?_
        intro _ hw'
        obtain ⟨⟨dq, osq⟩, hw''⟩ := hw'
        subst hw''
        have hq := hbel.trans ((below_regrown wi dq osq).mono hbel.size)
        go_wp2_with fail
        go_ret
        exact ⟨rfl, hb1.trans (hq.mono hb1.size)⟩
      have HQ : ((nd.kind == 1) = true ∧ nd.a < x.inputs) ∨ (nd.kind == 1) = false := by
        by_cases k1 : nd.kind = 1
        · exact .inl ⟨by rw [beq_iff_eq]; exact k1, by have := fun h => hin ⟨k1, h⟩; omega⟩
        · exact .inr (by rw [beq_eq_false_iff_ne]; exact k1)
      have HIN : Hid ((!(nd.kind == 1 && decide (x.inputs ≤ nd.a))) = true) := by
        unfold Hid
        rw [Bool.not_eq_true', Bool.and_eq_false_iff]
        rcases HQ with ⟨_, h⟩ | h
        · exact .inr (decide_eq_false (by omega))
        · exact .inl h
      clear hin
      rcases HQ with ⟨q1, q2⟩ | q1
      all_goals
        go_wp2_with fail
        refine wp_region_quiet_below (by kernel_rfl) (by kernel_rfl) ?_
        repeat (first | go_big_quiet_step ((go_at_call 25; exact K2.out _ _)) | quiet_step ((go_at_call 25; exact K2.out _ _)))
        refine wpQuiet_nil ?_
        intro _ hw'
        obtain ⟨⟨dq, osq⟩, hw''⟩ := hw'
        subst hw''
        have hbF := below_regrown wi dq osq
        have hq := hbel.trans (hbF.mono hbel.size)
        have hnF := HND.out.below hbF
        clear hbF s0 s1 t0 t1 z2 bx1 K2 hbel
        generalize grow (redrawn wi dq) osq = F at hq hnF ⊢
        obtain ⟨y0, y1, y2, q', d', y3, hr⟩ := hnF
        have hrl := hr.len
        unfold maxLen at hrl
        go_wp2_with fail
        go_loop [6] (fun j => ∃ jj : Nat, jj ≤ nd.src.length ∧ j = .int .i64 jj ∧ (nd.src.take jj).all (fun f => inB f 0 (x.nodes.length - 1)) = true) (fun j => nd.src.length - (intOf j).toNat)
        case atStart => exact ⟨0, Nat.zero_le _, rfl, by simp⟩
        case round =>
          obtain ⟨jj, hjj, rfl, hal2⟩ := hrel
          have HA2 := Lib.hid hal2; clear hal2
          by_cases hlt3 : jj < nd.src.length
          · obtain ⟨b2, o2, rfl, hb2, hc2⟩ := hr.pos hlt3
            have hck := hc2 jj hlt3
            have hf0 := nodeB_src HN.out _ (List.getElem_mem hlt3)
            clear hc2
            generalize hxf : nd.src[jj] = f at hck hf0
            have HXF := Lib.hid hxf; clear hxf
            by_cases hfn : f < (x.nodes.length : Int)
            · have HS2 := Lib.hid (all_step (f := fun f => inB f 0 ((x.nodes.length : Int) - 1)) hlt3 HA2.out (by rw [HXF.out]; exact inB_true (by omega)))
              go_wp2_with fail
              go_round
              case rel => exact ⟨jj + 1, by omega, by go_num, HS2.out⟩
              case measure => simp [intOf] <;> omega
            · have hR : R = false := by
                rw [HR2.out _ _ (all_false hlt2 (by rw [HX.out]; unfold ndB; rw [all_false hlt3 (by rw [HXF.out]; exact inB_false (by omega)), Bool.and_false])) rfl]; rfl
              subst hR
              go_wp2_with fail
              go_ret
              exact ⟨rfl, hb1.trans (hq.mono hb1.size)⟩
          · obtain rfl : jj = nd.src.length := by omega
            have HS := Lib.hid (all_step (f := ndB x.inputs x.tables.length x.nodes.length) hlt2 HA.out (by rw [HX.out]; unfold ndB; rw [HN.out, HIN.out, all_done HA2.out]; rfl))
            go_wp2_with fail
            go_roundw
            case rel => exact ⟨k + 1, by omega, by go_num, HS.out, hq⟩
            case measure => simp [intOf] <;> omega
    · obtain rfl : k = x.nodes.length := by omega
      have hB2 := hb1.trans (hbel.mono hb1.size)
      have z3 := bx1.cell 3 rfl
      replace r3 := r3.below hbel
      have HN5 := Lib.hid (all_done HA.out)
      go_wp2_with fail
      go_loop [7] (fun j => ∃ jj : Nat, jj ≤ x.outputs.length ∧ j = .int .i64 jj ∧ (x.outputs.take jj).all (fun f => inB f 0 (x.nodes.length - 1)) = true) (fun j => x.outputs.length - (intOf j).toNat)
      case atStart => exact ⟨0, Nat.zero_le _, rfl, by simp⟩
      case round =>
        obtain ⟨jj, hjj, rfl, hal2⟩ := hrel
        have HA2 := Lib.hid hal2; clear hal2
        by_cases hlt3 : jj < x.outputs.length
        · obtain ⟨b2, o2, rfl, hb2, hc2⟩ := r3.pos hlt3
          have hck := hc2 jj hlt3
          clear hc2
          generalize hxf : x.outputs[jj] = f at hck
          have HXF := Lib.hid hxf; clear hxf
          have IN := Lib.hid (l00In_any f 0 ((x.nodes.length : Int) - 1) wi)
          cases hfn : inB f 0 ((x.nodes.length : Int) - 1)
          · rw [hfn] at IN
            have hR : R = false := by rw [HR2.out _ _ HN5.out (all_false hlt3 (by rw [HXF.out]; exact hfn))]; rfl
            subst hR
            clear hfn
            go_wp2_with (go_at_call 68; refine IN.out.mono ?_; rintro e w' ⟨rfl, rfl⟩)
            go_ret
            exact ⟨rfl, hB2⟩
          · rw [hfn] at IN
            have HS2 := Lib.hid (all_step (f := fun f => inB f 0 ((x.nodes.length : Int) - 1)) hlt3 HA2.out (by rw [HXF.out]; exact hfn))
            clear hfn
            go_wp2_with (go_at_call 68; refine IN.out.mono ?_; rintro e w' ⟨rfl, rfl⟩)
            go_round
            case rel => exact ⟨jj + 1, by omega, by go_num, HS2.out⟩
            case measure => simp [intOf] <;> omega
        · obtain rfl : jj = x.outputs.length := by omega
          have hR : R = true := by rw [HR2.out _ _ HN5.out (all_done HA2.out)]; rfl
          subst hR
          go_wp2_with fail
          go_ret
          exact ⟨rfl, hB2⟩
end Go.Proofs.YtdcacmmglkcliaaGreatDoor
