/-
  Patches: well-formedness on the program's side.
-/
import Derived.Test.YtdcacmmglkcliaaGreatDoorPatF
namespace Go.Proofs.YtdcacmmglkcliaaGreatDoor
open Go.ChangeShapes Go.WideShapes Go.ChangeAt Go.RowKit Go.Sort
set_option linter.unusedVariables false

theorem sizeN_any (p : Option Addr) (n c : Nat) (w : World) (hn : n ≤ maxLen) :
    Calls Tryz.prog 121 #[.slice p n c] w fun e w' => e = .returned (.int .i64 n) ∧ w = w' := by
  unfold maxLen at hn
  go_enter Tryz.func121, Tryz.ntmps121
  go_wp2
  go_ret
  exact ⟨rfl, rfl⟩
set_option maxHeartbeats 6400000 in
set_option maxRecDepth 100000 in
theorem isWellFormed_v {v : Value} {x : PatchD} (w : World) (h : VPatch w v x) :
    Calls Tryz.prog 97 #[v] w fun e w' => e = .returned (.bool (formedB x)) ∧ Below w.heap.size w w' := by
  obtain ⟨p1, c1, p2, c2, p3, c3, rfl, r1, r2, r3⟩ := h
  have hl1 := r1.len
  have hl2 := r2.len
  have hl3 := r3.len
  have hm1 := r1.len
  have hm2 := r2.len
  have hm3 := r3.len
  unfold maxLen at hl1 hl2 hl3
  have HR : Hid (∀ b1 b2 b3 b4 b5 b6, inB x.inputs 0 4 = b1 → tablesB x.tables = b2 → decide (x.nodes.length ≤ 24) = b3 → decide (x.outputs.length ≤ 4) = b4 → x.nodes.all (ndB x.inputs x.tables.length x.nodes.length) = b5 → x.outputs.all (fun f => inB f 0 (x.nodes.length - 1)) = b6 → formedB x = (b1 && b2 && b3 && b4 && b5 && b6)) := by
    intro b1 b2 b3 b4 b5 b6 h1 h2 h3 h4 h5 h6
    subst h1 h2 h3 h4 h5 h6; rfl
  generalize formedB x = R at HR ⊢
  obtain ⟨E0, hE0⟩ : ∃ E, E = w.alloc (.cells #[.int .i64 x.inputs, .slice p1 x.tables.length c1, .slice p2 x.nodes.length c2, .slice p3 x.outputs.length c3] 46) := ⟨_, rfl⟩
  have hB0 : Below w.heap.size w E0 := by rw [hE0]; exact (Below.refl _ _).alloc (Nat.le_refl _) _
  have bx : Box E0 w.heap.size [.int .i64 x.inputs, .slice p1 x.tables.length c1, .slice p2 x.nodes.length c2, .slice p3 x.outputs.length c3] 46 := by rw [hE0]; exact Box.newAt w _ _ rfl
  have HE := Lib.hid hE0
  clear hE0
  replace r1 := r1.below hB0
  replace r2 := r2.below hB0
  replace r3 := r3.below hB0
  have z0 := bx.cell 0 rfl
  have z1 := bx.cell 1 rfl
  have z2 := bx.cell 2 rfl
  have z3 := bx.cell 3 rfl
  have SN := Lib.hid (sizeN_any p2 x.nodes.length c2 E0 hm2)
  have SO := Lib.hid (sizeI_any p3 x.outputs.length c3 E0 hm3)
  have TB := Lib.hid (areTables_any (c := c1) E0 r1)
  have AI := Lib.hid (areIndices_any (c := c3) (x.nodes.length : Int) E0 r3 (by omega) (by omega))
  cases e1 : inB x.inputs 0 4
  case false =>
    have hR : R = false := by rw [HR.out _ _ _ _ _ _ e1 rfl rfl rfl rfl rfl]; rfl
    subst hR
    go_enter Tryz.func97, Tryz.ntmps97
    go_upto_region 1 with fail
    rw [← HE.out]
    go_wp2_with (first | (go_at_call 121; refine SN.out.mono ?_; rintro e w' ⟨rfl, rfl⟩) | (go_at_call 73; refine (within_any _ _ _ _).mono ?_; rintro e w' ⟨rfl, rfl⟩))
    go_ret
    exact ⟨rfl, hB0⟩
  cases e2 : tablesB x.tables
  case false =>
    rw [e2] at TB
    have hR : R = false := by rw [HR.out _ _ _ _ _ _ e1 e2 rfl rfl rfl rfl]; rfl
    subst hR
    clear e2
    go_enter Tryz.func97, Tryz.ntmps97
    go_upto_region 1 with fail
    rw [← HE.out]
    go_wp2_with (first | (go_at_call 121; refine SN.out.mono ?_; rintro e w' ⟨rfl, rfl⟩) | (go_at_call 73; refine (within_any _ _ _ _).mono ?_; rintro e w' ⟨rfl, rfl⟩) | (go_at_call 30; refine TB.out.mono ?_; rintro e w' ⟨rfl, rfl⟩))
    go_ret
    exact ⟨rfl, hB0⟩
  rw [e2] at TB
  by_cases h3 : x.nodes.length ≤ 24
  case neg =>
    have hR : R = false := by rw [HR.out _ _ _ _ _ _ e1 e2 (decide_eq_false h3) rfl rfl rfl]; rfl
    subst hR
    clear e2
    go_enter Tryz.func97, Tryz.ntmps97
    go_upto_region 1 with fail
    rw [← HE.out]
    go_wp2_with (first | (go_at_call 121; refine SN.out.mono ?_; rintro e w' ⟨rfl, rfl⟩) | (go_at_call 73; refine (within_any _ _ _ _).mono ?_; rintro e w' ⟨rfl, rfl⟩) | (go_at_call 30; refine TB.out.mono ?_; rintro e w' ⟨rfl, rfl⟩))
    go_ret
    exact ⟨rfl, hB0⟩
  by_cases h4 : x.outputs.length ≤ 4
  case neg =>
    have hR : R = false := by rw [HR.out _ _ _ _ _ _ e1 e2 (decide_eq_true h3) (decide_eq_false h4) rfl rfl]; rfl
    subst hR
    clear e2
    go_enter Tryz.func97, Tryz.ntmps97
    go_upto_region 1 with fail
    rw [← HE.out]
    go_wp2_with (first | (go_at_call 121; refine SN.out.mono ?_; rintro e w' ⟨rfl, rfl⟩) | (go_at_call 73; refine (within_any _ _ _ _).mono ?_; rintro e w' ⟨rfl, rfl⟩) | (go_at_call 30; refine TB.out.mono ?_; rintro e w' ⟨rfl, rfl⟩) | (go_at_call 33; refine SO.out.mono ?_; rintro e w' ⟨rfl, rfl⟩))
    go_ret
    exact ⟨rfl, hB0⟩
  cases e6 : x.outputs.all (fun f => inB f 0 ((x.nodes.length : Int) - 1))
  case false =>
    rw [e6] at AI
    have hR : R = false := by rw [HR.out _ _ _ _ _ _ e1 e2 (decide_eq_true h3) (decide_eq_true h4) rfl e6]; simp
    subst hR
    clear e2 e6
    go_enter Tryz.func97, Tryz.ntmps97
    go_upto_region 1 with fail
    rw [← HE.out]
    go_wp2_with (first | (go_at_call 121; refine SN.out.mono ?_; rintro e w' ⟨rfl, rfl⟩) | (go_at_call 73; refine (within_any _ _ _ _).mono ?_; rintro e w' ⟨rfl, rfl⟩) | (go_at_call 30; refine TB.out.mono ?_; rintro e w' ⟨rfl, rfl⟩) | (go_at_call 33; refine SO.out.mono ?_; rintro e w' ⟨rfl, rfl⟩) | (go_at_call 122; refine AI.out.mono ?_; rintro e w' ⟨rfl, rfl⟩))
    go_ret
    exact ⟨rfl, hB0⟩
  rw [e6] at AI
  have HR2 : Hid (∀ b5, x.nodes.all (ndB x.inputs x.tables.length x.nodes.length) = b5 → R = b5) := by
    intro b5 h5
    rw [HR.out _ _ _ _ _ _ e1 e2 (decide_eq_true h3) (decide_eq_true h4) h5 e6]; simp
  clear e2 e6 HR
  go_enter Tryz.func97, Tryz.ntmps97
  go_upto_region 1 with fail
  rw [← HE.out]
  go_wp2_with (first | (go_at_call 121; refine SN.out.mono ?_; rintro e w' ⟨rfl, rfl⟩) | (go_at_call 73; refine (within_any _ _ _ _).mono ?_; rintro e w' ⟨rfl, rfl⟩) | (go_at_call 30; refine TB.out.mono ?_; rintro e w' ⟨rfl, rfl⟩) | (go_at_call 33; refine SO.out.mono ?_; rintro e w' ⟨rfl, rfl⟩) | (go_at_call 122; refine AI.out.mono ?_; rintro e w' ⟨rfl, rfl⟩))
  clear z0 z1 z2 z3 TB r1 r3 e1 SN SO AI HE
  go_loopw [39] (fun i wr => ∃ k : Nat, k ≤ x.nodes.length ∧ i = .int .i64 k ∧ (x.nodes.take k).all (ndB x.inputs x.tables.length x.nodes.length) = true ∧ Below E0.heap.size E0 wr) (fun i _ => x.nodes.length - (intOf i).toNat)
  case atStart => exact ⟨0, Nat.zero_le _, rfl, by simp, Below.refl _ _⟩
  case round =>
    obtain ⟨k, hk, rfl, hall, hbel⟩ := hrel
    have HA := Lib.hid hall; clear hall
    obtain ⟨wi, rfl⟩ : ∃ wi : World, wi = wr := ⟨_, rfl⟩
    by_cases hlt2 : k < x.nodes.length
    · obtain ⟨b, o, rfl, hb, hc⟩ := (r2.below hbel).pos hlt2
      have hnd := hc k hlt2
      clear hc
      generalize hx : x.nodes[k] = nd at hnd
      have HX := Lib.hid hx; clear hx
      obtain ⟨y0, y1, y2, q, d, y3, hr⟩ := hnd
      obtain ⟨F, hF⟩ : ∃ F, F = wi.alloc (.cells #[.int .i64 nd.kind, .int .i64 nd.a, .int .i64 nd.b, .slice q nd.src.length d] 26) := ⟨_, rfl⟩
      have hBF : Below wi.heap.size wi F := by rw [hF]; exact (Below.refl _ _).alloc (Nat.le_refl _) _
      have bn : Box F wi.heap.size [.int .i64 nd.kind, .int .i64 nd.a, .int .i64 nd.b, .slice q nd.src.length d] 26 := by rw [hF]; exact Box.newAt _ _ _ rfl
      have HF := Lib.hid hF
      have hbF := hbel.trans (hBF.mono hbel.size)
      have bx1 := bx.below hbF
      have hrF := hr.below hBF
      have s0 := cell_regrown (bx1.cell 0 rfl)
      have s1 := cell_regrown (bx1.cell 1 rfl)
      have t0 := cell_regrown (bn.cell 0 rfl)
      have t1 := cell_regrown (bn.cell 1 rfl)
      have t2 := cell_regrown (bn.cell 2 rfl)
      have t3 := cell_regrown (bn.cell 3 rfl)
      have K0 : Hid (∀ n os, Calls Tryz.prog 32 #[.slice p1 x.tables.length c1] (grow (redrawn F n) os) fun e w'' => e = .returned (.int .i64 (x.tables.length : Int)) ∧ ∃ p : Regrown, w'' = grow (redrawn F p.d) p.os) := fun n os => Calls.regrown_of (Calls.same_below (sizeII_any p1 x.tables.length c1 _ hm1))
      have K1 : Hid (∀ bb, nodeB nd (x.tables.length : Int) = bb → ∀ n os, Calls Tryz.prog 31 #[.agg #[.int .i64 nd.kind, .int .i64 nd.a, .int .i64 nd.b, .slice q nd.src.length d], .int .i64 (x.tables.length : Int)] (grow (redrawn F n) os) fun e w'' => e = .returned (.bool bb) ∧ ∃ p : Regrown, w'' = grow (redrawn F p.d) p.os) := fun bb hbb n os => Calls.regrown_of (by rw [← hbb]; exact isNode_v _ _ ⟨q, d, rfl, hrF.below (below_regrown F n os)⟩)
      have K3 : Hid (∀ bb, nd.src.all (fun f => inB f 0 ((x.nodes.length : Int) - 1)) = bb → ∀ n os, Calls Tryz.prog 122 #[.slice q nd.src.length d, .int .i64 (x.nodes.length : Int)] (grow (redrawn F n) os) fun e w'' => e = .returned (.bool bb) ∧ ∃ p : Regrown, w'' = grow (redrawn F p.d) p.os) := fun bb hbb n os => Calls.regrown_of (Calls.same_below (by rw [← hbb]; exact areIndices_any _ _ (hrF.below (below_regrown F n os)) (by omega) (by omega)))
      clear hF hr hBF bn bx1 hrF
      cases eN : nodeB nd (x.tables.length : Int)
      case false =>
        have K2 := Lib.hid (K1.out _ eN)
        have hR : R = false := HR2.out _ (all_false hlt2 (by rw [HX.out]; unfold ndB; rw [eN]; rfl))
        subst hR
        clear eN K1 K3
        go_wp2_with fail
        rw [← HF.out]
        refine wp_region_quiet_below (by kernel_rfl) (by kernel_rfl) ?_
        repeat (first | go_big_quiet_step ((first | (go_at_call 32; exact K0.out _ _) | (go_at_call 31; exact K2.out _ _))) | quiet_step ((first | (go_at_call 32; exact K0.out _ _) | (go_at_call 31; exact K2.out _ _))))
        refine wpQuiet_nil ?_
        intro _ hw'
        obtain ⟨⟨dq, osq⟩, hw''⟩ := hw'
        subst hw''
        have hq := hbF.trans ((below_regrown F dq osq).mono hbF.size)
        go_wp2_with fail
        go_ret
        exact ⟨rfl, hB0.trans (hq.mono hB0.size)⟩
      have K2 := Lib.hid (K1.out _ eN)
      have HN := Lib.hid eN
      clear eN K1
      cases eI : nd.src.all (fun f => inB f 0 ((x.nodes.length : Int) - 1))
      case false =>
        have K4 := Lib.hid (K3.out _ eI)
        have hR : R = false := HR2.out _ (all_false hlt2 (by rw [HX.out]; unfold ndB; rw [eI, Bool.and_false]))
        subst hR
        clear eI K3
        go_wp2_with fail
        rw [← HF.out]
        refine wp_region_quiet_below (by kernel_rfl) (by kernel_rfl) ?_
        repeat (first | go_big_quiet_step ((first | (go_at_call 32; exact K0.out _ _) | (go_at_call 31; exact K2.out _ _) | (go_at_call 122; exact K4.out _ _))) | quiet_step ((first | (go_at_call 32; exact K0.out _ _) | (go_at_call 31; exact K2.out _ _) | (go_at_call 122; exact K4.out _ _))))
        refine wpQuiet_nil ?_
        intro _ hw'
        obtain ⟨⟨dq, osq⟩, hw''⟩ := hw'
        subst hw''
        have hq := hbF.trans ((below_regrown F dq osq).mono hbF.size)
        go_wp2_with fail
        go_ret
        exact ⟨rfl, hB0.trans (hq.mono hB0.size)⟩
      have K4 := Lib.hid (K3.out _ eI)
      have HI := Lib.hid eI
      clear eI K3
      by_cases hin : nd.kind = 1 ∧ x.inputs ≤ nd.a
      · have q1 : (nd.kind == 1) = true := by rw [beq_iff_eq]; exact hin.1
        have q2 := hin.2
        have hR : R = false := HR2.out _ (all_false hlt2 (by rw [HX.out]; unfold ndB; rw [HN.out, q1, decide_eq_true q2]; rfl))
        subst hR
        clear hin
        go_wp2_with fail
        rw [← HF.out]
        refine wp_region_quiet_below (by kernel_rfl) (by kernel_rfl) ?_
        repeat (first | go_big_quiet_step ((first | (go_at_call 32; exact K0.out _ _) | (go_at_call 31; exact K2.out _ _) | (go_at_call 122; exact K4.out _ _))) | quiet_step ((first | (go_at_call 32; exact K0.out _ _) | (go_at_call 31; exact K2.out _ _) | (go_at_call 122; exact K4.out _ _))))
        refine wpQuiet_nil ?_
        intro _ hw'
        obtain ⟨⟨dq, osq⟩, hw''⟩ := hw'
        subst hw''
        have hq := hbF.trans ((below_regrown F dq osq).mono hbF.size)
        go_wp2_with fail
        go_ret
        exact ⟨rfl, hB0.trans (hq.mono hB0.size)⟩
      have HQ : ((nd.kind == 1) = true ∧ nd.a < x.inputs) ∨ (nd.kind == 1) = false := by
        by_cases k1 : nd.kind = 1
        · exact .inl ⟨by rw [beq_iff_eq]; exact k1, by have := fun h => hin ⟨k1, h⟩; omega⟩
        · exact .inr (by rw [beq_eq_false_iff_ne]; exact k1)
      have HS : Hid ((x.nodes.take (k + 1)).all (ndB x.inputs x.tables.length x.nodes.length) = true) := by
        refine all_step hlt2 HA.out ?_
        rw [HX.out]; unfold ndB; rw [HN.out, HI.out]
        rcases HQ with ⟨_, h⟩ | h
        · rw [decide_eq_false (by omega)]; simp
        · rw [h]; rfl
      clear hin
      rcases HQ with ⟨q1, q2⟩ | q1
      all_goals
        go_wp2_with fail
        rw [← HF.out]
        refine wp_region_quiet_below (by kernel_rfl) (by kernel_rfl) ?_
        repeat (first | go_big_quiet_step ((first | (go_at_call 32; exact K0.out _ _) | (go_at_call 31; exact K2.out _ _) | (go_at_call 122; exact K4.out _ _))) | quiet_step ((first | (go_at_call 32; exact K0.out _ _) | (go_at_call 31; exact K2.out _ _) | (go_at_call 122; exact K4.out _ _))))
        refine wpQuiet_nil ?_
        intro _ hw'
        obtain ⟨⟨dq, osq⟩, hw''⟩ := hw'
        subst hw''
        have hq := hbF.trans ((below_regrown F dq osq).mono hbF.size)
        generalize grow (redrawn F dq) osq = F2 at hq ⊢
        go_wp2_with fail
        go_roundw
        case rel => exact ⟨k + 1, by omega, by go_num, HS.out, hq⟩
        case measure => simp [intOf] <;> omega
    · obtain rfl : k = x.nodes.length := by omega
      have hR : R = true := HR2.out _ (all_done HA.out)
      subst hR
      go_wp2_with fail
      go_ret
      exact ⟨rfl, hB0.trans (hbel.mono hB0.size)⟩
end Go.Proofs.YtdcacmmglkcliaaGreatDoor
