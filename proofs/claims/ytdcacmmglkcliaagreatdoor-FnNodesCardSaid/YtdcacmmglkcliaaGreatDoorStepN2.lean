/-
  StepNode: contract of the program's side.
-/
import Derived.Test.YtdcacmmglkcliaaGreatDoorStepN
import Derived.Lib.QuietBelow
import Derived.Deep.RegionWith
namespace Go.Proofs.YtdcacmmglkcliaaGreatDoor
open Go.ChangeShapes Go.WideShapes Go.ChangeAt Go.RowKit Go.Sort
set_option linter.unusedVariables false

set_option maxHeartbeats 4000000 in
set_option maxRecDepth 100000 in
theorem implStepNode_v {v v1 v2 v3 : Value} {x : NodeD} {tb : List (List Int)} {xs ss : List Int} (w : World) (h : VNode w v x) (h1 : VII w v1 tb) (h2 : VI w v2 xs) (h3 : VIc w v3 ss) :
    Calls Tryz.prog 7 #[v, v1, v2, v3] w (RetS w (snOut x tb xs ss) (snNext x tb xs ss) (snCode x tb xs ss)) := by
  obtain ⟨p, c, rfl, hr⟩ := h
  obtain ⟨pt, ct, rfl, rt⟩ := h1
  obtain ⟨px, cx, rfl, rx⟩ := h2
  obtain ⟨ps, cs, rfl, rs, hcs⟩ := h3
  have hlx := rx.len
  have hls := rs.len
  have hlt := rt.len
  have mlt := rt.len
  have mlx := rx.len
  have mls := hr.len
  unfold maxLen at hlx hls hlt
  have HR : Hid (∀ b1 b2 : Bool, snValid x tb = b1 → stArgB x xs ss = b2 → snOut x tb xs ss = (if b1 && b2 then outP x tb xs ss else 0) ∧ snNext x tb xs ss = (if b1 && b2 then nextP x xs ss (outP x tb xs ss) else []) ∧ snCode x tb xs ss = if b1 then (if b2 then 0 else 2) else 1) := by
    intro b1 b2 e1 e2
    unfold snOut snNext snCode
    rw [e1, e2]
    exact ⟨rfl, rfl, rfl⟩
  have HV : Hid (∀ b, tablesB tb = b → snValid x tb = (b && nodeB x tb.length)) := fun b hb => by unfold snValid; rw [hb]
  have HA : Hid (∀ b1 b2 b3 b4, decide ((xs.length : Int) = inN x) = b1 → decide (ss.length = (startL x).length) = b2 → xs.all isSmp = b3 → ss.all isSmp = b4 → stArgB x xs ss = (((b1 && b2) && b3) && b4)) := by
    intro b1 b2 b3 b4 e1 e2 e3 e4
    unfold stArgB; rw [e1, e2, e3, e4]
  generalize hO : snOut x tb xs ss = RO at HR ⊢
  generalize hN : snNext x tb xs ss = RN at HR ⊢
  generalize hC : snCode x tb xs ss = RC at HR ⊢
  clear hO hN hC
  obtain ⟨g, hg⟩ : ∃ g, g = w.heap.size := ⟨_, rfl⟩
  obtain ⟨E0, hE0⟩ : ∃ E, E = w.alloc (.cells #[.int .i64 x.kind, .int .i64 x.a, .int .i64 x.b, .slice p x.src.length c] 26) := ⟨_, rfl⟩
  have hB0 : Below w.heap.size w E0 := by rw [hE0]; exact (Below.refl _ _).alloc (Nat.le_refl _) _
  have bx : Box E0 g [.int .i64 x.kind, .int .i64 x.a, .int .i64 x.b, .slice p x.src.length c] 26 := by rw [hE0, hg]; exact Box.newAt w _ _ rfl
  have hv : VNode E0 (.agg #[.int .i64 x.kind, .int .i64 x.a, .int .i64 x.b, .slice p x.src.length c]) x := ⟨p, c, rfl, hr.below hB0⟩
  have HE := Lib.hid hE0
  have HG := Lib.hid hg
  clear hE0 hg hr
  have s0 := cell_regrown (bx.cell 0 rfl)
  have s1 := cell_regrown (bx.cell 1 rfl)
  have s2 := cell_regrown (bx.cell 2 rfl)
  have s3 := cell_regrown (bx.cell 3 rfl)
  have K0 : Hid (∀ n os, Calls Tryz.prog 32 #[.slice pt tb.length ct] (grow (redrawn E0 n) os) fun e w'' => e = .returned (.int .i64 (tb.length : Int)) ∧ ∃ p : Regrown, w'' = grow (redrawn E0 p.d) p.os) := fun n os => Calls.regrown_of (Calls.same_below (sizeII_any pt tb.length ct _ mlt))
  have K1 : Hid (∀ bb, nodeB x (tb.length : Int) = bb → ∀ n os, Calls Tryz.prog 31 #[.agg #[.int .i64 x.kind, .int .i64 x.a, .int .i64 x.b, .slice p x.src.length c], .int .i64 (tb.length : Int)] (grow (redrawn E0 n) os) fun e w'' => e = .returned (.bool bb) ∧ ∃ p : Regrown, w'' = grow (redrawn E0 p.d) p.os) := fun bb hbb n os => Calls.regrown_of (by rw [← hbb]; exact isNode_v _ _ (hv.below (below_regrown E0 n os)))
  have K2 : Hid (∀ bb, tablesB tb = bb → ∀ n os, Calls Tryz.prog 30 #[.slice pt tb.length ct] (grow (redrawn E0 n) os) fun e w'' => e = .returned (.bool bb) ∧ ∃ p : Regrown, w'' = grow (redrawn E0 p.d) p.os) := fun bb hbb n os => Calls.regrown_of (Calls.same_below (by rw [← hbb]; exact areTables_any _ ((rt.below hB0).below (below_regrown E0 n os))))
  cases ht : tablesB tb
  case false =>
    have K3 := Lib.hid (K2.out _ ht)
    obtain ⟨rfl, rfl, rfl⟩ := HR.out false _ (by rw [HV.out _ ht]; rfl) rfl
    clear K0 K1 K2 ht
    go_enter Tryz.func7, Tryz.ntmps7
    go_upto_region 1 with fail
    rw [← HE.out, ← HG.out]
    refine wp_region_quiet_below (by kernel_rfl) (by kernel_rfl) ?_
    repeat (first | go_big_quiet_step ((go_at_call 30; exact K3.out _ _)) | quiet_step ((go_at_call 30; exact K3.out _ _)))
    refine wpQuiet_nil ?_
    intro _ hw'
    obtain ⟨⟨dq, osq⟩, hw''⟩ := hw'
    subst hw''
    have hq := hB0.trans ((below_regrown E0 dq osq).mono hB0.size)
    generalize grow (redrawn E0 dq) osq = F2 at hq ⊢
    go_wp2_with fail
    go_ret3
    exact retS_nil hq
  have K3 := Lib.hid (K2.out _ ht)
  cases hv1 : nodeB x (tb.length : Int)
  case false =>
    have K4 := Lib.hid (K1.out _ hv1)
    obtain ⟨rfl, rfl, rfl⟩ := HR.out false _ (by rw [HV.out _ ht, hv1]; rfl) rfl
    clear K1 K2 ht hv1
    go_enter Tryz.func7, Tryz.ntmps7
    go_upto_region 1 with fail
    rw [← HE.out, ← HG.out]
    refine wp_region_quiet_below (by kernel_rfl) (by kernel_rfl) ?_
    repeat (first | go_big_quiet_step ((first | (go_at_call 30; exact K3.out _ _) | (go_at_call 32; exact K0.out _ _) | (go_at_call 31; exact K4.out _ _))) | quiet_step ((first | (go_at_call 30; exact K3.out _ _) | (go_at_call 32; exact K0.out _ _) | (go_at_call 31; exact K4.out _ _))))
    refine wpQuiet_nil ?_
    intro _ hw'
    obtain ⟨⟨dq, osq⟩, hw''⟩ := hw'
    subst hw''
    have hq := hB0.trans ((below_regrown E0 dq osq).mono hB0.size)
    generalize grow (redrawn E0 dq) osq = F2 at hq ⊢
    go_wp2_with fail
    go_ret3
    exact retS_nil hq
  have K4 := Lib.hid (K1.out _ hv1)
  have HRV : Hid (∀ b2, stArgB x xs ss = b2 → RO = (if b2 then outP x tb xs ss else 0) ∧ RN = (if b2 then nextP x xs ss (outP x tb xs ss) else []) ∧ RC = if b2 then 0 else 2) := fun b2 e2 => by
    have := HR.out true b2 (by rw [HV.out _ ht, hv1]; rfl) e2
    simpa using this
  have hkar := hv1
  rw [nodeB_split] at hkar
  simp only [Bool.and_eq_true, beq_iff_eq] at hkar
  obtain ⟨hk, -, hlen, -, -⟩ := hkar
  have K1i := Lib.hid hk
  have OKN := Lib.hid (fun hn hs hx => OutOk.of (xs := xs) (ss := ss) ht hv1 hn hs hx)
  have OK := Lib.hid (startOk_of hv1)
  have HIN : Hid (∀ b : Bool, (x.kind == 1) = b → inN x = if b then 1 else (x.src.length : Int)) := fun b hb => by
    unfold inN
    cases b
    · rw [if_neg (by rw [beq_eq_false_iff_ne] at hb; exact hb)]; simpa using hlen.symm
    · rw [if_pos (by rw [beq_iff_eq] at hb; exact hb)]; rfl
  clear HR HV ht hv1 K1 K2 hk hlen
  cases hk1 : (x.kind == 1)
  all_goals
    have HI := Lib.hid (HIN.out _ hk1)
    first | rw [if_pos rfl] at HI | rw [if_neg (by decide)] at HI
    go_enter Tryz.func7, Tryz.ntmps7
    go_upto_region 1 with fail
    rw [← HE.out, ← HG.out]
    refine wp_region_quiet_below (by kernel_rfl) (by kernel_rfl) ?_
    repeat (first | go_big_quiet_step ((first | (go_at_call 30; exact K3.out _ _) | (go_at_call 32; exact K0.out _ _) | (go_at_call 31; exact K4.out _ _))) | quiet_step ((first | (go_at_call 30; exact K3.out _ _) | (go_at_call 32; exact K0.out _ _) | (go_at_call 31; exact K4.out _ _))))
    refine wpQuiet_nil ?_
    intro _ hw'
    obtain ⟨⟨dq, osq⟩, hw''⟩ := hw'
    subst hw''
    have hq := below_regrown E0 dq osq
    have b2 := bx.below hq
    have hv2 := hv.below hq
    have hb2 := hB0.trans (hq.mono hB0.size)
    generalize grow (redrawn E0 dq) osq = F2 at hb2 b2 hv2 ⊢
    clear hq s0 s1 s2 s3 K0 K3 K4
    have z0 := b2.cell 0 rfl
    have z1 := b2.cell 1 rfl
    have z2 := b2.cell 2 rfl
    have z3 := b2.cell 3 rfl
    have SX := Lib.hid (fun W => sizeI_any px xs.length cx W mlx)
    have SF := Lib.hid (fun W => sizeI_any p x.src.length c W mls)
    by_cases c1 : (xs.length : Int) = inN x
    case neg =>
      have q1 : (((xs.length : Int)) != inN x) = true := by rw [bne_iff_ne]; exact c1
      obtain ⟨rfl, rfl, rfl⟩ := HRV.out false (by rw [HA.out _ _ _ _ (decide_eq_false c1) rfl rfl rfl]; rfl)
      rw [HI.out] at q1
      clear c1
      go_wp2_with (first | (go_at_call_of 33 (Value.slice px xs.length cx); refine (SX.out _).mono ?_; rintro e w' ⟨rfl, rfl⟩) | (go_at_call_of 33 (Value.slice p x.src.length c); refine (SF.out _).mono ?_; rintro e w' ⟨rfl, rfl⟩) | fail)
      go_ret3
      exact retS_nil hb2
    have q1 : (((xs.length : Int)) != inN x) = false := by rw [bne_eq_false_iff_eq]; exact c1
    rw [HI.out] at q1
    have C1 := Lib.hid c1
    clear c1
    have ST := Lib.hid (start_v F2 hv2 OK.out)
    go_wp2_with (first | (go_at_call_of 33 (Value.slice px xs.length cx); refine (SX.out _).mono ?_; rintro e w' ⟨rfl, rfl⟩) | (go_at_call_of 33 (Value.slice p x.src.length c); refine (SF.out _).mono ?_; rintro e w' ⟨rfl, rfl⟩) | fail)
    refine ST.out.mono ?_
    rintro e W4 ⟨u, rfl, hu, hd4⟩
    have b4 := b2.below hd4
    have hv4 := hv2.below hd4
    have hb4 := hb2.trans (hd4.mono hb2.size)
    obtain ⟨uq, uc, rfl, -⟩ := hu.rd
    have hs16 := startL_length OK.out
    clear hd4 hu ST q1 hb2 b2 z0 z1 z2 z3
    generalize hm : (startL x).length = m at hs16 HA OKN ⊢
    clear hm
    by_cases c2 : ss.length = m
    case neg =>
      have q2 : ((ss.length : Int) != (m : Int)) = true := by rw [bne_iff_ne]; omega
      obtain ⟨rfl, rfl, rfl⟩ := HRV.out false (by rw [HA.out _ _ _ _ (decide_eq_true C1.out) (decide_eq_false c2) rfl rfl]; rfl)
      clear c2
      go_wp2_with fail
      go_ret3
      exact retS_nil hb4
    have q2 : ((ss.length : Int) != (m : Int)) = false := by rw [bne_eq_false_iff_eq]; omega
    have C2 := Lib.hid c2
    clear c2
    have AX := Lib.hid (areSamples_any (c := cx) W4 (rx.below hb4))
    have AS := Lib.hid (areSamples_any (c := cs) W4 (rs.below hb4))
    cases c3 : xs.all isSmp
    case false =>
      rw [c3] at AX
      obtain ⟨rfl, rfl, rfl⟩ := HRV.out false (by rw [HA.out _ _ _ _ (decide_eq_true C1.out) (decide_eq_true C2.out) c3 rfl]; rfl)
      clear c3
      go_wp2_with (first | (go_at_call_of 35 (Value.slice px xs.length cx); refine AX.out.mono ?_; rintro e w' ⟨rfl, rfl⟩) | fail)
      go_ret3
      exact retS_nil hb4
    rw [c3] at AX
    have C3 := Lib.hid c3
    clear c3
    cases c4 : ss.all isSmp
    case false =>
      rw [c4] at AS
      obtain ⟨rfl, rfl, rfl⟩ := HRV.out false (by rw [HA.out _ _ _ _ (decide_eq_true C1.out) (decide_eq_true C2.out) C3.out c4]; rfl)
      clear c4
      go_wp2_with (first | (go_at_call_of 35 (Value.slice px xs.length cx); refine AX.out.mono ?_; rintro e w' ⟨rfl, rfl⟩) | (go_at_call_of 35 (Value.slice ps ss.length cs); refine AS.out.mono ?_; rintro e w' ⟨rfl, rfl⟩) | fail)
      go_ret3
      exact retS_nil hb4
    rw [c4] at AS
    obtain ⟨rfl, rfl, rfl⟩ := HRV.out true (by rw [HA.out _ _ _ _ (decide_eq_true C1.out) (decide_eq_true C2.out) C3.out c4]; rfl)
    clear c4
    have ok := OKN.out C1.out C2.out C3.out
    have hs16' : ss.length ≤ 16 := by rw [C2.out]; exact hs16
    have F1 := Lib.hid (step_v (ct := ct) (cx := cx) (cs := cs) W4 hv4 (rt.below hb4) (rx.below hb4) (rs.below hb4) hcs hs16' ok)
    have z0 := b4.cell 0 rfl
    have z1 := b4.cell 1 rfl
    have z2 := b4.cell 2 rfl
    have z3 := b4.cell 3 rfl
    clear ok OKN OK HRV HA C1 C2 C3
    go_wp2_with (first | (go_at_call_of 35 (Value.slice px xs.length cx); refine AX.out.mono ?_; rintro e w' ⟨rfl, rfl⟩) | (go_at_call_of 35 (Value.slice ps ss.length cs); refine AS.out.mono ?_; rintro e w' ⟨rfl, rfl⟩) | (go_at_call 36; refine F1.out.mono ?_; rintro e W7 ⟨z, rfl, hz, hd7⟩) | fail)
    go_ret3
    exact retS_mk hb4 hz hd7
end Go.Proofs.YtdcacmmglkcliaaGreatDoor
