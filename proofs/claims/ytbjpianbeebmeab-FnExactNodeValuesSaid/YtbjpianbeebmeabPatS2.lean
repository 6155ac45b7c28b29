/-
  States of patches: validity; contracts of the reference's side, and of both functions.
-/
import Derived.Test.YtbjpianbeebmeabPatSt
namespace Go.Proofs.Ytbjpianbeebmeab
open Go.ChangeShapes Go.WideShapes Go.ChangeAt Go.RowKit Go.Sort
set_option linter.unusedVariables false

set_option maxHeartbeats 3200000 in
set_option maxRecDepth 100000 in
theorem l08Ok_any {g g' : Nat} {x : PatchD} {s : StateD} {q1 : Option Addr} {d1 : Nat} (w : World) (h : PPatch w g x) (hs : Box w g' [.slice q1 s.rows.length d1] 37) (s1 : RdII w q1 s.rows) :
    Calls Try.prog 34 #[.pointer (some ⟨g, 0, none⟩), .pointer (some ⟨g', 0, none⟩)] w fun e w' => e = .returned (.bool (vsB x s)) ∧ Below w.heap.size w w' := by
  have hl3 := s1.len
  have HP := Lib.hid h
  have KO : Hid (∀ b, okB x = b → ∀ n os, Calls Try.prog 52 #[.pointer (some ⟨g, 0, none⟩)] (grow (redrawn w n) os) fun e w'' => e = .returned (.bool b) ∧ ∃ p : Regrown, w'' = grow (redrawn w p.d) p.os) := fun b hb n os => Calls.regrown_of (by rw [← hb]; exact l07Ok_any _ (h.below (below_regrown w n os)))
  obtain ⟨p1, c1, p2, c2, p3, c3, bx, r1, r2, r3⟩ := h
  have hl2 := r2.len
  unfold maxLen at hl2 hl3
  clear r1 r3
  have z2 := cell_regrown (bx.cell 2 rfl)
  have y0 := cell_regrown (hs.cell 0 rfl)
  have HR : Hid (∀ b c, okB x = b → stB x.nodes s.rows = c → vsB x s = (b && c)) := fun b c hb hc => by unfold vsB; rw [hb, hc]
  generalize vsB x s = R at HR ⊢
  cases eo : okB x
  case false =>
    have hR : R = false := by rw [HR.out _ _ eo rfl]; rfl
    subst hR
    have KO1 := Lib.hid (KO.out _ eo)
    clear KO HR eo r2 s1
    go_enter Try.func34, Try.ntmps34
    go_wp2_with fail
    refine wp_region_quiet_below (by kernel_rfl) (by kernel_rfl) ?_
    repeat (first | go_big_quiet_step ((go_at_call 52; exact KO1.out _ _)) | quiet_step ((go_at_call 52; exact KO1.out _ _)))
    refine wpQuiet_nil ?_
    intro _ hw'
    obtain ⟨⟨dq, osq⟩, hw''⟩ := hw'
    subst hw''
    have hq := below_regrown w dq osq
    go_wp2_with fail
    go_ret
    exact ⟨rfl, hq⟩
  have KO1 := Lib.hid (KO.out _ eo)
  have ok := okB_start eo
  have OK := Lib.hid ok
  by_cases e1 : s.rows.length = x.nodes.length
  case neg =>
    have hR : R = false := by rw [HR.out _ _ eo (stB_head e1)]; rfl
    subst hR
    have n1 : ((s.rows.length : Int) != (x.nodes.length : Int)) = true := by rw [bne_iff_ne]; omega
    clear KO HR eo r2 s1 e1 OK ok
    go_enter Try.func34, Try.ntmps34
    go_wp2_with fail
    refine wp_region_quiet_below (by kernel_rfl) (by kernel_rfl) ?_
    repeat (first | go_big_quiet_step ((go_at_call 52; exact KO1.out _ _)) | quiet_step ((go_at_call 52; exact KO1.out _ _)))
    refine wpQuiet_nil ?_
    intro _ hw'
    obtain ⟨⟨dq, osq⟩, hw''⟩ := hw'
    subst hw''
    have hq := below_regrown w dq osq
    go_wp2_with fail
    go_ret
    exact ⟨rfl, hq⟩
  have HR1 : Hid (stB x.nodes s.rows = R) := by unfold Hid; rw [HR.out _ _ eo rfl, Bool.true_and]
  have HL := Lib.hid e1
  have n1 : ((s.rows.length : Int) != (x.nodes.length : Int)) = false := by rw [bne_eq_false_iff_eq]; omega
  clear e1 KO HR eo ok
  go_enter Try.func34, Try.ntmps34
  go_wp2_with fail
  refine wp_region_quiet_below (by kernel_rfl) (by kernel_rfl) ?_
  repeat (first | go_big_quiet_step ((go_at_call 52; exact KO1.out _ _)) | quiet_step ((go_at_call 52; exact KO1.out _ _)))
  refine wpQuiet_nil ?_
  intro _ hw'
  obtain ⟨⟨dq, osq⟩, hw''⟩ := hw'
  subst hw''
  have hq := below_regrown w dq osq
  generalize grow (redrawn w dq) osq = E0 at hq ⊢
  clear z2 y0 KO1
  replace bx := bx.below hq
  replace hs := hs.below hq
  replace r2 := r2.below hq
  replace s1 := s1.below hq
  go_wp2_with fail
  clear n1
  go_loopw [5] (fun i wr => ∃ k : Nat, k ≤ x.nodes.length ∧ i = .int .i64 k ∧ ((x.nodes.zip s.rows).take k).all (fun p => decide (p.2.length = (startL p.1).length) && p.2.all isSmp) = true ∧ Below E0.heap.size E0 wr) (fun i _ => x.nodes.length - (intOf i).toNat)
  case atStart => exact ⟨0, Nat.zero_le _, rfl, by simp, Below.refl _ _⟩
  case round =>
    obtain ⟨k, hk, rfl, hall, hbel⟩ := hrel
    have HA := Lib.hid hall; clear hall
    obtain ⟨F, rfl⟩ : ∃ F : World, F = wr := ⟨_, rfl⟩
    by_cases hlt2 : k < x.nodes.length
    · have hlt3 : k < s.rows.length := by have := HL.out; omega
      obtain ⟨b, o, rfl, hb, hc⟩ := (r2.below hbel).pos hlt2
      have hnd := hc k hlt2
      clear hc
      have OKn := Lib.hid (OK.out _ (List.getElem_mem hlt2))
      have HZ : Hid (∀ bb, (decide ((s.rows[k]).length = (startL x.nodes[k]).length) && (s.rows[k]).all isSmp) = bb → (bb = false → stB x.nodes s.rows = false) ∧ (bb = true → ((x.nodes.zip s.rows).take (k + 1)).all (fun p => decide (p.2.length = (startL p.1).length) && p.2.all isSmp) = true)) := fun bb hbb => ⟨fun e => stB_bad hlt2 hlt3 (hbb.trans e), fun e => stB_step hlt2 hlt3 HA.out (hbb.trans e)⟩
      obtain ⟨b', o', rfl, hb', hc'⟩ := (s1.below hbel).pos hlt3
      have hrow := hc' k hlt3
      clear hc'
      generalize x.nodes[k] = nd at hnd OKn HZ
      generalize s.rows[k] = row at hrow HZ
      obtain ⟨q', d', y4, hr'⟩ := hrow
      have bx1 := bx.below hbel
      have bs1 := hs.below hbel
      have t0 := bs1.cell 0 rfl
      have t1 := y4
      have t2 := bx1.cell 2 rfl
      have lt1 := bs1.lt
      have lt2 := hb'
      have lt3 := bx1.lt
      have hcur := belowDrew F
      have K0 : Hid (∀ W, Below F.heap.size F W → Calls Try.prog 53 #[.pointer (some ⟨b, o + k * 4, none⟩)] W fun e w' => ∃ p c, e = .returned (.slice p (startL nd).length c) ∧ Below W.heap.size W w') := fun W hW =>
        (l06Start_any (x := nd) W (hnd.below hW) OKn.out).mono fun e w' ⟨u, he, ho, hbl⟩ => by
          obtain ⟨p, c, rfl, -⟩ := ho.rd
          exact ⟨p, c, he, hbl⟩
      have K1' : Hid (∀ bb, (decide (row.length ≤ 4000) && row.all isSmp) = bb → ∀ W, Below F.heap.size F W → Calls Try.prog 35 #[.slice q' row.length d'] W fun e w' => e = .returned (.bool bb) ∧ W = w') := fun bb hbb W hW => by
        rw [← hbb]; exact l03Ok_any (c := d') W (hr'.below hW)
      have hL0 := startL_length OKn.out
      generalize (startL nd).length = m at K0 HZ hL0
      clear hr' bx1 bs1 y4 hnd
      cases e2 : (decide (row.length = m) && row.all isSmp)
      case false =>
        have hR : R = false := by rw [← HR1.out]; exact (HZ.out _ e2).1 rfl
        subst hR
        by_cases e3 : row.length = m
        case neg =>
          have n2 : ((row.length : Int) != (m : Int)) = true := by rw [bne_iff_ne]; omega
          clear e2 e3 HZ K1'
          go_wp2_with fail
          first | (go_region_with (go_at_call 53; refine (K0.out _ hcur).mono ?_; rintro e W2 ⟨op, oc, rfl, hb⟩; have hcur := hcur.trans (hb.mono hcur.size); have t0 := (hcur.cell (p := ⟨g', 0, none⟩) lt1).trans t0; have t1 := (hcur.cell (p := ⟨b', o' + k, none⟩) lt2).trans t1; have t2 := (hcur.cell (p := ⟨g, 2, none⟩) lt3).trans t2)) | fail
          all_goals (go_wp2_with fail; go_ret; exact ⟨rfl, hq.trans ((hbel.trans (hcur.mono hbel.size)).mono hq.size)⟩)
        have n2 : ((row.length : Int) != (m : Int)) = false := by rw [bne_eq_false_iff_eq]; omega
        have K1 := Lib.hid (K1'.out false (by rw [decide_eq_true e3, Bool.true_and] at e2; rw [e2, Bool.and_false]))
        clear e2 e3 HZ K1'
        go_wp2_with fail
        go_region_held3 (fun W => W.cell? ⟨g', 0, none⟩ = some (.slice (some ⟨b', o', none⟩) s.rows.length d1) ∧ W.cell? ⟨b', o' + k, none⟩ = some (.slice q' row.length d') ∧ W.cell? ⟨g, 2, none⟩ = some (.slice (some ⟨b, o, none⟩) x.nodes.length c2)) (first | go_keep | exact ⟨(hcur.cell (p := ⟨g', 0, none⟩) lt1).trans t0, (hcur.cell (p := ⟨b', o' + k, none⟩) lt2).trans t1, (hcur.cell (p := ⟨g, 2, none⟩) lt3).trans t2⟩) (first | (go_at_call 53; refine (K0.out _ hcur).mono ?_; rintro e W2 ⟨op, oc, rfl, hb⟩; have hcur := hcur.trans (hb.mono hcur.size)) | (go_at_call 35; refine (K1.out _ hcur).mono ?_; rintro e W2 ⟨rfl, rfl⟩))
        all_goals (go_wp2_with fail; go_ret; exact ⟨rfl, hq.trans ((hbel.trans (hcur.mono hbel.size)).mono hq.size)⟩)
      have hZ := Lib.hid ((HZ.out _ e2).2 rfl)
      rw [Bool.and_eq_true, decide_eq_true_iff] at e2
      have n2 : ((row.length : Int) != (m : Int)) = false := by rw [bne_eq_false_iff_eq]; omega
      have K1 := Lib.hid (K1'.out true (by rw [e2.2, decide_eq_true (by omega : row.length ≤ 4000)]; rfl))
      clear e2 HZ K1'
      go_wp2_with fail
      go_region_held3 (fun W => W.cell? ⟨g', 0, none⟩ = some (.slice (some ⟨b', o', none⟩) s.rows.length d1) ∧ W.cell? ⟨b', o' + k, none⟩ = some (.slice q' row.length d') ∧ W.cell? ⟨g, 2, none⟩ = some (.slice (some ⟨b, o, none⟩) x.nodes.length c2)) (first | go_keep | exact ⟨(hcur.cell (p := ⟨g', 0, none⟩) lt1).trans t0, (hcur.cell (p := ⟨b', o' + k, none⟩) lt2).trans t1, (hcur.cell (p := ⟨g, 2, none⟩) lt3).trans t2⟩) (first | (go_at_call 53; refine (K0.out _ hcur).mono ?_; rintro e W2 ⟨op, oc, rfl, hb⟩; have hcur := hcur.trans (hb.mono hcur.size)) | (go_at_call 35; refine (K1.out _ hcur).mono ?_; rintro e W2 ⟨rfl, rfl⟩))
      all_goals
        have hq2 := hbel.trans (hcur.mono hbel.size)
        go_wp2_with fail
        go_roundw
        case rel => exact ⟨k + 1, by omega, by go_num, hZ.out, hq2⟩
        case measure => simp [intOf] <;> omega
    · obtain rfl : k = x.nodes.length := by omega
      have hR : R = true := by rw [← HR1.out]; exact stB_done HL.out HA.out
      subst hR
      have t2 := (bx.below hbel).cell 2 rfl
      go_wp2_with fail
      go_ret
      exact ⟨rfl, hq.trans (hbel.mono hq.size)⟩
end Go.Proofs.Ytbjpianbeebmeab
