/-
  States of patches: validity; contracts of both sides.
-/
import Derived.Test.YtbjpianbeebmeabPatV
import Derived.Test.YtbjpianbeebmeabPatK
import Derived.Test.YtbjpianbeebmeabTyState
namespace Go.Proofs.Ytbjpianbeebmeab
open Go.ChangeShapes Go.WideShapes Go.ChangeAt Go.RowKit Go.Sort
set_option linter.unusedVariables false

/-- is a state valid for nodes? -/
def stB (ns : List NodeD) (rs : List (List Int)) : Bool := decide (rs.length = ns.length) && (ns.zip rs).all fun p => decide (p.2.length = (startL p.1).length) && p.2.all isSmp
def vsB (x : PatchD) (s : StateD) : Bool := okB x && stB x.nodes s.rows
theorem stB_head {ns : List NodeD} {rs : List (List Int)} (h : rs.length ≠ ns.length) : stB ns rs = false := by
  unfold stB; rw [decide_eq_false h]; rfl
theorem stB_bad {ns : List NodeD} {rs : List (List Int)} {k : Nat} (h1 : k < ns.length) (h2 : k < rs.length) (h : (decide ((rs[k]).length = (startL ns[k]).length) && (rs[k]).all isSmp) = false) : stB ns rs = false := by
  unfold stB
  have hz : k < (ns.zip rs).length := by rw [List.length_zip]; omega
  rw [all_false hz (by rw [List.getElem_zip]; exact h), Bool.and_false]
theorem stB_step {ns : List NodeD} {rs : List (List Int)} {k : Nat} (h1 : k < ns.length) (h2 : k < rs.length) (hp : ((ns.zip rs).take k).all (fun p => decide (p.2.length = (startL p.1).length) && p.2.all isSmp) = true) (h : (decide ((rs[k]).length = (startL ns[k]).length) && (rs[k]).all isSmp) = true) :
    ((ns.zip rs).take (k + 1)).all (fun p => decide (p.2.length = (startL p.1).length) && p.2.all isSmp) = true := by
  have hz : k < (ns.zip rs).length := by rw [List.length_zip]; omega
  exact all_step hz hp (by rw [List.getElem_zip]; exact h)
theorem stB_done {ns : List NodeD} {rs : List (List Int)} (hl : rs.length = ns.length) (hp : ((ns.zip rs).take ns.length).all (fun p => decide (p.2.length = (startL p.1).length) && p.2.all isSmp) = true) : stB ns rs = true := by
  unfold stB
  rw [List.take_of_length_le (by rw [List.length_zip]; omega)] at hp
  rw [decide_eq_true hl, hp]; rfl
set_option maxHeartbeats 3200000 in
set_option maxRecDepth 100000 in
theorem isState_v {v v' : Value} {x : PatchD} {s : StateD} (w : World) (h : VPatch w v x) (h' : VState w v' s) (ok : ∀ n ∈ x.nodes, StartOk n) :
    Calls Try.prog 63 #[v, v'] w fun e w' => e = .returned (.bool (stB x.nodes s.rows)) ∧ Below w.heap.size w w' := by
  obtain ⟨p1, c1, p2, c2, p3, c3, rfl, r1, r2, r3⟩ := h
  obtain ⟨q1, d1, rfl, s1⟩ := h'
  have hl2 := r2.len
  have hl3 := s1.len
  unfold maxLen at hl2 hl3
  obtain ⟨g, hg⟩ : ∃ g, g = w.heap.size := ⟨_, rfl⟩
  obtain ⟨E0, hE0⟩ : ∃ E, E = (w.alloc (.cells #[.int .i64 x.inputs, .slice p1 x.tables.length c1, .slice p2 x.nodes.length c2, .slice p3 x.outputs.length c3] 35)).alloc (.cells #[.slice q1 s.rows.length d1] 37) := ⟨_, rfl⟩
  have hB0 : Below w.heap.size w E0 := by rw [hE0]; exact ((Below.refl _ _).alloc (Nat.le_refl _) _).alloc (by simp) _
  have bx : Box E0 g [.int .i64 x.inputs, .slice p1 x.tables.length c1, .slice p2 x.nodes.length c2, .slice p3 x.outputs.length c3] 35 := by rw [hE0, hg]; exact (Box.newAt w _ _ rfl).alloc _
  have bs : Box E0 (g + 1) [.slice q1 s.rows.length d1] 37 := by rw [hE0, hg]; exact Box.newAt (w.alloc _) _ _ (by simp)
  have HE := Lib.hid hE0
  have HG := Lib.hid hg
  clear hE0 hg
  replace r2 := r2.below hB0
  replace s1 := s1.below hB0
  clear r1 r3
  generalize hR0 : stB x.nodes s.rows = R
  have HR1 : Hid (stB x.nodes s.rows = R) := hR0
  clear hR0
  have z2 := bx.cell 2 rfl
  have y0 := bs.cell 0 rfl
  by_cases e1 : s.rows.length = x.nodes.length
  case neg =>
    have hR : R = false := by rw [← HR1.out]; exact stB_head e1
    subst hR
    have n1 : ((s.rows.length : Int) != (x.nodes.length : Int)) = true := by rw [bne_iff_ne]; omega
    clear e1 r2 s1
    go_enter Try.func63, Try.ntmps63
    go_wp2_with fail
    go_ret
    rw [← HE.out]
    exact ⟨rfl, hB0⟩
  have HL := Lib.hid e1
  have n1 : ((s.rows.length : Int) != (x.nodes.length : Int)) = false := by rw [bne_eq_false_iff_eq]; omega
  clear e1
  go_enter Try.func63, Try.ntmps63
  go_wp2_with fail
  rw [← HE.out, ← HG.out]
  clear z2 y0 n1
  go_loopw [17] (fun i wr => ∃ k : Nat, k ≤ x.nodes.length ∧ i = .int .i64 k ∧ ((x.nodes.zip s.rows).take k).all (fun p => decide (p.2.length = (startL p.1).length) && p.2.all isSmp) = true ∧ Below E0.heap.size E0 wr) (fun i _ => x.nodes.length - (intOf i).toNat)
  case atStart => exact ⟨0, Nat.zero_le _, rfl, by simp, Below.refl _ _⟩
  case round =>
    obtain ⟨k, hk, rfl, hall, hbel⟩ := hrel
    have HA := Lib.hid hall; clear hall
    obtain ⟨wi, rfl⟩ : ∃ wi : World, wi = wr := ⟨_, rfl⟩
    by_cases hlt2 : k < x.nodes.length
    · have hlt3 : k < s.rows.length := by have := HL.out; omega
      obtain ⟨b, o, rfl, hb, hc⟩ := (r2.below hbel).pos hlt2
      have hnd := hc k hlt2
      clear hc
      have OKn := Lib.hid (ok _ (List.getElem_mem hlt2))
      have HZ : Hid (∀ bb, (decide ((s.rows[k]).length = (startL x.nodes[k]).length) && (s.rows[k]).all isSmp) = bb → (bb = false → stB x.nodes s.rows = false) ∧ (bb = true → ((x.nodes.zip s.rows).take (k + 1)).all (fun p => decide (p.2.length = (startL p.1).length) && p.2.all isSmp) = true)) := fun bb hbb => ⟨fun e => stB_bad hlt2 hlt3 (hbb.trans e), fun e => stB_step hlt2 hlt3 HA.out (hbb.trans e)⟩
      obtain ⟨b', o', rfl, hb', hc'⟩ := (s1.below hbel).pos hlt3
      have hrow := hc' k hlt3
      clear hc'
      generalize x.nodes[k] = nd at hnd OKn HZ
      generalize s.rows[k] = row at hrow HZ
      obtain ⟨y0, y1, y2, q, d, y3, hr⟩ := hnd
      obtain ⟨q', d', y4, hr'⟩ := hrow
      obtain ⟨F, hF⟩ : ∃ F, F = wi.alloc (.cells #[.int .i64 nd.kind, .int .i64 nd.a, .int .i64 nd.b, .slice q nd.src.length d] 74) := ⟨_, rfl⟩
      obtain ⟨g1, hg1⟩ : ∃ g1, g1 = wi.heap.size := ⟨_, rfl⟩
      have hBF : Below wi.heap.size wi F := by rw [hF]; exact (Below.refl _ _).alloc (Nat.le_refl _) _
      have bn : Box F g1 [.int .i64 nd.kind, .int .i64 nd.a, .int .i64 nd.b, .slice q nd.src.length d] 74 := by rw [hF, hg1]; exact Box.newAt _ _ _ rfl
      have HF := Lib.hid hF
      have HG1 := Lib.hid hg1
      clear hF hg1
      have hbF := hbel.trans (hBF.mono hbel.size)
      have bs1 := bs.below hbF
      have hrF := hr.below hBF
      have hrF' := hr'.below hBF
      have t0 := bs1.cell 0 rfl
      have t1 := (hBF.cell (p := ⟨b', o' + k, none⟩) hb').trans y4
      have t2 := bn.cell 0 rfl
      have t3 := bn.cell 1 rfl
      have t4 := bn.cell 2 rfl
      have t5 := bn.cell 3 rfl
      have lt1 := bs1.lt
      have lt2 := Nat.lt_of_lt_of_le hb' hBF.size
      have lt3 := bn.lt
      have hcur := belowDrew F
      have K0 : Hid (∀ W, Below F.heap.size F W → Calls Try.prog 76 #[.agg #[.int .i64 nd.kind, .int .i64 nd.a, .int .i64 nd.b, .slice q nd.src.length d]] W fun e w' => ∃ p c, e = .returned (.slice p (startL nd).length c) ∧ Below W.heap.size W w') := fun W hW =>
        (start_v (x := nd) W ⟨q, d, rfl, hrF.below hW⟩ OKn.out).mono fun e w' ⟨u, he, ho, hbl⟩ => by
          obtain ⟨p, c, rfl, -⟩ := ho.rd
          exact ⟨p, c, he, hbl⟩
      have K1' : Hid (∀ bb, row.all isSmp = bb → ∀ W, Below F.heap.size F W → Calls Try.prog 44 #[.slice q' row.length d'] W fun e w' => e = .returned (.bool bb) ∧ W = w') := fun bb hbb W hW => by
        rw [← hbb]; exact areSamples_any (c := d') W (hrF'.below hW)
      have hL0 := startL_length OKn.out
      generalize (startL nd).length = m at K0 HZ hL0
      clear hr hr' hrF hrF' bn bs1 y4 hBF
      cases e2 : (decide (row.length = m) && row.all isSmp)
      case false =>
        have hR : R = false := by rw [← HR1.out]; exact (HZ.out _ e2).1 rfl
        subst hR
        by_cases e3 : row.length = m
        case neg =>
          have n2 : ((row.length : Int) != (m : Int)) = true := by rw [bne_iff_ne]; omega
          clear e2 e3 HZ K1'
          go_wp2_with fail
          rw [← HF.out, ← HG1.out]
          clear HF HG1 HE HG
          first | (go_region_with (go_at_call 76; refine (K0.out _ hcur).mono ?_; rintro e W2 ⟨op, oc, rfl, hb⟩; have hcur := hcur.trans (hb.mono hcur.size); have t0 := (hcur.cell (p := ⟨g + 1, 0, none⟩) lt1).trans t0; have t1 := (hcur.cell (p := ⟨b', o' + k, none⟩) lt2).trans t1)) | fail
          all_goals (go_wp2_with fail; go_ret; exact ⟨rfl, hB0.trans ((hbF.trans (hcur.mono hbF.size)).mono hB0.size)⟩)
        have n2 : ((row.length : Int) != (m : Int)) = false := by rw [bne_eq_false_iff_eq]; omega
        have K1 := Lib.hid (K1'.out false (by rw [decide_eq_true e3, Bool.true_and] at e2; exact e2))
        clear e2 e3 HZ K1'
        go_wp2_with fail
        rw [← HF.out, ← HG1.out]
        clear HF HG1 HE HG
        go_region_held3 (fun W => W.cell? ⟨g + 1, 0, none⟩ = some (.slice (some ⟨b', o', none⟩) s.rows.length d1) ∧ W.cell? ⟨b', o' + k, none⟩ = some (.slice q' row.length d') ∧ W.cell? ⟨g1, 0, none⟩ = some (.int .i64 nd.kind) ∧ W.cell? ⟨g1, 1, none⟩ = some (.int .i64 nd.a) ∧ W.cell? ⟨g1, 2, none⟩ = some (.int .i64 nd.b) ∧ W.cell? ⟨g1, 3, none⟩ = some (.slice q nd.src.length d)) (first | go_keep | exact ⟨(hcur.cell (p := ⟨g + 1, 0, none⟩) lt1).trans t0, (hcur.cell (p := ⟨b', o' + k, none⟩) lt2).trans t1, (hcur.cell (p := ⟨g1, 0, none⟩) lt3).trans t2, (hcur.cell (p := ⟨g1, 1, none⟩) lt3).trans t3, (hcur.cell (p := ⟨g1, 2, none⟩) lt3).trans t4, (hcur.cell (p := ⟨g1, 3, none⟩) lt3).trans t5⟩) (first | (go_at_call 76; refine (K0.out _ hcur).mono ?_; rintro e W2 ⟨op, oc, rfl, hb⟩; have hcur := hcur.trans (hb.mono hcur.size)) | (go_at_call 44; refine (K1.out _ hcur).mono ?_; rintro e W2 ⟨rfl, rfl⟩))
        all_goals (go_wp2_with fail; go_ret; exact ⟨rfl, hB0.trans ((hbF.trans (hcur.mono hbF.size)).mono hB0.size)⟩)
      have hZ := Lib.hid ((HZ.out _ e2).2 rfl)
      rw [Bool.and_eq_true, decide_eq_true_iff] at e2
      have n2 : ((row.length : Int) != (m : Int)) = false := by rw [bne_eq_false_iff_eq]; omega
      have K1 := Lib.hid (K1'.out true e2.2)
      clear e2 HZ K1'
      go_wp2_with fail
      rw [← HF.out, ← HG1.out]
      clear HF HG1 HE HG
      go_region_held3 (fun W => W.cell? ⟨g + 1, 0, none⟩ = some (.slice (some ⟨b', o', none⟩) s.rows.length d1) ∧ W.cell? ⟨b', o' + k, none⟩ = some (.slice q' row.length d') ∧ W.cell? ⟨g1, 0, none⟩ = some (.int .i64 nd.kind) ∧ W.cell? ⟨g1, 1, none⟩ = some (.int .i64 nd.a) ∧ W.cell? ⟨g1, 2, none⟩ = some (.int .i64 nd.b) ∧ W.cell? ⟨g1, 3, none⟩ = some (.slice q nd.src.length d)) (first | go_keep | exact ⟨(hcur.cell (p := ⟨g + 1, 0, none⟩) lt1).trans t0, (hcur.cell (p := ⟨b', o' + k, none⟩) lt2).trans t1, (hcur.cell (p := ⟨g1, 0, none⟩) lt3).trans t2, (hcur.cell (p := ⟨g1, 1, none⟩) lt3).trans t3, (hcur.cell (p := ⟨g1, 2, none⟩) lt3).trans t4, (hcur.cell (p := ⟨g1, 3, none⟩) lt3).trans t5⟩) (first | (go_at_call 76; refine (K0.out _ hcur).mono ?_; rintro e W2 ⟨op, oc, rfl, hb⟩; have hcur := hcur.trans (hb.mono hcur.size)) | (go_at_call 44; refine (K1.out _ hcur).mono ?_; rintro e W2 ⟨rfl, rfl⟩))
      all_goals
        have hq := hbF.trans (hcur.mono hbF.size)
        go_wp2_with fail
        go_roundw
        case rel => exact ⟨k + 1, by omega, by go_num, hZ.out, hq⟩
        case measure => simp [intOf] <;> omega
    · obtain rfl : k = x.nodes.length := by omega
      have hR : R = true := by rw [← HR1.out]; exact stB_done HL.out HA.out
      subst hR
      go_wp2_with fail
      go_ret
      exact ⟨rfl, hB0.trans (hbel.mono hB0.size)⟩
end Go.Proofs.Ytbjpianbeebmeab
