/-
  The walk of the law on loops.
-/
import Derived.Test.YtbjpianbeebmeadFdF
namespace Go.Proofs.Ytbjpianbeebmead
open Go.ChangeShapes Go.WideShapes Go.ChangeAt Go.RowKit
set_option linter.unusedVariables false
set_option linter.unusedSimpArgs false

theorem Below.via {E W W' : World} (h : Below E.heap.size E W) (hb : Below W.heap.size W W') : Below E.heap.size E W' := h.trans (hb.mono h.size)
theorem OwnT.below {B : Nat} {w w' : World} {x : Value} {ys zs : List Int} (h : OwnT B w x ys zs) (hb : Below w.heap.size w w') : OwnT B w' x ys zs := by
  obtain ⟨u, v, e, h1, h2, h3⟩ := h
  exact ⟨u, v, e, h1.below hb, h2.below hb, h3⟩
/-- the cut behind the drawn region -/
def FbCut (E W : World) (s : Nat) (bN bD : List Int) (p : Option Addr) (c : Nat) (q : Option Addr) (d : Nat) : Prop :=
  Box W s [.slice p bN.length c, .slice q bD.length d] 26 ∧ OwnT E.heap.size W (.agg #[.slice p bN.length c, .slice q bD.length d]) bN bD ∧ bN.length ≤ 11 ∧ bD.length ≤ 6 ∧ bN.getD 0 0 = 0 ∧ Below E.heap.size E W
theorem FbCut.drewN {E W : World} {s : Nat} {bN bD : List Int} {p q : Option Addr} {c d : Nat} (h : FbCut E W s bN bD p c q d) (k : Nat) : FbCut E (W.drewN k) s bN bD p c q d := by
  obtain ⟨h1, h2, h3, h4, h5, h6⟩ := h
  exact ⟨h1, h2.below (below_selfN _ _), h3, h4, h5, below_drewN h6 _⟩
theorem OwnT.mono {B B' : Nat} {w : World} {x : Value} {ys zs : List Int} (h : OwnT B w x ys zs) (hB : B' ≤ B) : OwnT B' w x ys zs := by
  obtain ⟨u, v, e, h1, h2, h3⟩ := h
  exact ⟨u, v, e, h1.mono hB, h2.mono hB, h3⟩
theorem OwnT.keep {B : Nat} {w w' : World} {x : Value} {ys zs : List Int} (h : OwnT B w x ys zs) (hk : ∀ k, B ≤ k → k < w.heap.size → w'.heap[k]? = w.heap[k]?) : OwnT B w' x ys zs := by
  obtain ⟨u, v, e, h1, h2, h3⟩ := h
  exact ⟨u, v, e, h1.keep fun k hk' => hk k (h1.lt hk').1 (h1.lt hk').2, h2.keep fun k hk' => hk k (h2.lt hk').1 (h2.lt hk').2, h3⟩
theorem FbCut.late {E W : World} {B : Nat} {bN bD : List Int} {p q : Option Addr} {c d : Nat} (h2 : OwnT B W (.agg #[.slice p bN.length c, .slice q bD.length d]) bN bD) (hB : E.heap.size ≤ B) (h3 : bN.length ≤ 11) (h4 : bD.length ≤ 6) (h5 : bN.getD 0 0 = 0) (h6 : Below E.heap.size E W) :
    FbCut E (W.alloc (.cells #[.slice p bN.length c, .slice q bD.length d] 26)) W.heap.size bN bD p c q d :=
  ⟨Box.new _ _ _, (h2.mono hB).below ((Below.refl _ _).alloc (Nat.le_refl _) _), h3, h4, h5, h6.alloc h6.size _⟩
theorem FbCut.early {E W : World} {B s : Nat} {bN bD : List Int} {p q : Option Addr} {c d : Nat} (bq : Box W s zT 26) (hs : E.heap.size ≤ s) (hsB : s < B) (h2 : OwnT B W (.agg #[.slice p bN.length c, .slice q bD.length d]) bN bD) (h3 : bN.length ≤ 11) (h4 : bD.length ≤ 6) (h5 : bN.getD 0 0 = 0) (h6 : Below E.heap.size E W) :
    FbCut E ((W.setCell ⟨s, 0, none⟩ (.slice p bN.length c)).setCell ⟨s, 1, none⟩ (.slice q bD.length d)) s bN bD p c q d :=
  ⟨(bq.set 0 _).set 1 _, (h2.keep fun k hk hk2 => by
      rw [Below.heap_setCell _ _ _ _ (show k ≠ s by omega), Below.heap_setCell _ _ _ _ (show k ≠ s by omega)]).mono (show E.heap.size ≤ B by omega), h3, h4, h5, (h6.setCell (p := ⟨s, 0, none⟩) hs _).setCell (p := ⟨s, 1, none⟩) hs _⟩
theorem v8Same_eq {u v : Value} {xs ys : List Int} (w : World) (h : RdP w u xs) (h' : RdP w v ys) (he : xs = ys) (hl : xs.length ≤ 1048576) :
    Calls Try.prog 13 #[u, v] w fun e w' => e = .returned (.bool true) ∧ Below w.heap.size w w' := by
  subst he
  obtain ⟨p, c, rfl, hr, -⟩ := h
  obtain ⟨q, d, rfl, hr', -⟩ := h'
  exact v8Same_true w hr hr' hl
theorem adL_smp (a b : List Int) (n : Nat) : AllS (adL a b n) := tab_smp _ _
theorem adL_length (a b : List Int) (n : Nat) : (adL a b n).length = n := tab_length _ _
theorem dlL_length (n : Nat) (a : List Int) : (dlL n a).length = n + a.length := by simp [dlL]
set_option maxHeartbeats 4000000 in
set_option maxRecDepth 100000 in
theorem fnFeedback_walk (w : World) {v0 : Value} {bs0 : List Int} (h0 : VB w v0 bs0) (hm0 : bs0.length ≤ maxLen) {v1 : Value} {bs1 : List Int} (h1 : VB w v1 bs1) (hm1 : bs1.length ≤ maxLen) :
    Calls Try.prog 3 #[v0, v1] w fun e w' => e = .returned (.bool true) ∧ Below w.heap.size w w' := by
  have hv0 := h0
  obtain ⟨p0, c0, rfl, -⟩ := hv0
  have hv1 := h1
  obtain ⟨p1, c1, rfl, -⟩ := hv1
  have LG := Lib.hid (v8Long_any p0 p1 bs0.length bs1.length c0 c1 w hm0 hm1)
  by_cases hl : ((1048576 : Int) < (bs0.length : Int)) ∨ ((1048576 : Int) < (bs1.length : Int))
  · have e : (decide ((1048576 : Int) < (bs0.length : Int)) || decide ((1048576 : Int) < (bs1.length : Int))) = true := by
      rw [Bool.or_eq_true, decide_eq_true_iff, decide_eq_true_iff]; exact hl
    rw [e] at LG
    clear hl e
    go_enter Try.func3, Try.ntmps3
    go_wp2_with (go_at_call 4; refine LG.out.mono ?_; rintro e w' ⟨rfl, rfl⟩)
    go_ret
    exact ⟨rfl, Below.refl _ _⟩
  have e : (decide ((1048576 : Int) < (bs0.length : Int)) || decide ((1048576 : Int) < (bs1.length : Int))) = false := by
    rw [Bool.or_eq_false_iff, decide_eq_false_iff_not, decide_eq_false_iff_not]; exact not_or.1 hl
  rw [e] at LG
  have l0 : bs0.length ≤ 1048576 := by omega
  have l1 : bs1.length ≤ 1048576 := by omega
  clear hl e hm0 hm1
  go_enter Try.func3, Try.ntmps3
  go_wp2_with fail
  refine LG.out.mono ?_
  rintro e w' ⟨rfl, rfl⟩
  clear LG
  go_wp2_with fail
  refine (e8Transfer_any w h0 l0).mono ?_
  rintro e D1 ⟨tx, tp, td, rfl, ot, tpl, tdl, hb⟩
  have hB1 := hb
  replace h0 := h0.below hb
  replace h1 := h1.below hb
  have hdl : 0 < td.length := by obtain ⟨_, _, -, -, -, -, -, -, hc, -⟩ := ot; exact hc.1
  have hd1 : td.getD 0 0 = 1 := by obtain ⟨_, _, -, -, -, -, -, -, -, hc⟩ := ot; exact hc
  have otx := ot
  obtain ⟨ut, vt, rfl, ou, ov, -⟩ := otx
  obtain ⟨pu, cu, rfl, -⟩ := ou.rd
  obtain ⟨pv, cv', rfl, -⟩ := ov.rd
  obtain ⟨E1, hE1⟩ : ∃ E, E = D1.alloc (.cells #[.slice pu tp.length cu, .slice pv td.length cv'] 26) := ⟨_, rfl⟩
  obtain ⟨g5, hg5⟩ : ∃ g, g = D1.heap.size := ⟨_, rfl⟩
  have hbE : Below D1.heap.size D1 E1 := by rw [hE1]; exact (Below.refl _ _).alloc (Nat.le_refl _) _
  have b5 : Box E1 g5 [.slice pu tp.length cu, .slice pv td.length cv'] 26 := by rw [hE1]; exact Box.newAt D1 _ _ hg5
  have HE1 := Lib.hid hE1
  have HG5 := Lib.hid hg5
  replace h0 := h0.below hbE
  replace h1 := h1.below hbE
  replace ot := ot.below hbE
  have hB := hB1.trans (hbE.mono hB1.size)
  clear hE1 hg5 hb hB1 hbE ou ov
  go_wp2_with fail
  rw [← HE1.out, ← HG5.out]
  refine (v8At_any 0 5 E1 h1 l1 (by omega) (by omega) (by omega)).mono ?_
  rintro e w' ⟨nn, hn0, hn9, rfl, rfl⟩
  obtain ⟨n, rfl⟩ : ∃ n : Nat, nn = n := ⟨nn.toNat, by omega⟩
  have hn : n < 5 := by omega
  clear hn0 hn9
  have LT : Hid (∀ W, Calls Try.prog 6 #[.int .i64 (1 + (n : Int))] W fun e w' => ∃ x, e = .returned (.tuple #[x, .int .i64 0]) ∧ OwnT W.heap.size w' x (List.replicate (n + 1) 0 ++ [1]) [1] ∧ Below W.heap.size W w') := fun W => by
    have := lagTransfer_any (n + 1) W (by omega)
    rwa [show ((n + 1 : Nat) : Int) = 1 + (n : Int) by omega] at this
  go_wp2_with fail
  refine (LT.out _).mono ?_
  rintro e D2 ⟨lx, rfl, lt, hb⟩
  replace h0 := h0.below hb
  replace h1 := h1.below hb
  replace ot := ot.below hb
  replace b5 := b5.below hb
  replace hB := hB.trans (hb.mono hB.size)
  clear hb LT
  have HLR : Hid ((List.replicate (n + 1) (0 : Int) ++ [1]).length = n + 2) := by unfold Hid; simp
  have ltx := lt
  obtain ⟨lu, lv, rfl, lou, lov, -⟩ := ltx
  obtain ⟨lpu, lcu, rfl, -⟩ := lou.rd
  obtain ⟨lpv, lcv, rfl, -⟩ := lov.rd
  clear lou lov
  rw [HLR.out] at lt ⊢
  have lt : OwnT _ _ (.agg #[.slice lpu (n + 2) lcu, .slice lpv 1 lcv]) (List.replicate (n + 1) 0 ++ [1]) [1] := lt
  obtain ⟨E2, hE2⟩ : ∃ E, E = D2.alloc (.cells #[.slice lpu (n + 2) lcu, .slice lpv 1 lcv] 26) := ⟨_, rfl⟩
  obtain ⟨g6, hg6⟩ : ∃ g, g = D2.heap.size := ⟨_, rfl⟩
  have hbE : Below D2.heap.size D2 E2 := by rw [hE2]; exact (Below.refl _ _).alloc (Nat.le_refl _) _
  have b6 : Box E2 g6 [.slice lpu (n + 2) lcu, .slice lpv 1 lcv] 26 := by rw [hE2]; exact Box.newAt D2 _ _ hg6
  have HE2 := Lib.hid hE2
  have HG6 := Lib.hid hg6
  replace h0 := h0.below hbE
  replace h1 := h1.below hbE
  replace ot := ot.below hbE
  replace lt := lt.below hbE
  replace b5 := b5.below hbE
  replace hB := hB.trans (hbE.mono hB.size)
  clear hE2 hg6 hbE
  have E8T := Lib.hid (fun W (hW : Below E2.heap.size E2 W) => e8Transfer_any W (h1.below hW) l1)
  have CK : Hid (∀ W, Below E2.heap.size E2 W → W.cell? ⟨g6, 0, none⟩ = some (.slice lpu (n + 2) lcu) ∧ W.cell? ⟨g6, 1, none⟩ = some (.slice lpv 1 lcv)) := fun W hW => ⟨(b6.below hW).cell 0 rfl, (b6.below hW).cell 1 rfl⟩
  have LR := Lib.hid (fun W (hW : Below E2.heap.size E2 W) => (lt.below hW).rdT (by rw [HLR.out]; omega) (by simp))
  have CSC : Hid (∀ V W (x : Value) (ys zs : List Int), Below E2.heap.size E2 V → RdT V x ys zs → ys.length ≤ 5 → zs.length ≤ 5 → Below V.heap.size V W → Calls Try.prog 8 #[x, .agg #[.slice lpu (n + 2) lcu, .slice lpv 1 lcv]] W fun e w' => ∃ p c q d bN bD, e = .returned (.tuple #[.agg #[.slice p bN.length c, .slice q bD.length d], .int .i64 0]) ∧ OwnT W.heap.size w' (.agg #[.slice p bN.length c, .slice q bD.length d]) bN bD ∧ bN.length ≤ 11 ∧ bD.length ≤ 6 ∧ bN.getD 0 0 = 0 ∧ Below W.heap.size W w' ∧ Below V.heap.size V w') := fun V W x ys zs hV hx hy hz hW => by
    refine (cascade_any W (hx.below hW) (LR.out W (Below.via hV hW)) (by rw [HLR.out]; omega) (by simp; omega)).mono ?_
    rintro e w' ⟨z, rfl, oz, hb⟩
    obtain ⟨zu, zv, rfl, zou, zov, -⟩ := id oz
    obtain ⟨p, c, rfl, -⟩ := zou.rd
    obtain ⟨q, d, rfl, -⟩ := zov.rd
    have c1 : Canon ys := by obtain ⟨_, _, _, _, -, -, -, -, -, h, -⟩ := hx; exact h.1
    have c2 : Canon zs := by obtain ⟨_, _, _, _, -, -, -, -, -, -, h, -⟩ := hx; exact h.1
    refine ⟨p, c, q, d, _, _, rfl, oz, ?_, ?_, ?_, hb, Below.via hW hb⟩
    · have := mulL_len ys (List.replicate (n + 1) 0 ++ [1]) c1.1; rw [HLR.out] at this; omega
    · have := mulL_len zs [1] c2.1; simp at this; omega
    · rw [mulL_get, cv_first]
      have : (List.replicate (n + 1) (0 : Int) ++ [1]).getD 0 0 = 0 := by rw [List.replicate_succ]; rfl
      rw [this, Int.mul_zero]; rfl
  have hg6l : g6 < E2.heap.size := b6.lt
  clear b6 lt h1 LR
  go_upto_region 5 with fail
  try rw [← HE2.out, ← HG6.out]
  go_cut [8, 9] (fun s8 s9 wr => ∃ s bN bD p c q d, s8 = .pointer (some ⟨s, 0, none⟩) ∧ s9 = .int .i64 0 ∧ FbCut E2 wr s bN bD p c q d)
  case first =>
    obtain ⟨z0, z1⟩ := CK.out E2 (Below.refl _ _)
    clear h0 ot b5
    go_wp2_with fail
    go_region_law (first | (go_simp; go_at_call 5; refine (E8T.out _ (by (repeat (first | exact Below.refl _ _ | assumption | refine Below.setCell ?_ (by first | exact Nat.le_refl _ | omega | (simp; done) | (simp; omega)) _ | refine Below.alloc ?_ (by first | exact Nat.le_refl _ | omega | (simp; done) | (simp; omega)) _ | refine below_drewN ?_ _)))).mono ?_; rintro e W1 ⟨x, ys, zs, rfl, ox, yl, zl, hb⟩; (first | (have bq : Box W1 E2.heap.size zT 26 := (by first | exact Box.below (w := E2.drew.alloc _) (Box.newAt E2.drew zT _ rfl) hb | exact Box.below (w := E2.alloc _) (Box.newAt E2 zT _ rfl) hb); have hsb : E2.heap.size ≤ E2.heap.size := Nat.le_refl _; have hs1 : E2.heap.size < W1.heap.size := bq.lt) | skip); have hcur : Below E2.heap.size E2 W1 := Below.via (by (repeat (first | exact Below.refl _ _ | assumption | refine Below.setCell ?_ (by first | exact Nat.le_refl _ | omega | (simp; done) | (simp; omega)) _ | refine Below.alloc ?_ (by first | exact Nat.le_refl _ | omega | (simp; done) | (simp; omega)) _ | refine below_drewN ?_ _))) hb; clear hb; have hg61 : g6 < W1.heap.size := Nat.lt_of_lt_of_le hg6l hcur.size; obtain ⟨xu, xv, rfl, xou, xov, -⟩ := id ox; obtain ⟨xpu, xcu, rfl, -⟩ := xou.rd; obtain ⟨xpv, xcv, rfl, -⟩ := xov.rd; clear xou xov; obtain ⟨z0, z1⟩ := CK.out W1 hcur) | (go_simp; go_at_call 8; refine (CSC.out W1 _ _ _ _ hcur (ox.rdT (by omega) (by omega)) yl zl (by (repeat (first | exact Below.refl _ _ | assumption | refine Below.setCell ?_ (by first | exact Nat.le_refl _ | omega | (simp; done) | (simp; omega)) _ | refine Below.alloc ?_ (by first | exact Nat.le_refl _ | omega | (simp; done) | (simp; omega)) _ | refine below_drewN ?_ _)))).mono ?_; rintro e W2 ⟨p, c, q, d, bN, bD, rfl, oR, nl, dl, n0, hbb, hb⟩; (first | (have bq : Box W2 W1.heap.size zT 26 := (by first | exact Box.below (w := W1.alloc _) (Box.newAt W1 zT _ rfl) hbb | exact Box.below (w := W1.drew.alloc _) (Box.newAt W1.drew zT _ rfl) hbb); have hsb : E2.heap.size ≤ W1.heap.size := hcur.size; have hs1 : W1.heap.size < W1.heap.size + 1 := Nat.lt_succ_self _) | (have bq := bq.below hb) | skip); have hcur2 : Below E2.heap.size E2 W2 := Below.via hcur hb; have hcs2 := hcur.size; (try (have tq0 := bq.cell 0 rfl; have fq0 := bq.frozen 0; have tq1 := bq.cell 1 rfl; have fq1 := bq.frozen 1))) | fail)
    all_goals
      go_wp2_with fail
      go_meet
      refine ⟨_, bN, bD, p, c, q, d, rfl, rfl, ?_⟩
      first
        | exact FbCut.early bq hsb (by first | exact hs1 | (simp; done) | (simp; omega)) oR nl dl n0 hcur2
        | exact FbCut.late oR (by first | exact hcs2 | (simp; omega)) nl dl n0 hcur2
        | exact (FbCut.early bq hsb (by first | exact hs1 | (simp; done) | (simp; omega)) oR nl dl n0 hcur2).drewN _
        | exact (FbCut.late oR (by first | exact hcs2 | (simp; omega)) nl dl n0 hcur2).drewN _
        | fail
  case rest =>
  obtain ⟨g8, bN, bD, p, c, q, d, rfl, rfl, b8, ob, nl, dl, n0, hb⟩ := hcut
  obtain ⟨F0, rfl⟩ : ∃ F, F = wc := ⟨_, rfl⟩
  replace h0 := h0.below hb
  replace ot := ot.below hb
  replace b5 := b5.below hb
  replace hB := hB.trans (hb.mono hB.size)
  clear hb CK E8T CSC
  have HBN := Lib.hid n0
  clear n0
  have z0b5 := b5.cell 0 rfl
  have z1b5 := b5.cell 1 rfl
  have z0b8 := b8.cell 0 rfl
  have z1b8 := b8.cell 1 rfl
  go_wp2_with fail
  clear z0b5 z1b5
  clear z0b8 z1b8
  refine (feedback_any F0 (ot.rdT (by omega) (by omega)) (ob.rdT (by omega) (by omega)) (by omega) (by omega) (by omega) HBN.out).mono ?_
  rintro e F1 ⟨ox, rfl, oo, hb⟩
  replace h0 := h0.below hb
  replace ot := ot.below hb
  replace b5 := b5.below hb
  replace b8 := b8.below hb
  replace ob := ob.below hb
  replace hB := hB.trans (hb.mono hB.size)
  clear hb
  have HLD : Hid ((mulL tp bD).length ≤ 16 ∧ (addL (mulL td bD) (mulL tp bN) (-1)).length ≤ 16) := by
    have c1 : Canon tp := by obtain ⟨_, _, -, -, -, -, -, h, -⟩ := ot; exact h
    have x1 := mulL_len tp bD c1.1
    have x2 := mulL_len tp bN c1.1
    have x3 := mulL_len td bD hdl
    have x4 : 1 ≤ (mulL td bD).length := trimL_ne _
    have x5 := addL_len (mulL td bD) (mulL tp bN) (-1) x4
    constructor <;> omega
  have HL0 : Hid (0 < (addL (mulL td bD) (mulL tp bN) (-1)).length) := trimL_ne _
  have HL1 : Hid ((addL (mulL td bD) (mulL tp bN) (-1)).getD 0 0 = 1) := by obtain ⟨_, _, -, -, -, -, -, -, -, h⟩ := oo; exact h
  have hbl : 0 < bD.length := by obtain ⟨_, _, -, -, -, -, -, -, h, -⟩ := ob; exact h.1
  have hb1 : bD.getD 0 0 = 1 := by obtain ⟨_, _, -, -, -, -, -, -, -, h⟩ := ob; exact h
  have HLAW := Lib.hid (fun x : List Int => loop_law (aN := tp) (aD := td) (bN := bN) (bD := bD) (lN := mulL tp bD) (lD := addL (mulL td bD) (mulL tp bN) (-1)) (x := x) hdl hd1 hbl hb1 HL0.out HL1.out (fun i => by unfold gd; rw [mulL_get, smp_smp]) (fun i => by unfold gd; rw [addL_get, mulL_get, mulL_get, smp_smp, show (-1 : Int) * smp (cv (fun i => tp.getD i 0) (fun i => bN.getD i 0) i) = -smp (cv (fun i => tp.getD i 0) (fun i => bN.getD i 0) i) by omega, ← Int.sub_eq_add_neg, smp_subl, smp_subr]))
  generalize mulL tp bD = lN at *
  generalize addL (mulL td bD) (mulL tp bN) (-1) = lD at *
  obtain ⟨ou1, ov1, rfl, oou, oov, -⟩ := id oo
  obtain ⟨opu, ocu, rfl, -⟩ := oou.rd
  obtain ⟨opv, ocv, rfl, -⟩ := oov.rd
  clear oou oov
  obtain ⟨G, hG⟩ : ∃ G, G = F1.alloc (.cells #[.slice opu lN.length ocu, .slice opv lD.length ocv] 26) := ⟨_, rfl⟩
  obtain ⟨g10, hg10⟩ : ∃ g, g = F1.heap.size := ⟨_, rfl⟩
  have hb : Below F1.heap.size F1 G := by rw [hG]; exact (Below.refl _ _).alloc (Nat.le_refl _) _
  have b10 : Box G g10 [.slice opu lN.length ocu, .slice opv lD.length ocv] 26 := by rw [hG]; exact Box.newAt F1 _ _ hg10
  have HG := Lib.hid hG
  have HG10 := Lib.hid hg10
  replace h0 := h0.below hb
  replace ot := ot.below hb
  replace b5 := b5.below hb
  replace b8 := b8.below hb
  replace ob := ob.below hb
  replace oo := oo.below hb
  replace hB := hB.trans (hb.mono hB.size)
  clear hb hG hg10
  go_wp2_with fail
  rw [← HG.out, ← HG10.out]
  refine (e8Signal_any 20 G h0 l0 (by omega)).mono ?_
  rintro e F2 ⟨ux, x, rfl, xa, xl, o, hb⟩
  replace h0 := h0.below hb
  replace ot := ot.below hb
  replace b5 := b5.below hb
  replace b8 := b8.below hb
  replace ob := ob.below hb
  replace oo := oo.below hb
  replace b10 := b10.below hb
  replace hB := hB.trans (hb.mono hB.size)
  have rx := o.rdP
  clear o
  clear hb
  have HXA := Lib.hid xa
  clear xa h0
  have z0b10 := b10.cell 0 rfl
  have z1b10 := b10.cell 1 rfl
  go_wp2_with fail
  clear z0b10 z1b10
  refine (filterSignal_any F2 oo (by have := HLD.out.1; omega) (by have := HLD.out.2; omega) rx HXA.out (by omega)).mono ?_
  rintro e F3 ⟨uy, rfl, o, hb⟩
  replace ot := ot.below hb
  replace b5 := b5.below hb
  replace b8 := b8.below hb
  replace ob := ob.below hb
  replace oo := oo.below hb
  replace b10 := b10.below hb
  replace rx := rx.below hb
  replace hB := hB.trans (hb.mono hB.size)
  have rY := o.rdP
  clear o
  clear hb
  have z0b8 := b8.cell 0 rfl
  have z1b8 := b8.cell 1 rfl
  go_wp2_with fail
  clear z0b8 z1b8
  refine (filterSignal_any F3 ob (by omega) (by omega) rY (filL_smp _ _ _) (by rw [filL_length]; omega)).mono ?_
  rintro e F4 ⟨uk, rfl, o, hb⟩
  replace ot := ot.below hb
  replace b5 := b5.below hb
  replace b8 := b8.below hb
  replace ob := ob.below hb
  replace oo := oo.below hb
  replace b10 := b10.below hb
  replace rx := rx.below hb
  replace rY := rY.below hb
  replace hB := hB.trans (hb.mono hB.size)
  have rK := o.rdP
  clear o
  clear hb
  go_wp2_with fail
  refine (specAdd_any F4 rx rK HXA.out (filL_smp _ _ _) (by rw [filL_length, filL_length]) (by omega)).mono ?_
  rintro e F5 ⟨ui, rfl, o, hb⟩
  replace ot := ot.below hb
  replace b5 := b5.below hb
  replace b8 := b8.below hb
  replace ob := ob.below hb
  replace oo := oo.below hb
  replace b10 := b10.below hb
  replace rx := rx.below hb
  replace rY := rY.below hb
  replace rK := rK.below hb
  replace hB := hB.trans (hb.mono hB.size)
  have rI := o.rdP
  clear o
  clear hb
  have z0b5 := b5.cell 0 rfl
  have z1b5 := b5.cell 1 rfl
  go_wp2_with fail
  clear z0b5 z1b5
  refine (filterSignal_any F5 ot (by omega) (by omega) rI (adL_smp _ _ _) (by rw [adL_length]; omega)).mono ?_
  rintro e F6 ⟨uo, rfl, o, hb⟩
  replace ot := ot.below hb
  replace b5 := b5.below hb
  replace b8 := b8.below hb
  replace ob := ob.below hb
  replace oo := oo.below hb
  replace b10 := b10.below hb
  replace rx := rx.below hb
  replace rY := rY.below hb
  replace rK := rK.below hb
  replace rI := rI.below hb
  replace hB := hB.trans (hb.mono hB.size)
  have rO := o.rdP
  clear o
  clear hb
  rw [HLAW.out] at rO
  have V8 := v8Same_eq F6 rO rY rfl (by rw [filL_length]; omega)
  obtain ⟨yp, yc, rfl, -, -⟩ := rY
  obtain ⟨xp, xc, rfl, -, -⟩ := rx
  have HFL : Hid ((filL lN lD x).length = x.length) := filL_length _ _ _
  rw [HFL.out] at V8 ⊢
  have q : ((x.length : Int) == (x.length : Int)) = true := by simp
  clear rO rI rK
  go_wp2_with fail
  refine V8.mono ?_
  rintro e F9 ⟨rfl, hb⟩
  replace hB := hB.trans (hb.mono hB.size)
  go_wp2_with fail
  go_ret
  exact ⟨rfl, hB⟩
end Go.Proofs.Ytbjpianbeebmead
