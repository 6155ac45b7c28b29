/-
  The walk of the law on filters.
-/
import Derived.Test.YtbjpianbeebmeacFilN
namespace Go.Proofs.Ytbjpianbeebmeac
open Go.ChangeShapes Go.WideShapes Go.ChangeAt Go.RowKit
set_option linter.unusedVariables false
set_option linter.unusedSimpArgs false

theorem OwnT.below {B : Nat} {w w' : World} {x : Value} {ys zs : List Int} (h : OwnT B w x ys zs) (hb : Below w.heap.size w w') : OwnT B w' x ys zs := by
  obtain ⟨u, v, e, h1, h2, h3⟩ := h
  exact ⟨u, v, e, h1.below hb, h2.below hb, h3⟩
def lenV : Value → Nat
  | .slice _ n _ => n
  | _ => 0
theorem v8Same_eq {u v : Value} {xs ys : List Int} (w : World) (h : RdP w u xs) (h' : RdP w v ys) (he : xs = ys) (hl : xs.length ≤ 1048576) :
    Calls Try.prog 10 #[u, v] w fun e w' => e = .returned (.bool true) ∧ Below w.heap.size w w' := by
  subst he
  obtain ⟨p, c, rfl, hr, -⟩ := h
  obtain ⟨q, d, rfl, hr', -⟩ := h'
  exact v8Same_true w hr hr' hl
theorem adL_smp (a b : List Int) (n : Nat) : AllS (adL a b n) := tab_smp _ _
theorem adL_length (a b : List Int) (n : Nat) : (adL a b n).length = n := tab_length _ _
theorem dlL_length (n : Nat) (a : List Int) : (dlL n a).length = n + a.length := by simp [dlL]
set_option maxHeartbeats 4000000 in
set_option maxRecDepth 100000 in
theorem fnFilters_walk (w : World) {v0 : Value} {bs0 : List Int} (h0 : VB w v0 bs0) (hm0 : bs0.length ≤ maxLen) {v1 : Value} {bs1 : List Int} (h1 : VB w v1 bs1) (hm1 : bs1.length ≤ maxLen) :
    Calls Try.prog 3 #[v0, v1] w fun e w' => e = .returned (.bool true) ∧ Below w.heap.size w w' := by
  have hv0 := h0
  obtain ⟨p0, c0, rfl, -⟩ := hv0
  have hv1 := h1
  obtain ⟨p1, c1, rfl, -⟩ := hv1
  have LG := Lib.hid (v8Long_any p0 p1 bs0.length bs1.length c0 c1 w hm0 hm1)
  by_cases hl : ((1048576 : Int) < (bs0.length : Int)) ∨ ((1048576 : Int) < (bs1.length : Int))
  · have e : (decide ((1048576 : Int) < (bs0.length : Int)) || decide ((1048576 : Int) < (bs1.length : Int))) = true := by
      rw [Bool.or_eq_true, decide_eq_true_iff, decide_eq_true_iff]; exact hl
    rw [e] at LG
    clear hl e
    go_enter Try.func3, Try.ntmps3
    go_wp2_with (go_at_call 4; refine LG.out.mono ?_; rintro e w' ⟨rfl, rfl⟩)
    go_ret
    exact ⟨rfl, Below.refl _ _⟩
  have e : (decide ((1048576 : Int) < (bs0.length : Int)) || decide ((1048576 : Int) < (bs1.length : Int))) = false := by
    rw [Bool.or_eq_false_iff, decide_eq_false_iff_not, decide_eq_false_iff_not]; exact not_or.1 hl
  rw [e] at LG
  have l0 : bs0.length ≤ 1048576 := by omega
  have l1 : bs1.length ≤ 1048576 := by omega
  clear hl e hm0 hm1
  go_enter Try.func3, Try.ntmps3
  go_wp2_with fail
  refine LG.out.mono ?_
  rintro e w' ⟨rfl, rfl⟩
  clear LG
  go_wp2_with fail
  refine (e8Transfer_any w h0 l0).mono ?_
  rintro e D1 ⟨tx, tp, td, rfl, ot, tpl, tdl, hb⟩
  have hB1 := hb
  replace h0 := h0.below hb
  replace h1 := h1.below hb
  have hdl : 0 < td.length := by obtain ⟨_, _, -, -, -, -, -, -, hc, -⟩ := ot; exact hc.1
  have hd1 : td.getD 0 0 = 1 := by obtain ⟨_, _, -, -, -, -, -, -, -, hc⟩ := ot; exact hc
  have otx := ot
  obtain ⟨ut, vt, rfl, ou, ov, -⟩ := otx
  obtain ⟨pu, cu, rfl, -⟩ := ou.rd
  obtain ⟨pv, cv', rfl, -⟩ := ov.rd
  obtain ⟨E1, hE1⟩ : ∃ E, E = D1.alloc (.cells #[.slice pu tp.length cu, .slice pv td.length cv'] 26) := ⟨_, rfl⟩
  obtain ⟨g5, hg5⟩ : ∃ g, g = D1.heap.size := ⟨_, rfl⟩
  have hbE : Below D1.heap.size D1 E1 := by rw [hE1]; exact (Below.refl _ _).alloc (Nat.le_refl _) _
  have b5 : Box E1 g5 [.slice pu tp.length cu, .slice pv td.length cv'] 26 := by rw [hE1]; exact Box.newAt D1 _ _ hg5
  have HE1 := Lib.hid hE1
  have HG5 := Lib.hid hg5
  replace h0 := h0.below hbE
  replace h1 := h1.below hbE
  replace ot := ot.below hbE
  have hB := hB1.trans (hbE.mono hB1.size)
  clear hE1 hg5 hb hB1 hbE ou ov
  go_wp2_with fail
  rw [← HE1.out, ← HG5.out]
  refine (e8Signal_any 16 E1 h0 l0 (by omega)).mono ?_
  rintro e E2 ⟨ua, a, rfl, aa, al, oa, hb⟩
  replace h1 := h1.below hb
  have hb12 := hb
  have hz12 := hb.size
  clear hb h0
  go_wp2_with fail
  refine (e8Signal_any 16 E2 h1 l1 (by omega)).mono ?_
  rintro e E3 ⟨ub, b, rfl, ab, bl, ob, hb⟩
  replace h1 := h1.below hb
  have hb13 := hb12.trans (hb.mono hz12)
  have hua : ∀ k, ua.ownBlock = some k → k < E2.heap.size := fun k hk => (oa.lt hk).2
  replace oa := oa.below hb
  have hz23 := hb.size
  clear hb
  go_wp2_with fail
  refine (v8At_any 0 9 E3 h1 l1 (by omega) (by omega) (by omega)).mono ?_
  rintro e w' ⟨nn, hn0, hn9, rfl, rfl⟩
  obtain ⟨n, rfl⟩ : ∃ n : Nat, nn = n := ⟨nn.toNat, by omega⟩
  have hn : n < 9 := by omega
  clear hn0 hn9 h1
  obtain ⟨pa, ca, rfl, -⟩ := oa.rd
  have HOT := Lib.hid ot
  have HB5 := Lib.hid b5
  have HB13 := Lib.hid hb13
  have HB := Lib.hid hB
  have HOA := Lib.hid oa
  have HAA := Lib.hid aa
  have HUA := Lib.hid hua
  clear ot b5 hB oa aa hua hb12 hb13
  go_wp2_with fail
  go_loopw [7] (fun v wr => ∃ ys, OwnI E2.heap.size wr v ys ∧ AllS ys ∧ ys.length ≤ 16 ∧ Below E2.heap.size E3 wr) (fun v _ => a.length - lenV v)
  case atStart => exact ⟨b, ob, ab, bl, Below.refl _ _⟩
  case round =>
    obtain ⟨ys, hown, hys, hyl, hbel⟩ := hrel
    clear ob ab bl
    have HYS := Lib.hid hys
    clear hys
    obtain ⟨pb, cb, rfl, -⟩ := hown.rd
    obtain ⟨wi, rfl⟩ : ∃ wi : World, wi = wr := ⟨_, rfl⟩
    have hsz : E2.heap.size ≤ wi.heap.size := by have := hbel.size; omega
    by_cases hlt : ys.length < a.length
    · have HL1 : Hid ((ys ++ [0]).length = ys.length + 1) := by unfold Hid; simp
      go_wp2_with (at_builtin; refine wpList_append_one rfl _ _ rfl rfl hown rfl hbel (by omega) hsz (Nat.le_refl _) ?_; intro v' w4 hown4 hb4 hz4 hk4; obtain ⟨pb', cb', rfl, -⟩ := hown4.rd)
      go_roundw
      case rel => exact ⟨ys ++ [0], by rw [HL1.out] at hown4; exact hown4, HYS.out.snoc rfl, by rw [HL1.out]; omega, hb4⟩
      case measure => simp only [lenV]; omega
    · have hge : a.length ≤ ys.length := by omega
      have hub : ∀ k, (Value.slice pb ys.length cb).ownBlock = some k → E2.heap.size ≤ k := fun k hk => (hown.lt hk).1
      have oa2 : OwnI E1.heap.size wi (.slice pa a.length ca) a := HOA.out.keep fun k hk => hbel.block k (HUA.out k hk)
      have hdis : ∀ k, (Value.slice pa a.length ca).ownBlock = some k → (Value.slice pb ys.length cb).ownBlock ≠ some k := fun k hk hk2 => by have := HUA.out k hk; have := hub k hk2; omega
      have HAL0 := Lib.hid hge
      have hbe0 : Below E1.heap.size E1 wi := HB13.out.trans (hbel.mono hz12)
      clear hbel hub HOA HUA
      go_wp2_with fail
      clear hlt
      go_loopw [6] (fun v wr => ∃ xs, OwnI E1.heap.size wr v xs ∧ AllS xs ∧ xs.length ≤ ys.length ∧ OwnI E2.heap.size wr (.slice pb ys.length cb) ys ∧ (∀ k, v.ownBlock = some k → (Value.slice pb ys.length cb).ownBlock ≠ some k) ∧ Below E1.heap.size E1 wr) (fun v _ => ys.length - lenV v)
      case atStart => exact ⟨a, oa2, HAA.out, hge, hown, hdis, hbe0⟩
      case round =>
        obtain ⟨xs, hox, hxs, hxl, hoy, hdi, hbe⟩ := hrel
        clear oa2 hge hown hdis hbe0 HAA
        have HXS := Lib.hid hxs
        have HDI := Lib.hid hdi
        have HOY := Lib.hid hoy
        clear hxs hdi hoy
        obtain ⟨px, cx, rfl, -⟩ := hox.rd
        obtain ⟨F0, rfl⟩ : ∃ W : World, W = wr := ⟨_, rfl⟩
        by_cases hlt : xs.length < ys.length
        · have HL1 : Hid ((xs ++ [0]).length = xs.length + 1) := by unfold Hid; simp
          go_wp2_with (at_builtin; refine wpList_append_new rfl _ _ rfl rfl hox rfl hbe (by omega) hbe.size (Nat.le_refl _) ?_; intro v' w4 ho4 hb4 hz4 hk4 hf4; have HF4 := Lib.hid hf4; have HK4 := Lib.hid hk4; clear hf4 hk4; obtain ⟨px', cx', rfl, -⟩ := ho4.rd)
          go_roundw
          case rel =>
            refine ⟨xs ++ [0], by rw [HL1.out] at ho4; exact ho4, HXS.out.snoc rfl, by rw [HL1.out]; omega, HOY.out.keep (fun k hk => HK4.out k (HOY.out.lt hk).2 (fun h => HDI.out k h hk)), fun k hk hk2 => ?_, hb4⟩
            rcases HF4.out k (by rw [HL1.out]; exact hk) with h | h
            · exact HDI.out k h hk2
            · have := (HOY.out.lt hk2).2; omega
          case measure => simp only [lenV]; omega
        · have hle : ys.length = xs.length := by omega
          have HLE := Lib.hid hle
          have hB : Below w.heap.size w F0 := HB.out.trans (hbe.mono HB.out.size)
          have ot := HOT.out.below hbe
          have b5 := HB5.out.below hbe
          have rx := hox.rdP
          have ry := HOY.out.rdP
          have hxl16 : xs.length ≤ 16 := by omega
          clear hle HOY HDI hox hbe HB HOT HB5 HB13 hxl
          go_wp2_with fail
          refine (specAdd_any F0 rx ry HXS.out HYS.out HLE.out (by omega)).mono ?_
          rintro e F1 ⟨uab, rfl, o, hb⟩
          replace ot := ot.below hb
          replace b5 := b5.below hb
          replace rx := rx.below hb
          replace ry := ry.below hb
          replace hB := hB.trans (hb.mono hB.size)
          have rab := o.rdP
          clear o
          clear hb
          have z0b5 := b5.cell 0 rfl
          have z1b5 := b5.cell 1 rfl
          go_wp2_with fail
          clear z0b5 z1b5
          refine (filterSignal_any F1 ot (by omega) (by omega) rx HXS.out (by omega)).mono ?_
          rintro e F2 ⟨ux1, rfl, o, hb⟩
          replace ot := ot.below hb
          replace b5 := b5.below hb
          replace rx := rx.below hb
          replace ry := ry.below hb
          replace rab := rab.below hb
          replace hB := hB.trans (hb.mono hB.size)
          have rX := o.rdP
          clear o
          clear hb
          have z0b5 := b5.cell 0 rfl
          have z1b5 := b5.cell 1 rfl
          go_wp2_with fail
          clear z0b5 z1b5
          refine (filterSignal_any F2 ot (by omega) (by omega) ry HYS.out (by have := HLE.out; omega)).mono ?_
          rintro e F3 ⟨uy1, rfl, o, hb⟩
          replace ot := ot.below hb
          replace b5 := b5.below hb
          replace rx := rx.below hb
          replace ry := ry.below hb
          replace rab := rab.below hb
          replace rX := rX.below hb
          replace hB := hB.trans (hb.mono hB.size)
          have rY := o.rdP
          clear o
          clear hb
          have z0b5 := b5.cell 0 rfl
          have z1b5 := b5.cell 1 rfl
          go_wp2_with fail
          clear z0b5 z1b5
          refine (filterSignal_any F3 ot (by omega) (by omega) rab (adL_smp _ _ _) (by rw [adL_length]; omega)).mono ?_
          rintro e F4 ⟨uz1, rfl, o, hb⟩
          replace ot := ot.below hb
          replace b5 := b5.below hb
          replace rx := rx.below hb
          replace ry := ry.below hb
          replace rab := rab.below hb
          replace rX := rX.below hb
          replace rY := rY.below hb
          replace hB := hB.trans (hb.mono hB.size)
          have rZ := o.rdP
          clear o
          clear hb
          go_wp2_with fail
          refine (specAdd_any F4 rX rY (filL_smp _ _ _) (filL_smp _ _ _) (by rw [filL_length, filL_length]; exact HLE.out) (by rw [filL_length]; omega)).mono ?_
          rintro e F5 ⟨uxy, rfl, o, hb⟩
          replace ot := ot.below hb
          replace b5 := b5.below hb
          replace rx := rx.below hb
          replace ry := ry.below hb
          replace rab := rab.below hb
          replace rX := rX.below hb
          replace rY := rY.below hb
          replace rZ := rZ.below hb
          replace hB := hB.trans (hb.mono hB.size)
          have rXY := o.rdP
          clear o
          clear hb
          go_wp2_with fail
          refine (v8Same_eq F5 rZ rXY (by rw [filL_length, filL_add hdl hd1 HLE.out]) (by rw [filL_length, adL_length]; omega)).mono ?_
          rintro e F6 ⟨rfl, hb⟩
          replace ot := ot.below hb
          replace b5 := b5.below hb
          replace rx := rx.below hb
          replace ry := ry.below hb
          replace rab := rab.below hb
          replace rX := rX.below hb
          replace rY := rY.below hb
          replace rZ := rZ.below hb
          replace rXY := rXY.below hb
          replace hB := hB.trans (hb.mono hB.size)
          clear hb
          clear rZ rXY rY rab ry
          go_wp2_with fail
          refine (specDelay_any n F6 rx HXS.out (by omega)).mono ?_
          rintro e F7 ⟨ula, rfl, o, hb⟩
          replace ot := ot.below hb
          replace b5 := b5.below hb
          replace rx := rx.below hb
          replace rX := rX.below hb
          replace hB := hB.trans (hb.mono hB.size)
          have rL := o.rdP
          clear o
          clear hb
          have HLL : Hid ((dlL n xs).length = n + xs.length) := dlL_length n xs
          have HLS : Hid (AllS (dlL n xs)) := dlL_smp HXS.out
          have z0b5 := b5.cell 0 rfl
          have z1b5 := b5.cell 1 rfl
          go_wp2_with fail
          clear z0b5 z1b5
          refine (filterSignal_any F7 ot (by omega) (by omega) rL HLS.out (by rw [HLL.out]; omega)).mono ?_
          rintro e F8 ⟨uu1, rfl, o, hb⟩
          replace ot := ot.below hb
          replace b5 := b5.below hb
          replace rx := rx.below hb
          replace rX := rX.below hb
          replace rL := rL.below hb
          replace hB := hB.trans (hb.mono hB.size)
          have rU := o.rdP
          clear o
          clear hb
          go_wp2_with fail
          refine (specDelay_any n F8 rX (filL_smp _ _ _) (by rw [filL_length]; omega)).mono ?_
          rintro e F9 ⟨uv1, rfl, o, hb⟩
          replace ot := ot.below hb
          replace b5 := b5.below hb
          replace rx := rx.below hb
          replace rX := rX.below hb
          replace rL := rL.below hb
          replace rU := rU.below hb
          replace hB := hB.trans (hb.mono hB.size)
          have rV := o.rdP
          clear o
          clear hb
          go_wp2_with fail
          refine (lagTransfer_any n F9 (by omega)).mono ?_
          rintro e F10 ⟨lx, rfl, lt, hb⟩
          replace ot := ot.below hb
          replace b5 := b5.below hb
          replace rx := rx.below hb
          replace rX := rX.below hb
          replace rL := rL.below hb
          replace rU := rU.below hb
          replace rV := rV.below hb
          replace hB := hB.trans (hb.mono hB.size)
          clear hb
          have ltx := lt
          obtain ⟨lu, lv, rfl, lou, lov, -⟩ := ltx
          obtain ⟨lpu, lcu, rfl, -⟩ := lou.rd
          obtain ⟨lpv, lcv, rfl, -⟩ := lov.rd
          have HLR : Hid ((List.replicate n (0 : Int) ++ [1]).length = n + 1) := by unfold Hid; simp
          rw [HLR.out] at lt
          have lt : OwnT _ _ (.agg #[.slice lpu (n + 1) lcu, .slice lpv 1 lcv]) (List.replicate n 0 ++ [1]) [1] := lt
          obtain ⟨G, hG⟩ : ∃ G, G = F10.alloc (.cells #[.slice lpu (n + 1) lcu, .slice lpv 1 lcv] 26) := ⟨_, rfl⟩
          obtain ⟨g6, hg6⟩ : ∃ g, g = F10.heap.size := ⟨_, rfl⟩
          have hb : Below F10.heap.size F10 G := by rw [hG]; exact (Below.refl _ _).alloc (Nat.le_refl _) _
          have b6 : Box G g6 [.slice lpu (n + 1) lcu, .slice lpv 1 lcv] 26 := by rw [hG]; exact Box.newAt F10 _ _ hg6
          have HG := Lib.hid hG
          have HG6 := Lib.hid hg6
          replace rL := rL.below hb
          replace rU := rU.below hb
          replace rV := rV.below hb
          replace lt := lt.below hb
          replace hB := hB.trans (hb.mono hB.size)
          clear hb hG hg6 lou lov ot b5 rx rX
          have z0b6 := b6.cell 0 rfl
          have z1b6 := b6.cell 1 rfl
          go_wp2_with fail
          rw [← HG.out, ← HG6.out]
          clear z0b6 z1b6
          refine (filterSignal_any G lt (by rw [HLR.out]; omega) (by simp) rL HLS.out (by rw [HLL.out]; omega)).mono ?_
          rintro e F11 ⟨uw1, rfl, o, hb⟩
          replace rL := rL.below hb
          replace rU := rU.below hb
          replace rV := rV.below hb
          replace lt := lt.below hb
          replace b6 := b6.below hb
          replace hB := hB.trans (hb.mono hB.size)
          have rW := o.rdP
          clear o
          clear hb
          rw [filL_lag n HLS.out] at rW
          go_wp2_with fail
          refine (specDelay_any n F11 rL HLS.out (by rw [HLL.out]; omega)).mono ?_
          rintro e F12 ⟨ut1, rfl, o, hb⟩
          replace rL := rL.below hb
          replace rU := rU.below hb
          replace rV := rV.below hb
          replace lt := lt.below hb
          replace b6 := b6.below hb
          replace rW := rW.below hb
          replace hB := hB.trans (hb.mono hB.size)
          have rT := o.rdP
          clear o
          clear hb
          have HTL : Hid ((dlL n (dlL n xs)).length = n + (n + xs.length)) := by unfold Hid; rw [dlL_length, dlL_length]
          have HWL : Hid (((dlL n (dlL n xs)).take (dlL n xs).length).length = n + xs.length) := by unfold Hid; rw [List.length_take, HTL.out, HLL.out]; omega
          obtain ⟨m, hm⟩ : ∃ m, m = n + xs.length := ⟨_, rfl⟩
          obtain ⟨m2, hm2⟩ : ∃ m2, m2 = n + m := ⟨_, rfl⟩
          have hm25 : m ≤ 25 := by omega
          have hmm : m ≤ m2 := by omega
          have qmm : decide ((m2 : Int) < (m : Int)) = false := decide_eq_false (by omega)
          have HWM : Hid (((dlL n (dlL n xs)).take (dlL n xs).length).length = m) := by unfold Hid; rw [HWL.out, hm]
          have HTM : Hid ((dlL n (dlL n xs)).length = m2) := by unfold Hid; rw [HTL.out, hm2, hm]
          have HLM : Hid ((dlL n xs).length = m) := by unfold Hid; rw [HLL.out, hm]
          clear hm hm2
          obtain ⟨wp, wc, rfl, rW', hwc⟩ := rW
          obtain ⟨qp, qc, rfl, rT', hqc⟩ := rT
          rw [HTM.out] at hqc
          rw [HLM.out] at rW'
          have V8 : Hid (∀ W, Below F12.heap.size F12 W → Calls Try.prog 10 #[.slice wp m wc, .slice qp m qc] W fun e w' => e = .returned (.bool true) ∧ Below W.heap.size W w') := fun W hW => by
            have h := v8Same_true (c := wc) (d := qc) W (rW'.below hW) ((rT'.take m).below hW) (by rw [← HLM.out, HWM.out]; omega)
            rw [← HLM.out, HWM.out] at h; exact h
          rw [HWM.out, HTM.out]
          clear rW' rT' rL lt b6
          have z1 := v8Same_eq F12 rU rV (by rw [filL_delay n hdl hd1]) (by rw [filL_length, HLM.out]; omega)
          go_wp2_with fail
          refine z1.mono ?_
          rintro e F13 ⟨rfl, hb⟩
          have V9 := V8.out F13 hb
          replace hB := hB.trans (hb.mono hB.size)
          clear hb z1 V8 rU rV
          go_wp2_with fail
          refine V9.mono ?_
          rintro e F14 ⟨rfl, hb⟩
          replace hB := hB.trans (hb.mono hB.size)
          go_wp2_with fail
          go_ret
          exact ⟨rfl, hB⟩
end Go.Proofs.Ytbjpianbeebmeac
