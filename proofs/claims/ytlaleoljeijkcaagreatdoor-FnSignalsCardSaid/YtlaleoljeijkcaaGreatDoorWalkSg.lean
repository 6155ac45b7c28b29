/-
  The walk of the law on signals.
-/
import Derived.Test.YtlaleoljeijkcaaGreatDoorSgD
import Derived.Test.YtlaleoljeijkcaaGreatDoorSgM
namespace Go.Proofs.YtlaleoljeijkcaaGreatDoor
open Go.ChangeShapes Go.WideShapes Go.ChangeAt Go.RowKit
set_option linter.unusedVariables false
set_option linter.unusedSimpArgs false

theorem b10Nums_eq {u v : Value} {xs ys : List Int} (w : World) (h : RdP w u xs) (h' : RdP w v ys) (he : xs = ys) (hl : xs.length ≤ 1048576) :
    Calls Tryz.prog 11 #[u, v] w fun e w' => e = .returned (.bool true) ∧ Below w.heap.size w w' := by
  subst he
  obtain ⟨p, c, rfl, hr, -⟩ := h
  obtain ⟨q, d, rfl, hr', -⟩ := h'
  exact b10Nums_true w hr hr' hl
theorem b10Cut_eq {u : Value} {a : List Int} (n : Nat) (w : World) (h : RdP w u a) (hal : a.length ≤ 1000000) (hn : n ≤ 4000) :
    Calls Tryz.prog 12 #[u, .int .i64 (n : Int)] w fun e w' => ∃ v, e = .returned v ∧ OwnI w.heap.size w' v (slL a 0 n) ∧ Below w.heap.size w w' := by
  obtain ⟨p, c, rfl, hr, -⟩ := h
  exact b10Cut_any n w hr hal hn
set_option maxHeartbeats 16000000 in
set_option maxRecDepth 100000 in
theorem fnSignals_walk (w : World) {v0 : Value} {bs0 : List Int} (h0 : VB w v0 bs0) (hm0 : bs0.length ≤ maxLen) {v1 : Value} {bs1 : List Int} (h1 : VB w v1 bs1) (hm1 : bs1.length ≤ maxLen) (hT : TxtT w) (hE : TxtE w) (hC : TxtC w) :
    Calls Tryz.prog 3 #[v0, v1] w fun e w' => e = .returned (.bool true) ∧ Below w.heap.size w w' := by
  have hv0 := h0
  obtain ⟨p0, c0, rfl, hr0⟩ := hv0
  have hv1 := h1
  obtain ⟨p1, c1, rfl, -⟩ := hv1
  have LG0 := Lib.hid (b10Long_any p0 bs0.length c0 w hm0)
  have LG1 := Lib.hid (b10Long_any p1 bs1.length c1 w hm1)
  by_cases hl0 : (1048576 : Int) < (bs0.length : Int)
  · rw [decide_eq_true hl0] at LG0
    clear hl0 LG1
    go_enter Tryz.func3, Tryz.ntmps3
    go_wp2_with fail
    refine LG0.out.mono ?_
    rintro e w' ⟨rfl, hw⟩
    obtain rfl := hw.symm
    clear LG0
    go_wp2_with fail
    go_ret
    exact ⟨rfl, Below.refl _ _⟩
  rw [decide_eq_false hl0] at LG0
  by_cases hl1 : (1048576 : Int) < (bs1.length : Int)
  · rw [decide_eq_true hl1] at LG1
    clear hl0 hl1
    go_enter Tryz.func3, Tryz.ntmps3
    go_wp2_with fail
    refine LG0.out.mono ?_
    rintro e w' ⟨rfl, hw⟩
    obtain rfl := hw.symm
    clear LG0
    go_wp2_with fail
    refine LG1.out.mono ?_
    rintro e w' ⟨rfl, hw⟩
    obtain rfl := hw.symm
    clear LG1
    go_wp2_with fail
    go_ret
    exact ⟨rfl, Below.refl _ _⟩
  rw [decide_eq_false hl1] at LG1
  have l0 : bs0.length ≤ 1048576 := by omega
  have l1 : bs1.length ≤ 1048576 := by omega
  clear hl0 hl1 hm0 hm1
  have DR := Lib.hid (drawAddSignals_any (c := c0) w hr0 l0)
  clear hr0 h0
  go_enter Tryz.func3, Tryz.ntmps3
  go_wp2_with fail
  refine LG0.out.mono ?_
  rintro e w' ⟨rfl, hw⟩
  obtain rfl := hw.symm
  clear LG0
  go_wp2_with fail
  refine LG1.out.mono ?_
  rintro e w' ⟨rfl, hw⟩
  obtain rfl := hw.symm
  clear LG1
  go_wp2_with fail
  refine DR.out.mono ?_
  rintro e W1 ⟨u, v, a, b, rfl, hla, hlb, oa, ob, hb⟩
  clear DR
  have ra := oa.rdP
  have rb := ob.rdP
  replace h1 := h1.below hb
  replace hT := hT.below hb
  replace hE := hE.below hb
  replace hC := hC.below hb
  have hB := hb
  clear oa ob hb
  have rax := ra
  obtain ⟨pa, ca, rfl, hra, -⟩ := rax
  have rbx := rb
  obtain ⟨pb, cb, rfl, hrb, -⟩ := rbx
  cases hv : (sigB a && sigB b)
  case false =>
    have AD := Lib.hid (addSignals_bad W1 ra rb hv)
    have VA := Lib.hid (specValidSignal_any (c := ca) W1 hra)
    have VB := Lib.hid (specValidSignal_any (c := cb) W1 hrb)
    clear ra rb hra hrb hT hE hC h1
    generalize sigB a = x at *
    generalize sigB b = y at *
    generalize a.length = la at *
    generalize b.length = lb at *
    go_wp2_with fail
    refine AD.out.mono ?_
    rintro e w' ⟨rfl, hw⟩
    obtain rfl := hw.symm
    clear AD
    cases x
    case false =>
      clear hv VB
      go_wp2_with fail
      refine VA.out.mono ?_
      rintro e w' ⟨rfl, hw⟩
      obtain rfl := hw.symm
      clear VA
      go_wp2_with fail
      go_ret
      exact ⟨rfl, hB⟩
    case true =>
      have hy : y = false := by simpa using hv
      subst hy
      clear hv
      go_wp2_with fail
      refine VA.out.mono ?_
      rintro e w' ⟨rfl, hw⟩
      obtain rfl := hw.symm
      clear VA
      go_wp2_with fail
      refine VB.out.mono ?_
      rintro e w' ⟨rfl, hw⟩
      obtain rfl := hw.symm
      clear VB
      go_wp2_with fail
      go_ret
      exact ⟨rfl, hB⟩
  rw [Bool.and_eq_true] at hv
  obtain ⟨sa, sb⟩ := hv
  have qa := (sigB_iff.1 sa).2
  have qb := (sigB_iff.1 sb).2
  clear hla hlb hra hrb
  obtain ⟨n, hn⟩ : ∃ n, n = max a.length b.length := ⟨_, rfl⟩
  have hn4 : n ≤ 4000 := by omega
  have AD := Lib.hid (addSignals_ok W1 ra rb sa sb)
  rw [← hn] at AD
  have sS : sigB (atl a b 1 n) = true := sigB_atl _ _ _ hn4
  have lS : (atl a b 1 n).length = n := atl_length _ _ _ _
  have BK : Hid (∀ W x, RdP W x (atl a b 1 n) → RdP W (.slice pb b.length cb) b → Calls Tryz.prog 8 #[x, .slice pb b.length cb] W fun e w' => ∃ x, e = .returned (.tuple #[x, .int .i64 0]) ∧ OwnI W.heap.size w' x (slL a 0 n) ∧ Below W.heap.size W w') := fun W x hx hy => by
    have := subSignals_ok W hx hy sS sb
    rwa [lS, show max n b.length = n by omega, sig_back (sigB_iff.1 sa).1 hn] at this
  have SC : Hid (∀ g, scL (atl a b 1 n) g = atl (scL a g) (scL b g) 1 n) := fun g => sig_scale a b g hn
  have AY : Hid (∀ g W x y, RdP W x (scL a g) → RdP W y (scL b g) → Calls Tryz.prog 6 #[x, y] W fun e w' => ∃ x, e = .returned (.tuple #[x, .int .i64 0]) ∧ OwnI W.heap.size w' x (atl (scL a g) (scL b g) 1 n) ∧ Below W.heap.size W w') := fun g W x y hx hy => by
    have := addSignals_ok W hx hy (sigB_scL g sa) (sigB_scL g sb)
    rwa [scL_length, scL_length, ← hn] at this
  generalize atl a b 1 n = S at AD sS lS BK SC
  have HN := Lib.hid hn
  clear hn
  go_wp2_with fail
  refine (AD.out).mono ?_
  rintro e W2 ⟨u7, rfl, rS, hb⟩
  replace rS := rS.rdP
  replace ra := ra.below hb
  replace rb := rb.below hb
  replace h1 := h1.below hb
  replace hT := hT.below hb
  replace hE := hE.below hb
  replace hC := hC.below hb
  replace hB := hB.trans (hb.mono hB.size)
  clear hb
  clear AD
  have rx := rS
  obtain ⟨ps, cs, rfl, -, -⟩ := rx
  rw [lS] at rS ⊢
  go_wp2_with fail
  refine (BK.out _ _ rS rb).mono ?_
  rintro e W3 ⟨u10, rfl, rK, hb⟩
  replace rK := rK.rdP
  replace ra := ra.below hb
  replace rb := rb.below hb
  replace h1 := h1.below hb
  replace hT := hT.below hb
  replace hE := hE.below hb
  replace hC := hC.below hb
  replace rS := rS.below hb
  replace hB := hB.trans (hb.mono hB.size)
  clear hb
  clear BK
  go_wp2_with fail
  refine (b10At_any 0 256 _ h1 l1 (by omega) (by omega) (by omega)).mono ?_
  rintro e w' ⟨r0, r0a, r0b, rfl, rfl⟩
  have sg : isSmp (r0 - 128) = true := isSmp_iff.2 (by omega)
  obtain ⟨g, hg⟩ : ∃ g, g = r0 - 128 := ⟨_, rfl⟩
  have hgw : IntKind.i64.wrap (r0 - 128) = g := by rw [hg]; exact wrap_in (by omega) (by omega)
  rw [← hg] at sg
  have HG := Lib.hid hg
  clear hg
  go_upto_region 10 with fail
  go_wp2_with fail
  refine (scaleSignal_ok g _ rS sS sg).mono ?_
  rintro e W4 ⟨u13, rfl, rX, hb⟩
  replace rX := rX.rdP
  replace ra := ra.below hb
  replace rb := rb.below hb
  replace h1 := h1.below hb
  replace hT := hT.below hb
  replace hE := hE.below hb
  replace hC := hC.below hb
  replace rS := rS.below hb
  replace rK := rK.below hb
  replace hB := hB.trans (hb.mono hB.size)
  clear hb
  go_wp2_with fail
  refine (scaleSignal_ok g _ ra sa sg).mono ?_
  rintro e W5 ⟨u15, rfl, rP, hb⟩
  replace rP := rP.rdP
  replace ra := ra.below hb
  replace rb := rb.below hb
  replace h1 := h1.below hb
  replace hT := hT.below hb
  replace hE := hE.below hb
  replace hC := hC.below hb
  replace rS := rS.below hb
  replace rK := rK.below hb
  replace rX := rX.below hb
  replace hB := hB.trans (hb.mono hB.size)
  clear hb
  go_wp2_with fail
  refine (scaleSignal_ok g _ rb sb sg).mono ?_
  rintro e W6 ⟨u17, rfl, rQ, hb⟩
  replace rQ := rQ.rdP
  replace ra := ra.below hb
  replace rb := rb.below hb
  replace h1 := h1.below hb
  replace hT := hT.below hb
  replace hE := hE.below hb
  replace hC := hC.below hb
  replace rS := rS.below hb
  replace rK := rK.below hb
  replace rX := rX.below hb
  replace rP := rP.below hb
  replace hB := hB.trans (hb.mono hB.size)
  clear hb
  go_wp2_with fail
  refine (AY.out g _ _ _ rP rQ).mono ?_
  rintro e W7 ⟨u19, rfl, rY, hb⟩
  replace rY := rY.rdP
  replace ra := ra.below hb
  replace rb := rb.below hb
  replace h1 := h1.below hb
  replace hT := hT.below hb
  replace hE := hE.below hb
  replace hC := hC.below hb
  replace rS := rS.below hb
  replace rK := rK.below hb
  replace rX := rX.below hb
  replace rP := rP.below hb
  replace rQ := rQ.below hb
  replace hB := hB.trans (hb.mono hB.size)
  clear hb
  clear AY rP rQ
  go_wp2_with fail
  refine (b10Cut_eq n _ ra (by omega) hn4).mono ?_
  rintro e W8 ⟨u119, rfl, rC, hb⟩
  replace rC := rC.rdP
  replace ra := ra.below hb
  replace rb := rb.below hb
  replace h1 := h1.below hb
  replace hT := hT.below hb
  replace hE := hE.below hb
  replace hC := hC.below hb
  replace rS := rS.below hb
  replace rK := rK.below hb
  replace rX := rX.below hb
  replace rY := rY.below hb
  replace hB := hB.trans (hb.mono hB.size)
  clear hb
  go_wp2_with fail
  refine (b10Nums_eq _ rK rC rfl (by rw [slL_length]; omega)).mono ?_
  rintro e W9 ⟨rfl, hb⟩
  replace ra := ra.below hb
  replace rb := rb.below hb
  replace h1 := h1.below hb
  replace hT := hT.below hb
  replace hE := hE.below hb
  replace hC := hC.below hb
  replace rS := rS.below hb
  replace rK := rK.below hb
  replace rX := rX.below hb
  replace rY := rY.below hb
  replace rC := rC.below hb
  replace hB := hB.trans (hb.mono hB.size)
  clear hb
  clear rK rC
  go_wp2_with fail
  refine (b10Nums_eq _ rX rY (SC.out g) (by rw [scL_length, lS]; omega)).mono ?_
  rintro e W10 ⟨rfl, hb⟩
  replace ra := ra.below hb
  replace rb := rb.below hb
  replace h1 := h1.below hb
  replace hT := hT.below hb
  replace hE := hE.below hb
  replace hC := hC.below hb
  replace rS := rS.below hb
  replace rX := rX.below hb
  replace rY := rY.below hb
  replace hB := hB.trans (hb.mono hB.size)
  clear hb
  clear rX rY rS rb SC
  go_wp2_with fail
  refine (signalText_ok _ ra sa hT).mono ?_
  rintro e W11 ⟨rfl, hb⟩
  replace ra := ra.below hb
  replace h1 := h1.below hb
  replace hT := hT.below hb
  replace hE := hE.below hb
  replace hC := hC.below hb
  replace hB := hB.trans (hb.mono hB.size)
  clear hb
  go_wp2_with fail
  refine (readSignal_ok _ sa hT hE hC).mono ?_
  rintro e W12 ⟨u21, rfl, rR, hb⟩
  replace rR := rR.rdP
  replace ra := ra.below hb
  replace h1 := h1.below hb
  replace hT := hT.below hb
  replace hE := hE.below hb
  replace hC := hC.below hb
  replace hB := hB.trans (hb.mono hB.size)
  clear hb
  go_wp2_with fail
  refine (b10Nums_eq _ rR ra rfl (by omega)).mono ?_
  rintro e W13 ⟨rfl, hb⟩
  replace ra := ra.below hb
  replace h1 := h1.below hb
  replace hT := hT.below hb
  replace hE := hE.below hb
  replace hC := hC.below hb
  replace rR := rR.below hb
  replace hB := hB.trans (hb.mono hB.size)
  clear hb
  clear rR hT hE hC
  go_wp2_with fail
  refine (b10At_any 1 9 _ h1 l1 (by omega) (by omega) (by omega)).mono ?_
  rintro e w' ⟨r1, r1a, r1b, rfl, rfl⟩
  obtain ⟨k, rfl⟩ : ∃ k : Nat, r1 = k := ⟨r1.toNat, by omega⟩
  by_cases hk : k + a.length ≤ 4000
  · go_wp2_with fail
    refine (delaySignal_ok k _ ra sa hk).mono ?_
    rintro e W14 ⟨u24, rfl, rD, hb⟩
    replace rD := rD.rdP
    replace ra := ra.below hb
    replace h1 := h1.below hb
    replace hB := hB.trans (hb.mono hB.size)
    clear hb
    have SP : Hid (∀ W x, RdP W x (List.replicate k 0 ++ a) → Calls Tryz.prog 16 #[x, .int .i64 (k : Int), .int .i64 (a.length : Int)] W fun e w' => ∃ x, e = .returned (.tuple #[x, .int .i64 0]) ∧ OwnI W.heap.size w' x a ∧ Below W.heap.size W w') := fun W x hx => by
      have := sliceSignal_ok k a.length W hx (dl_sig sa hk) (by omega) (by omega)
      rwa [slL_part] at this
    go_wp2_with fail
    refine (SP.out _ _ rD).mono ?_
    rintro e W15 ⟨u26, rfl, rF, hb⟩
    replace rF := rF.rdP
    replace ra := ra.below hb
    replace h1 := h1.below hb
    replace rD := rD.below hb
    replace hB := hB.trans (hb.mono hB.size)
    clear hb
    clear SP rD
    go_wp2_with fail
    refine (b10Nums_eq _ rF ra rfl (by omega)).mono ?_
    rintro e W16 ⟨rfl, hb⟩
    replace ra := ra.below hb
    replace h1 := h1.below hb
    replace rF := rF.below hb
    replace hB := hB.trans (hb.mono hB.size)
    clear hb
    clear rF
    go_wp2_with fail
    refine (b10At_any 2 ((a.length : Int) + 1) _ h1 l1 (by omega) (by omega) (by omega)).mono ?_
    rintro e w' ⟨r2, r2a, r2b, rfl, rfl⟩
    obtain ⟨m, rfl⟩ : ∃ m : Nat, r2 = m := ⟨r2.toNat, by omega⟩
    have hma : m ≤ a.length := by omega
    have S2 : Hid (∀ W, RdP W (.slice pa a.length ca) a → Calls Tryz.prog 16 #[.slice pa a.length ca, .int .i64 (m : Int), .int .i64 ((a.length : Int) - (m : Int))] W fun e w' => ∃ x, e = .returned (.tuple #[x, .int .i64 0]) ∧ OwnI W.heap.size w' x (slL a m (a.length - m)) ∧ Below W.heap.size W w') := fun W hx => by
      have := sliceSignal_ok m (a.length - m) W hx sa (by omega) (by omega)
      rwa [show ((a.length - m : Nat) : Int) = (a.length : Int) - (m : Int) by omega] at this
    go_wp2_with fail
    refine (sliceSignal_ok 0 m _ ra sa (by omega) (by omega)).mono ?_
    rintro e W17 ⟨u29, rfl, rL, hb⟩
    replace rL := rL.rdP
    replace ra := ra.below hb
    replace h1 := h1.below hb
    replace hB := hB.trans (hb.mono hB.size)
    clear hb
    go_wp2_with fail
    refine (S2.out _ ra).mono ?_
    rintro e W18 ⟨u31, rfl, rM, hb⟩
    replace rM := rM.rdP
    replace ra := ra.below hb
    replace h1 := h1.below hb
    replace rL := rL.below hb
    replace hB := hB.trans (hb.mono hB.size)
    clear hb
    clear S2
    obtain ⟨d, hd⟩ : ∃ d, d = a.length - m := ⟨_, rfl⟩
    have sL := slL_sig sa 0 (n := m) (by omega)
    have sM := slL_sig sa m (n := d) (by omega)
    have HJ : Hid (slL a 0 m ++ slL a m d = a) := by unfold Hid; rw [hd]; exact slL_join a hma
    rw [← hd] at rM
    generalize slL a 0 m = L at *
    generalize slL a m d = M at *
    obtain ⟨pl, cl, rfl, hrl, hcl⟩ := rL
    obtain ⟨pm, cm, rfl, hrm, hcm⟩ := rM
    have II := Lib.hid (rdII_two hrl hrm hcl hcm)
    have JN : Hid (Calls Tryz.prog 17 #[.slice (some ⟨W18.heap.size, 0, none⟩) 2 2] (W18.alloc (.cells #[.slice pl L.length cl, .slice pm M.length cm] 24)) fun e w' => ∃ x, e = .returned (.tuple #[x, .int .i64 0]) ∧ OwnI W18.heap.size w' x a ∧ Below W18.heap.size W18 w') := by
      have hf : [L, M].flatten = a := by rw [← HJ.out]; simp
      have := joinSignals_ok (c := 2) (xss := [L, M]) _ II.out (by intro xs hxs; simp only [List.mem_cons, List.not_mem_nil, or_false] at hxs; rcases hxs with rfl | rfl <;> assumption) (by rw [hf]; exact qa)
      rw [hf] at this
      refine this.mono ?_
      rintro e w' ⟨x, he, ho, hb⟩
      have hb0 : Below W18.heap.size W18 (W18.alloc (.cells #[.slice pl L.length cl, .slice pm M.length cm] 24)) := (Below.refl _ _).alloc (Nat.le_refl _) _
      exact ⟨x, he, ho.mono hb0.size, hb0.trans (hb.mono hb0.size)⟩
    clear II hrl hrm hcl hcm HJ sL sM hd
    generalize L.length = nL at *
    generalize M.length = nM at *
    go_wp2_with fail
    refine (JN.out).mono ?_
    rintro e W19 ⟨u33, rfl, rJ, hb⟩
    replace rJ := rJ.rdP
    replace ra := ra.below hb
    replace h1 := h1.below hb
    replace hB := hB.trans (hb.mono hB.size)
    clear hb
    clear JN
    go_wp2_with fail
    refine (b10Nums_eq _ rJ ra rfl (by omega)).mono ?_
    rintro e W20 ⟨rfl, hb⟩
    replace ra := ra.below hb
    replace h1 := h1.below hb
    replace rJ := rJ.below hb
    replace hB := hB.trans (hb.mono hB.size)
    clear hb
    go_wp2_with fail
    go_ret
    exact ⟨rfl, hB⟩
  · go_wp2_with fail
    refine (delaySignal_bad k _ ra sa (by omega) (by omega)).mono ?_
    rintro e w' ⟨rfl, hw⟩
    obtain rfl := hw.symm
    go_wp2_with fail
    refine (b10At_any 2 ((a.length : Int) + 1) _ h1 l1 (by omega) (by omega) (by omega)).mono ?_
    rintro e w' ⟨r2, r2a, r2b, rfl, rfl⟩
    obtain ⟨m, rfl⟩ : ∃ m : Nat, r2 = m := ⟨r2.toNat, by omega⟩
    have hma : m ≤ a.length := by omega
    have S2 : Hid (∀ W, RdP W (.slice pa a.length ca) a → Calls Tryz.prog 16 #[.slice pa a.length ca, .int .i64 (m : Int), .int .i64 ((a.length : Int) - (m : Int))] W fun e w' => ∃ x, e = .returned (.tuple #[x, .int .i64 0]) ∧ OwnI W.heap.size w' x (slL a m (a.length - m)) ∧ Below W.heap.size W w') := fun W hx => by
      have := sliceSignal_ok m (a.length - m) W hx sa (by omega) (by omega)
      rwa [show ((a.length - m : Nat) : Int) = (a.length : Int) - (m : Int) by omega] at this
    go_wp2_with fail
    refine (sliceSignal_ok 0 m _ ra sa (by omega) (by omega)).mono ?_
    rintro e W14 ⟨u29, rfl, rL, hb⟩
    replace rL := rL.rdP
    replace ra := ra.below hb
    replace h1 := h1.below hb
    replace hB := hB.trans (hb.mono hB.size)
    clear hb
    go_wp2_with fail
    refine (S2.out _ ra).mono ?_
    rintro e W15 ⟨u31, rfl, rM, hb⟩
    replace rM := rM.rdP
    replace ra := ra.below hb
    replace h1 := h1.below hb
    replace rL := rL.below hb
    replace hB := hB.trans (hb.mono hB.size)
    clear hb
    clear S2
    obtain ⟨d, hd⟩ : ∃ d, d = a.length - m := ⟨_, rfl⟩
    have sL := slL_sig sa 0 (n := m) (by omega)
    have sM := slL_sig sa m (n := d) (by omega)
    have HJ : Hid (slL a 0 m ++ slL a m d = a) := by unfold Hid; rw [hd]; exact slL_join a hma
    rw [← hd] at rM
    generalize slL a 0 m = L at *
    generalize slL a m d = M at *
    obtain ⟨pl, cl, rfl, hrl, hcl⟩ := rL
    obtain ⟨pm, cm, rfl, hrm, hcm⟩ := rM
    have II := Lib.hid (rdII_two hrl hrm hcl hcm)
    have JN : Hid (Calls Tryz.prog 17 #[.slice (some ⟨W15.heap.size, 0, none⟩) 2 2] (W15.alloc (.cells #[.slice pl L.length cl, .slice pm M.length cm] 24)) fun e w' => ∃ x, e = .returned (.tuple #[x, .int .i64 0]) ∧ OwnI W15.heap.size w' x a ∧ Below W15.heap.size W15 w') := by
      have hf : [L, M].flatten = a := by rw [← HJ.out]; simp
      have := joinSignals_ok (c := 2) (xss := [L, M]) _ II.out (by intro xs hxs; simp only [List.mem_cons, List.not_mem_nil, or_false] at hxs; rcases hxs with rfl | rfl <;> assumption) (by rw [hf]; exact qa)
      rw [hf] at this
      refine this.mono ?_
      rintro e w' ⟨x, he, ho, hb⟩
      have hb0 : Below W15.heap.size W15 (W15.alloc (.cells #[.slice pl L.length cl, .slice pm M.length cm] 24)) := (Below.refl _ _).alloc (Nat.le_refl _) _
      exact ⟨x, he, ho.mono hb0.size, hb0.trans (hb.mono hb0.size)⟩
    clear II hrl hrm hcl hcm HJ sL sM hd
    generalize L.length = nL at *
    generalize M.length = nM at *
    go_wp2_with fail
    refine (JN.out).mono ?_
    rintro e W16 ⟨u33, rfl, rJ, hb⟩
    replace rJ := rJ.rdP
    replace ra := ra.below hb
    replace h1 := h1.below hb
    replace hB := hB.trans (hb.mono hB.size)
    clear hb
    clear JN
    go_wp2_with fail
    refine (b10Nums_eq _ rJ ra rfl (by omega)).mono ?_
    rintro e W17 ⟨rfl, hb⟩
    replace ra := ra.below hb
    replace h1 := h1.below hb
    replace rJ := rJ.below hb
    replace hB := hB.trans (hb.mono hB.size)
    clear hb
    go_wp2_with fail
    go_ret
    exact ⟨rfl, hB⟩
end Go.Proofs.YtlaleoljeijkcaaGreatDoor
