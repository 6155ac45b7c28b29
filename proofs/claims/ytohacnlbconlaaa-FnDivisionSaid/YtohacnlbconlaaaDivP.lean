/-
  Division of polynomials on the program's side.
-/
import Derived.Test.YtohacnlbconlaaaDivL
import Derived.Test.YtohacnlbconlaaaPolyF
namespace Go.Proofs.Ytohacnlbconlaaa
open Go.ChangeShapes Go.WideShapes Go.ChangeAt Go.RowKit
set_option linter.unusedVariables false

set_option maxHeartbeats 3200000 in
set_option maxRecDepth 100000 in
theorem divPoly_any {u v : Value} {a b : List Int} (w : World) (h : RdP w u a) (h' : RdP w v b) (ha : PolyV a) (hb : PolyV b) (hodd : b.getD (b.length - 1) 0 % 2 = 1) :
    Calls Try.prog 25 #[u, v] w fun e w' => ∃ x y, e = .returned (.tuple #[x, y, .int .i64 0]) ∧ OwnI w.heap.size w' x (divQ a b (invN (b.getD (b.length - 1) 0) 5)) ∧ OwnI w.heap.size w' y (divR a b (invN (b.getD (b.length - 1) 0) 5)) ∧ Below w.heap.size w w' := by
  obtain ⟨p, c, rfl, hr, hc⟩ := h
  obtain ⟨q, d, rfl, hr', hc'⟩ := h'
  have hB : Below w.heap.size w (w.alloc (.cells #[.slice p a.length c, .slice q b.length d] 24)) := (Below.refl _ _).alloc (Nat.le_refl _) _
  have AP := Lib.hid (arePolys_true (c := 2) _ (rdII_two hr hr' hc hc') (by
    intro xs hxs
    simp only [List.mem_cons, List.not_mem_nil, or_false] at hxs
    rcases hxs with rfl | rfl
    · exact ha
    · exact hb))
  have hla := ha.2.2
  have hla1 := ha.1.1
  have hlb := hb.2.2
  obtain ⟨last, hlast⟩ : ∃ last, b.length = last + 1 := ⟨b.length - 1, by have := hb.1.1; omega⟩
  obtain ⟨E, hE⟩ : ∃ E, E = w.alloc (.cells #[.slice p a.length c, .slice q b.length d] 24) := ⟨_, rfl⟩
  rw [← hE] at hB AP
  rw [hlast] at hE
  have hrE := hr.below hB
  have hrE' := hr'.below hB
  have hlt : last < b.length := by omega
  obtain ⟨bb, bo, e, hbb, hbc⟩ := hrE'.pos hlt
  cases e
  have hcl := hbc last hlt
  rw [show b.length - 1 = last by omega, getD_at hlt] at hodd ⊢
  have HBL : Hid (b.getD last 0 = b[last]) := getD_at hlt
  generalize b[last] = x0 at hcl hodd HBL ⊢
  have OD : Hid (∀ W, Calls Try.prog 42 #[.int .i64 x0] W fun e w' => e = .returned (.bool true) ∧ W = w') := fun W => by
    have := isOdd_any x0 W
    rwa [show (x0 % 2 == 1) = true by rw [beq_iff_eq]; exact hodd] at this
  have INV : Hid (∀ W, Calls Try.prog 55 #[.int .i64 x0] W fun e w' => e = .returned (.int .i64 (invN x0 5)) ∧ W = w') := fun W => inverse_any x0 W
  generalize invN x0 5 = Y at INV ⊢
  have CL := Lib.hid (clone_any (c := c) E hrE (by omega))
  have SA : Hid (∀ W, Calls Try.prog 58 #[.slice p a.length c] W fun e w' => e = .returned (.int .i64 (a.length : Int)) ∧ W = w') := fun W => sizeI_any p a.length c W hr.len
  have ZE : Hid (∀ W, Calls Try.prog 57 #[.int .i64 (a.length : Int)] W fun e w' => e = .returned (.slice (some ⟨W.heap.size, 0, none⟩) a.length a.length) ∧ OwnI W.heap.size w' (.slice (some ⟨W.heap.size, 0, none⟩) a.length a.length) (List.replicate a.length 0) ∧ Below W.heap.size W w') := fun W => zerosG_any a.length W (by omega)
  have HLL := Lib.hid hlast
  have HE := Lib.hid hE
  have HRB := Lib.hid hrE'
  have hlast64 : last ≤ 64 := by omega
  rw [hlast]
  clear hE ha hb hr hr' hodd hbc hlast hlt hrE hrE' hlb
  have e2 : ((last : Int) + 1 - 1) = (last : Int) := by omega
  have e3 : ((last : Int)).toNat = last := by omega
  go_enter Try.func25, Try.ntmps25
  go_wp2_with fail
  rw [← HE.out]
  refine AP.out.mono ?_
  rintro e w' ⟨rfl, rfl⟩
  go_wp2_with (first | (go_at_call 42; refine (OD.out _).mono ?_; rintro e w' ⟨rfl, rfl⟩) | (go_at_call 55; refine (INV.out _).mono ?_; rintro e w' ⟨rfl, rfl⟩))
  refine CL.out.mono ?_
  rintro e W1 ⟨rv, rfl, hR0, hb1⟩
  rcases hR0.cases with ⟨-, e0⟩ | ⟨gr, rcap, rfl, hgr, hgrl, -, -⟩
  · rw [e0] at hla1; simp at hla1
  go_wp2_with (go_at_call 58; refine (SA.out _).mono ?_; rintro e w' ⟨rfl, rfl⟩)
  refine (ZE.out W1).mono ?_
  rintro e W2 ⟨rfl, hQ0, hb2⟩
  obtain ⟨gq, hgq⟩ : ∃ gq, gq = W1.heap.size := ⟨_, rfl⟩
  rw [← hgq] at hQ0 ⊢
  have hne : gr ≠ gq := by omega
  have hne' : gq ≠ gr := by omega
  have hR2 := (hR0.below hb2).mono (B' := w.heap.size) hB.size
  have hQ2 := hQ0.mono (B' := w.heap.size) (by rw [hgq]; exact Nat.le_trans hB.size hb1.size)
  have hW2 : Below E.heap.size E W2 := hb1.trans (hb2.mono hb1.size)
  have hgqB : E.heap.size ≤ gq := by rw [hgq]; exact hb1.size
  clear hR0 hQ0 hb1 hb2 AP OD INV CL SA ZE hcl HE hgq HBL
  go_wp2_with fail
  go_loopw [11] (fun i wr => ∃ (n : Nat) (iv : Int), n ≤ a.length - last ∧ iv = (a.length : Int) - 1 - n ∧ i = .int .i64 iv ∧ OwnI w.heap.size wr (.slice (some ⟨gq, 0, none⟩) a.length a.length) (divSt a b Y n).1 ∧ OwnI w.heap.size wr (.slice (some ⟨gr, 0, none⟩) a.length rcap) (divSt a b Y n).2 ∧ Below E.heap.size E wr) (fun i _ => (intOf i + 1).toNat)
  case atStart => exact ⟨0, (a.length : Int) - 1, Nat.zero_le _, by omega, rfl, hQ2, hR2, hW2⟩
  case round =>
    obtain ⟨n, iv, hn, hiv, rfl, hQ, hR, hbel⟩ := hrel
    clear hQ2 hR2 hW2
    obtain ⟨wi, rfl⟩ : ∃ wi : World, wi = wr := ⟨_, rfl⟩
    obtain ⟨hl1, hl2⟩ := divSt_length a b Y n
    by_cases hgo : n < a.length - last
    · obtain ⟨s, hs⟩ : ∃ s, a.length = last + n + s + 1 := ⟨a.length - (last + n + 1), by omega⟩
      obtain rfl : iv = (last : Int) + s := by omega
      have e4 : ((last : Int) + (s : Int) - (last : Int)) = (s : Int) := by omega
      have e5 : ((last : Int) + (s : Int)).toNat = last + s := by omega
      have e6 : (last : Int) + (s : Int) < (a.length : Int) := by omega
      have e7 : (s : Int) < (a.length : Int) := by omega
      have hls : last + s < (divSt a b Y n).2.length := by omega
      have hss : s < (divSt a b Y n).1.length := by omega
      have HST : Hid (∀ q, smp ((divSt a b Y n).2.getD (last + s) 0 * Y) = q → divSt a b Y (n + 1) = ((divSt a b Y n).1.set s q, divIn (divSt a b Y n).2 q b s b.length)) := by
        intro q hq
        have h1 : a.length - 1 - n = last + s := by omega
        have h2 : last + s - (b.length - 1) = s := by have := HLL.out; omega
        rw [divSt, h1, h2, hq]
      obtain ⟨-, -, hgl, hz, hfr, -⟩ := hR.storing (k := last + s) hls
      obtain ⟨-, -, hgl2, hz2, hfr2, hset2⟩ := hQ.storing (k := s) hss
      rw [getD_at hls] at HST
      have HRL : Hid ((divSt a b Y n).2.length = a.length) := hl2
      generalize (divSt a b Y n).2[last + s] = rv at hz HST
      generalize (divSt a b Y n).1[s] = z2 at hz2
      generalize (divSt a b Y n).2 = R at hR HST HRL
      generalize hQn : (divSt a b Y n).1 = Qn at hQ HST hset2
      clear hl1 hl2 hls hss hQn
      have hRk : ∀ x, OwnI w.heap.size (wi.setCell ⟨gq, s, none⟩ (.int .i64 x)) (.slice (some ⟨gr, 0, none⟩) a.length rcap) R := fun x => hR.keep fun j hj => Below.heap_setCell _ _ _ _ (by
        simp only [Value.ownBlock, Option.some.injEq] at hj
        show j ≠ gq; omega)
      have HRK := Lib.hid hRk
      have HSET := Lib.hid hset2
      have HBE : Hid (∀ x, Below E.heap.size E (wi.setCell ⟨gq, s, none⟩ (.int .i64 x))) := fun x => hbel.setCell (p := ⟨gq, s, none⟩) hgqB _
      have HQQ := Lib.hid (HST.out _ rfl)
      have HS := Lib.hid hs
      have hsl : s < a.length := by omega
      have hlsl : last + s < a.length := by omega
      clear hRk hset2 hR hQ hbel hs hiv
      go_wp2_with (go_at_call 54; refine (implWrap_any _ _).mono ?_; rintro e w' ⟨rfl, rfl⟩)
      simp only [smp_wrap64]
      generalize hqq : smp (rv * Y) = qv
      have HQ2 := Lib.hid hqq
      rw [hqq] at HQQ
      clear hqq
      have h0R := HRK.out qv
      have h0Q := HSET.out qv
      have h0B := HBE.out qv
      obtain ⟨W3, hW3⟩ : ∃ W, W = wi.setCell ⟨gq, s, none⟩ (.int .i64 qv) := ⟨_, rfl⟩
      rw [← hW3] at h0R h0Q h0B ⊢
      clear hW3 HRK HSET HBE hz hz2 hfr hfr2
      go_loopw [62] (fun i wr => ∃ k : Nat, k ≤ last + 1 ∧ i = .int .i64 (k : Int) ∧ OwnI w.heap.size wr (.slice (some ⟨gr, 0, none⟩) a.length rcap) (divIn R qv b s k) ∧ OwnI w.heap.size wr (.slice (some ⟨gq, 0, none⟩) a.length a.length) (Qn.set s qv) ∧ Below E.heap.size E wr) (fun i _ => last + 1 - (intOf i).toNat)
      case atStart => exact ⟨0, Nat.zero_le _, rfl, h0R, h0Q, h0B⟩
      case round =>
        obtain ⟨k, hk, rfl, hR, hQ, hbel⟩ := hrel
        clear h0R h0Q h0B
        obtain ⟨wj, rfl⟩ : ∃ wj : World, wj = wr := ⟨_, rfl⟩
        by_cases hltk : k < last + 1
        · have hkb : k < b.length := by have := HLL.out; omega
          obtain ⟨b2, o2, e, hbk2, hc2⟩ := (HRB.out.below hbel).pos hkb
          cases e
          have hck := hc2 k hkb
          have hsk : s + k < (divIn R qv b s k).length := by rw [divIn_length, HRL.out]; have := HS.out; omega
          have HDI : Hid (divIn R qv b s (k + 1) = (divIn R qv b s k).set (s + k) (smp ((divIn R qv b s k)[s + k] - qv * b[k]))) := by
            unfold Hid; rw [divIn, getD_at hsk, getD_at hkb]
          obtain ⟨-, -, hgl, hz, hfr, hset⟩ := hR.storing (k := s + k) hsk
          generalize b[k] = y at hck HDI
          generalize (divIn R qv b s k)[s + k] = rk at hz HDI
          generalize divIn R qv b s k = Rk at hR HDI hset
          have HSET := Lib.hid hset
          have HQK : Hid (∀ x, OwnI w.heap.size (wj.setCell ⟨gr, s + k, none⟩ (.int .i64 x)) (.slice (some ⟨gq, 0, none⟩) a.length a.length) (Qn.set s qv)) := fun x => hQ.keep fun j hj => Below.heap_setCell _ _ _ _ (by
            simp only [Value.ownBlock, Option.some.injEq] at hj
            show j ≠ gr; omega)
          have e8 : ((s : Int) + (k : Int)).toNat = s + k := by omega
          have e9 : (s : Int) + (k : Int) < (a.length : Int) := by have := HS.out; omega
          clear hc2 hsk hkb hset hR hQ
          go_wp2_with (go_at_call 54; refine (implWrap_any _ _).mono ?_; rintro e w' ⟨rfl, rfl⟩)
          go_roundw
          case rel => exact ⟨k + 1, by omega, by go_num, by rw [HDI.out]; simp only [smp_wrap64, smp_sub_w64]; exact HSET.out _, HQK.out _, hbel.setCell (p := ⟨gr, s + k, none⟩) (show E.heap.size ≤ gr by omega) _⟩
          case measure => simp [intOf] <;> omega
        · obtain rfl : k = last + 1 := by omega
          have HLB : Hid (divIn R qv b s (last + 1) = divIn R qv b s b.length) := by unfold Hid; rw [HLL.out]
          go_wp2_with fail
          go_roundw
          case rel => exact ⟨n + 1, (last : Int) + s - 1, by omega, by have := HS.out; omega, rfl, by rw [HQQ.out]; exact hQ, by rw [HQQ.out]; rw [HLB.out] at hR; exact hR, hbel⟩
          case measure => simp [intOf] <;> omega
    · obtain rfl : n = a.length - last := by omega
      have hvi : iv < (last : Int) := by omega
      have HN : Hid (a.length - last = a.length - (b.length - 1)) := by unfold Hid; have := HLL.out; omega
      have hrq : RdI wi (some ⟨gq, 0, none⟩) (divSt a b Y (a.length - last)).1 := hQ.rdAt.2
      have hrr : RdI wi (some ⟨gr, 0, none⟩) (divSt a b Y (a.length - last)).2 := hR.rdAt.2
      have hcq := hQ.cap
      have hcr := hR.cap
      have TQ : Hid (Calls Try.prog 46 #[.slice (some ⟨gq, 0, none⟩) a.length a.length] wi fun e w' => ∃ v, e = .returned v ∧ OwnI wi.heap.size w' v (divQ a b Y) ∧ Below wi.heap.size wi w') := by
        have := trim_any (c := a.length) wi hrq (by omega) (by omega)
        rw [hl1] at this
        unfold divQ; rw [← HN.out]; exact this
      have TR : Hid (∀ W, Below wi.heap.size wi W → Calls Try.prog 46 #[.slice (some ⟨gr, 0, none⟩) a.length rcap] W fun e w' => ∃ v, e = .returned v ∧ OwnI W.heap.size w' v (divR a b Y) ∧ Below W.heap.size W w') := fun W hW => by
        have := trim_any (c := rcap) W (hrr.below hW) (by omega) (by omega)
        rw [hl2] at this
        unfold divR; rw [← HN.out]; exact this
      have hBi : Below w.heap.size w wi := hB.trans (hbel.mono hB.size)
      clear hrq hrr hQ hR hl1 hl2 hcq hcr
      go_wp2_with fail
      refine TQ.out.mono ?_
      rintro e W4 ⟨v1, rfl, ho1, hb4⟩
      go_wp2_with fail
      refine (TR.out W4 hb4).mono ?_
      rintro e W5 ⟨v2, rfl, ho2, hb5⟩
      have ho1' := ho1.below hb5
      have hB4 := hBi.trans (hb4.mono hBi.size)
      go_wp2_with fail
      refine bodyPost_ret (v := .tuple #[v1, v2, .int .i64 0]) (by simp [results, Try.results25, go_sem, *]) rfl ⟨_, _, rfl, ho1'.mono hBi.size, ho2.mono hB4.size, hB4.trans (hb5.mono hB4.size)⟩
theorem inverseSample_any (x : Int) (w : World) (hx : isSmp x = true) (ho : x % 2 = 1) :
    Calls Try.prog 28 #[.int .i64 x] w fun e w' => e = .returned (.tuple #[.int .i64 (invN x 5), .int .i64 0]) ∧ w = w' := by
  have IS := Lib.hid (isSample_any x w)
  rw [hx] at IS
  have OD := Lib.hid (isOdd_any x w)
  rw [show (x % 2 == 1) = true by rw [beq_iff_eq]; exact ho] at OD
  have IV := Lib.hid (inverse_any x w)
  generalize invN x 5 = y at IV ⊢
  clear hx ho
  go_enter Try.func28, Try.ntmps28
  go_wp2_with (first | (go_at_call 53; refine IS.out.mono ?_; rintro e w' ⟨rfl, rfl⟩) | (go_at_call 42; refine OD.out.mono ?_; rintro e w' ⟨rfl, rfl⟩) | (go_at_call 55; refine IV.out.mono ?_; rintro e w' ⟨rfl, rfl⟩))
  refine bodyPost_ret (v := .tuple #[.int .i64 y, .int .i64 0]) (by simp [results, Try.results28, go_sem, *]) rfl ⟨rfl, rfl⟩
end Go.Proofs.Ytohacnlbconlaaa
