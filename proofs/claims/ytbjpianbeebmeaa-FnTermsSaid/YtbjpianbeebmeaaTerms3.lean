/-
  Terms of fractions: mediant, terms, the value of terms: contracts.
-/
import Derived.Test.YtbjpianbeebmeaaTerms2
namespace Go.Proofs.Ytbjpianbeebmeaa
open Go.ChangeShapes Go.WideShapes Go.ChangeAt Go.RowKit Go.Sort
set_option linter.unusedVariables false

set_option maxHeartbeats 2000000 in
theorem mediant_any {n d n' d' : Int} (w : World) (hf : fracB n d = true) (hf' : fracB n' d' = true) :
    Calls Try.prog 9 #[.agg #[.int .i64 n, .int .i64 d], .agg #[.int .i64 n', .int .i64 d']] w fun e w' => e = .returned (.tuple #[.agg #[.int .i64 (mkN (n + n') (d + d')), .int .i64 (mkD (n + n') (d + d'))], .int .i64 (mkC (n + n') (d + d'))]) ∧ Below w.heap.size w w' := by
  obtain ⟨d1, d2, n1, n2, -⟩ := fracB_of hf
  obtain ⟨d1', d2', n1', n2', -⟩ := fracB_of hf'
  obtain ⟨r, hr⟩ : ∃ r, r = w.heap.size := ⟨_, rfl⟩
  obtain ⟨E0, hE0⟩ : ∃ E, E = ((w.alloc (.cells #[.int .i64 n, .int .i64 d] 25)).alloc (.cells #[.int .i64 n', .int .i64 d'] 25)).alloc (.cells #[.int .i64 0, .int .i64 0] 25) := ⟨_, rfl⟩
  have hB0 : Below w.heap.size w E0 := by rw [hE0]; exact (((Below.refl _ _).alloc (Nat.le_refl _) _).alloc (by simp) _).alloc (by simp; omega) _
  have b0 : Box E0 r [.int .i64 n, .int .i64 d] 25 := by rw [hE0, hr]; exact ((Box.newAt w [.int .i64 n, .int .i64 d] _ rfl).alloc _).alloc _
  have c0 : Box E0 (r + 1) [.int .i64 n', .int .i64 d'] 25 := by rw [hE0, hr]; exact (Box.newAt (w.alloc _) [.int .i64 n', .int .i64 d'] _ (by simp)).alloc _
  have q0 : Box E0 (r + 1 + 1) [.int .i64 0, .int .i64 0] 25 := by rw [hE0, hr]; exact Box.newAt ((w.alloc _).alloc _) [.int .i64 0, .int .i64 0] _ (by simp)
  obtain ⟨E1, hE1⟩ : ∃ E, E = E0.alloc (.cells #[.int .i64 n, .int .i64 d, .int .i64 n', .int .i64 d'] 25) := ⟨_, rfl⟩
  have d0 : Box E1 E0.heap.size [.int .i64 n, .int .i64 d, .int .i64 n', .int .i64 d'] 25 := by rw [hE1]; exact Box.newAt E0 [.int .i64 n, .int .i64 d, .int .i64 n', .int .i64 d'] _ rfl
  have hb01 : Below E0.heap.size E0 E1 := by rw [hE1]; exact (Below.refl _ _).alloc (Nat.le_refl _) _
  have AF := Lib.hid (areFracs_any (b := E0.heap.size) (o := 0) (c := 2) (m := 2) (f := fun k => if k = 0 then (n, d) else (n', d')) E1 (by omega) (fun k hk => by
    rcases (show k = 0 ∨ k = 1 by omega) with rfl | rfl
    · exact ⟨d0.cell 0 rfl, d0.cell 1 rfl⟩
    · exact ⟨d0.cell 2 rfl, d0.cell 3 rfl⟩) (fun k hk => by
    rcases (show k = 0 ∨ k = 1 by omega) with rfl | rfl
    · exact hf
    · exact hf') d0.lt)
  have MK : Hid (∀ W, Calls Try.prog 17 #[.int .i64 (n + n'), .int .i64 (d + d')] W fun e w' => e = .returned (.tuple #[.agg #[.int .i64 (mkN (n + n') (d + d')), .int .i64 (mkD (n + n') (d + d'))], .int .i64 (mkC (n + n') (d + d'))]) ∧ Below W.heap.size W w') := fun W => makeImpl_any _ _ W (by omega) (by omega) (by omega) (by omega)
  generalize mkN (n + n') (d + d') = N at MK ⊢
  generalize mkD (n + n') (d + d') = D at MK ⊢
  generalize mkC (n + n') (d + d') = C at MK ⊢
  have HE0 := Lib.hid hE0
  have HE1 := Lib.hid hE1
  have HR := Lib.hid hr
  have z0 := b0.cell 0 rfl
  have z1 := b0.cell 1 rfl
  have z2 := c0.cell 0 rfl
  have z3 := c0.cell 1 rfl
  have hrw : w.heap.size ≤ r + 1 + 1 := by omega
  clear hE0 hE1 hr hf hf' d0
  go_enter Try.func9, Try.ntmps9
  go_upto_region 1 with fail
  rw [← HE0.out, ← HR.out]
  go_wp2_with fail
  rw [← HE1.out]
  refine AF.out.mono ?_
  rintro e E2 ⟨rfl, hb2⟩
  have hb02 := hb01.trans (hb2.mono hb01.size)
  have b2 := b0.below hb02
  have c2 := c0.below hb02
  have q2 := q0.below hb02
  have hB2 := hB0.trans (hb02.mono hB0.size)
  clear z0 z1 z2 z3 HE1
  have z0 := b2.cell 0 rfl
  have z1 := b2.cell 1 rfl
  have z2 := c2.cell 0 rfl
  have z3 := c2.cell 1 rfl
  go_wp2_with fail
  refine (MK.out _).mono ?_
  rintro e E3 ⟨rfl, hb3⟩
  have q3 := q2.below hb3
  have hB3 := hB2.trans (hb3.mono hB2.size)
  have u0 := q3.cell 0 rfl
  have u1 := q3.cell 1 rfl
  have f0 := q3.frozen 0
  have f1 := q3.frozen 1
  have q4 := (q3.set 0 (.int .i64 N)).set 1 (.int .i64 D)
  have hB4 : Below w.heap.size w ((E3.setCell ⟨r + 1 + 1, 0, none⟩ (.int .i64 N)).setCell ⟨r + 1 + 1, 1, none⟩ (.int .i64 D)) := by (repeat (first | exact Below.refl _ _ | assumption | refine Below.setCell ?_ (by first | exact Nat.le_refl _ | omega | (simp; done) | (simp; omega)) _ | refine Below.alloc ?_ (by first | exact Nat.le_refl _ | omega | (simp; done) | (simp; omega)) _ | refine below_drewN ?_ _))
  obtain ⟨W, hW⟩ : ∃ W, W = ((E3.setCell ⟨r + 1 + 1, 0, none⟩ (.int .i64 N)).setCell ⟨r + 1 + 1, 1, none⟩ (.int .i64 D)) := ⟨_, rfl⟩
  rw [← hW] at q4 hB4
  have k0 := q4.cell 0 rfl
  have k1 := q4.cell 1 rfl
  have HW := Lib.hid hW
  clear hW z0 z1 z2 z3 q4
  go_wp2_with fail
  rw [← HW.out]
  refine bodyPost_ret (v := .tuple #[.agg #[.int .i64 N, .int .i64 D], .int .i64 C]) (by simp [results, Try.results9, go_sem, *]) rfl ?_
  exact ⟨rfl, hB4⟩
set_option maxHeartbeats 2000000 in
theorem termsOf_any {n d : Int} (w : World) (hf : fracB n d = true) :
    Calls Try.prog 6 #[.agg #[.int .i64 n, .int .i64 d]] w fun e w' => ∃ u, e = .returned u ∧ OwnI w.heap.size w' u (tms n d.toNat) ∧ Below w.heap.size w w' := by
  obtain ⟨d1, d2, n1, n2, -⟩ := fracB_of hf
  obtain ⟨y0, rfl⟩ : ∃ y : Nat, d = y := ⟨d.toNat, by omega⟩
  rw [Int.toNat_natCast]
  have hlen := tms_length (x := n) (y := y0) (by omega)
  obtain ⟨E0, hE0⟩ : ∃ E, E = w.alloc (.cells #[.int .i64 n, .int .i64 (y0 : Int)] 25) := ⟨_, rfl⟩
  have hB0 : Below w.heap.size w E0 := by rw [hE0]; exact (Below.refl _ _).alloc (Nat.le_refl _) _
  have b0 : Box E0 w.heap.size [.int .i64 n, .int .i64 (y0 : Int)] 25 := by rw [hE0]; exact Box.newAt w [.int .i64 n, .int .i64 (y0 : Int)] _ rfl
  have OK := Lib.hid (isFrac_any n (y0 : Int) E0)
  rw [hf] at OK
  have HE0 := Lib.hid hE0
  have z0 := b0.cell 0 rfl
  have z1 := b0.cell 1 rfl
  generalize hT : tms n y0 = T at hlen ⊢
  have HT : Hid (tms n y0 = T) := hT
  clear hE0 hf hT
  go_enter Try.func6, Try.ntmps6
  go_upto_region 1 with fail
  rw [← HE0.out]
  go_wp2_with fail
  refine OK.out.mono ?_
  rintro e F ⟨rfl, hb⟩
  have b1 := b0.below hb
  have hB1 := hB0.trans (hb.mono hB0.size)
  clear z0 z1 b0
  obtain ⟨G, hG⟩ : ∃ G, G = F.alloc (.cells #[] 2) := ⟨_, rfl⟩
  obtain ⟨gl, hgl⟩ : ∃ g, g = F.heap.size := ⟨_, rfl⟩
  have hl0 : OwnI w.heap.size G (.slice (some ⟨gl, 0, none⟩) 0 0) [] := by rw [hG, hgl]; exact OwnI.lit (B := w.heap.size) F [] hB1.size (by simp [maxLen])
  have hbG : Below F.heap.size F G := by rw [hG]; exact (Below.refl _ _).alloc (Nat.le_refl _) _
  have b2 := b1.below hbG
  have hB2 := hB1.trans (hbG.mono hB1.size)
  have HG := Lib.hid hG
  have HGL := Lib.hid hgl
  clear hG hgl b1 hbG hb hB0 hB1
  have z0 := b2.cell 0 rfl
  have z1 := b2.cell 1 rfl
  go_upto_region 4 with fail
  rw [← HG.out, ← HGL.out]
  clear HG HGL
  go_quiet (fail)
  have hl1 : OwnI w.heap.size (G.drewN nq) (.slice (some ⟨gl, 0, none⟩) 0 0) [] := hl0
  have hB3 := below_drewN hB2 nq
  clear z0 z1 b2 hl0 hB2
  generalize G.drewN nq = V at hl1 hB3 ⊢
  go_wp2_with fail
  go_loopw [3, 4, 5, 6] (fun lv a b _ wr => ∃ (x : Int) (y : Nat) (l : List Int), a = .int .i64 x ∧ b = .int .i64 (y : Int) ∧ -1000000000 ≤ x ∧ x ≤ 1000000000 ∧ y ≤ 1000000 ∧ Hid (l ++ tms x y = T) ∧ OwnI w.heap.size wr lv l ∧ Below w.heap.size w wr) (fun _ _ b _ _ => (intOf b).toNat)
  case atStart => exact ⟨n, y0, [], rfl, rfl, by omega, by omega, by omega, HT.out, hl1, hB3⟩
  case round =>
    obtain ⟨x, y, l, rfl, rfl, hx1, hx2, hy, HL, hown, hbel⟩ := hrel
    obtain ⟨wi, rfl⟩ : ∃ wi : World, wi = wr := ⟨_, rfl⟩
    clear hl1 hB3
    by_cases h0 : y = 0
    · subst h0
      have e : l = T := by have := HL.out; rwa [tms_zero, List.append_nil] at this
      have q0 : (((0 : Nat) : Int) != 0) = false := rfl
      clear HL
      go_wp2_with fail
      go_ret
      exact ⟨_, rfl, by rw [← e]; exact hown, hbel⟩
    · have hy0 : ((y : Int) != 0) = true := by rw [bne_iff_ne]; omega
      have e1 := HL.out
      rw [tms_pos x h0] at e1
      have e2 := emod_toNat x h0
      have e3 := emod_toNat_lt x h0
      have e4 : x - x / (y : Int) * (y : Int) = x % (y : Int) := by have := Int.mul_ediv_add_emod x y; have h5 := Int.mul_comm (x / (y : Int)) (y : Int); omega
      have eb := ediv_bd (a := x) (b := (y : Int)) (M := 1000000000) (by omega) hx1 hx2
      have HFD := Lib.hid (floorDiv_any x (y : Int) wi (by omega) (by omega) (by omega) (by omega))
      have hll : l.length ≤ 40 := by have := congrArg List.length e1; rw [List.length_append] at this; omega
      generalize hz : (x % (y : Int)).toNat = z at e1 e2 e3
      rw [← e2] at e4
      generalize hq : x / (y : Int) = q at e1 e4 eb HFD
      have mb := mul_bd (a := q) (b := (y : Int)) (A := 1000000000) (B := 1000000) eb.1 eb.2 (by omega) (by omega) (by omega) (by omega)
      obtain ⟨m, hm⟩ : ∃ m, q * (y : Int) = m := ⟨_, rfl⟩
      rw [hm] at e4 mb
      have m1 := mb.1; have m2 := mb.2; have eq1 := eb.1; have eq2 := eb.2
      have HL2 : Hid ((l ++ [q]) ++ tms (y : Int) z = T) := by unfold Hid; rw [List.append_assoc]; exact e1
      have hsz := hbel.size
      have hlen2 : l.length < 17592186044415 := by omega
      have hxm : IntKind.i64.wrap (x - m) = (z : Int) := by rw [e4]; exact IntWalk.i64_in _ (by omega)
      clear e1 e2 hz hq HL mb eb
      go_wp2_with (first | (go_at_call 14; refine HFD.out.mono ?_; rintro e w' ⟨rfl, rfl⟩) | (at_builtin; refine wpList_append_one rfl _ _ rfl rfl hown rfl hbel hlen2 hsz (Nat.le_refl _) ?_; intro v' w4 hown4 hb4 hz4 hk4))
      go_roundw
      case rel => exact ⟨(y : Int), z, l ++ [q], rfl, by first | rfl | (rw [e4]) , by omega, by omega, by omega, HL2, hown4, hb4⟩
      case measure => simp [intOf] <;> omega
end Go.Proofs.Ytbjpianbeebmeaa
