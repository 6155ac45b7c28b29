/-
  Filters: the drawn transfer functions and signals.
-/
import Derived.Test.YtljlcbichimhaaaGreatDoorSer
import Derived.Test.YtljlcbichimhaaaGreatDoorFilM
namespace Go.Proofs.YtljlcbichimhaaaGreatDoor
open Go.ChangeShapes Go.WideShapes Go.ChangeAt Go.RowKit
set_option linter.unusedVariables false
set_option linter.unusedSimpArgs false

/-- a list of its own, drawn -/
def DrewS (n g m : Nat) (w : World) (e : Ending) (w' : World) : Prop := ∃ v ys, e = .returned v ∧ AllS ys ∧ ys.length ≤ n ∧ OwnI w.heap.size w' v ys ∧ SrcAt w' g m ∧ Off (· = g) w w'
set_option maxHeartbeats 4000000 in
theorem l29Draw_any {g m : Nat} (n : Nat) (w : World) (h : SrcAt w g m) (hn : n ≤ 100) (hm : m + 4000 ≤ 1099511627776) :
    Calls Tryz.prog 21 #[.pointer (some ⟨g, 0, none⟩), .int .i64 (n : Int)] w (DrewS n g (m + 3000) w) := by
  have hg := h.lt
  have h0 := OwnI.lit (B := w.heap.size) w [] (Nat.le_refl _) (by simp [maxLen])
  have hb := (Below.refl w.heap.size w).alloc (Nat.le_refl _) (.cells #[] 2)
  have hs := h.below hb
  go_enter Tryz.func21, Tryz.ntmps21
  go_wp2_with fail
  refine (l01Draw_any _ hs (by omega)).mono ?_
  rintro e w1 ⟨x0, hx0, rfl, hs1, ho1⟩
  have hown1 := h0.off ho1 hg
  have HO1 := Lib.hid ((Off.of_below (· = g) hb).trans ho1)
  clear h h0 hb hs ho1
  go_wp2_with fail
  refine (pick_any 200 _ hs1 (by omega) (by omega)).mono ?_
  rintro e w2 ⟨s0, hs0, rfl, hs2, ho2⟩
  have hs0a := (pickP_pos hs0 (by omega)).1
  have hs0b := (pickP_pos hs0 (by omega)).2
  have hown2 := hown1.off ho2 hg
  have HO2 := Lib.hid (HO1.out.trans ho2)
  clear hs0 hown1 hs1 ho2
  go_wp2_with fail
  refine (pick_any 4 _ hs2 (by omega) (by omega)).mono ?_
  rintro e w3 ⟨kd, hkd, rfl, hs3, ho3⟩
  have hkda := (pickP_pos hkd (by omega)).1
  have hkdb := (pickP_pos hkd (by omega)).2
  have hown3 := hown2.off ho3 hg
  have HO3 := Lib.hid (HO2.out.trans ho3)
  clear hkd hown2 hs2 ho3
  go_wp2_with fail
  refine (pick_any ((n : Int) + 1) _ hs3 (by omega) (by omega)).mono ?_
  rintro e w4 ⟨k0, hk0, rfl, hs4, ho4⟩
  have hk0a := (pickP_pos hk0 (by omega)).1
  have hk0b := (pickP_pos hk0 (by omega)).2
  have hown4 := hown3.off ho4 hg
  have HO4 := Lib.hid (HO3.out.trans ho4)
  have HS4 := Lib.hid hs4
  have HX0 := Lib.hid hx0
  clear hk0 hown3 hs3 ho4 hs4 hx0 HO1 HO2 HO3
  go_wp2_with fail
  go_loopw [5, 6, 7, 9] (fun v x st k wr => ∃ (j xx ss : Int) (xs : List Int), x = .int .i64 xx ∧ st = .int .i64 ss ∧ k = .int .i64 j ∧ isSmp xx = true ∧ 0 ≤ j ∧ j ≤ k0 ∧ (-100 - ((xs.length : Nat) : Int) ≤ ss) ∧ (ss ≤ 100 + 2 * ((xs.length : Nat) : Int)) ∧ OwnI w.heap.size wr v xs ∧ AllS xs ∧ ((xs.length : Int) = k0 - j) ∧ SrcAt wr g (m + 30 + 22 * xs.length) ∧ Off (· = g) w wr) (fun _ _ _ k _ => (intOf k).toNat)
  case atStart => exact ⟨k0, x0, s0 - 100, [], rfl, by go_num, rfl, HX0.out, by omega, by omega, by simp; omega, by simp; omega, hown4, by intro y hy; simp at hy, by simp, HS4.out.mono (by simp), HO4.out⟩
  case round =>
    obtain ⟨j, xx, ss, xs, rfl, rfl, rfl, hxx, hj1, hj2, hs1, hs2, hown, hal, hlen, hs, ho⟩ := hrel
    have hal0 := hal
    have HAL : AllS (xs ++ [xx]) := hal.snoc hxx
    have HO := Lib.hid ho
    have hB : w.heap.size ≤ wr.heap.size := ho.size
    clear hown4 HS4 HO4 hal ho HX0
    obtain ⟨wi, rfl⟩ : ∃ wi : World, wi = wr := ⟨_, rfl⟩
    by_cases hj : 0 < j
    · have hxl : xs.length ≤ 100 := by omega
      by_cases e0 : kd = 0
      · subst e0
        have q0 : ((0 : Int) == 0) = true := rfl
        go_wp2_with (first | (at_builtin; refine wpList_append_one rfl _ _ rfl rfl hown rfl (Below.refl w.heap.size wi) (by omega) hB (Nat.le_refl _) ?_; intro v' w5 hown5 hb5 hz5 hk5; have hs5 := hs.stay hg (fun k h1 _ => hb5.block k h1); have HO5 := Lib.hid (HO.out.after hb5); clear hown hs HO))
        refine (l01Draw_any _ hs5 (by omega)).mono ?_
        rintro e w6 ⟨y, hy, rfl, hs6, ho6⟩
        have hown6 := hown5.off ho6 hg
        have HO6 := HO5.out.trans ho6
        clear hs5 hown5 ho6 HO5
        go_wp2_with fail
        go_roundw
        case rel => exact ⟨j - 1, _, ss, xs ++ [xx], rfl, rfl, by go_num, hy, by omega, by omega, by simp; omega, by simp; omega, hown6, HAL, by simp; omega, hs6.mono (by simp; omega), HO6⟩
        case measure => simp [intOf] <;> omega
      by_cases e1 : kd = 1
      · subst e1
        have q0 : ((1 : Int) == 0) = false := rfl
        have q1 : ((1 : Int) == 1) = true := rfl
        go_wp2_with (first | (at_builtin; refine wpList_append_one rfl _ _ rfl rfl hown rfl (Below.refl w.heap.size wi) (by omega) hB (Nat.le_refl _) ?_; intro v' w5 hown5 hb5 hz5 hk5; have hs5 := hs.stay hg (fun k h1 _ => hb5.block k h1); have HO5 := Lib.hid (HO.out.after hb5); clear hown hs HO))
        refine (pick_any 9 _ hs5 (by omega) (by omega)).mono ?_
        rintro e w6 ⟨y, hy, rfl, hs6, ho6⟩
        have hy1 := (pickP_pos hy (by omega)).1
        have hy2 := (pickP_pos hy (by omega)).2
        have hown6 := hown5.off ho6 hg
        have HO6 := HO5.out.trans ho6
        clear hs5 hown5 ho6 HO5 hy
        go_wp2_with (go_at_call 45; refine (l01Add_any _ _ _).mono ?_; rintro e w' ⟨rfl, rfl⟩)
        go_roundw
        case rel => exact ⟨j - 1, _, ss, xs ++ [xx], rfl, rfl, by go_num, smp_isSmp _, by omega, by omega, by simp; omega, by simp; omega, hown6, HAL, by simp; omega, hs6.mono (by simp; omega), HO6⟩
        case measure => simp [intOf] <;> omega
      by_cases e2 : kd = 2
      · subst e2
        have q0 : ((2 : Int) == 0) = false := rfl
        have q1 : ((2 : Int) == 1) = false := rfl
        have q2 : ((2 : Int) == 2) = true := rfl
        go_wp2_with (first | (at_builtin; refine wpList_append_one rfl _ _ rfl rfl hown rfl (Below.refl w.heap.size wi) (by omega) hB (Nat.le_refl _) ?_; intro v' w5 hown5 hb5 hz5 hk5; have hs5 := hs.stay hg (fun k h1 _ => hb5.block k h1); have HO5 := Lib.hid (HO.out.after hb5); clear hown hs HO) | (go_at_call 45; refine (l01Add_any _ _ _).mono ?_; rintro e w' ⟨rfl, rfl⟩))
        refine (pick_any 3 _ hs5 (by omega) (by omega)).mono ?_
        rintro e w6 ⟨y, hy, rfl, hs6, ho6⟩
        have hy1 := (pickP_pos hy (by omega)).1
        have hy2 := (pickP_pos hy (by omega)).2
        have hown6 := hown5.off ho6 hg
        have HO6 := HO5.out.trans ho6
        clear hs5 hown5 ho6 HO5 hy
        go_wp2_with fail
        go_roundw
        case rel => exact ⟨j - 1, _, ss + (y - 1), xs ++ [xx], rfl, by go_num, by go_num, smp_isSmp _, by omega, by omega, by simp; omega, by simp; omega, hown6, HAL, by simp; omega, hs6.mono (by simp; omega), HO6⟩
        case measure => simp [intOf] <;> omega
      obtain rfl : kd = 3 := by omega
      have q0 : ((3 : Int) == 0) = false := rfl
      have q1 : ((3 : Int) == 1) = false := rfl
      have q2 : ((3 : Int) == 2) = false := rfl
      go_wp2_with (first | (at_builtin; refine wpList_append_one rfl _ _ rfl rfl hown rfl (Below.refl w.heap.size wi) (by omega) hB (Nat.le_refl _) ?_; intro v' w5 hown5 hb5 hz5 hk5; have hs5 := hs.stay hg (fun k h1 _ => hb5.block k h1); have HO5 := Lib.hid (HO.out.after hb5); clear hown hs HO))
      refine (pick_any 40 _ hs5 (by omega) (by omega)).mono ?_
      rintro e w6 ⟨y, hy, rfl, hs6, ho6⟩
      have hy1 := (pickP_pos hy (by omega)).1
      have hy2 := (pickP_pos hy (by omega)).2
      have hown6 := hown5.off ho6 hg
      have HO6 := HO5.out.trans ho6
      clear hs5 hown5 ho6 HO5 hy
      go_wp2_with fail
      go_roundw
      case rel => exact ⟨j - 1, _, ss, xs ++ [xx], rfl, rfl, by go_num, isSmp_iff.2 (by omega), by omega, by omega, by simp; omega, by simp; omega, hown6, HAL, by simp; omega, hs6.mono (by simp; omega), HO6⟩
      case measure => simp [intOf] <;> omega
    · go_wp2_with fail
      go_ret
      exact ⟨_, _, rfl, hal0, by omega, hown, hs.mono (by omega), HO.out⟩
def zT : List Value := [.slice none 0 0, .slice none 0 0]
/-- a transfer function of its own -/
def OwnT (B : Nat) (w : World) (x : Value) (ys zs : List Int) : Prop := ∃ u v, x = .agg #[u, v] ∧ OwnI B w u ys ∧ OwnI B w v zs ∧ AllS ys ∧ AllS zs ∧ Canon ys ∧ Canon zs ∧ zs.getD 0 0 = 1
def DrewT (n g m : Nat) (w : World) (e : Ending) (w' : World) : Prop := ∃ x ys zs, e = .returned x ∧ OwnT w.heap.size w' x ys zs ∧ ys.length ≤ n + 1 ∧ zs.length ≤ n + 1 ∧ SrcAt w' g m ∧ Off (· = g) w w'
theorem canon_one {zs : List Int} (h : Canon zs) : Canon (zs.set 0 1) := by
  obtain ⟨h1, h2⟩ := h
  refine ⟨by simpa using h1, ?_⟩
  rcases h2 with h2 | h2
  · exact .inl (by simpa using h2)
  · by_cases e : zs.length = 1
    · exact .inl (by simpa using e)
    · right
      rw [List.length_set, List.getD_eq_getElem?_getD, List.getElem?_set_ne (by omega), ← List.getD_eq_getElem?_getD]
      exact h2
set_option maxHeartbeats 2000000 in
theorem l05Draw_any {g m : Nat} (n : Nat) (w : World) (h : SrcAt w g m) (hn : n ≤ 100) (hm : m + 4000 ≤ 1099511627776) :
    Calls Tryz.prog 20 #[.pointer (some ⟨g, 0, none⟩), .int .i64 (n : Int)] w (DrewT n g (m + 3000) w) := by
  have hg := h.lt
  obtain ⟨E, hE⟩ : ∃ E, E = w.alloc (.cells zT.toArray 26) := ⟨_, rfl⟩
  obtain ⟨r, hr⟩ : ∃ r, r = w.heap.size := ⟨_, rfl⟩
  have hb0 : Below w.heap.size w E := by rw [hE]; exact (Below.refl _ _).alloc (Nat.le_refl _) _
  have bx0 : Box E r zT 26 := by rw [hE]; exact Box.newAt w _ _ hr
  have hs0 := h.below hb0
  unfold zT at hE bx0
  have HE := Lib.hid hE
  have HR := Lib.hid hr
  clear hE hr h
  go_enter Tryz.func20, Tryz.ntmps20
  go_upto_region 1 with fail
  rw [← HE.out, ← HR.out]
  go_wp2_with fail
  refine (l04Draw_any n E hs0 hn (by omega)).mono ?_
  rintro e w1 ⟨u, ys, rfl, hc1, ha1, hl1, ho1, hs1, hf1⟩
  obtain ⟨p1, c1, rfl, -⟩ := ho1.rd
  obtain ⟨t5, ht5⟩ : ∃ t5, t5 = w1.heap.size := ⟨_, rfl⟩
  obtain ⟨E2, hE2⟩ : ∃ W, W = w1.alloc (.cells #[.slice p1 ys.length c1, .slice none 0 0] 26) := ⟨_, rfl⟩
  have hb2 : Below w1.heap.size w1 E2 := by rw [hE2]; exact (Below.refl _ _).alloc (Nat.le_refl _) _
  have bt2 : Box E2 t5 [.slice p1 ys.length c1, .slice none 0 0] 26 := by rw [hE2]; exact Box.newAt w1 _ _ ht5
  have hgr : g ≠ r := by rw [HR.out]; omega
  have hz0 : r < E.heap.size := bx0.lt
  have hz1 : E.heap.size ≤ w1.heap.size := hf1.size
  have br2 : Box E2 r [.slice none 0 0, .slice none 0 0] 26 := (bx0.off hf1 (fun h => hgr h.symm)).below hb2
  have hub : ∀ b, (Value.slice p1 ys.length c1).ownBlock = some b → E.heap.size ≤ b ∧ b < t5 := fun b hb => by have := ho1.lt hb; omega
  have hs2 := hs1.below hb2
  have ho2 := ho1.below hb2
  have hgE : g < w.heap.size := hg
  have HE2 := Lib.hid hE2
  have HT5 := Lib.hid ht5
  have HF1 := Lib.hid hf1
  clear hE2 ht5 hs0 bx0 hs1 ho1 hf1
  go_wp2_with fail
  rw [← HE2.out, ← HT5.out]
  refine (l04Draw_any n E2 hs2 hn (by omega)).mono ?_
  rintro e w2 ⟨v, zs, rfl, hc2, ha2, hl2, hv2, hs3, hf2⟩
  have hgt : g ≠ t5 := by rw [HT5.out]; have := HE.out; have := hb0.size; omega
  have hrt : r ≠ t5 := by rw [HT5.out]; omega
  have bt3 := bt2.off hf2 (fun h => hgt h.symm)
  have br3 := br2.off hf2 (fun h => hgr h.symm)
  have ho3 := ho2.off hf2 (by have := hb0.size; omega)
  have hz2 : E2.heap.size ≤ w2.heap.size := hf2.size
  obtain ⟨hlt2, -⟩ := (⟨bt2.lt, trivial⟩ : t5 < E2.heap.size ∧ True)
  clear hs2 ho2 bt2 br2
  rcases hv2.cases with ⟨-, h0⟩ | ⟨k, c2, rfl, hk1, hk2, -, -⟩
  · exact absurd hc2.1 (by rw [h0]; simp)
  have hzl : 0 < zs.length := hc2.1
  have hzE1 := hb2.size
  have hzE0 := hb0.size
  obtain ⟨-, -, hkl, hkc, hkf, hkset⟩ := hv2.storing (k := 0) hzl
  have hkt : k ≠ t5 := by omega
  have hkr : k ≠ r := by omega
  have hkg : k ≠ g := by have := hb0.size; omega
  have b0 := bt3.cell 0 rfl
  have b1 := bt3.cell 1 rfl
  have bf0 := bt3.frozen 0
  have bf1 := bt3.frozen 1
  have d0 := br3.cell 0 rfl
  have d1 := br3.cell 1 rfl
  have df0 := br3.frozen 0
  have df1 := br3.frozen 1
  have hzn : Hid (0 < zs.length) := hzl
  generalize zs[0] = z0 at hkc
  have hv3 : OwnI E2.heap.size (w2.setCell ⟨t5, 1, none⟩ (.slice (some ⟨k, 0, none⟩) zs.length c2)) (.slice (some ⟨k, 0, none⟩) zs.length c2) zs := hv2.keep fun b hb => by
    simp only [Value.ownBlock, Option.some.injEq] at hb
    exact Below.heap_setCell _ _ _ _ (by show b ≠ t5; omega)
  obtain ⟨-, -, -, -, -, hv4⟩ := hv3.storing (k := 0) hzl
  have hv5 := ((hv4 1).keep (w' := ((((w2.setCell ⟨t5, 1, none⟩ (.slice (some ⟨k, 0, none⟩) zs.length c2)).setCell ⟨k, 0, none⟩ (.int .i64 1)).setCell ⟨r, 0, none⟩ (.slice p1 ys.length c1)).setCell ⟨r, 1, none⟩ (.slice (some ⟨k, 0, none⟩) zs.length c2))) fun b hb => by
    simp only [Value.ownBlock, Option.some.injEq] at hb
    rw [Below.heap_setCell _ _ _ _ (show b ≠ r by omega), Below.heap_setCell _ _ _ _ (show b ≠ r by omega)])
  have hu5 : OwnI E.heap.size ((((w2.setCell ⟨t5, 1, none⟩ (.slice (some ⟨k, 0, none⟩) zs.length c2)).setCell ⟨k, 0, none⟩ (.int .i64 1)).setCell ⟨r, 0, none⟩ (.slice p1 ys.length c1)).setCell ⟨r, 1, none⟩ (.slice (some ⟨k, 0, none⟩) zs.length c2)) (.slice p1 ys.length c1) ys := ho3.keep fun b hb => by
    have := hub b hb
    rw [Below.heap_setCell _ _ _ _ (show b ≠ r by omega), Below.heap_setCell _ _ _ _ (show b ≠ r by omega), Below.heap_setCell _ _ _ _ (show b ≠ k by omega), Below.heap_setCell _ _ _ _ (show b ≠ t5 by omega)]
  have hwr : w.heap.size ≤ r := by rw [HR.out]; exact Nat.le_refl _
  have hwt : w.heap.size ≤ t5 := by rw [HT5.out]; omega
  have hwk : w.heap.size ≤ k := by omega
  have hbW := ((((Below.refl w.heap.size w2).setCell (p := ⟨t5, 1, none⟩) hwt (.slice (some ⟨k, 0, none⟩) zs.length c2)).setCell (p := ⟨k, 0, none⟩) hwk (.int .i64 1)).setCell (p := ⟨r, 0, none⟩) hwr (.slice p1 ys.length c1)).setCell (p := ⟨r, 1, none⟩) hwr (.slice (some ⟨k, 0, none⟩) zs.length c2)
  have hfW : Off (· = g) w w2 := ((((Off.of_below (· = g) hb0).trans HF1.out).after (hb2.mono (by omega))).trans hf2)
  have hfW2 := hfW.after hbW
  have hs5 := hs3.stay hg (fun k h1 _ => hbW.block k h1)
  have bxW := (((br3.other (a := ⟨t5, 1, none⟩) hrt (.slice (some ⟨k, 0, none⟩) zs.length c2)).other (a := ⟨k, 0, none⟩) (Ne.symm hkr) (.int .i64 1)).set 0 (.slice p1 ys.length c1)).set 1 (.slice (some ⟨k, 0, none⟩) zs.length c2)
  go_wp2_with fail
  generalize ((((w2.setCell ⟨t5, 1, none⟩ (.slice (some ⟨k, 0, none⟩) zs.length c2)).setCell ⟨k, 0, none⟩ (.int .i64 1)).setCell ⟨r, 0, none⟩ (.slice p1 ys.length c1)).setCell ⟨r, 1, none⟩ (.slice (some ⟨k, 0, none⟩) zs.length c2)) = W at *
  clear b0 b1 bf0 bf1 d0 d1 df0 df1 hkc hkf
  have e0 := bxW.cell 0 rfl
  have e1 := bxW.cell 1 rfl
  refine bodyPost_ret (v := .agg #[.slice p1 ys.length c1, .slice (some ⟨k, 0, none⟩) zs.length c2]) (by simp [results, Tryz.results20, go_sem, *]) rfl ?_
  refine ⟨_, ys, zs.set 0 1, rfl, ⟨_, _, rfl, hu5.mono hzE0, hv5.mono (by omega), ha1, ?_, hc1, canon_one hc2, ?_⟩, hl1, by rw [List.length_set]; exact hl2, hs5.mono (by omega), hfW2⟩
  · intro x hx
    rcases List.mem_or_eq_of_mem_set hx with h | rfl
    · exact ha2 x h
    · rfl
  · rw [List.getD_eq_getElem?_getD, List.getElem?_set_self hzl]; rfl
theorem e8Transfer_any {v : Value} {bs : List Int} (w : World) (h : VB w v bs) (hl : bs.length ≤ 1048576) :
    Calls Tryz.prog 5 #[v] w fun e w' => ∃ x ys zs, e = .returned x ∧ OwnT w.heap.size w' x ys zs ∧ ys.length ≤ 5 ∧ zs.length ≤ 5 ∧ Below w.heap.size w w' := by
  obtain ⟨p, c, rfl, hr0⟩ := h
  obtain ⟨E, hE⟩ : ∃ E, E = w.alloc (.cells zT.toArray 26) := ⟨_, rfl⟩
  obtain ⟨r, hr⟩ : ∃ r, r = w.heap.size := ⟨_, rfl⟩
  have hb0 : Below w.heap.size w E := by rw [hE]; exact (Below.refl _ _).alloc (Nat.le_refl _) _
  have bx0 : Box E r zT 26 := by rw [hE]; exact Box.newAt w _ _ hr
  have FR := Lib.hid (l00From_any (c := c) E (hr0.below hb0) hl)
  have hz0 : r < E.heap.size := bx0.lt
  have hzE0 := hb0.size
  unfold zT at hE bx0
  have HE := Lib.hid hE
  have HR := Lib.hid hr
  clear hE hr hr0
  go_enter Tryz.func5, Tryz.ntmps5
  go_upto_region 1 with fail
  rw [← HE.out, ← HR.out]
  go_wp2_with fail
  refine FR.out.mono ?_
  rintro e w1 ⟨rfl, hs1, hb1⟩
  have hz1 : E.heap.size ≤ w1.heap.size := hb1.size
  have bx1 := bx0.below hb1
  go_wp2_with fail
  refine (l05Draw_any 4 w1 hs1 (by omega) (by omega)).mono ?_
  rintro e w2 ⟨x, ys, zs, rfl, ⟨u, v, rfl, hu, hv, ha1, ha2, hc1, hc2, h1⟩, hl1, hl2, hs2, hf⟩
  have hb2 : Below E.heap.size E w2 := hb1.trans (hf.below (B := E.heap.size) (fun k hk => by have : k = E.heap.size := hk; omega) hz1)
  have br2 := bx1.off hf (by show r ≠ E.heap.size; omega)
  have hbw : Below w.heap.size w w2 := hb0.trans (hb2.mono hzE0)
  obtain ⟨p1, c1, rfl, -⟩ := hu.rd
  obtain ⟨p2, c2, rfl, -⟩ := hv.rd
  have d0 := br2.cell 0 rfl
  have d1 := br2.cell 1 rfl
  have df0 := br2.frozen 0
  have df1 := br2.frozen 1
  have hwr : w.heap.size ≤ r := by rw [HR.out]; exact Nat.le_refl _
  go_wp2_with fail
  have hbW := (hbw.setCell (p := ⟨r, 0, none⟩) hwr (.slice p1 ys.length c1)).setCell (p := ⟨r, 1, none⟩) hwr (.slice p2 zs.length c2)
  have bxW := (br2.set 0 (.slice p1 ys.length c1)).set 1 (.slice p2 zs.length c2)
  have hu5 := hu.keep (w' := (w2.setCell ⟨r, 0, none⟩ (.slice p1 ys.length c1)).setCell ⟨r, 1, none⟩ (.slice p2 zs.length c2)) fun b hb => by
    have := (hu.lt hb).1
    rw [Below.heap_setCell _ _ _ _ (show b ≠ r by omega), Below.heap_setCell _ _ _ _ (show b ≠ r by omega)]
  have hv5 := hv.keep (w' := (w2.setCell ⟨r, 0, none⟩ (.slice p1 ys.length c1)).setCell ⟨r, 1, none⟩ (.slice p2 zs.length c2)) fun b hb => by
    have := (hv.lt hb).1
    rw [Below.heap_setCell _ _ _ _ (show b ≠ r by omega), Below.heap_setCell _ _ _ _ (show b ≠ r by omega)]
  generalize (w2.setCell ⟨r, 0, none⟩ (.slice p1 ys.length c1)).setCell ⟨r, 1, none⟩ (.slice p2 zs.length c2) = W at *
  clear d0 d1 df0 df1
  have e0 := bxW.cell 0 rfl
  have e1 := bxW.cell 1 rfl
  refine bodyPost_ret (v := .agg #[.slice p1 ys.length c1, .slice p2 zs.length c2]) (by simp [results, Tryz.results5, go_sem, *]) rfl ?_
  exact ⟨_, ys, zs, rfl, ⟨_, _, rfl, hu5.mono (by omega), hv5.mono (by omega), ha1, ha2, hc1, hc2, h1⟩, hl1, hl2, hbW⟩
theorem e8Signal_any {v : Value} {bs : List Int} (n : Nat) (w : World) (h : VB w v bs) (hl : bs.length ≤ 1048576) (hn : n ≤ 100) :
    Calls Tryz.prog 6 #[v, .int .i64 (n : Int)] w fun e w' => ∃ u ys, e = .returned u ∧ AllS ys ∧ ys.length ≤ n ∧ OwnI w.heap.size w' u ys ∧ Below w.heap.size w w' := by
  obtain ⟨p, c, rfl, hr⟩ := h
  go_enter Tryz.func6, Tryz.ntmps6
  go_wp2_with fail
  refine (l00From_any (c := c) w hr hl).mono ?_
  rintro e w1 ⟨rfl, hs1, hb1⟩
  have hz1 : w.heap.size ≤ w1.heap.size := hb1.size
  go_wp2_with fail
  refine (l29Draw_any n w1 hs1 hn (by omega)).mono ?_
  rintro e w2 ⟨u, ys, rfl, ha, hn', ho, hs2, hf⟩
  have hb2 : Below w.heap.size w w2 := hb1.trans (hf.below (B := w.heap.size) (fun k hk => by have : k = w.heap.size := hk; omega) hz1)
  go_wp2_with fail
  go_ret
  exact ⟨_, _, rfl, ha, hn', ho.mono hz1, hb2⟩
end Go.Proofs.YtljlcbichimhaaaGreatDoor
