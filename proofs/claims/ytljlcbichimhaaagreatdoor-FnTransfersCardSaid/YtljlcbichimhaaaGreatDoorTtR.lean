/-
  Transfer functions read back from their texts by the program.
-/
import Derived.Test.YtljlcbichimhaaaGreatDoorTtE
namespace Go.Proofs.YtljlcbichimhaaaGreatDoor
open Go.ChangeShapes Go.WideShapes Go.ChangeAt Go.RowKit Go.Sort
set_option linter.unusedVariables false
set_option linter.unusedSimpArgs false

theorem RdV.partT {w : World} {b o : Nat} {L : List Value} (h : RdV w (some ⟨b, o, none⟩) L) (m n : Nat) : RdV w (some ⟨b, o + m, none⟩) ((L.drop m).take n) := by
  have hl := h.len
  refine ⟨by rw [List.length_take, List.length_drop]; omega, ?_⟩
  rcases h.cells with rfl | ⟨b', o', e, hc⟩
  · exact .inl (by simp)
  · simp only [Option.some.injEq, Addr.mk.injEq, and_true] at e
    obtain ⟨rfl, rfl⟩ := e
    refine .inr ⟨b, o + m, rfl, fun i hi => ?_⟩
    rw [List.length_take, List.length_drop] at hi
    rw [List.getElem_take, List.getElem_drop, show o + m + i = o + (m + i) by omega]
    exact hc (m + i) (by omega)
theorem not_ofT {x : ByteArray} (h : x ≠ ⟨#[100, 101, 110]⟩) : (x.toList == [100, 101, 110]) = false := by
  rw [beq_eq_false_iff_ne]
  intro e
  apply h
  apply str_ext
  rw [e, ByteArray.toList_eq]
theorem OwnV.capT {B : Nat} {w : World} {E : TypeId} {p : Option Addr} {n c : Nat} {L : List Value} (h : OwnV B w E (.slice p n c) L) : n ≤ c := by
  rcases h.2 with ⟨h1, h2⟩ | ⟨g, cap, cur, hv, _, _, hn, _⟩
  · simp only [Value.slice.injEq] at h1
    omega
  · simp only [Value.slice.injEq] at hv
    omega
theorem readNums_ok {p : Option Addr} {c n : Nat} {xs : List Int} (w : World) (h : RdV w p (strB ((xs.map Lib.itoa).map bs))) (hx : AllS xs) (hn : xs.length = n) (hn2 : n ≤ 65) (hT : TxtT w) (hE : TxtE w) :
    Calls Tryz.prog 38 #[.slice p n c] w fun e w' => ∃ u, e = .returned (.tuple #[u, .bool true]) ∧ OwnI w.heap.size w' u xs ∧ Below w.heap.size w w' := by
  have hl : ((xs.map Lib.itoa).map bs).length = n := by simp [hn]
  have h1 := readNumbers_any (c := c) w h (by rw [hl]; omega) (fun x hx' => by
    obtain ⟨l, hl', rfl⟩ := List.mem_map.1 hx'
    obtain ⟨i, hi, rfl⟩ := List.mem_map.1 hl'
    have := Lib.itoa_length_le i (allS_I hx i hi).1 (allS_I hx i hi).2
    rw [bs_size]; omega) hT hE
  rw [hl] at h1
  refine h1.mono ?_
  rintro e w' ⟨hb, hm⟩
  rw [decsB_nums hx] at hm
  obtain ⟨u, he, ho⟩ := hm
  exact ⟨u, he, ho, hb⟩
set_option maxHeartbeats 4000000 in
set_option maxRecDepth 100000 in
theorem readTransfer_any {a b : List Int} (w : World) (ha : Canon a ∧ AllS a ∧ a.length ≤ 65) (hb : Canon b ∧ AllS b ∧ b.length ≤ 65) (h1 : b.getD 0 0 = 1) (hT : TxtT w) (hE : TxtE w) (hC : TxtC w) :
    Calls Tryz.prog 15 #[.string (bs (trStr a b))] w fun e w' => ∃ x, e = .returned (.tuple #[x, .bool true]) ∧ OwnT w.heap.size w' x a b ∧ Below w.heap.size w w' := by
  have hsz := (trStr_size ha.2.1 hb.2.1 ha.2.2 hb.2.2).2.2
  have hw := trStr_words (a := a) (b := b) (by intro h; have := ha.1.1; rw [h] at this; simp at this) (by intro h; have := hb.1.1; rw [h] at this; simp at this)
  obtain ⟨P, hP⟩ : ∃ P, P = wordsB (bs (trStr a b)) := ⟨_, rfl⟩
  obtain ⟨n1, hn1⟩ : ∃ n, n = a.length := ⟨_, rfl⟩
  obtain ⟨n2, hn2⟩ : ∃ n, n = b.length := ⟨_, rfl⟩
  obtain ⟨N, hN⟩ : ∃ n, n = n1 + n2 + 2 := ⟨_, rfl⟩
  obtain ⟨m, hm⟩ : ∃ n, n = n1 + 1 := ⟨_, rfl⟩
  have hPl : P.length = N := by rw [hP, hw, List.length_map, wordsT_length]; omega
  have HPden : Hid (P[m]? = some ⟨#[100, 101, 110]⟩) := by unfold Hid; rw [hP, hw, List.getElem?_map, hm, hn1, wordsT_den]; rfl
  have HPno : Hid (∀ k x, P[k]? = some x → k ≠ m → x ≠ ⟨#[100, 101, 110]⟩) := fun k x hx hk => by
    rw [hP, hw, List.getElem?_map, Option.map_eq_some_iff] at hx
    obtain ⟨l, hl, rfl⟩ := hx
    have := wordsT_noden hl (by omega)
    intro e
    exact this (bs_inj (m := denW) e)
  have HP1 : Hid (((strB P).drop 1).take n1 = strB ((a.map Lib.itoa).map bs)) := by
    unfold Hid strB
    rw [← List.map_drop, ← List.map_take, hP, hw, ← List.map_drop, ← List.map_take, hn1, wordsT_num]
  have HP2 : Hid (((strB P).drop (m + 1)).take n2 = strB ((b.map Lib.itoa).map bs)) := by
    unfold Hid strB
    rw [← List.map_drop, ← List.map_take, hP, hw, ← List.map_drop, ← List.map_take, hm, hn1, hn2, show a.length + 1 + 1 = a.length + 2 by omega, wordsT_dens, List.take_of_length_le (by simp)]
  obtain ⟨r, hr⟩ : ∃ r, r = w.heap.size := ⟨_, rfl⟩
  obtain ⟨E0, hE0⟩ : ∃ E, E = w.alloc (.cells #[.slice none 0 0, .slice none 0 0] 26) := ⟨_, rfl⟩
  have hB0 : Below w.heap.size w E0 := by rw [hE0]; exact (Below.refl _ _).alloc (Nat.le_refl _) _
  have q0 : Box E0 r [.slice none 0 0, .slice none 0 0] 26 := by rw [hE0, hr]; exact Box.newAt w [.slice none 0 0, .slice none 0 0] _ rfl
  have SP := Lib.hid (splitWords_any (bs (trStr a b)) E0 (by omega) (hC.below hB0))
  rw [← hP] at SP
  have hlenP : (strB P).length = N := by unfold strB; rw [List.length_map, hPl]
  have HE0 := Lib.hid hE0
  have HPL := Lib.hid hPl
  have HRR := Lib.hid hr
  have HT := Lib.hid (hT.below hB0)
  have HEE := Lib.hid (hE.below hB0)
  have HA := Lib.hid ha
  have HB := Lib.hid hb
  have H1 := Lib.hid h1
  have HN1 := Lib.hid hn1
  have HN2 := Lib.hid hn2
  have HNN := Lib.hid hN
  have HM := Lib.hid hm
  have hA1 : 1 ≤ n1 := by have := ha.1.1; omega
  have hA65 : n1 ≤ 65 := by omega
  have hB1 : 1 ≤ n2 := by have := hb.1.1; omega
  have hB65 : n2 ≤ 65 := by omega
  have HTT : Hid (∀ W x, Below w.heap.size w W → RdT W x a b → Calls Tryz.prog 16 #[x] W fun e w' => e = .returned (.string (bs (trStr a b))) ∧ Below W.heap.size W w') := fun W x hW hx => transferText_any W hx (hT.below hW)
  generalize bs (trStr a b) = TX at *
  clear hE0 hr hT hE hC ha hb h1 hP hw hn1 hn2
  go_enter Tryz.func15, Tryz.ntmps15
  go_upto_region 2 with (first | (go_at_call 37; rw [← HE0.out]; refine SP.out.mono ?_; rintro e E1 ⟨uw, rfl, hw1, hb1⟩) | fail)
  rw [← HRR.out]
  have q1 := q0.below hb1
  rcases OwnV.cases hw1 with ⟨-, h0⟩ | ⟨gw, cw, rfl, hBw, hgw, -, hrd⟩
  · exfalso; rw [h0] at hlenP; simp at hlenP; omega
  rw [hlenP] at hw1 ⊢
  have hcap : N ≤ cw := OwnV.capT hw1
  have HRD := Lib.hid hrd
  have hBE := hB0.trans (hb1.mono hB0.size)
  have hT1 := HT.out.below hb1
  have hE1 := HEE.out.below hb1
  have hNle : N ≤ 200 := by omega
  have hmN : m < N := by omega
  have hm66 : m ≤ 66 := by omega
  have hm2 : 2 ≤ m := by omega
  clear hrd hw1 hlenP q0 HT HEE hb1 hm hN hPl
  go_wp2_with fail
  go_loopw [5, 17] (fun v i wr => ∃ k : Nat, k ≤ N ∧ ((k ≤ m ∧ v = .int .i64 (-1)) ∨ (m < k ∧ v = .int .i64 (m : Int))) ∧ i = .int .i64 (k : Int) ∧ wr = E1) (fun _ i _ => N - (intOf i).toNat)
  case atStart => exact ⟨0, Nat.zero_le _, .inl ⟨Nat.zero_le _, rfl⟩, rfl, rfl⟩
  case round =>
    obtain ⟨k, hk, hv, rfl, hwr⟩ := hrel
    subst hwr
    by_cases hkt : k < N
    · have hkP : k < P.length := by rw [HPL.out]; exact hkt
      obtain ⟨b', o', e', hb', hc'⟩ := HRD.out.pos (k := k) (by simpa [strB] using hkP)
      have hck : wr.cell? ⟨gw, k, none⟩ = some (.string P[k]) := by
        cases e'
        have := hc' k (by simpa [strB] using hkP)
        rw [Nat.zero_add] at this
        rw [this]
        simp [strB]
      clear hb' hc' e'
      have HX : Hid (P[k]? = some P[k]) := List.getElem?_eq_getElem hkP
      generalize P[k] = x at hck HX
      clear hkP
      by_cases hkm : k = m
      · subst hkm
        obtain rfl : x = ⟨#[100, 101, 110]⟩ := by have := HPden.out; rw [HX.out] at this; exact Option.some.inj this
        obtain rfl : _ = Value.int .i64 (-1) := by
          rcases hv with ⟨-, h⟩ | ⟨h, -⟩
          · exact h
          · omega
        clear hv
        go_wp2_with fail
        go_roundw
        case rel => exact ⟨k + 1, by omega, .inr ⟨by omega, rfl⟩, by go_num, trivial⟩
        case measure => simp [intOf] <;> omega
      · have hne := not_ofT (HPno.out k x HX.out hkm)
        rcases hv with ⟨hkm2, rfl⟩ | ⟨hkm2, rfl⟩
        · go_wp2_with fail
          go_roundw
          case rel => exact ⟨k + 1, by omega, .inl ⟨by omega, rfl⟩, by go_num, trivial⟩
          case measure => simp [intOf] <;> omega
        · go_wp2_with fail
          go_roundw
          case rel => exact ⟨k + 1, by omega, .inr ⟨by omega, rfl⟩, by go_num, trivial⟩
          case measure => simp [intOf] <;> omega
    · obtain rfl : k = N := by omega
      obtain rfl : _ = Value.int .i64 (m : Int) := by
        rcases hv with ⟨h, -⟩ | ⟨-, h⟩
        · omega
        · exact h
      clear hv
      go_upto_region 11 with fail
      have hc1 : ¬ cw = 1 := by omega
      have hc2 : ¬ cw = m + 1 := by have := HNN.out; have := HM.out; omega
      have hmc : m ≤ cw := by omega
      have hmk : m + 1 ≤ k := by omega
      have e1 : m - 1 = n1 := by have := HM.out; omega
      have e2 : k - (m + 1) = n2 := by have := HNN.out; have := HM.out; omega
      have R1 : RdV wr (some ⟨gw, 1, none⟩) (strB ((a.map Lib.itoa).map bs)) := by
        have := HRD.out.partT 1 n1
        rw [HP1.out] at this
        exact this
      have R2 : RdV wr (some ⟨gw, m + 1, none⟩) (strB ((b.map Lib.itoa).map bs)) := by
        have := HRD.out.partT (m + 1) n2
        rw [HP2.out, Nat.zero_add] at this
        exact this
      have NU1 := Lib.hid (readNums_ok (c := cw - 1) wr R1 HA.out.2.1 HN1.out.symm hA65 hT1 hE1)
      have NU2 : Hid (∀ W, Below wr.heap.size wr W → Calls Tryz.prog 38 #[.slice (some ⟨gw, m + 1, none⟩) n2 (cw - (m + 1))] W fun e w' => ∃ u, e = .returned (.tuple #[u, .bool true]) ∧ OwnI W.heap.size w' u b ∧ Below W.heap.size W w') := fun W hW => readNums_ok (c := cw - (m + 1)) W (R2.keep fun b o e hb => hW.block b hb) HB.out.2.1 HN2.out.symm hB65 (hT1.below hW) (hE1.below hW)
      clear R1 R2
      go_upto_region 12 with (first | (go_at_call 38; refine NU1.out.mono ?_; rintro e w2 ⟨u1, rfl, ho1, hb2⟩; obtain ⟨pa, ca, rfl, -⟩ := ho1.rd) | fail)
      go_upto_region 13 with (first | (go_at_call 38; refine (NU2.out _ hb2).mono ?_; rintro e w3 ⟨u2, rfl, ho2, hb3⟩; obtain ⟨pb, cb, rfl, -⟩ := ho2.rd) | fail)
      obtain ⟨E4, hE4⟩ : ∃ E, E = w3.alloc (.cells #[.slice pa a.length ca, .slice pb b.length cb] 26) := ⟨_, rfl⟩
      obtain ⟨g4, hg4⟩ : ∃ g, g = w3.heap.size := ⟨_, rfl⟩
      have hb4 : Below w3.heap.size w3 E4 := by rw [hE4]; exact (Below.refl _ _).alloc (Nat.le_refl _) _
      have bx4 : Box E4 g4 [.slice pa a.length ca, .slice pb b.length cb] 26 := by rw [hE4, hg4]; exact Box.new _ _ _
      have h24 : Below w2.heap.size w2 E4 := hb3.trans (hb4.mono hb3.size)
      have h14 : Below wr.heap.size wr E4 := hb2.trans (h24.mono hb2.size)
      have q4 := q1.below h14
      have hBE4 := hBE.trans (h14.mono hBE.size)
      have oa := ho1.below h24
      have ob := ho2.below hb4
      have hBs := hBE.size
      have hs2 := hb2.size
      have hs3 := hb3.size
      have hrw : w.heap.size ≤ r := by rw [HRR.out]; exact Nat.le_refl _
      have hrW : r < wr.heap.size := q1.lt
      have hrg : r < g4 := by have := q1.lt; omega
      have IT := Lib.hid (isTransfer_true E4 oa.rdAt.2 ob.rdAt.2 oa.cap ob.cap HA.out HB.out H1.out)
      have RT : Hid (∀ W, Below E4.heap.size E4 W → RdT W (.agg #[.slice pa a.length ca, .slice pb b.length cb]) a b) := fun W hW => ⟨pa, ca, pb, cb, rfl, oa.rdAt.2.below hW, ob.rdAt.2.below hW, oa.cap, ob.cap, HA.out, HB.out, H1.out⟩
      have HE4 := Lib.hid hE4
      have HG4 := Lib.hid hg4
      clear hE4 hg4 ho1 ho2 q1 hb2 hb3 hb4 h24 h14 hT1 hE1 NU1 NU2
      go_upto_region 14 with fail
      rw [← HE4.out, ← HG4.out]
      have z0 := bx4.cell 0 rfl
      have z1 := bx4.cell 1 rfl
      go_upto_region 16 with (first | (go_at_call 28; refine IT.out.mono ?_; rintro e w5 ⟨rfl, hb5⟩; have y0 := (bx4.below hb5).cell 0 rfl; have y1 := (bx4.below hb5).cell 1 rfl) | (go_at_call 16; refine (HTT.out _ _ (hBE4.trans (hb5.mono hBE4.size)) (RT.out _ hb5)).mono ?_; rintro e w6 ⟨rfl, hb6⟩) | fail)
      have h46 : Below E4.heap.size E4 w6 := hb5.trans (hb6.mono hb5.size)
      have hB6 := hBE4.trans (h46.mono hBE4.size)
      have q6 := q4.below h46
      have b6 := bx4.below h46
      clear z0 z1 y0 y1
      have z0 := b6.cell 0 rfl
      have z1 := b6.cell 1 rfl
      have d0 := q6.cell 0 rfl
      have d1 := q6.cell 1 rfl
      have df0 := q6.frozen 0
      have df1 := q6.frozen 1
      have oa6 := (oa.below h46).keep (w' := (w6.setCell ⟨r, 0, none⟩ (.slice pa a.length ca)).setCell ⟨r, 1, none⟩ (.slice pb b.length cb)) fun k hk => by
        have := (oa.lt hk).1
        rw [Below.heap_setCell _ _ _ _ (show k ≠ r by omega), Below.heap_setCell _ _ _ _ (show k ≠ r by omega)]
      have ob6 := (ob.below h46).keep (w' := (w6.setCell ⟨r, 0, none⟩ (.slice pa a.length ca)).setCell ⟨r, 1, none⟩ (.slice pb b.length cb)) fun k hk => by
        have := (ob.lt hk).1
        rw [Below.heap_setCell _ _ _ _ (show k ≠ r by omega), Below.heap_setCell _ _ _ _ (show k ≠ r by omega)]
      have hbW := (hB6.setCell (p := ⟨r, 0, none⟩) hrw (.slice pa a.length ca)).setCell (p := ⟨r, 1, none⟩) hrw (.slice pb b.length cb)
      have bxW := (q6.set 0 (.slice pa a.length ca)).set 1 (.slice pb b.length cb)
      obtain ⟨W, hW⟩ : ∃ W, W = (w6.setCell ⟨r, 0, none⟩ (.slice pa a.length ca)).setCell ⟨r, 1, none⟩ (.slice pb b.length cb) := ⟨_, rfl⟩
      rw [← hW] at oa6 ob6 hbW bxW
      have HW := Lib.hid hW
      clear hW
      have e0 := bxW.cell 0 rfl
      have e1' := bxW.cell 1 rfl
      go_wp2_with fail
      rw [← HW.out]
      refine bodyPost_ret (v := .tuple #[.agg #[.slice pa a.length ca, .slice pb b.length cb], .bool true]) (by simp [results, Tryz.results15, go_sem, *]) rfl ?_
      exact ⟨_, rfl, ⟨_, _, rfl, oa6.mono (by omega), ob6.mono (by omega), HA.out.2.1, HB.out.2.1, HA.out.1, HB.out.1, H1.out⟩, hbW⟩
end Go.Proofs.YtljlcbichimhaaaGreatDoor
