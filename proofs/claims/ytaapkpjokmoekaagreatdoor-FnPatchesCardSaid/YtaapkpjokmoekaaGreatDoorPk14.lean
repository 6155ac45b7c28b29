/-
  Several texts in one: TxtH, RpS, RpT.
-/
import Derived.Test.YtaapkpjokmoekaaGreatDoorPk13
import Derived.BigQuiet
import Derived.Test.YtaapkpjokmoekaaGreatDoorPk4
namespace Go.Proofs.YtaapkpjokmoekaaGreatDoor
open Go.ChangeShapes Go.WideShapes Go.ChangeAt Go.RowKit Go.Sort
set_option linter.unusedVariables false
set_option linter.unusedSimpArgs false

theorem headB_at {k : Nat} {ws : List ByteArray} (hk : k < ws.length) (h : ∀ j, (hj : j < k) → ws[j]'(by omega) ≠ ofB) (he : ws[k] = ofB) : headB ws = ws.take k ∧ tailB ws = ws.drop (k + 1) := by
  induction ws generalizing k with
  | nil => simp at hk
  | cons x ws ih =>
    cases k with
    | zero =>
      have hx : x = ofB := he
      unfold headB tailB
      rw [List.takeWhile_cons_of_neg (by simp [hx]), List.dropWhile_cons_of_neg (by simp [hx])]
      exact ⟨rfl, rfl⟩
    | succ k =>
      have hx : x ≠ ofB := h 0 (by omega)
      obtain ⟨h1, h2⟩ := ih (k := k) (by simpa using hk) (fun j hj => h (j + 1) (by omega)) he
      unfold headB tailB at *
      rw [List.takeWhile_cons_of_pos (by simpa using hx), List.dropWhile_cons_of_pos (by simpa using hx), h1, h2]
      exact ⟨rfl, rfl⟩
theorem headB_no {ws : List ByteArray} (h : ∀ j, (hj : j < ws.length) → ws[j] ≠ ofB) : headB ws = ws ∧ tailB ws = [] := by
  induction ws with
  | nil => exact ⟨rfl, rfl⟩
  | cons x ws ih =>
    have hx : x ≠ ofB := h 0 (by simp)
    obtain ⟨h1, h2⟩ := ih fun j hj => h (j + 1) (by simpa using hj)
    unfold headB tailB at *
    rw [List.takeWhile_cons_of_pos (by simpa using hx), List.dropWhile_cons_of_pos (by simpa using hx), h1, h2]
    exact ⟨rfl, rfl⟩
theorem retNums_one {w w' : World} {xs : List ByteArray} {e : Ending} (h : RetNums w xs e w') : ∃ u, e = .returned (.tuple #[u, .bool (decsB xs).isSome]) ∧ OwnI w.heap.size w' u ((decsB xs).getD []) ∧ Below w.heap.size w w' := by
  obtain ⟨hb, h⟩ := h
  cases hd : decsB xs with
  | none =>
    rw [hd] at h
    exact ⟨_, by simpa using h, OwnI.nil _ _, hb⟩
  | some ns =>
    rw [hd] at h
    obtain ⟨u, he, hu⟩ := h
    exact ⟨u, he, hu, hb⟩
theorem readN_words {s : ByteArray} {k0 : ByteArray} {W0 : List ByteArray} (h : wordsB s = k0 :: W0) :
    readN s = if (decsB (headB W0)).isSome = true ∧ (decsB (tailB W0)).isSome = true then
      (if nodeB ⟨kindNamed k0, ((decsB (headB W0)).getD []).getD 0 0, ((decsB (headB W0)).getD []).getD 1 0, (decsB (tailB W0)).getD []⟩ 4 = true ∧ bs (nodeStr ⟨kindNamed k0, ((decsB (headB W0)).getD []).getD 0 0, ((decsB (headB W0)).getD []).getD 1 0, (decsB (tailB W0)).getD []⟩) = s then some ⟨kindNamed k0, ((decsB (headB W0)).getD []).getD 0 0, ((decsB (headB W0)).getD []).getD 1 0, (decsB (tailB W0)).getD []⟩ else none) else none := by
  unfold readN
  rw [h]
  cases h1 : decsB (headB W0) with
  | none => simp [h1]
  | some ns => cases h2 : decsB (tailB W0) with
    | none => simp [h1, h2]
    | some fs => simp [h1, h2]
theorem wordsB_size {s x : ByteArray} (h : x ∈ wordsB s) : x.size ≤ s.size := by
  unfold wordsB at h
  exact partsB_size (List.mem_filter.1 h).1
theorem wordsB_le (s : ByteArray) : (wordsB s).length ≤ s.size + 1 := by
  unfold wordsB
  exact Nat.le_trans (List.length_filter_le _ _) (partsB_le s)
theorem RdV.part {w : World} {b o : Nat} {L : List Value} (h : RdV w (some ⟨b, o, none⟩) L) (m n : Nat) : RdV w (some ⟨b, o + m, none⟩) ((L.drop m).take n) := by
  have hl := h.len
  refine ⟨by rw [List.length_take, List.length_drop]; omega, ?_⟩
  rcases h.cells with rfl | ⟨b', o', e, hc⟩
  · exact .inl (by simp)
  · simp only [Option.some.injEq, Addr.mk.injEq, and_true] at e
    obtain ⟨rfl, rfl⟩ := e
    refine .inr ⟨b, o + m, rfl, fun i hi => ?_⟩
    rw [List.length_take, List.length_drop] at hi
    rw [List.getElem_take, List.getElem_drop, show o + m + i = o + (m + i) by omega]
    exact hc (m + i) (by omega)
theorem RdV.none0 (w : World) (p : Option Addr) : RdV w p [] := ⟨by simp [maxLen], .inl rfl⟩
theorem OwnV.cap {B : Nat} {w : World} {E : TypeId} {p : Option Addr} {n c : Nat} {L : List Value} (h : OwnV B w E (.slice p n c) L) : n ≤ c := by
  rcases h.2 with ⟨h1, h2⟩ | ⟨g, cap, cur, hv, _, _, hn, _⟩
  · simp only [Value.slice.injEq] at h1
    omega
  · simp only [Value.slice.injEq] at hv
    omega
theorem OwnI.rdHere {B : Nat} {w : World} {p : Option Addr} {n c : Nat} {xs : List Int} (h : OwnI B w (.slice p n c) xs) : n = xs.length ∧ RdI w p xs := by
  obtain ⟨q, d, e, hr⟩ := h.rd
  simp only [Value.slice.injEq] at e
  obtain ⟨rfl, rfl, rfl⟩ := e
  exact ⟨rfl, hr⟩
theorem box_exit {w0 w : World} {r : Nat} (h : Box w r [.int .i64 0, .int .i64 0, .int .i64 0, .slice none 0 0] 35) (hb : Below w0.heap.size w0 w) (hr : w0.heap.size ≤ r) (x0 x1 x2 x3 : Value) :
    ∃ W', W' = (((w.setCell ⟨r, 0, none⟩ x0).setCell ⟨r, 1, none⟩ x1).setCell ⟨r, 2, none⟩ x2).setCell ⟨r, 3, none⟩ x3 ∧ Box W' r [x0, x1, x2, x3] 35 ∧ Below w0.heap.size w0 W' := by
  have b3 := (((h.set 0 x0).set 1 x1).set 2 x2).set 3 x3
  exact ⟨_, rfl, by simpa using b3, (((hb.setCell (p := ⟨r, 0, none⟩) hr _).setCell (p := ⟨r, 1, none⟩) hr _).setCell (p := ⟨r, 2, none⟩) hr _).setCell (p := ⟨r, 3, none⟩) hr _⟩
theorem RN.keepI {w0 w : World} {r g : Nat} {k a b : Int} {u : Value} {f : List Int} {uw : Value} {L : List Value} (h : RN w0 w r g k a b u f uw L) {u' : Value} {f' : List Int} (hu : OwnI w0.heap.size w u' f') (i : Nat) (v : Value) : OwnI w0.heap.size (w.setCell ⟨g, i, none⟩ v) u' f' := by
  have n1 := hu.typ.notBox h.box (by decide)
  exact hu.keep fun j hj => Below.heap_setCell _ _ _ _ (fun e => n1 (by rw [hj, e]))
set_option maxHeartbeats 8000000 in
set_option maxRecDepth 100000 in
theorem implReadNode_v {s : ByteArray} (w : World) (hs : s.size ≤ 1048576) (hT : TxtT w) (hE : TxtE w) (hC : TxtC w) :
    Calls Tryz.prog 55 #[.string s] w (RetNd w s) := by
  obtain ⟨P, hP⟩ : ∃ P, P = wordsB s := ⟨_, rfl⟩
  have HPs : Hid (∀ x ∈ P, x.size ≤ 281474976710656) := fun x hx => by rw [hP] at hx; have := wordsB_size hx; omega
  have hPl : P.length ≤ 1048577 := by rw [hP]; have := wordsB_le s; omega
  obtain ⟨r, hr⟩ : ∃ r, r = w.heap.size := ⟨_, rfl⟩
  obtain ⟨E0, hE0⟩ : ∃ E, E = w.alloc (.cells #[.int .i64 0, .int .i64 0, .int .i64 0, .slice none 0 0] 35) := ⟨_, rfl⟩
  have hB0 : Below w.heap.size w E0 := by rw [hE0]; exact (Below.refl _ _).alloc (Nat.le_refl _) _
  have q0 : Box E0 r [.int .i64 0, .int .i64 0, .int .i64 0, .slice none 0 0] 35 := by rw [hE0, hr]; exact Box.newAt w [.int .i64 0, .int .i64 0, .int .i64 0, .slice none 0 0] _ rfl
  have SP := Lib.hid (splitWords_any s E0 hs (hC.below hB0))
  rw [← hP] at SP
  have KN : Hid (∀ x W, Calls Tryz.prog 87 #[.string x] W fun e w' => e = .returned (.int .i64 (kindNamed x)) ∧ Below W.heap.size W w') := fun x W => implKindNamed_any x W
  have HNone : Hid (∀ W', readN s = none → Below w.heap.size w W' → RetNd w s (.returned (.tuple #[.agg #[.int .i64 0, .int .i64 0, .int .i64 0, .slice none 0 0], .bool false])) W') := fun W' h hb => retNd_none h hb
  have HSome : Hid (∀ W' x u, readN s = some x → OwnI w.heap.size W' u x.src → Below w.heap.size w W' → RetNd w s (.returned (.tuple #[.agg #[.int .i64 x.kind, .int .i64 x.a, .int .i64 x.b, u], .bool true])) W') := fun W' x u h hu hb => retNd_some h hu hb
  have HRW : Hid (∀ k0 W0, P = k0 :: W0 → _) := fun k0 W0 h => readN_words (s := s) (k0 := k0) (W0 := W0) (by rw [← hP, h])
  have HR0 : Hid (P = [] → readN s = none) := fun h => by unfold readN; rw [← hP, h]
  have HE0 := Lib.hid hE0
  have HRR := Lib.hid hr
  have HT := Lib.hid hT
  have HEE := Lib.hid hE
  generalize RetNd w s = RR at *
  clear hE0 hP hr hT hE hC
  go_enter Tryz.func55, Tryz.ntmps55
  go_upto_region 2 with (first | (go_at_call 54; rw [← HE0.out]; refine SP.out.mono ?_; rintro e E1 ⟨uw, rfl, hw1, hb1⟩) | fail)
  have hB1 := hB0.trans (hb1.mono hB0.size)
  have q1 := q0.below hb1
  have hlenP : (strB P).length = P.length := by simp [strB]
  rw [← HRR.out]
  by_cases hPn : P = []
  · have hrn := HR0.out hPn
    have hl0 : (strB P).length = 0 := by rw [hPn]; rfl
    have hsl : ∃ p c, uw = .slice p 0 c := by
      rcases OwnV.cases hw1 with ⟨h, -⟩ | ⟨gw, cw, h, -⟩
      · exact ⟨_, _, h⟩
      · rw [hl0] at h; exact ⟨_, _, h⟩
    obtain ⟨p, c, rfl⟩ := hsl
    have u0 := q1.cell 0 rfl
    have u1' := q1.cell 1 rfl
    have u2' := q1.cell 2 rfl
    have u3 := q1.cell 3 rfl
    have v0 := q1.frozen 0
    have v1 := q1.frozen 1
    have v2 := q1.frozen 2
    have v3 := q1.frozen 3
    obtain ⟨W', hW, bx, be⟩ := box_exit q1 hB1 (by rw [HRR.out]; exact Nat.le_refl _) (.int .i64 0) (.int .i64 0) (.int .i64 0) (.slice none 0 0)
    have k0' := bx.cell 0 rfl
    have k1' := bx.cell 1 rfl
    have k2' := bx.cell 2 rfl
    have k3' := bx.cell 3 rfl
    have FIN := Lib.hid (HNone.out W' hrn be)
    have HW := Lib.hid hW
    clear hW bx be hl0 hlenP hw1 hb1 hB1 hB0 hPn hrn
    go_wp2_with fail
    rw [← HW.out]
    refine bodyPost_ret (v := .tuple #[.agg #[.int .i64 0, .int .i64 0, .int .i64 0, .slice none 0 0], .bool false]) (by simp [results, Tryz.results55, go_sem, *]) rfl ?_
    exact FIN.out
  · obtain ⟨k0, W0, hP0⟩ : ∃ k0 W0, P = k0 :: W0 := by
      cases hPc : P with
      | nil => exact absurd hPc hPn
      | cons x y => exact ⟨x, y, rfl⟩
    have HRWW := Lib.hid (HRW.out k0 W0 hP0)
    subst hP0
    obtain ⟨m, hm⟩ : ∃ m, m = W0.length := ⟨_, rfl⟩
    have HHs : Hid (∀ x ∈ W0, x.size ≤ 281474976710656) := fun x hx => HPs.out x (by simp [hx])
    have hml : m ≤ 1048577 := by rw [hm]; simp at hPl; omega
    rcases OwnV.cases hw1 with ⟨-, h0⟩ | ⟨gw, cw, rfl, hBw, hgw, -, hrd⟩
    · exfalso; simp [strB] at h0
    have hl1 : (strB (k0 :: W0)).length = m + 1 := by rw [hm]; simp [strB]
    have hcap : m + 1 ≤ cw := by rw [← hl1]; exact OwnV.cap hw1
    obtain ⟨ex, rfl⟩ : ∃ ex, cw = m + 1 + ex := ⟨cw - (m + 1), by omega⟩
    have hc0 : E1.cell? ⟨gw, 0, none⟩ = some (.string k0) := by
      rcases hrd.cells with h0 | ⟨b, o, e1, hc⟩
      · simp [strB] at h0
      · simp only [Option.some.injEq, Addr.mk.injEq, and_true] at e1
        obtain ⟨rfl, rfl⟩ := e1
        rw [show (⟨gw, 0, none⟩ : Addr) = ⟨gw, 0 + 0, none⟩ from rfl, hc 0 (by simp [strB])]
        simp [strB]
    have HWD : Hid (OwnV w.heap.size E1 9 (.slice (some ⟨gw, 0, none⟩) (m + 1) (m + 1 + ex)) (strB (k0 :: W0))) := by
      have := hw1.mono hB0.size
      rw [hl1] at this; exact this
    have HM := Lib.hid hm
    rw [hl1]
    clear hm hl1 hlenP hw1 hrd hPn hcap hPl
    go_upto_region 5 with (first | (go_at_call 87; refine (KN.out _ _).mono ?_; rintro e E2 ⟨rfl, hb2⟩) | fail)
    obtain ⟨g, hg⟩ : ∃ g, g = E2.heap.size := ⟨_, rfl⟩
    obtain ⟨E3, hE3⟩ : ∃ E, E = E2.alloc (.cells #[.int .i64 (kindNamed k0), .int .i64 0, .int .i64 0, .slice none 0 0] 35) := ⟨_, rfl⟩
    rw [← hg, ← hE3]
    have hB2 := hB1.trans (hb2.mono hB1.size)
    have R3 : RN w E3 r g (kindNamed k0) 0 0 (.slice none 0 0) [] (.slice (some ⟨gw, 0, none⟩) (m + 1) (m + 1 + ex)) (strB (k0 :: W0)) := by
      have hq := (q1.below hb2).lt
      rw [hE3, hg]
      exact ⟨(q1.below hb2).alloc _, Box.new _ [.int .i64 (kindNamed k0), .int .i64 0, .int .i64 0, .slice none 0 0] _, OwnI.nil _ _, (HWD.out.below hb2).below ((Below.refl _ _).alloc (Nat.le_refl _) _), hB2.alloc hB2.size _, by rw [HRR.out]; exact Nat.le_refl _, hq⟩
    obtain ⟨E4, hE4⟩ : ∃ E, E = E3.alloc (.cells #[] 9) := ⟨_, rfl⟩
    have R4 : RN w E4 r g (kindNamed k0) 0 0 (.slice none 0 0) [] (.slice (some ⟨gw, 0, none⟩) (m + 1) (m + 1 + ex)) (strB (k0 :: W0)) := by rw [hE4]; exact R3.below ((Below.refl _ _).alloc (Nat.le_refl _) _)
    have HE4 := Lib.hid hE4
    have HR4 := Lib.hid R4
    clear hE3 hE4 R3 R4 hb2 hB2 hB1 hB0 hb1 q0 q1 hc0 HWD hg
    go_upto_region 6 with fail
    rw [← HE4.out]
    have HPH : Hid (RdV E4 (if m + 1 + ex = 1 then some ⟨gw, 0, none⟩ else some ⟨gw, 1, none⟩) (strB W0)) := by
      split
      · rename_i h1
        have : W0 = [] := List.eq_nil_of_length_eq_zero (by rw [← HM.out]; omega)
        rw [this]; exact RdV.none0 _ _
      · rcases OwnV.cases HR4.out.wd with ⟨h0, -⟩ | ⟨gw', cw', h1, -, -, -, hrd⟩
        · cases h0
        · simp only [Value.slice.injEq, Option.some.injEq, Addr.mk.injEq, and_true, true_and] at h1
          obtain ⟨rfl, -⟩ := h1
          have := hrd.part 1 W0.length
          have e : ((strB (k0 :: W0)).drop 1).take W0.length = strB W0 := List.take_of_length_le (by simp [strB])
          rw [e] at this
          exact this
    generalize (if m + 1 + ex = 1 then some (⟨gw, 0, none⟩ : Addr) else some ⟨gw, 1, none⟩) = ph at *
    go_wp2_with fail
    go_loopw [6, 7, 30] (fun v6 v7 i wr => ∃ (k : Nat), k ≤ m ∧ v6 = .slice ph m (m + ex) ∧ v7 = .slice (some ⟨E3.heap.size, 0, none⟩) 0 0 ∧ i = .int .i64 (k : Int) ∧ Hid (∀ j, j < k → ∀ x, W0[j]? = some x → x ≠ ofB) ∧ wr = E4) (fun _ _ i _ => ((m : Int) - intOf i).toNat)
    case atStart => exact ⟨0, Nat.zero_le _, rfl, rfl, rfl, by intro j hj; omega, rfl⟩
    case round =>
      obtain ⟨k, hk, rfl, rfl, rfl, HNO, hwr⟩ := hrel
      subst hwr
      by_cases hkt : k < m
      · have hkW : k < W0.length := by rw [← HM.out]; exact hkt
        obtain ⟨b, o, rfl, hb, hc⟩ := HPH.out.pos (k := k) (by simpa [strB] using hkW)
        have hck : wr.cell? ⟨b, o + k, none⟩ = some (.string W0[k]) := by
          rw [hc k (by simpa [strB] using hkW)]
          simp [strB]
        clear hc
        by_cases hx : W0[k] = ofB
        · have hck' : wr.cell? ⟨b, o + k, none⟩ = some (.string ⟨#[111, 102]⟩) := by rw [hck, hx]; rfl
          have hHT := headB_at hkW (fun j hj => HNO.out j hj _ (List.getElem?_eq_getElem _)) hx
          obtain ⟨H, hH⟩ : ∃ H, H = W0.take k := ⟨_, rfl⟩
          obtain ⟨T, hTT⟩ : ∃ T, T = W0.drop (k + 1) := ⟨_, rfl⟩
          rw [← hH, ← hTT] at hHT
          have HH := Lib.hid hHT
          obtain ⟨j, rfl⟩ : ∃ j, m = k + 1 + j := ⟨m - (k + 1), by omega⟩
          have hTl : T.length = j := by rw [hTT, List.length_drop, ← HM.out]; omega
          have hHl : H.length = k := by rw [hH, List.length_take, ← HM.out]; omega
          have hHn : H.length ≤ 1048577 := by omega
          have hTn : T.length ≤ 1048577 := by omega
          have hHs : ∀ x ∈ H, x.size ≤ 281474976710656 := fun x hx => HHs.out x (by rw [hH] at hx; exact List.mem_of_mem_take hx)
          have hTs : ∀ x ∈ T, x.size ≤ 281474976710656 := fun x hx => HHs.out x (by rw [hTT] at hx; exact List.mem_of_mem_drop hx)
          have HP1 : Hid (RdV wr (some ⟨b, o, none⟩) (strB H)) := by
            have := HPH.out.part 0 k
            have e : ((strB W0).drop 0).take k = strB H := by rw [hH]; simp [strB, List.map_take]
            rw [e] at this; exact this
          have HP2 : Hid (RdV wr (some ⟨b, o + (k + 1), none⟩) (strB T)) := by
            have := HPH.out.part (k + 1) j
            have e : ((strB W0).drop (k + 1)).take j = strB T := by
              rw [hTT]
              have : ((W0.map Value.string).drop (k + 1)).length ≤ j := by rw [List.length_drop, List.length_map, ← HM.out]; omega
              unfold strB
              rw [List.take_of_length_le this, List.map_drop]
            rw [e] at this; exact this
          clear hck hx hHT hH hTT
          go_upto_region 10 with fail
          go_quiet (fail)
          have HRN := Lib.hid (HR4.out.below (below_drewN (Below.refl _ _) nq))
          have RH : Hid (RdV (wr.drewN nq) (some ⟨b, o, none⟩) (strB H)) := HP1.out.keep (fun _ _ _ _ => rfl)
          have RT : Hid (RdV (wr.drewN nq) (if k + 1 + j + ex = k + 1 then some ⟨b, o, none⟩ else some ⟨b, o + (k + 1), none⟩) (strB T)) := by
            split
            · have : T = [] := List.eq_nil_of_length_eq_zero (by omega)
              rw [this]; exact RdV.none0 _ _
            · exact HP2.out.keep (fun _ _ _ _ => rfl)
          clear HP1 HP2 HR4 HPH hck' HNO
          generalize wr.drewN nq = E9 at *
          generalize (if k + 1 + j + ex = k + 1 then some (⟨b, o, none⟩ : Addr) else some ⟨b, o + (k + 1), none⟩) = pt at *
          generalize hct : k + 1 + j + ex - (k + 1) = ct at *
          clear hct
          have NH := Lib.hid ((readNumbers_any (c := (k + 1 + j + ex)) E9 RH.out hHn hHs (HT.out.below HRN.out.bel) (HEE.out.below HRN.out.bel)).mono fun e w' h => retNums_one h)
          have NT : Hid (∀ W, Below E9.heap.size E9 W → Calls Tryz.prog 56 #[.slice pt T.length (ct)] W fun e w' => ∃ u, e = .returned (.tuple #[u, .bool (decsB T).isSome]) ∧ OwnI W.heap.size w' u ((decsB T).getD []) ∧ Below W.heap.size W w') := fun W hW => (readNumbers_any (c := ct) W (RT.out.keep fun b o e hb => hW.block b hb) hTn hTs (HT.out.below (HRN.out.below hW).bel) (HEE.out.below (HRN.out.below hW).bel)).mono fun e w' h => retNums_one h
          have HRD : Hid (readN s = if (decsB H).isSome = true ∧ (decsB T).isSome = true then
            (if nodeB ⟨kindNamed k0, ((decsB H).getD []).getD 0 0, ((decsB H).getD []).getD 1 0, (decsB T).getD []⟩ 4 = true ∧ bs (nodeStr ⟨kindNamed k0, ((decsB H).getD []).getD 0 0, ((decsB H).getD []).getD 1 0, (decsB T).getD []⟩) = s then some ⟨kindNamed k0, ((decsB H).getD []).getD 0 0, ((decsB H).getD []).getD 1 0, (decsB T).getD []⟩ else none) else none) := by
            have h := HRWW.out
            rw [HH.out.1, HH.out.2] at h
            exact h
          generalize (decsB H).isSome = o1 at *
          generalize (decsB T).isSome = o2 at *
          generalize (decsB H).getD [] = ns at *
          generalize (decsB T).getD [] = fs at *
          clear HH HRWW
          rw [hHl] at NH
          simp only [hTl] at NT
          go_upto_region 13 with (first | (go_at_call 56; refine NH.out.mono ?_; rintro e E5 ⟨un, rfl, ow1, hb5⟩) | fail)
          obtain ⟨q1, c1, rfl, -⟩ := ow1.rd
          go_upto_region 14 with (first | (go_at_call 56; refine (NT.out _ hb5).mono ?_; rintro e E6 ⟨uf, rfl, ow2, hb6⟩) | fail)
          obtain ⟨q2, c2, rfl, -⟩ := ow2.rd
          have R5 := HRN.out.below hb5
          have R6 := R5.below hb6
          have ow1 := (ow1.below hb6).mono HRN.out.bel.size
          have ow2 := ow2.mono R5.bel.size
          clear NH NT RH RT R5 hb5 hb6 HRN
          have x1 := R6.box.frozen 1
          have x2 := R6.box.frozen 2
          have x3 := R6.box.frozen 3
          have y1 := R6.box.cell 1 rfl
          have y2 := R6.box.cell 2 rfl
          have y3 := R6.box.cell 3 rfl
          rcases ns with _ | ⟨a, _ | ⟨b, l⟩⟩
          · have HR8 := Lib.hid (R6.from ow2)
            clear R6 ow1 ow2
            go_upto_region 19 with fail
            obtain ⟨E8, hE8⟩ : ∃ E8, E8 = E6.setCell ⟨g, 3, none⟩ (.slice q2 fs.length c2) := ⟨_, rfl⟩
            rw [← hE8] at HR8 ⊢
            clear hE8 x1 x2 x3 y1 y2 y3
            have R8 := HR8.out
            have HRD8 : Hid (readN s = if o1 = true ∧ o2 = true then (if nodeB ⟨kindNamed k0, 0, 0, fs⟩ 4 = true ∧ bs (nodeStr ⟨kindNamed k0, 0, 0, fs⟩) = s then some ⟨kindNamed k0, 0, 0, fs⟩ else none) else none) := HRD.out
            clear HRD
            cases o1 with
            | false =>
              have hnone : readN s = none := by rw [HRD8.out, if_neg (by simp)]
              go_upto_region 20 with fail
              have u0 := R8.res.cell 0 rfl
              have u1' := R8.res.cell 1 rfl
              have u2' := R8.res.cell 2 rfl
              have u3 := R8.res.cell 3 rfl
              have v0 := R8.res.frozen 0
              have v1 := R8.res.frozen 1
              have v2 := R8.res.frozen 2
              have v3 := R8.res.frozen 3
              obtain ⟨W', hW, bx, be, -⟩ := R8.exit (.int .i64 0) (.int .i64 0) (.int .i64 0) (.slice none 0 0)
              have k0' := bx.cell 0 rfl
              have k1' := bx.cell 1 rfl
              have k2' := bx.cell 2 rfl
              have k3' := bx.cell 3 rfl
              have FIN := Lib.hid (HNone.out W' hnone be)
              have HW := Lib.hid hW
              clear hW bx be
              go_wp2_with fail
              rw [← HW.out]
              refine bodyPost_ret (v := .tuple #[.agg #[.int .i64 0, .int .i64 0, .int .i64 0, .slice none 0 0], .bool false]) (by simp [results, Tryz.results55, go_sem, *]) rfl ?_
              exact FIN.out
            | true =>
              cases o2 with
              | false =>
                have hnone : readN s = none := by rw [HRD8.out, if_neg (by simp)]
                go_upto_region 20 with fail
                have u0 := R8.res.cell 0 rfl
                have u1' := R8.res.cell 1 rfl
                have u2' := R8.res.cell 2 rfl
                have u3 := R8.res.cell 3 rfl
                have v0 := R8.res.frozen 0
                have v1 := R8.res.frozen 1
                have v2 := R8.res.frozen 2
                have v3 := R8.res.frozen 3
                obtain ⟨W', hW, bx, be, -⟩ := R8.exit (.int .i64 0) (.int .i64 0) (.int .i64 0) (.slice none 0 0)
                have k0' := bx.cell 0 rfl
                have k1' := bx.cell 1 rfl
                have k2' := bx.cell 2 rfl
                have k3' := bx.cell 3 rfl
                have FIN := Lib.hid (HNone.out W' hnone be)
                have HW := Lib.hid hW
                clear hW bx be
                go_wp2_with fail
                rw [← HW.out]
                refine bodyPost_ret (v := .tuple #[.agg #[.int .i64 0, .int .i64 0, .int .i64 0, .slice none 0 0], .bool false]) (by simp [results, Tryz.results55, go_sem, *]) rfl ?_
                exact FIN.out
              | true =>
                have hrd := HRD8.out
                rw [if_pos ⟨rfl, rfl⟩] at hrd
                have HSP := Lib.hid hrd
                clear hrd HRD8
                have VN : Hid (VNode E8 (.agg #[.int .i64 (kindNamed k0), .int .i64 0, .int .i64 0, .slice q2 fs.length c2]) ⟨kindNamed k0, 0, 0, fs⟩) := by
                  obtain ⟨q, d, e, hr⟩ := R8.own.rd
                  obtain ⟨rfl, -, -⟩ := (Value.slice.injEq _ _ _ _ _ _).mp e
                  exact ⟨q2, c2, rfl, hr⟩
                have OK := Lib.hid (isNode_v 4 E8 VN.out)
                have y0 := R8.box.cell 0 rfl
                have y1 := R8.box.cell 1 rfl
                have y2 := R8.box.cell 2 rfl
                have y3 := R8.box.cell 3 rfl
                have HT8 : Hid (TxtT E8) := HT.out.below R8.bel
                cases hx : nodeB ⟨kindNamed k0, 0, 0, fs⟩ 4
                · rw [hx] at OK
                  have hnone : readN s = none := by rw [HSP.out, if_neg (by rw [hx]; simp)]
                  go_upto_region 20 with (first | (go_at_call 47; refine OK.out.mono ?_; rintro e w1 ⟨rfl, hb⟩) | fail)
                  have R9 := R8.below hb
                  clear y0 y1 y2 y3
                  have u0 := R9.res.cell 0 rfl
                  have u1' := R9.res.cell 1 rfl
                  have u2' := R9.res.cell 2 rfl
                  have u3 := R9.res.cell 3 rfl
                  have v0 := R9.res.frozen 0
                  have v1 := R9.res.frozen 1
                  have v2 := R9.res.frozen 2
                  have v3 := R9.res.frozen 3
                  obtain ⟨W', hW, bx, be, -⟩ := R9.exit (.int .i64 0) (.int .i64 0) (.int .i64 0) (.slice none 0 0)
                  have k0' := bx.cell 0 rfl
                  have k1' := bx.cell 1 rfl
                  have k2' := bx.cell 2 rfl
                  have k3' := bx.cell 3 rfl
                  have FIN := Lib.hid (HNone.out W' hnone be)
                  have HW := Lib.hid hW
                  clear hW bx be
                  go_wp2_with fail
                  rw [← HW.out]
                  refine bodyPost_ret (v := .tuple #[.agg #[.int .i64 0, .int .i64 0, .int .i64 0, .slice none 0 0], .bool false]) (by simp [results, Tryz.results55, go_sem, *]) rfl ?_
                  exact FIN.out
                · rw [hx] at OK
                  have TX : Hid (∀ W, Below E8.heap.size E8 W → Calls Tryz.prog 59 #[.agg #[.int .i64 (kindNamed k0), .int .i64 0, .int .i64 0, .slice q2 fs.length c2]] W fun e w' => e = .returned (.string (bs (nodeStr ⟨kindNamed k0, 0, 0, fs⟩))) ∧ Below W.heap.size W w') := fun W hW => nodeText_v W (VN.out.below hW) hx (HT8.out.below hW)
                  by_cases hq : bs (nodeStr ⟨kindNamed k0, 0, 0, fs⟩) = s
                  · have hsome : readN s = some ⟨kindNamed k0, 0, 0, fs⟩ := by rw [HSP.out, if_pos ⟨hx, hq⟩]
                    rw [hq] at TX
                    clear hq
                    have HR9 := Lib.hid R8
                    clear R8
                    go_upto_region 21 with (first | (go_at_call 47; refine OK.out.mono ?_; rintro e w1 ⟨rfl, hb⟩; have R9 := HR9.out.below hb; have p0 := R9.box.cell 0 rfl; have p1 := R9.box.cell 1 rfl; have p2 := R9.box.cell 2 rfl; have p3 := R9.box.cell 3 rfl) | (go_at_call 59; refine (TX.out _ hb).mono ?_; rintro e w2 ⟨rfl, hb2⟩) | fail)
                    have R10 := R9.below hb2
                    clear y0 y1 y2 y3 p0 p1 p2 p3 R9
                    have u0 := R10.res.cell 0 rfl
                    have u1' := R10.res.cell 1 rfl
                    have u2' := R10.res.cell 2 rfl
                    have u3 := R10.res.cell 3 rfl
                    have v0 := R10.res.frozen 0
                    have v1 := R10.res.frozen 1
                    have v2 := R10.res.frozen 2
                    have v3 := R10.res.frozen 3
                    have y0 := R10.box.cell 0 rfl
                    have y1 := R10.box.cell 1 rfl
                    have y2 := R10.box.cell 2 rfl
                    have y3 := R10.box.cell 3 rfl
                    obtain ⟨W', hW, bx, be, ou⟩ := R10.exit (.int .i64 (kindNamed k0)) (.int .i64 0) (.int .i64 0) (.slice q2 fs.length c2)
                    have k0' := bx.cell 0 rfl
                    have k1' := bx.cell 1 rfl
                    have k2' := bx.cell 2 rfl
                    have k3' := bx.cell 3 rfl
                    have FIN := Lib.hid (HSome.out W' ⟨kindNamed k0, 0, 0, fs⟩ _ hsome ou be)
                    have HW := Lib.hid hW
                    clear hW bx be ou
                    go_wp2_with fail
                    rw [← HW.out]
                    refine bodyPost_ret (v := .tuple #[.agg #[.int .i64 (kindNamed k0), .int .i64 0, .int .i64 0, .slice q2 fs.length c2], .bool true]) (by simp [results, Tryz.results55, go_sem, *]) rfl ?_
                    exact FIN.out
                  · have hnone : readN s = none := by rw [HSP.out, if_neg fun h => hq h.2]
                    have hqb := str_beq_false hq
                    generalize bs (nodeStr ⟨kindNamed k0, 0, 0, fs⟩) = ST at hqb TX
                    clear hq
                    have HR9 := Lib.hid R8
                    clear R8
                    go_upto_region 20 with (first | (go_at_call 47; refine OK.out.mono ?_; rintro e w1 ⟨rfl, hb⟩; have R9 := HR9.out.below hb; have p0 := R9.box.cell 0 rfl; have p1 := R9.box.cell 1 rfl; have p2 := R9.box.cell 2 rfl; have p3 := R9.box.cell 3 rfl) | (go_at_call 59; refine (TX.out _ hb).mono ?_; rintro e w2 ⟨rfl, hb2⟩) | fail)
                    have R10 := R9.below hb2
                    clear y0 y1 y2 y3 p0 p1 p2 p3 R9
                    have u0 := R10.res.cell 0 rfl
                    have u1' := R10.res.cell 1 rfl
                    have u2' := R10.res.cell 2 rfl
                    have u3 := R10.res.cell 3 rfl
                    have v0 := R10.res.frozen 0
                    have v1 := R10.res.frozen 1
                    have v2 := R10.res.frozen 2
                    have v3 := R10.res.frozen 3
                    obtain ⟨W', hW, bx, be, -⟩ := R10.exit (.int .i64 0) (.int .i64 0) (.int .i64 0) (.slice none 0 0)
                    have k0' := bx.cell 0 rfl
                    have k1' := bx.cell 1 rfl
                    have k2' := bx.cell 2 rfl
                    have k3' := bx.cell 3 rfl
                    have FIN := Lib.hid (HNone.out W' hnone be)
                    have HW := Lib.hid hW
                    clear hW bx be
                    go_wp2_with fail
                    rw [← HW.out]
                    refine bodyPost_ret (v := .tuple #[.agg #[.int .i64 0, .int .i64 0, .int .i64 0, .slice none 0 0], .bool false]) (by simp [results, Tryz.results55, go_sem, *]) rfl ?_
                    exact FIN.out
          · have HR8 := Lib.hid ((R6.setA a).from (R6.keepI ow2 1 (.int .i64 a)))
            have hne := ow1.typ.notBox R6.box (by decide)
            obtain ⟨bq, oq, rfl, hbq, hcq⟩ := (ow1.rdHere).2.pos (k := 0) (by simp)
            have hc0 := hcq 0 (by simp)
            simp only [Nat.add_zero, List.getElem_cons_zero] at hc0
            clear hcq R6 ow1 ow2
            go_upto_region 19 with fail
            obtain ⟨E8, hE8⟩ : ∃ E8, E8 = (E6.setCell ⟨g, 1, none⟩ (.int .i64 a)).setCell ⟨g, 3, none⟩ (.slice q2 fs.length c2) := ⟨_, rfl⟩
            rw [← hE8] at HR8 ⊢
            clear hE8 x1 x2 x3 y1 y2 y3
            have R8 := HR8.out
            have HRD8 : Hid (readN s = if o1 = true ∧ o2 = true then (if nodeB ⟨kindNamed k0, a, 0, fs⟩ 4 = true ∧ bs (nodeStr ⟨kindNamed k0, a, 0, fs⟩) = s then some ⟨kindNamed k0, a, 0, fs⟩ else none) else none) := HRD.out
            clear HRD
            cases o1 with
            | false =>
              have hnone : readN s = none := by rw [HRD8.out, if_neg (by simp)]
              go_upto_region 20 with fail
              have u0 := R8.res.cell 0 rfl
              have u1' := R8.res.cell 1 rfl
              have u2' := R8.res.cell 2 rfl
              have u3 := R8.res.cell 3 rfl
              have v0 := R8.res.frozen 0
              have v1 := R8.res.frozen 1
              have v2 := R8.res.frozen 2
              have v3 := R8.res.frozen 3
              obtain ⟨W', hW, bx, be, -⟩ := R8.exit (.int .i64 0) (.int .i64 0) (.int .i64 0) (.slice none 0 0)
              have k0' := bx.cell 0 rfl
              have k1' := bx.cell 1 rfl
              have k2' := bx.cell 2 rfl
              have k3' := bx.cell 3 rfl
              have FIN := Lib.hid (HNone.out W' hnone be)
              have HW := Lib.hid hW
              clear hW bx be
              go_wp2_with fail
              rw [← HW.out]
              refine bodyPost_ret (v := .tuple #[.agg #[.int .i64 0, .int .i64 0, .int .i64 0, .slice none 0 0], .bool false]) (by simp [results, Tryz.results55, go_sem, *]) rfl ?_
              exact FIN.out
            | true =>
              cases o2 with
              | false =>
                have hnone : readN s = none := by rw [HRD8.out, if_neg (by simp)]
                go_upto_region 20 with fail
                have u0 := R8.res.cell 0 rfl
                have u1' := R8.res.cell 1 rfl
                have u2' := R8.res.cell 2 rfl
                have u3 := R8.res.cell 3 rfl
                have v0 := R8.res.frozen 0
                have v1 := R8.res.frozen 1
                have v2 := R8.res.frozen 2
                have v3 := R8.res.frozen 3
                obtain ⟨W', hW, bx, be, -⟩ := R8.exit (.int .i64 0) (.int .i64 0) (.int .i64 0) (.slice none 0 0)
                have k0' := bx.cell 0 rfl
                have k1' := bx.cell 1 rfl
                have k2' := bx.cell 2 rfl
                have k3' := bx.cell 3 rfl
                have FIN := Lib.hid (HNone.out W' hnone be)
                have HW := Lib.hid hW
                clear hW bx be
                go_wp2_with fail
                rw [← HW.out]
                refine bodyPost_ret (v := .tuple #[.agg #[.int .i64 0, .int .i64 0, .int .i64 0, .slice none 0 0], .bool false]) (by simp [results, Tryz.results55, go_sem, *]) rfl ?_
                exact FIN.out
              | true =>
                have hrd := HRD8.out
                rw [if_pos ⟨rfl, rfl⟩] at hrd
                have HSP := Lib.hid hrd
                clear hrd HRD8
                have VN : Hid (VNode E8 (.agg #[.int .i64 (kindNamed k0), .int .i64 a, .int .i64 0, .slice q2 fs.length c2]) ⟨kindNamed k0, a, 0, fs⟩) := by
                  obtain ⟨q, d, e, hr⟩ := R8.own.rd
                  obtain ⟨rfl, -, -⟩ := (Value.slice.injEq _ _ _ _ _ _).mp e
                  exact ⟨q2, c2, rfl, hr⟩
                have OK := Lib.hid (isNode_v 4 E8 VN.out)
                have y0 := R8.box.cell 0 rfl
                have y1 := R8.box.cell 1 rfl
                have y2 := R8.box.cell 2 rfl
                have y3 := R8.box.cell 3 rfl
                have HT8 : Hid (TxtT E8) := HT.out.below R8.bel
                cases hx : nodeB ⟨kindNamed k0, a, 0, fs⟩ 4
                · rw [hx] at OK
                  have hnone : readN s = none := by rw [HSP.out, if_neg (by rw [hx]; simp)]
                  go_upto_region 20 with (first | (go_at_call 47; refine OK.out.mono ?_; rintro e w1 ⟨rfl, hb⟩) | fail)
                  have R9 := R8.below hb
                  clear y0 y1 y2 y3
                  have u0 := R9.res.cell 0 rfl
                  have u1' := R9.res.cell 1 rfl
                  have u2' := R9.res.cell 2 rfl
                  have u3 := R9.res.cell 3 rfl
                  have v0 := R9.res.frozen 0
                  have v1 := R9.res.frozen 1
                  have v2 := R9.res.frozen 2
                  have v3 := R9.res.frozen 3
                  obtain ⟨W', hW, bx, be, -⟩ := R9.exit (.int .i64 0) (.int .i64 0) (.int .i64 0) (.slice none 0 0)
                  have k0' := bx.cell 0 rfl
                  have k1' := bx.cell 1 rfl
                  have k2' := bx.cell 2 rfl
                  have k3' := bx.cell 3 rfl
                  have FIN := Lib.hid (HNone.out W' hnone be)
                  have HW := Lib.hid hW
                  clear hW bx be
                  go_wp2_with fail
                  rw [← HW.out]
                  refine bodyPost_ret (v := .tuple #[.agg #[.int .i64 0, .int .i64 0, .int .i64 0, .slice none 0 0], .bool false]) (by simp [results, Tryz.results55, go_sem, *]) rfl ?_
                  exact FIN.out
                · rw [hx] at OK
                  have TX : Hid (∀ W, Below E8.heap.size E8 W → Calls Tryz.prog 59 #[.agg #[.int .i64 (kindNamed k0), .int .i64 a, .int .i64 0, .slice q2 fs.length c2]] W fun e w' => e = .returned (.string (bs (nodeStr ⟨kindNamed k0, a, 0, fs⟩))) ∧ Below W.heap.size W w') := fun W hW => nodeText_v W (VN.out.below hW) hx (HT8.out.below hW)
                  by_cases hq : bs (nodeStr ⟨kindNamed k0, a, 0, fs⟩) = s
                  · have hsome : readN s = some ⟨kindNamed k0, a, 0, fs⟩ := by rw [HSP.out, if_pos ⟨hx, hq⟩]
                    rw [hq] at TX
                    clear hq
                    have HR9 := Lib.hid R8
                    clear R8
                    go_upto_region 21 with (first | (go_at_call 47; refine OK.out.mono ?_; rintro e w1 ⟨rfl, hb⟩; have R9 := HR9.out.below hb; have p0 := R9.box.cell 0 rfl; have p1 := R9.box.cell 1 rfl; have p2 := R9.box.cell 2 rfl; have p3 := R9.box.cell 3 rfl) | (go_at_call 59; refine (TX.out _ hb).mono ?_; rintro e w2 ⟨rfl, hb2⟩) | fail)
                    have R10 := R9.below hb2
                    clear y0 y1 y2 y3 p0 p1 p2 p3 R9
                    have u0 := R10.res.cell 0 rfl
                    have u1' := R10.res.cell 1 rfl
                    have u2' := R10.res.cell 2 rfl
                    have u3 := R10.res.cell 3 rfl
                    have v0 := R10.res.frozen 0
                    have v1 := R10.res.frozen 1
                    have v2 := R10.res.frozen 2
                    have v3 := R10.res.frozen 3
                    have y0 := R10.box.cell 0 rfl
                    have y1 := R10.box.cell 1 rfl
                    have y2 := R10.box.cell 2 rfl
                    have y3 := R10.box.cell 3 rfl
                    obtain ⟨W', hW, bx, be, ou⟩ := R10.exit (.int .i64 (kindNamed k0)) (.int .i64 a) (.int .i64 0) (.slice q2 fs.length c2)
                    have k0' := bx.cell 0 rfl
                    have k1' := bx.cell 1 rfl
                    have k2' := bx.cell 2 rfl
                    have k3' := bx.cell 3 rfl
                    have FIN := Lib.hid (HSome.out W' ⟨kindNamed k0, a, 0, fs⟩ _ hsome ou be)
                    have HW := Lib.hid hW
                    clear hW bx be ou
                    go_wp2_with fail
                    rw [← HW.out]
                    refine bodyPost_ret (v := .tuple #[.agg #[.int .i64 (kindNamed k0), .int .i64 a, .int .i64 0, .slice q2 fs.length c2], .bool true]) (by simp [results, Tryz.results55, go_sem, *]) rfl ?_
                    exact FIN.out
                  · have hnone : readN s = none := by rw [HSP.out, if_neg fun h => hq h.2]
                    have hqb := str_beq_false hq
                    generalize bs (nodeStr ⟨kindNamed k0, a, 0, fs⟩) = ST at hqb TX
                    clear hq
                    have HR9 := Lib.hid R8
                    clear R8
                    go_upto_region 20 with (first | (go_at_call 47; refine OK.out.mono ?_; rintro e w1 ⟨rfl, hb⟩; have R9 := HR9.out.below hb; have p0 := R9.box.cell 0 rfl; have p1 := R9.box.cell 1 rfl; have p2 := R9.box.cell 2 rfl; have p3 := R9.box.cell 3 rfl) | (go_at_call 59; refine (TX.out _ hb).mono ?_; rintro e w2 ⟨rfl, hb2⟩) | fail)
                    have R10 := R9.below hb2
                    clear y0 y1 y2 y3 p0 p1 p2 p3 R9
                    have u0 := R10.res.cell 0 rfl
                    have u1' := R10.res.cell 1 rfl
                    have u2' := R10.res.cell 2 rfl
                    have u3 := R10.res.cell 3 rfl
                    have v0 := R10.res.frozen 0
                    have v1 := R10.res.frozen 1
                    have v2 := R10.res.frozen 2
                    have v3 := R10.res.frozen 3
                    obtain ⟨W', hW, bx, be, -⟩ := R10.exit (.int .i64 0) (.int .i64 0) (.int .i64 0) (.slice none 0 0)
                    have k0' := bx.cell 0 rfl
                    have k1' := bx.cell 1 rfl
                    have k2' := bx.cell 2 rfl
                    have k3' := bx.cell 3 rfl
                    have FIN := Lib.hid (HNone.out W' hnone be)
                    have HW := Lib.hid hW
                    clear hW bx be
                    go_wp2_with fail
                    rw [← HW.out]
                    refine bodyPost_ret (v := .tuple #[.agg #[.int .i64 0, .int .i64 0, .int .i64 0, .slice none 0 0], .bool false]) (by simp [results, Tryz.results55, go_sem, *]) rfl ?_
                    exact FIN.out
          · have HR7 := Lib.hid (R6.setA a)
            have HW2 := Lib.hid (R6.keepI ow2 1 (.int .i64 a))
            have ow1' := R6.keepI ow1 1 (.int .i64 a)
            obtain ⟨bq, oq, rfl, hbq, hcq⟩ := (ow1.rdHere).2.pos (k := 0) (by simp)
            have hc0 := hcq 0 (by simp)
            simp only [Nat.add_zero, List.getElem_cons_zero] at hc0
            clear hcq R6 ow1 ow2
            go_upto_region 16 with fail
            obtain ⟨E7, hE7⟩ : ∃ E7, E7 = E6.setCell ⟨g, 1, none⟩ (.int .i64 a) := ⟨_, rfl⟩
            rw [← hE7] at HR7 HW2 ow1' ⊢
            clear hE7 x1 x2 x3 y1 y2 y3 hc0 hbq
            have x2 := HR7.out.box.frozen 2
            have x3 := HR7.out.box.frozen 3
            have y2 := HR7.out.box.cell 2 rfl
            have y3 := HR7.out.box.cell 3 rfl
            obtain ⟨bq', oq', he', hbq, hcq⟩ := (ow1'.rdHere).2.pos (k := 1) (by simp)
            obtain ⟨rfl, rfl, -⟩ := (Addr.mk.injEq _ _ _ _ _ _).mp (Option.some.inj he')
            have hc1 := hcq 1 (by simp)
            simp only [List.getElem_cons_succ, List.getElem_cons_zero] at hc1
            have HR8 := Lib.hid ((HR7.out.setB b).from (HR7.out.keepI HW2.out 2 (.int .i64 b)))
            clear hcq ow1' he'
            go_upto_region 19 with fail
            obtain ⟨E8, hE8⟩ : ∃ E8, E8 = (E7.setCell ⟨g, 2, none⟩ (.int .i64 b)).setCell ⟨g, 3, none⟩ (.slice q2 fs.length c2) := ⟨_, rfl⟩
            rw [← hE8] at HR8 ⊢
            clear hE8 x2 x3 y2 y3
            have R8 := HR8.out
            have HRD8 : Hid (readN s = if o1 = true ∧ o2 = true then (if nodeB ⟨kindNamed k0, a, b, fs⟩ 4 = true ∧ bs (nodeStr ⟨kindNamed k0, a, b, fs⟩) = s then some ⟨kindNamed k0, a, b, fs⟩ else none) else none) := HRD.out
            clear HRD
            cases o1 with
            | false =>
              have hnone : readN s = none := by rw [HRD8.out, if_neg (by simp)]
              go_upto_region 20 with fail
              have u0 := R8.res.cell 0 rfl
              have u1' := R8.res.cell 1 rfl
              have u2' := R8.res.cell 2 rfl
              have u3 := R8.res.cell 3 rfl
              have v0 := R8.res.frozen 0
              have v1 := R8.res.frozen 1
              have v2 := R8.res.frozen 2
              have v3 := R8.res.frozen 3
              obtain ⟨W', hW, bx, be, -⟩ := R8.exit (.int .i64 0) (.int .i64 0) (.int .i64 0) (.slice none 0 0)
              have k0' := bx.cell 0 rfl
              have k1' := bx.cell 1 rfl
              have k2' := bx.cell 2 rfl
              have k3' := bx.cell 3 rfl
              have FIN := Lib.hid (HNone.out W' hnone be)
              have HW := Lib.hid hW
              clear hW bx be
              go_wp2_with fail
              rw [← HW.out]
              refine bodyPost_ret (v := .tuple #[.agg #[.int .i64 0, .int .i64 0, .int .i64 0, .slice none 0 0], .bool false]) (by simp [results, Tryz.results55, go_sem, *]) rfl ?_
              exact FIN.out
            | true =>
              cases o2 with
              | false =>
                have hnone : readN s = none := by rw [HRD8.out, if_neg (by simp)]
                go_upto_region 20 with fail
                have u0 := R8.res.cell 0 rfl
                have u1' := R8.res.cell 1 rfl
                have u2' := R8.res.cell 2 rfl
                have u3 := R8.res.cell 3 rfl
                have v0 := R8.res.frozen 0
                have v1 := R8.res.frozen 1
                have v2 := R8.res.frozen 2
                have v3 := R8.res.frozen 3
                obtain ⟨W', hW, bx, be, -⟩ := R8.exit (.int .i64 0) (.int .i64 0) (.int .i64 0) (.slice none 0 0)
                have k0' := bx.cell 0 rfl
                have k1' := bx.cell 1 rfl
                have k2' := bx.cell 2 rfl
                have k3' := bx.cell 3 rfl
                have FIN := Lib.hid (HNone.out W' hnone be)
                have HW := Lib.hid hW
                clear hW bx be
                go_wp2_with fail
                rw [← HW.out]
                refine bodyPost_ret (v := .tuple #[.agg #[.int .i64 0, .int .i64 0, .int .i64 0, .slice none 0 0], .bool false]) (by simp [results, Tryz.results55, go_sem, *]) rfl ?_
                exact FIN.out
              | true =>
                have hrd := HRD8.out
                rw [if_pos ⟨rfl, rfl⟩] at hrd
                have HSP := Lib.hid hrd
                clear hrd HRD8
                have VN : Hid (VNode E8 (.agg #[.int .i64 (kindNamed k0), .int .i64 a, .int .i64 b, .slice q2 fs.length c2]) ⟨kindNamed k0, a, b, fs⟩) := by
                  obtain ⟨q, d, e, hr⟩ := R8.own.rd
                  obtain ⟨rfl, -, -⟩ := (Value.slice.injEq _ _ _ _ _ _).mp e
                  exact ⟨q2, c2, rfl, hr⟩
                have OK := Lib.hid (isNode_v 4 E8 VN.out)
                have y0 := R8.box.cell 0 rfl
                have y1 := R8.box.cell 1 rfl
                have y2 := R8.box.cell 2 rfl
                have y3 := R8.box.cell 3 rfl
                have HT8 : Hid (TxtT E8) := HT.out.below R8.bel
                cases hx : nodeB ⟨kindNamed k0, a, b, fs⟩ 4
                · rw [hx] at OK
                  have hnone : readN s = none := by rw [HSP.out, if_neg (by rw [hx]; simp)]
                  go_upto_region 20 with (first | (go_at_call 47; refine OK.out.mono ?_; rintro e w1 ⟨rfl, hb⟩) | fail)
                  have R9 := R8.below hb
                  clear y0 y1 y2 y3
                  have u0 := R9.res.cell 0 rfl
                  have u1' := R9.res.cell 1 rfl
                  have u2' := R9.res.cell 2 rfl
                  have u3 := R9.res.cell 3 rfl
                  have v0 := R9.res.frozen 0
                  have v1 := R9.res.frozen 1
                  have v2 := R9.res.frozen 2
                  have v3 := R9.res.frozen 3
                  obtain ⟨W', hW, bx, be, -⟩ := R9.exit (.int .i64 0) (.int .i64 0) (.int .i64 0) (.slice none 0 0)
                  have k0' := bx.cell 0 rfl
                  have k1' := bx.cell 1 rfl
                  have k2' := bx.cell 2 rfl
                  have k3' := bx.cell 3 rfl
                  have FIN := Lib.hid (HNone.out W' hnone be)
                  have HW := Lib.hid hW
                  clear hW bx be
                  go_wp2_with fail
                  rw [← HW.out]
                  refine bodyPost_ret (v := .tuple #[.agg #[.int .i64 0, .int .i64 0, .int .i64 0, .slice none 0 0], .bool false]) (by simp [results, Tryz.results55, go_sem, *]) rfl ?_
                  exact FIN.out
                · rw [hx] at OK
                  have TX : Hid (∀ W, Below E8.heap.size E8 W → Calls Tryz.prog 59 #[.agg #[.int .i64 (kindNamed k0), .int .i64 a, .int .i64 b, .slice q2 fs.length c2]] W fun e w' => e = .returned (.string (bs (nodeStr ⟨kindNamed k0, a, b, fs⟩))) ∧ Below W.heap.size W w') := fun W hW => nodeText_v W (VN.out.below hW) hx (HT8.out.below hW)
                  by_cases hq : bs (nodeStr ⟨kindNamed k0, a, b, fs⟩) = s
                  · have hsome : readN s = some ⟨kindNamed k0, a, b, fs⟩ := by rw [HSP.out, if_pos ⟨hx, hq⟩]
                    rw [hq] at TX
                    clear hq
                    have HR9 := Lib.hid R8
                    clear R8
                    go_upto_region 21 with (first | (go_at_call 47; refine OK.out.mono ?_; rintro e w1 ⟨rfl, hb⟩; have R9 := HR9.out.below hb; have p0 := R9.box.cell 0 rfl; have p1 := R9.box.cell 1 rfl; have p2 := R9.box.cell 2 rfl; have p3 := R9.box.cell 3 rfl) | (go_at_call 59; refine (TX.out _ hb).mono ?_; rintro e w2 ⟨rfl, hb2⟩) | fail)
                    have R10 := R9.below hb2
                    clear y0 y1 y2 y3 p0 p1 p2 p3 R9
                    have u0 := R10.res.cell 0 rfl
                    have u1' := R10.res.cell 1 rfl
                    have u2' := R10.res.cell 2 rfl
                    have u3 := R10.res.cell 3 rfl
                    have v0 := R10.res.frozen 0
                    have v1 := R10.res.frozen 1
                    have v2 := R10.res.frozen 2
                    have v3 := R10.res.frozen 3
                    have y0 := R10.box.cell 0 rfl
                    have y1 := R10.box.cell 1 rfl
                    have y2 := R10.box.cell 2 rfl
                    have y3 := R10.box.cell 3 rfl
                    obtain ⟨W', hW, bx, be, ou⟩ := R10.exit (.int .i64 (kindNamed k0)) (.int .i64 a) (.int .i64 b) (.slice q2 fs.length c2)
                    have k0' := bx.cell 0 rfl
                    have k1' := bx.cell 1 rfl
                    have k2' := bx.cell 2 rfl
                    have k3' := bx.cell 3 rfl
                    have FIN := Lib.hid (HSome.out W' ⟨kindNamed k0, a, b, fs⟩ _ hsome ou be)
                    have HW := Lib.hid hW
                    clear hW bx be ou
                    go_wp2_with fail
                    rw [← HW.out]
                    refine bodyPost_ret (v := .tuple #[.agg #[.int .i64 (kindNamed k0), .int .i64 a, .int .i64 b, .slice q2 fs.length c2], .bool true]) (by simp [results, Tryz.results55, go_sem, *]) rfl ?_
                    exact FIN.out
                  · have hnone : readN s = none := by rw [HSP.out, if_neg fun h => hq h.2]
                    have hqb := str_beq_false hq
                    generalize bs (nodeStr ⟨kindNamed k0, a, b, fs⟩) = ST at hqb TX
                    clear hq
                    have HR9 := Lib.hid R8
                    clear R8
                    go_upto_region 20 with (first | (go_at_call 47; refine OK.out.mono ?_; rintro e w1 ⟨rfl, hb⟩; have R9 := HR9.out.below hb; have p0 := R9.box.cell 0 rfl; have p1 := R9.box.cell 1 rfl; have p2 := R9.box.cell 2 rfl; have p3 := R9.box.cell 3 rfl) | (go_at_call 59; refine (TX.out _ hb).mono ?_; rintro e w2 ⟨rfl, hb2⟩) | fail)
                    have R10 := R9.below hb2
                    clear y0 y1 y2 y3 p0 p1 p2 p3 R9
                    have u0 := R10.res.cell 0 rfl
                    have u1' := R10.res.cell 1 rfl
                    have u2' := R10.res.cell 2 rfl
                    have u3 := R10.res.cell 3 rfl
                    have v0 := R10.res.frozen 0
                    have v1 := R10.res.frozen 1
                    have v2 := R10.res.frozen 2
                    have v3 := R10.res.frozen 3
                    obtain ⟨W', hW, bx, be, -⟩ := R10.exit (.int .i64 0) (.int .i64 0) (.int .i64 0) (.slice none 0 0)
                    have k0' := bx.cell 0 rfl
                    have k1' := bx.cell 1 rfl
                    have k2' := bx.cell 2 rfl
                    have k3' := bx.cell 3 rfl
                    have FIN := Lib.hid (HNone.out W' hnone be)
                    have HW := Lib.hid hW
                    clear hW bx be
                    go_wp2_with fail
                    rw [← HW.out]
                    refine bodyPost_ret (v := .tuple #[.agg #[.int .i64 0, .int .i64 0, .int .i64 0, .slice none 0 0], .bool false]) (by simp [results, Tryz.results55, go_sem, *]) rfl ?_
                    exact FIN.out
        · have hne := not_of hx
          have HNO2 : Hid (∀ j, j < k + 1 → ∀ x, W0[j]? = some x → x ≠ ofB) := fun j hj x hx' => by
            by_cases hjk : j = k
            · subst hjk
              rw [List.getElem?_eq_getElem hkW] at hx'
              obtain rfl := Option.some.inj hx'
              exact hx
            · exact HNO.out j (by omega) x hx'
          generalize W0[k] = x at hck hne
          clear hx
          go_wp2_with fail
          go_roundw
          case rel => exact ⟨k + 1, by omega, rfl, rfl, by go_num, HNO2, by first | rfl | trivial⟩
          case measure => simp [intOf] <;> omega
      · obtain rfl : k = m := by omega
        have hHT := headB_no (ws := W0) (fun j hj => HNO.out j (by rw [HM.out]; exact hj) _ (List.getElem?_eq_getElem _))
        obtain ⟨H, hH⟩ : ∃ H, H = W0 := ⟨_, rfl⟩
        obtain ⟨T, hTT⟩ : ∃ T : List ByteArray, T = [] := ⟨_, rfl⟩
        have HH : Hid (headB W0 = H ∧ tailB W0 = T) := by rw [hH, hTT]; exact hHT
        have hTl : T.length = 0 := by rw [hTT]; rfl
        have hHl : H.length = k := by rw [hH, ← HM.out]
        have hHn : H.length ≤ 1048577 := by omega
        have hTn : T.length ≤ 1048577 := by omega
        have hHs : ∀ x ∈ H, x.size ≤ 281474976710656 := fun x hx => HHs.out x (by rw [hH] at hx; exact hx)
        have hTs : ∀ x ∈ T, x.size ≤ 281474976710656 := fun x hx => by rw [hTT] at hx; cases hx
        have RH : Hid (RdV wr ph (strB H)) := by rw [hH]; exact HPH.out
        have RT : Hid (RdV wr (some ⟨E3.heap.size, 0, none⟩) (strB T)) := by rw [hTT]; exact RdV.none0 _ _
        have HRN := Lib.hid HR4.out
        clear hHT hH hTT HR4 HPH HNO hkt hk
        have NH := Lib.hid ((readNumbers_any (c := (k + ex)) wr RH.out hHn hHs (HT.out.below HRN.out.bel) (HEE.out.below HRN.out.bel)).mono fun e w' h => retNums_one h)
        have NT : Hid (∀ W, Below wr.heap.size wr W → Calls Tryz.prog 56 #[.slice (some ⟨E3.heap.size, 0, none⟩) T.length (0)] W fun e w' => ∃ u, e = .returned (.tuple #[u, .bool (decsB T).isSome]) ∧ OwnI W.heap.size w' u ((decsB T).getD []) ∧ Below W.heap.size W w') := fun W hW => (readNumbers_any (c := 0) W (RT.out.keep fun b o e hb => hW.block b hb) hTn hTs (HT.out.below (HRN.out.below hW).bel) (HEE.out.below (HRN.out.below hW).bel)).mono fun e w' h => retNums_one h
        have HRD : Hid (readN s = if (decsB H).isSome = true ∧ (decsB T).isSome = true then
          (if nodeB ⟨kindNamed k0, ((decsB H).getD []).getD 0 0, ((decsB H).getD []).getD 1 0, (decsB T).getD []⟩ 4 = true ∧ bs (nodeStr ⟨kindNamed k0, ((decsB H).getD []).getD 0 0, ((decsB H).getD []).getD 1 0, (decsB T).getD []⟩) = s then some ⟨kindNamed k0, ((decsB H).getD []).getD 0 0, ((decsB H).getD []).getD 1 0, (decsB T).getD []⟩ else none) else none) := by
          have h := HRWW.out
          rw [HH.out.1, HH.out.2] at h
          exact h
        generalize (decsB H).isSome = o1 at *
        generalize (decsB T).isSome = o2 at *
        generalize (decsB H).getD [] = ns at *
        generalize (decsB T).getD [] = fs at *
        clear HH HRWW
        rw [hHl] at NH
        simp only [hTl] at NT
        go_upto_region 13 with (first | (go_at_call 56; refine NH.out.mono ?_; rintro e E5 ⟨un, rfl, ow1, hb5⟩) | fail)
        obtain ⟨q1, c1, rfl, -⟩ := ow1.rd
        go_upto_region 14 with (first | (go_at_call 56; refine (NT.out _ hb5).mono ?_; rintro e E6 ⟨uf, rfl, ow2, hb6⟩) | fail)
        obtain ⟨q2, c2, rfl, -⟩ := ow2.rd
        have R5 := HRN.out.below hb5
        have R6 := R5.below hb6
        have ow1 := (ow1.below hb6).mono HRN.out.bel.size
        have ow2 := ow2.mono R5.bel.size
        clear NH NT RH RT R5 hb5 hb6 HRN
        have x1 := R6.box.frozen 1
        have x2 := R6.box.frozen 2
        have x3 := R6.box.frozen 3
        have y1 := R6.box.cell 1 rfl
        have y2 := R6.box.cell 2 rfl
        have y3 := R6.box.cell 3 rfl
        rcases ns with _ | ⟨a, _ | ⟨b, l⟩⟩
        · have HR8 := Lib.hid (R6.from ow2)
          clear R6 ow1 ow2
          go_upto_region 19 with fail
          obtain ⟨E8, hE8⟩ : ∃ E8, E8 = E6.setCell ⟨g, 3, none⟩ (.slice q2 fs.length c2) := ⟨_, rfl⟩
          rw [← hE8] at HR8 ⊢
          clear hE8 x1 x2 x3 y1 y2 y3
          have R8 := HR8.out
          have HRD8 : Hid (readN s = if o1 = true ∧ o2 = true then (if nodeB ⟨kindNamed k0, 0, 0, fs⟩ 4 = true ∧ bs (nodeStr ⟨kindNamed k0, 0, 0, fs⟩) = s then some ⟨kindNamed k0, 0, 0, fs⟩ else none) else none) := HRD.out
          clear HRD
          cases o1 with
          | false =>
            have hnone : readN s = none := by rw [HRD8.out, if_neg (by simp)]
            go_upto_region 20 with fail
            have u0 := R8.res.cell 0 rfl
            have u1' := R8.res.cell 1 rfl
            have u2' := R8.res.cell 2 rfl
            have u3 := R8.res.cell 3 rfl
            have v0 := R8.res.frozen 0
            have v1 := R8.res.frozen 1
            have v2 := R8.res.frozen 2
            have v3 := R8.res.frozen 3
            obtain ⟨W', hW, bx, be, -⟩ := R8.exit (.int .i64 0) (.int .i64 0) (.int .i64 0) (.slice none 0 0)
            have k0' := bx.cell 0 rfl
            have k1' := bx.cell 1 rfl
            have k2' := bx.cell 2 rfl
            have k3' := bx.cell 3 rfl
            have FIN := Lib.hid (HNone.out W' hnone be)
            have HW := Lib.hid hW
            clear hW bx be
            go_wp2_with fail
            rw [← HW.out]
            refine bodyPost_ret (v := .tuple #[.agg #[.int .i64 0, .int .i64 0, .int .i64 0, .slice none 0 0], .bool false]) (by simp [results, Tryz.results55, go_sem, *]) rfl ?_
            exact FIN.out
          | true =>
            cases o2 with
            | false =>
              have hnone : readN s = none := by rw [HRD8.out, if_neg (by simp)]
              go_upto_region 20 with fail
              have u0 := R8.res.cell 0 rfl
              have u1' := R8.res.cell 1 rfl
              have u2' := R8.res.cell 2 rfl
              have u3 := R8.res.cell 3 rfl
              have v0 := R8.res.frozen 0
              have v1 := R8.res.frozen 1
              have v2 := R8.res.frozen 2
              have v3 := R8.res.frozen 3
              obtain ⟨W', hW, bx, be, -⟩ := R8.exit (.int .i64 0) (.int .i64 0) (.int .i64 0) (.slice none 0 0)
              have k0' := bx.cell 0 rfl
              have k1' := bx.cell 1 rfl
              have k2' := bx.cell 2 rfl
              have k3' := bx.cell 3 rfl
              have FIN := Lib.hid (HNone.out W' hnone be)
              have HW := Lib.hid hW
              clear hW bx be
              go_wp2_with fail
              rw [← HW.out]
              refine bodyPost_ret (v := .tuple #[.agg #[.int .i64 0, .int .i64 0, .int .i64 0, .slice none 0 0], .bool false]) (by simp [results, Tryz.results55, go_sem, *]) rfl ?_
              exact FIN.out
            | true =>
              have hrd := HRD8.out
              rw [if_pos ⟨rfl, rfl⟩] at hrd
              have HSP := Lib.hid hrd
              clear hrd HRD8
              have VN : Hid (VNode E8 (.agg #[.int .i64 (kindNamed k0), .int .i64 0, .int .i64 0, .slice q2 fs.length c2]) ⟨kindNamed k0, 0, 0, fs⟩) := by
                obtain ⟨q, d, e, hr⟩ := R8.own.rd
                obtain ⟨rfl, -, -⟩ := (Value.slice.injEq _ _ _ _ _ _).mp e
                exact ⟨q2, c2, rfl, hr⟩
              have OK := Lib.hid (isNode_v 4 E8 VN.out)
              have y0 := R8.box.cell 0 rfl
              have y1 := R8.box.cell 1 rfl
              have y2 := R8.box.cell 2 rfl
              have y3 := R8.box.cell 3 rfl
              have HT8 : Hid (TxtT E8) := HT.out.below R8.bel
              cases hx : nodeB ⟨kindNamed k0, 0, 0, fs⟩ 4
              · rw [hx] at OK
                have hnone : readN s = none := by rw [HSP.out, if_neg (by rw [hx]; simp)]
                go_upto_region 20 with (first | (go_at_call 47; refine OK.out.mono ?_; rintro e w1 ⟨rfl, hb⟩) | fail)
                have R9 := R8.below hb
                clear y0 y1 y2 y3
                have u0 := R9.res.cell 0 rfl
                have u1' := R9.res.cell 1 rfl
                have u2' := R9.res.cell 2 rfl
                have u3 := R9.res.cell 3 rfl
                have v0 := R9.res.frozen 0
                have v1 := R9.res.frozen 1
                have v2 := R9.res.frozen 2
                have v3 := R9.res.frozen 3
                obtain ⟨W', hW, bx, be, -⟩ := R9.exit (.int .i64 0) (.int .i64 0) (.int .i64 0) (.slice none 0 0)
                have k0' := bx.cell 0 rfl
                have k1' := bx.cell 1 rfl
                have k2' := bx.cell 2 rfl
                have k3' := bx.cell 3 rfl
                have FIN := Lib.hid (HNone.out W' hnone be)
                have HW := Lib.hid hW
                clear hW bx be
                go_wp2_with fail
                rw [← HW.out]
                refine bodyPost_ret (v := .tuple #[.agg #[.int .i64 0, .int .i64 0, .int .i64 0, .slice none 0 0], .bool false]) (by simp [results, Tryz.results55, go_sem, *]) rfl ?_
                exact FIN.out
              · rw [hx] at OK
                have TX : Hid (∀ W, Below E8.heap.size E8 W → Calls Tryz.prog 59 #[.agg #[.int .i64 (kindNamed k0), .int .i64 0, .int .i64 0, .slice q2 fs.length c2]] W fun e w' => e = .returned (.string (bs (nodeStr ⟨kindNamed k0, 0, 0, fs⟩))) ∧ Below W.heap.size W w') := fun W hW => nodeText_v W (VN.out.below hW) hx (HT8.out.below hW)
                by_cases hq : bs (nodeStr ⟨kindNamed k0, 0, 0, fs⟩) = s
                · have hsome : readN s = some ⟨kindNamed k0, 0, 0, fs⟩ := by rw [HSP.out, if_pos ⟨hx, hq⟩]
                  rw [hq] at TX
                  clear hq
                  have HR9 := Lib.hid R8
                  clear R8
                  go_upto_region 21 with (first | (go_at_call 47; refine OK.out.mono ?_; rintro e w1 ⟨rfl, hb⟩; have R9 := HR9.out.below hb; have p0 := R9.box.cell 0 rfl; have p1 := R9.box.cell 1 rfl; have p2 := R9.box.cell 2 rfl; have p3 := R9.box.cell 3 rfl) | (go_at_call 59; refine (TX.out _ hb).mono ?_; rintro e w2 ⟨rfl, hb2⟩) | fail)
                  have R10 := R9.below hb2
                  clear y0 y1 y2 y3 p0 p1 p2 p3 R9
                  have u0 := R10.res.cell 0 rfl
                  have u1' := R10.res.cell 1 rfl
                  have u2' := R10.res.cell 2 rfl
                  have u3 := R10.res.cell 3 rfl
                  have v0 := R10.res.frozen 0
                  have v1 := R10.res.frozen 1
                  have v2 := R10.res.frozen 2
                  have v3 := R10.res.frozen 3
                  have y0 := R10.box.cell 0 rfl
                  have y1 := R10.box.cell 1 rfl
                  have y2 := R10.box.cell 2 rfl
                  have y3 := R10.box.cell 3 rfl
                  obtain ⟨W', hW, bx, be, ou⟩ := R10.exit (.int .i64 (kindNamed k0)) (.int .i64 0) (.int .i64 0) (.slice q2 fs.length c2)
                  have k0' := bx.cell 0 rfl
                  have k1' := bx.cell 1 rfl
                  have k2' := bx.cell 2 rfl
                  have k3' := bx.cell 3 rfl
                  have FIN := Lib.hid (HSome.out W' ⟨kindNamed k0, 0, 0, fs⟩ _ hsome ou be)
                  have HW := Lib.hid hW
                  clear hW bx be ou
                  go_wp2_with fail
                  rw [← HW.out]
                  refine bodyPost_ret (v := .tuple #[.agg #[.int .i64 (kindNamed k0), .int .i64 0, .int .i64 0, .slice q2 fs.length c2], .bool true]) (by simp [results, Tryz.results55, go_sem, *]) rfl ?_
                  exact FIN.out
                · have hnone : readN s = none := by rw [HSP.out, if_neg fun h => hq h.2]
                  have hqb := str_beq_false hq
                  generalize bs (nodeStr ⟨kindNamed k0, 0, 0, fs⟩) = ST at hqb TX
                  clear hq
                  have HR9 := Lib.hid R8
                  clear R8
                  go_upto_region 20 with (first | (go_at_call 47; refine OK.out.mono ?_; rintro e w1 ⟨rfl, hb⟩; have R9 := HR9.out.below hb; have p0 := R9.box.cell 0 rfl; have p1 := R9.box.cell 1 rfl; have p2 := R9.box.cell 2 rfl; have p3 := R9.box.cell 3 rfl) | (go_at_call 59; refine (TX.out _ hb).mono ?_; rintro e w2 ⟨rfl, hb2⟩) | fail)
                  have R10 := R9.below hb2
                  clear y0 y1 y2 y3 p0 p1 p2 p3 R9
                  have u0 := R10.res.cell 0 rfl
                  have u1' := R10.res.cell 1 rfl
                  have u2' := R10.res.cell 2 rfl
                  have u3 := R10.res.cell 3 rfl
                  have v0 := R10.res.frozen 0
                  have v1 := R10.res.frozen 1
                  have v2 := R10.res.frozen 2
                  have v3 := R10.res.frozen 3
                  obtain ⟨W', hW, bx, be, -⟩ := R10.exit (.int .i64 0) (.int .i64 0) (.int .i64 0) (.slice none 0 0)
                  have k0' := bx.cell 0 rfl
                  have k1' := bx.cell 1 rfl
                  have k2' := bx.cell 2 rfl
                  have k3' := bx.cell 3 rfl
                  have FIN := Lib.hid (HNone.out W' hnone be)
                  have HW := Lib.hid hW
                  clear hW bx be
                  go_wp2_with fail
                  rw [← HW.out]
                  refine bodyPost_ret (v := .tuple #[.agg #[.int .i64 0, .int .i64 0, .int .i64 0, .slice none 0 0], .bool false]) (by simp [results, Tryz.results55, go_sem, *]) rfl ?_
                  exact FIN.out
        · have HR8 := Lib.hid ((R6.setA a).from (R6.keepI ow2 1 (.int .i64 a)))
          have hne := ow1.typ.notBox R6.box (by decide)
          obtain ⟨bq, oq, rfl, hbq, hcq⟩ := (ow1.rdHere).2.pos (k := 0) (by simp)
          have hc0 := hcq 0 (by simp)
          simp only [Nat.add_zero, List.getElem_cons_zero] at hc0
          clear hcq R6 ow1 ow2
          go_upto_region 19 with fail
          obtain ⟨E8, hE8⟩ : ∃ E8, E8 = (E6.setCell ⟨g, 1, none⟩ (.int .i64 a)).setCell ⟨g, 3, none⟩ (.slice q2 fs.length c2) := ⟨_, rfl⟩
          rw [← hE8] at HR8 ⊢
          clear hE8 x1 x2 x3 y1 y2 y3
          have R8 := HR8.out
          have HRD8 : Hid (readN s = if o1 = true ∧ o2 = true then (if nodeB ⟨kindNamed k0, a, 0, fs⟩ 4 = true ∧ bs (nodeStr ⟨kindNamed k0, a, 0, fs⟩) = s then some ⟨kindNamed k0, a, 0, fs⟩ else none) else none) := HRD.out
          clear HRD
          cases o1 with
          | false =>
            have hnone : readN s = none := by rw [HRD8.out, if_neg (by simp)]
            go_upto_region 20 with fail
            have u0 := R8.res.cell 0 rfl
            have u1' := R8.res.cell 1 rfl
            have u2' := R8.res.cell 2 rfl
            have u3 := R8.res.cell 3 rfl
            have v0 := R8.res.frozen 0
            have v1 := R8.res.frozen 1
            have v2 := R8.res.frozen 2
            have v3 := R8.res.frozen 3
            obtain ⟨W', hW, bx, be, -⟩ := R8.exit (.int .i64 0) (.int .i64 0) (.int .i64 0) (.slice none 0 0)
            have k0' := bx.cell 0 rfl
            have k1' := bx.cell 1 rfl
            have k2' := bx.cell 2 rfl
            have k3' := bx.cell 3 rfl
            have FIN := Lib.hid (HNone.out W' hnone be)
            have HW := Lib.hid hW
            clear hW bx be
            go_wp2_with fail
            rw [← HW.out]
            refine bodyPost_ret (v := .tuple #[.agg #[.int .i64 0, .int .i64 0, .int .i64 0, .slice none 0 0], .bool false]) (by simp [results, Tryz.results55, go_sem, *]) rfl ?_
            exact FIN.out
          | true =>
            cases o2 with
            | false =>
              have hnone : readN s = none := by rw [HRD8.out, if_neg (by simp)]
              go_upto_region 20 with fail
              have u0 := R8.res.cell 0 rfl
              have u1' := R8.res.cell 1 rfl
              have u2' := R8.res.cell 2 rfl
              have u3 := R8.res.cell 3 rfl
              have v0 := R8.res.frozen 0
              have v1 := R8.res.frozen 1
              have v2 := R8.res.frozen 2
              have v3 := R8.res.frozen 3
              obtain ⟨W', hW, bx, be, -⟩ := R8.exit (.int .i64 0) (.int .i64 0) (.int .i64 0) (.slice none 0 0)
              have k0' := bx.cell 0 rfl
              have k1' := bx.cell 1 rfl
              have k2' := bx.cell 2 rfl
              have k3' := bx.cell 3 rfl
              have FIN := Lib.hid (HNone.out W' hnone be)
              have HW := Lib.hid hW
              clear hW bx be
              go_wp2_with fail
              rw [← HW.out]
              refine bodyPost_ret (v := .tuple #[.agg #[.int .i64 0, .int .i64 0, .int .i64 0, .slice none 0 0], .bool false]) (by simp [results, Tryz.results55, go_sem, *]) rfl ?_
              exact FIN.out
            | true =>
              have hrd := HRD8.out
              rw [if_pos ⟨rfl, rfl⟩] at hrd
              have HSP := Lib.hid hrd
              clear hrd HRD8
              have VN : Hid (VNode E8 (.agg #[.int .i64 (kindNamed k0), .int .i64 a, .int .i64 0, .slice q2 fs.length c2]) ⟨kindNamed k0, a, 0, fs⟩) := by
                obtain ⟨q, d, e, hr⟩ := R8.own.rd
                obtain ⟨rfl, -, -⟩ := (Value.slice.injEq _ _ _ _ _ _).mp e
                exact ⟨q2, c2, rfl, hr⟩
              have OK := Lib.hid (isNode_v 4 E8 VN.out)
              have y0 := R8.box.cell 0 rfl
              have y1 := R8.box.cell 1 rfl
              have y2 := R8.box.cell 2 rfl
              have y3 := R8.box.cell 3 rfl
              have HT8 : Hid (TxtT E8) := HT.out.below R8.bel
              cases hx : nodeB ⟨kindNamed k0, a, 0, fs⟩ 4
              · rw [hx] at OK
                have hnone : readN s = none := by rw [HSP.out, if_neg (by rw [hx]; simp)]
                go_upto_region 20 with (first | (go_at_call 47; refine OK.out.mono ?_; rintro e w1 ⟨rfl, hb⟩) | fail)
                have R9 := R8.below hb
                clear y0 y1 y2 y3
                have u0 := R9.res.cell 0 rfl
                have u1' := R9.res.cell 1 rfl
                have u2' := R9.res.cell 2 rfl
                have u3 := R9.res.cell 3 rfl
                have v0 := R9.res.frozen 0
                have v1 := R9.res.frozen 1
                have v2 := R9.res.frozen 2
                have v3 := R9.res.frozen 3
                obtain ⟨W', hW, bx, be, -⟩ := R9.exit (.int .i64 0) (.int .i64 0) (.int .i64 0) (.slice none 0 0)
                have k0' := bx.cell 0 rfl
                have k1' := bx.cell 1 rfl
                have k2' := bx.cell 2 rfl
                have k3' := bx.cell 3 rfl
                have FIN := Lib.hid (HNone.out W' hnone be)
                have HW := Lib.hid hW
                clear hW bx be
                go_wp2_with fail
                rw [← HW.out]
                refine bodyPost_ret (v := .tuple #[.agg #[.int .i64 0, .int .i64 0, .int .i64 0, .slice none 0 0], .bool false]) (by simp [results, Tryz.results55, go_sem, *]) rfl ?_
                exact FIN.out
              · rw [hx] at OK
                have TX : Hid (∀ W, Below E8.heap.size E8 W → Calls Tryz.prog 59 #[.agg #[.int .i64 (kindNamed k0), .int .i64 a, .int .i64 0, .slice q2 fs.length c2]] W fun e w' => e = .returned (.string (bs (nodeStr ⟨kindNamed k0, a, 0, fs⟩))) ∧ Below W.heap.size W w') := fun W hW => nodeText_v W (VN.out.below hW) hx (HT8.out.below hW)
                by_cases hq : bs (nodeStr ⟨kindNamed k0, a, 0, fs⟩) = s
                · have hsome : readN s = some ⟨kindNamed k0, a, 0, fs⟩ := by rw [HSP.out, if_pos ⟨hx, hq⟩]
                  rw [hq] at TX
                  clear hq
                  have HR9 := Lib.hid R8
                  clear R8
                  go_upto_region 21 with (first | (go_at_call 47; refine OK.out.mono ?_; rintro e w1 ⟨rfl, hb⟩; have R9 := HR9.out.below hb; have p0 := R9.box.cell 0 rfl; have p1 := R9.box.cell 1 rfl; have p2 := R9.box.cell 2 rfl; have p3 := R9.box.cell 3 rfl) | (go_at_call 59; refine (TX.out _ hb).mono ?_; rintro e w2 ⟨rfl, hb2⟩) | fail)
                  have R10 := R9.below hb2
                  clear y0 y1 y2 y3 p0 p1 p2 p3 R9
                  have u0 := R10.res.cell 0 rfl
                  have u1' := R10.res.cell 1 rfl
                  have u2' := R10.res.cell 2 rfl
                  have u3 := R10.res.cell 3 rfl
                  have v0 := R10.res.frozen 0
                  have v1 := R10.res.frozen 1
                  have v2 := R10.res.frozen 2
                  have v3 := R10.res.frozen 3
                  have y0 := R10.box.cell 0 rfl
                  have y1 := R10.box.cell 1 rfl
                  have y2 := R10.box.cell 2 rfl
                  have y3 := R10.box.cell 3 rfl
                  obtain ⟨W', hW, bx, be, ou⟩ := R10.exit (.int .i64 (kindNamed k0)) (.int .i64 a) (.int .i64 0) (.slice q2 fs.length c2)
                  have k0' := bx.cell 0 rfl
                  have k1' := bx.cell 1 rfl
                  have k2' := bx.cell 2 rfl
                  have k3' := bx.cell 3 rfl
                  have FIN := Lib.hid (HSome.out W' ⟨kindNamed k0, a, 0, fs⟩ _ hsome ou be)
                  have HW := Lib.hid hW
                  clear hW bx be ou
                  go_wp2_with fail
                  rw [← HW.out]
                  refine bodyPost_ret (v := .tuple #[.agg #[.int .i64 (kindNamed k0), .int .i64 a, .int .i64 0, .slice q2 fs.length c2], .bool true]) (by simp [results, Tryz.results55, go_sem, *]) rfl ?_
                  exact FIN.out
                · have hnone : readN s = none := by rw [HSP.out, if_neg fun h => hq h.2]
                  have hqb := str_beq_false hq
                  generalize bs (nodeStr ⟨kindNamed k0, a, 0, fs⟩) = ST at hqb TX
                  clear hq
                  have HR9 := Lib.hid R8
                  clear R8
                  go_upto_region 20 with (first | (go_at_call 47; refine OK.out.mono ?_; rintro e w1 ⟨rfl, hb⟩; have R9 := HR9.out.below hb; have p0 := R9.box.cell 0 rfl; have p1 := R9.box.cell 1 rfl; have p2 := R9.box.cell 2 rfl; have p3 := R9.box.cell 3 rfl) | (go_at_call 59; refine (TX.out _ hb).mono ?_; rintro e w2 ⟨rfl, hb2⟩) | fail)
                  have R10 := R9.below hb2
                  clear y0 y1 y2 y3 p0 p1 p2 p3 R9
                  have u0 := R10.res.cell 0 rfl
                  have u1' := R10.res.cell 1 rfl
                  have u2' := R10.res.cell 2 rfl
                  have u3 := R10.res.cell 3 rfl
                  have v0 := R10.res.frozen 0
                  have v1 := R10.res.frozen 1
                  have v2 := R10.res.frozen 2
                  have v3 := R10.res.frozen 3
                  obtain ⟨W', hW, bx, be, -⟩ := R10.exit (.int .i64 0) (.int .i64 0) (.int .i64 0) (.slice none 0 0)
                  have k0' := bx.cell 0 rfl
                  have k1' := bx.cell 1 rfl
                  have k2' := bx.cell 2 rfl
                  have k3' := bx.cell 3 rfl
                  have FIN := Lib.hid (HNone.out W' hnone be)
                  have HW := Lib.hid hW
                  clear hW bx be
                  go_wp2_with fail
                  rw [← HW.out]
                  refine bodyPost_ret (v := .tuple #[.agg #[.int .i64 0, .int .i64 0, .int .i64 0, .slice none 0 0], .bool false]) (by simp [results, Tryz.results55, go_sem, *]) rfl ?_
                  exact FIN.out
        · have HR7 := Lib.hid (R6.setA a)
          have HW2 := Lib.hid (R6.keepI ow2 1 (.int .i64 a))
          have ow1' := R6.keepI ow1 1 (.int .i64 a)
          obtain ⟨bq, oq, rfl, hbq, hcq⟩ := (ow1.rdHere).2.pos (k := 0) (by simp)
          have hc0 := hcq 0 (by simp)
          simp only [Nat.add_zero, List.getElem_cons_zero] at hc0
          clear hcq R6 ow1 ow2
          go_upto_region 16 with fail
          obtain ⟨E7, hE7⟩ : ∃ E7, E7 = E6.setCell ⟨g, 1, none⟩ (.int .i64 a) := ⟨_, rfl⟩
          rw [← hE7] at HR7 HW2 ow1' ⊢
          clear hE7 x1 x2 x3 y1 y2 y3 hc0 hbq
          have x2 := HR7.out.box.frozen 2
          have x3 := HR7.out.box.frozen 3
          have y2 := HR7.out.box.cell 2 rfl
          have y3 := HR7.out.box.cell 3 rfl
          obtain ⟨bq', oq', he', hbq, hcq⟩ := (ow1'.rdHere).2.pos (k := 1) (by simp)
          obtain ⟨rfl, rfl, -⟩ := (Addr.mk.injEq _ _ _ _ _ _).mp (Option.some.inj he')
          have hc1 := hcq 1 (by simp)
          simp only [List.getElem_cons_succ, List.getElem_cons_zero] at hc1
          have HR8 := Lib.hid ((HR7.out.setB b).from (HR7.out.keepI HW2.out 2 (.int .i64 b)))
          clear hcq ow1' he'
          go_upto_region 19 with fail
          obtain ⟨E8, hE8⟩ : ∃ E8, E8 = (E7.setCell ⟨g, 2, none⟩ (.int .i64 b)).setCell ⟨g, 3, none⟩ (.slice q2 fs.length c2) := ⟨_, rfl⟩
          rw [← hE8] at HR8 ⊢
          clear hE8 x2 x3 y2 y3
          have R8 := HR8.out
          have HRD8 : Hid (readN s = if o1 = true ∧ o2 = true then (if nodeB ⟨kindNamed k0, a, b, fs⟩ 4 = true ∧ bs (nodeStr ⟨kindNamed k0, a, b, fs⟩) = s then some ⟨kindNamed k0, a, b, fs⟩ else none) else none) := HRD.out
          clear HRD
          cases o1 with
          | false =>
            have hnone : readN s = none := by rw [HRD8.out, if_neg (by simp)]
            go_upto_region 20 with fail
            have u0 := R8.res.cell 0 rfl
            have u1' := R8.res.cell 1 rfl
            have u2' := R8.res.cell 2 rfl
            have u3 := R8.res.cell 3 rfl
            have v0 := R8.res.frozen 0
            have v1 := R8.res.frozen 1
            have v2 := R8.res.frozen 2
            have v3 := R8.res.frozen 3
            obtain ⟨W', hW, bx, be, -⟩ := R8.exit (.int .i64 0) (.int .i64 0) (.int .i64 0) (.slice none 0 0)
            have k0' := bx.cell 0 rfl
            have k1' := bx.cell 1 rfl
            have k2' := bx.cell 2 rfl
            have k3' := bx.cell 3 rfl
            have FIN := Lib.hid (HNone.out W' hnone be)
            have HW := Lib.hid hW
            clear hW bx be
            go_wp2_with fail
            rw [← HW.out]
            refine bodyPost_ret (v := .tuple #[.agg #[.int .i64 0, .int .i64 0, .int .i64 0, .slice none 0 0], .bool false]) (by simp [results, Tryz.results55, go_sem, *]) rfl ?_
            exact FIN.out
          | true =>
            cases o2 with
            | false =>
              have hnone : readN s = none := by rw [HRD8.out, if_neg (by simp)]
              go_upto_region 20 with fail
              have u0 := R8.res.cell 0 rfl
              have u1' := R8.res.cell 1 rfl
              have u2' := R8.res.cell 2 rfl
              have u3 := R8.res.cell 3 rfl
              have v0 := R8.res.frozen 0
              have v1 := R8.res.frozen 1
              have v2 := R8.res.frozen 2
              have v3 := R8.res.frozen 3
              obtain ⟨W', hW, bx, be, -⟩ := R8.exit (.int .i64 0) (.int .i64 0) (.int .i64 0) (.slice none 0 0)
              have k0' := bx.cell 0 rfl
              have k1' := bx.cell 1 rfl
              have k2' := bx.cell 2 rfl
              have k3' := bx.cell 3 rfl
              have FIN := Lib.hid (HNone.out W' hnone be)
              have HW := Lib.hid hW
              clear hW bx be
              go_wp2_with fail
              rw [← HW.out]
              refine bodyPost_ret (v := .tuple #[.agg #[.int .i64 0, .int .i64 0, .int .i64 0, .slice none 0 0], .bool false]) (by simp [results, Tryz.results55, go_sem, *]) rfl ?_
              exact FIN.out
            | true =>
              have hrd := HRD8.out
              rw [if_pos ⟨rfl, rfl⟩] at hrd
              have HSP := Lib.hid hrd
              clear hrd HRD8
              have VN : Hid (VNode E8 (.agg #[.int .i64 (kindNamed k0), .int .i64 a, .int .i64 b, .slice q2 fs.length c2]) ⟨kindNamed k0, a, b, fs⟩) := by
                obtain ⟨q, d, e, hr⟩ := R8.own.rd
                obtain ⟨rfl, -, -⟩ := (Value.slice.injEq _ _ _ _ _ _).mp e
                exact ⟨q2, c2, rfl, hr⟩
              have OK := Lib.hid (isNode_v 4 E8 VN.out)
              have y0 := R8.box.cell 0 rfl
              have y1 := R8.box.cell 1 rfl
              have y2 := R8.box.cell 2 rfl
              have y3 := R8.box.cell 3 rfl
              have HT8 : Hid (TxtT E8) := HT.out.below R8.bel
              cases hx : nodeB ⟨kindNamed k0, a, b, fs⟩ 4
              · rw [hx] at OK
                have hnone : readN s = none := by rw [HSP.out, if_neg (by rw [hx]; simp)]
                go_upto_region 20 with (first | (go_at_call 47; refine OK.out.mono ?_; rintro e w1 ⟨rfl, hb⟩) | fail)
                have R9 := R8.below hb
                clear y0 y1 y2 y3
                have u0 := R9.res.cell 0 rfl
                have u1' := R9.res.cell 1 rfl
                have u2' := R9.res.cell 2 rfl
                have u3 := R9.res.cell 3 rfl
                have v0 := R9.res.frozen 0
                have v1 := R9.res.frozen 1
                have v2 := R9.res.frozen 2
                have v3 := R9.res.frozen 3
                obtain ⟨W', hW, bx, be, -⟩ := R9.exit (.int .i64 0) (.int .i64 0) (.int .i64 0) (.slice none 0 0)
                have k0' := bx.cell 0 rfl
                have k1' := bx.cell 1 rfl
                have k2' := bx.cell 2 rfl
                have k3' := bx.cell 3 rfl
                have FIN := Lib.hid (HNone.out W' hnone be)
                have HW := Lib.hid hW
                clear hW bx be
                go_wp2_with fail
                rw [← HW.out]
                refine bodyPost_ret (v := .tuple #[.agg #[.int .i64 0, .int .i64 0, .int .i64 0, .slice none 0 0], .bool false]) (by simp [results, Tryz.results55, go_sem, *]) rfl ?_
                exact FIN.out
              · rw [hx] at OK
                have TX : Hid (∀ W, Below E8.heap.size E8 W → Calls Tryz.prog 59 #[.agg #[.int .i64 (kindNamed k0), .int .i64 a, .int .i64 b, .slice q2 fs.length c2]] W fun e w' => e = .returned (.string (bs (nodeStr ⟨kindNamed k0, a, b, fs⟩))) ∧ Below W.heap.size W w') := fun W hW => nodeText_v W (VN.out.below hW) hx (HT8.out.below hW)
                by_cases hq : bs (nodeStr ⟨kindNamed k0, a, b, fs⟩) = s
                · have hsome : readN s = some ⟨kindNamed k0, a, b, fs⟩ := by rw [HSP.out, if_pos ⟨hx, hq⟩]
                  rw [hq] at TX
                  clear hq
                  have HR9 := Lib.hid R8
                  clear R8
                  go_upto_region 21 with (first | (go_at_call 47; refine OK.out.mono ?_; rintro e w1 ⟨rfl, hb⟩; have R9 := HR9.out.below hb; have p0 := R9.box.cell 0 rfl; have p1 := R9.box.cell 1 rfl; have p2 := R9.box.cell 2 rfl; have p3 := R9.box.cell 3 rfl) | (go_at_call 59; refine (TX.out _ hb).mono ?_; rintro e w2 ⟨rfl, hb2⟩) | fail)
                  have R10 := R9.below hb2
                  clear y0 y1 y2 y3 p0 p1 p2 p3 R9
                  have u0 := R10.res.cell 0 rfl
                  have u1' := R10.res.cell 1 rfl
                  have u2' := R10.res.cell 2 rfl
                  have u3 := R10.res.cell 3 rfl
                  have v0 := R10.res.frozen 0
                  have v1 := R10.res.frozen 1
                  have v2 := R10.res.frozen 2
                  have v3 := R10.res.frozen 3
                  have y0 := R10.box.cell 0 rfl
                  have y1 := R10.box.cell 1 rfl
                  have y2 := R10.box.cell 2 rfl
                  have y3 := R10.box.cell 3 rfl
                  obtain ⟨W', hW, bx, be, ou⟩ := R10.exit (.int .i64 (kindNamed k0)) (.int .i64 a) (.int .i64 b) (.slice q2 fs.length c2)
                  have k0' := bx.cell 0 rfl
                  have k1' := bx.cell 1 rfl
                  have k2' := bx.cell 2 rfl
                  have k3' := bx.cell 3 rfl
                  have FIN := Lib.hid (HSome.out W' ⟨kindNamed k0, a, b, fs⟩ _ hsome ou be)
                  have HW := Lib.hid hW
                  clear hW bx be ou
                  go_wp2_with fail
                  rw [← HW.out]
                  refine bodyPost_ret (v := .tuple #[.agg #[.int .i64 (kindNamed k0), .int .i64 a, .int .i64 b, .slice q2 fs.length c2], .bool true]) (by simp [results, Tryz.results55, go_sem, *]) rfl ?_
                  exact FIN.out
                · have hnone : readN s = none := by rw [HSP.out, if_neg fun h => hq h.2]
                  have hqb := str_beq_false hq
                  generalize bs (nodeStr ⟨kindNamed k0, a, b, fs⟩) = ST at hqb TX
                  clear hq
                  have HR9 := Lib.hid R8
                  clear R8
                  go_upto_region 20 with (first | (go_at_call 47; refine OK.out.mono ?_; rintro e w1 ⟨rfl, hb⟩; have R9 := HR9.out.below hb; have p0 := R9.box.cell 0 rfl; have p1 := R9.box.cell 1 rfl; have p2 := R9.box.cell 2 rfl; have p3 := R9.box.cell 3 rfl) | (go_at_call 59; refine (TX.out _ hb).mono ?_; rintro e w2 ⟨rfl, hb2⟩) | fail)
                  have R10 := R9.below hb2
                  clear y0 y1 y2 y3 p0 p1 p2 p3 R9
                  have u0 := R10.res.cell 0 rfl
                  have u1' := R10.res.cell 1 rfl
                  have u2' := R10.res.cell 2 rfl
                  have u3 := R10.res.cell 3 rfl
                  have v0 := R10.res.frozen 0
                  have v1 := R10.res.frozen 1
                  have v2 := R10.res.frozen 2
                  have v3 := R10.res.frozen 3
                  obtain ⟨W', hW, bx, be, -⟩ := R10.exit (.int .i64 0) (.int .i64 0) (.int .i64 0) (.slice none 0 0)
                  have k0' := bx.cell 0 rfl
                  have k1' := bx.cell 1 rfl
                  have k2' := bx.cell 2 rfl
                  have k3' := bx.cell 3 rfl
                  have FIN := Lib.hid (HNone.out W' hnone be)
                  have HW := Lib.hid hW
                  clear hW bx be
                  go_wp2_with fail
                  rw [← HW.out]
                  refine bodyPost_ret (v := .tuple #[.agg #[.int .i64 0, .int .i64 0, .int .i64 0, .slice none 0 0], .bool false]) (by simp [results, Tryz.results55, go_sem, *]) rfl ?_
                  exact FIN.out
end Go.Proofs.YtaapkpjokmoekaaGreatDoor

namespace Go.Proofs.YtaapkpjokmoekaaGreatDoor
open Go.ChangeShapes Go.WideShapes Go.ChangeAt Go.RowKit Go.Sort
set_option linter.unusedVariables false
set_option linter.unusedSimpArgs false

theorem wpList_append_valG {ops : Array Oper} {rest : List Oper} {o : Oper} {a : Act} {Q : Exit → Act → World → Prop} {w : World} {u : Value} {E T : Nat} (hgd : o.guard = none) (s x : Operand)
    (ho : o.op = .call { callee := .builtin .append, args := #[s, x], argTypes := #[T, T] }) (bytes : Nat) (z : Value) (hT : Tryz.prog.underlying T = some (.slice E)) (hinfo : (Tryz.prog.info? E).map (fun i => (i.zero, i.size, i.bytes)) = some (some z, 1, bytes)) (hz : z.cells.size = 1) (hby : bytes ≤ 64)
    {B : Nat} {v : Value} {L : List Value} (hs : a.eval s = v) (hown : OwnV B w E v L) (hx : a.eval x = .slice (some ⟨w.heap.size, 0, none⟩) 1 1) (h1 : u.oneCell' = true) (hlen : L.length < 1099511627776) (hB : B ≤ w.heap.size)
    (h : ∀ v' w', OwnV B w' E v' (L ++ [u]) → w.grownBy w' v.ownBlock → wpList Tryz.prog ops Q rest (a.put o.dst v') w') : wpList Tryz.prog ops Q (o :: rest) a (w.alloc (.cells #[u] E)) := by
  refine wpList_plain hgd fun K hK => ?_
  obtain ⟨v', w', e1, e2, e3⟩ := run_append_val w o.type E T bytes z hT hinfo hz hby hown h1 hlen hB
  unfold Oper.wp execOp
  simp only [ho, resolve, invoke, builtin, Sem.run_bind, Sem.run_pure, Result.andThen_ok, List.map_toArray, List.map_cons, List.map_nil, hs, hx, e1]
  refine hK _ _ (h v' w' e2 ⟨e3.os, e3.tape, e3.output, by have := e3.size; simp at this; omega, fun k hk hne => ?_⟩)
  exact (e3.block k (by simp; omega) hne).trans (Below.heap_alloc _ _ _ hk)
theorem PB.inp {B : Nat} {w0 w : World} {s : Nat} {inp : Int} {v1 v2 v3 : Value} {ts : List (List Int)} {ns : List NodeD} {os : List Int} {L1 L : List Value} (h : PB B w0 w s inp v1 v2 v3 ts ns os L1 L) (n : Int) :
    PB B w0 (w.setCell ⟨s, 0, none⟩ (.int .i64 n)) s n v1 v2 v3 ts ns os L1 L :=
  ⟨h.own.setBox h.out patchT 0 _, by simpa using h.out.set 0 (.int .i64 n), h.bel.setCell (by simpa using h.hs) _, h.hB, h.hs⟩
theorem PB.ppatch {B : Nat} {w0 w : World} {s : Nat} {x : PatchD} {v1 v2 v3 : Value} {L1 L : List Value} (h : PB B w0 w s x.inputs v1 v2 v3 x.tables x.nodes x.outputs L1 L) : PPatch w s x := by
  obtain ⟨p1, c1, p2, c2, p3, c3, e, r1, r2, r3⟩ := (h.own.patch x.inputs).1.rd
  simp only [Value.agg.injEq, Array.mk.injEq, List.cons.injEq, and_true, true_and] at e
  obtain ⟨rfl, rfl, rfl⟩ := e
  exact ⟨p1, c1, p2, c2, p3, c3, h.out, r1, r2, r3⟩
def patchRd (s : ByteArray) : PatchD := (readPI s).getD zP
def okRdP (s : ByteArray) : Bool := (readPI s).isSome
/-- the patch with a text, if there is one -/
def RetPt (w : World) (s : ByteArray) (e : Ending) (w' : World) : Prop := ∃ u L, e = .returned (.tuple #[u, .bool (okRdP s)]) ∧ OwnPatch w.heap.size w' u (patchRd s) L ∧ Dis L ∧ Below w.heap.size w w'
theorem retPt_none {w w' : World} {s : ByteArray} (h : readPI s = none) (hb : Below w.heap.size w w') : RetPt w s (.returned (.tuple #[.agg #[.int .i64 0, .slice none 0 0, .slice none 0 0, .slice none 0 0], .bool false])) w' := by
  have o := ((OwnP.nil w (OwnI.nil w.heap.size w)).below hb).patch 0
  refine ⟨_, _, by unfold okRdP; rw [h]; rfl, ?_, o.2, hb⟩
  unfold patchRd; rw [h]
  exact o.1
theorem retPt_some {w w' : World} {s : ByteArray} {x : PatchD} {v1 v2 v3 : Value} {L1 L : List Value} (h : readPI s = some x) (ho : OwnP w.heap.size w' v1 v2 v3 x.tables x.nodes x.outputs L1 L) (hb : Below w.heap.size w w') :
    RetPt w s (.returned (.tuple #[.agg #[.int .i64 x.inputs, v1, v2, v3], .bool true])) w' := by
  have o := ho.patch x.inputs
  refine ⟨_, _, by unfold okRdP; rw [h]; rfl, ?_, o.2, hb⟩
  unfold patchRd; rw [h]
  exact o.1
end Go.Proofs.YtaapkpjokmoekaaGreatDoor

namespace Go.Proofs.YtaapkpjokmoekaaGreatDoor
open Go.ChangeShapes Go.WideShapes Go.ChangeAt Go.RowKit Go.Sort
set_option linter.unusedVariables false
set_option linter.unusedSimpArgs false

theorem strB_cell {w : World} {B : Nat} {v : Value} {P : List ByteArray} (h : OwnV B w 9 v (strB P)) {k : Nat} (hk : k < P.length) : ∃ g c, v = .slice (some ⟨g, 0, none⟩) P.length c ∧ w.cell? ⟨g, k, none⟩ = some (.string P[k]) := by
  have hl : (strB P).length = P.length := by simp [strB]
  rcases h.cases with ⟨-, h0⟩ | ⟨g, c, e, -, -, -, hr⟩
  · rw [h0] at hl; simp at hl; omega
  · rw [hl] at e
    refine ⟨g, c, e, ?_⟩
    rcases hr.cells with h0 | ⟨b, o, e1, hc⟩
    · rw [h0] at hl; simp at hl; omega
    · simp only [Option.some.injEq, Addr.mk.injEq, and_true] at e1
      obtain ⟨rfl, rfl⟩ := e1
      have := hc k (by rw [hl]; exact hk)
      rw [Nat.zero_add] at this
      rw [this]; simp [strB]
/-- which of the three words a word is -/
theorem word_cases (k : ByteArray) : (k = wPatch) ∨ (k = wValues) ∨ (k = wOut) ∨ (k ≠ wPatch ∧ k ≠ wValues ∧ k ≠ wOut) := by
  by_cases h1 : k = wPatch
  · exact .inl h1
  by_cases h2 : k = wValues
  · exact .inr (.inl h2)
  by_cases h3 : k = wOut
  · exact .inr (.inr (.inl h3))
  exact .inr (.inr (.inr ⟨h1, h2, h3⟩))
theorem toL (l : List UInt8) : (⟨l.toArray⟩ : ByteArray).toList = l := by rw [ByteArray.toList_eq]
theorem is_word {k : ByteArray} {l : List UInt8} (h : k = ⟨l.toArray⟩) : (k.toList == l) = true := by rw [h, toL]; simp
theorem no_word {k : ByteArray} {l : List UInt8} (h : k ≠ ⟨l.toArray⟩) : (k.toList == l) = false := by
  rw [beq_eq_false_iff_ne]
  intro e
  exact h (str_ext (by rw [e, toL]))
theorem word_bools (k : ByteArray) : ∃ b1 b2 b3 : Bool, (k.toList == [112, 97, 116, 99, 104]) = b1 ∧ (k.toList == [118, 97, 108, 117, 101, 115]) = b2 ∧ (k.toList == [111, 117, 116]) = b3 ∧
    ((b1 = true ∧ b2 = false ∧ b3 = false ∧ k = wPatch) ∨ (b1 = false ∧ b2 = true ∧ b3 = false ∧ k = wValues) ∨ (b1 = false ∧ b2 = false ∧ b3 = true ∧ k = wOut) ∨ (b1 = false ∧ b2 = false ∧ b3 = false ∧ k ≠ wPatch ∧ k ≠ wValues ∧ k ≠ wOut)) := by
  rcases word_cases k with h | h | h | ⟨h1, h2, h3⟩
  · exact ⟨true, false, false, is_word h, no_word (by rw [h]; decide), no_word (by rw [h]; decide), .inl ⟨rfl, rfl, rfl, h⟩⟩
  · exact ⟨false, true, false, no_word (by rw [h]; decide), is_word h, no_word (by rw [h]; decide), .inr (.inl ⟨rfl, rfl, rfl, h⟩)⟩
  · exact ⟨false, false, true, no_word (by rw [h]; decide), no_word (by rw [h]; decide), is_word h, .inr (.inr (.inl ⟨rfl, rfl, rfl, h⟩))⟩
  · exact ⟨false, false, false, no_word h1, no_word h2, no_word h3, .inr (.inr (.inr ⟨rfl, rfl, rfl, h1, h2, h3⟩))⟩
/-- how a line goes: the tests' results, and what becomes of the patch -/
theorem stepR_ways (p : PatchD) (line : ByteArray) (k0 : ByteArray) (hk0 : (partsB line).headD ⟨#[]⟩ = k0) :
    (∃ ns n, numsS (partsB line) = some ns ∧ k0 = wPatch ∧ ns = [n] ∧ stepR p line = some (setIn p n)) ∨
    (∃ ns, numsS (partsB line) = some ns ∧ k0 = wValues ∧ stepR p line = some (addTable p ns)) ∨
    (∃ ns, numsS (partsB line) = some ns ∧ k0 = wOut ∧ stepR p line = some (setOut p ns)) ∨
    (stepR p line = (readN line).map (addNode p) ∧ (numsS (partsB line) = none ∨ (∃ ns, numsS (partsB line) = some ns ∧ ((k0 = wPatch ∧ ns.length ≠ 1) ∨ (k0 ≠ wPatch ∧ k0 ≠ wValues ∧ k0 ≠ wOut))))) := by
  unfold stepR
  simp only [hk0]
  cases hn : numsS (partsB line) with
  | none => exact .inr (.inr (.inr ⟨rfl, .inl rfl⟩))
  | some ns =>
    simp only
    by_cases h1 : k0 = wPatch ∧ ns.length = 1
    · left
      match ns, h1.2 with
      | [n], _ => exact ⟨[n], n, rfl, h1.1, rfl, by rw [if_pos h1]; rfl⟩
    · rw [if_neg h1]
      by_cases h2 : k0 = wValues
      · exact .inr (.inl ⟨ns, rfl, h2, by rw [if_pos h2]⟩)
      · rw [if_neg h2]
        by_cases h3 : k0 = wOut
        · exact .inr (.inr (.inl ⟨ns, rfl, h3, by rw [if_pos h3]⟩))
        · rw [if_neg h3]
          refine .inr (.inr (.inr ⟨rfl, .inr ⟨ns, rfl, ?_⟩⟩))
          by_cases h4 : k0 = wPatch
          · exact .inl ⟨h4, fun e => h1 ⟨h4, e⟩⟩
          · exact .inr ⟨h4, h2, h3⟩
theorem PB.exitZ {B : Nat} {w0 w : World} {s : Nat} {inp : Int} {v1 v2 v3 : Value} {ts : List (List Int)} {ns : List NodeD} {os : List Int} {L1 L : List Value} {r : Nat} {W0 : World} (h : PB B w0 w s inp v1 v2 v3 ts ns os L1 L) (hres : Box w r zPatch 28) (hb : Below W0.heap.size W0 w) (hr : W0.heap.size ≤ r) :
    ∃ W', W' = (((w.setCell ⟨r, 0, none⟩ (.int .i64 0)).setCell ⟨r, 1, none⟩ (.slice none 0 0)).setCell ⟨r, 2, none⟩ (.slice none 0 0)).setCell ⟨r, 3, none⟩ (.slice none 0 0) ∧ Box W' r zPatch 28 ∧ Below W0.heap.size W0 W' := by
  have b0 := hres.set 0 (.int .i64 0)
  have b1 := b0.set 1 (.slice none 0 0)
  have b2 := b1.set 2 (.slice none 0 0)
  have b3 := b2.set 3 (.slice none 0 0)
  exact ⟨_, rfl, by simpa [zPatch] using b3, (((hb.setCell (p := ⟨r, 0, none⟩) hr _).setCell (p := ⟨r, 1, none⟩) hr _).setCell (p := ⟨r, 2, none⟩) hr _).setCell (p := ⟨r, 3, none⟩) hr _⟩
theorem head_get {Q : List ByteArray} (h : 1 ≤ Q.length) : Q[0]'(by omega) = Q.headD ⟨#[]⟩ := by
  match Q, h with
  | y :: Q', _ => rfl
theorem PB.exitP {B : Nat} {w0 w : World} {s : Nat} {inp : Int} {v1 v2 v3 : Value} {ts : List (List Int)} {ns : List NodeD} {os : List Int} {L1 L : List Value} {r : Nat} {W0 : World} (h : PB B w0 w s inp v1 v2 v3 ts ns os L1 L) (hres : Box w r zPatch 28) (hb : Below W0.heap.size W0 w) (hr : W0.heap.size ≤ r) (hB : W0.heap.size ≤ B) :
    ∃ W', W' = (((w.setCell ⟨r, 0, none⟩ (.int .i64 inp)).setCell ⟨r, 1, none⟩ v1).setCell ⟨r, 2, none⟩ v2).setCell ⟨r, 3, none⟩ v3 ∧ Box W' r [.int .i64 inp, v1, v2, v3] 28 ∧ Below W0.heap.size W0 W' ∧ OwnP W0.heap.size W' v1 v2 v3 ts ns os L1 L := by
  have b0 := hres.set 0 (.int .i64 inp)
  have b1 := b0.set 1 v1
  have b2 := b1.set 2 v2
  have b3 := b2.set 3 v3
  exact ⟨_, rfl, by simpa [zPatch] using b3, (((hb.setCell (p := ⟨r, 0, none⟩) hr _).setCell (p := ⟨r, 1, none⟩) hr _).setCell (p := ⟨r, 2, none⟩) hr _).setCell (p := ⟨r, 3, none⟩) hr _, (((((h.own.setBox hres patchT 0 _).setBox b0 patchT 1 _).setBox b1 patchT 2 _).setBox b2 patchT 3 _)).mono hB⟩
theorem OwnV.rdV {B : Nat} {w : World} {v : Value} {P : List ByteArray} (h : OwnV B w 9 v (strB P)) : ∃ p c, v = .slice p P.length c ∧ RdV w p (strB P) := by
  have hl : (strB P).length = P.length := by simp [strB]
  rcases h.cases with ⟨e, h0⟩ | ⟨g, c, e, -, -, -, hr⟩
  · have : P = [] := by rw [h0] at hl; exact List.eq_nil_of_length_eq_zero hl.symm
    subst this
    exact ⟨none, 0, e, RdV.none0 _ _⟩
  · rw [hl] at e; exact ⟨_, c, e, hr⟩
end Go.Proofs.YtaapkpjokmoekaaGreatDoor
