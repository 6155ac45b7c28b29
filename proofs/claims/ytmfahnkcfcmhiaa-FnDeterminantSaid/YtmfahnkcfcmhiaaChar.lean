/-
  The characteristic polynomial without divisions: what both sides compute; contracts of both sides.
-/
import Derived.Test.YtmfahnkcfcmhiaaMat
import Derived.StillTailTactics
namespace Go.Proofs.Ytmfahnkcfcmhiaa
open Go.ChangeShapes Go.WideShapes Go.ChangeAt Go.RowKit
set_option linter.unusedVariables false
set_option linter.unusedSimpArgs false

theorem Calls.flip {P : Program} {f : FuncId} {args : Array Value} {w : World} {v : Value} (h : Calls P f args w fun e w' => e = .returned v ∧ w = w') : Calls P f args w fun e w' => e = .returned v ∧ w' = w :=
  h.mono fun _ _ ⟨a, b⟩ => ⟨a, b.symm⟩
theorem RdI.take {w : World} {p : Option Addr} {xs : List Int} (h : RdI w p xs) (n : Nat) : RdI w p (xs.take n) := by
  refine ⟨by have := h.len; rw [List.length_take]; omega, ?_⟩
  rcases h.cells with rfl | ⟨b, o, e, hc⟩
  · left; simp
  · right
    refine ⟨b, o, e, fun i hi => ?_⟩
    rw [List.length_take] at hi
    rw [hc i (by omega), List.getElem_take]
theorem dotN_congr {xs xs' ys ys' : List Int} {k : Nat} (h : ∀ j, j < k → xs.getD j 0 = xs'.getD j 0 ∧ ys.getD j 0 = ys'.getD j 0) : dotN xs ys k = dotN xs' ys' k := by
  induction k with
  | zero => rfl
  | succ k ih =>
    rw [dotN, dotN, ih (fun j hj => h j (by omega)), (h k (by omega)).1, (h k (by omega)).2]
theorem getD_take {α : Type} (xs : List α) (d : α) {n j : Nat} (h : j < n) : (xs.take n).getD j d = xs.getD j d := by
  simp [List.getD_eq_getElem?_getD, h]
theorem dotN_take (xs ys : List Int) {n k : Nat} (h : k ≤ n) : dotN (xs.take n) ys k = dotN xs ys k :=
  dotN_congr fun j hj => ⟨getD_take _ _ (by omega), rfl⟩

/-- one step of the powers -/
def chStep (a : List (List Int)) (r : Nat) (s : List Int) : List Int := (a.take r).map fun row => dotN row s r
def chIter (a : List (List Int)) (r : Nat) : Nat → List Int
  | 0 => colL (a.take r) r
  | k + 1 => chStep a r (chIter a r k)
/-- the first column of the Toeplitz matrix, after k rounds -/
def chFirst (a : List (List Int)) (r k : Nat) : List Int := 1 :: smp (-((a.getD r []).getD r 0)) :: (List.range k).map fun j => smp (-(dotN (a.getD r []) (chIter a r j) r))
def chAcc (first out : List Int) (i : Nat) : Nat → Int
  | 0 => 0
  | j + 1 => if j ≤ i then smp (chAcc first out i j + first.getD (i - j) 0 * out.getD j 0) else chAcc first out i j
def chNext (first out : List Int) : List Int := (List.range (out.length + 1)).map fun i => chAcc first out i out.length
def chp (a : List (List Int)) : Nat → List Int
  | 0 => [1]
  | r + 1 => chNext (chFirst a r r) (chp a r)
theorem chNext_length (f o : List Int) : (chNext f o).length = o.length + 1 := by simp [chNext]
theorem chp_length (a : List (List Int)) (r : Nat) : (chp a r).length = r + 1 := by
  induction r with
  | zero => rfl
  | succ r ih => rw [chp, chNext_length, ih]
theorem chFirst_length (a : List (List Int)) (r k : Nat) : (chFirst a r k).length = k + 2 := by simp [chFirst]
theorem chFirst_succ (a : List (List Int)) (r k : Nat) : chFirst a r (k + 1) = chFirst a r k ++ [smp (-(dotN (a.getD r []) (chIter a r k) r))] := by
  simp [chFirst, List.range_succ]
theorem chStep_length (a : List (List Int)) (r : Nat) (s : List Int) (h : r ≤ a.length) : (chStep a r s).length = r := by simp [chStep]; omega
theorem chIter_length (a : List (List Int)) (r k : Nat) (h : r ≤ a.length) : (chIter a r k).length = r := by
  cases k with
  | zero => rw [chIter, colL_length, List.length_take]; omega
  | succ k => rw [chIter, chStep_length _ _ _ h]
theorem chAcc_smp (f o : List Int) (i k : Nat) : smp (chAcc f o i k) = chAcc f o i k := by
  induction k with
  | zero => rfl
  | succ k ih =>
    rw [chAcc]
    split
    · exact smp_smp _
    · exact ih
theorem chAcc_stop (f o : List Int) (i : Nat) {k m : Nat} (h1 : i + 1 ≤ k) (h2 : k ≤ m) : chAcc f o i m = chAcc f o i k := by
  induction m with
  | zero => obtain rfl : k = 0 := by omega
            rfl
  | succ m ih =>
    by_cases e : k = m + 1
    · rw [e]
    · rw [chAcc, if_neg (by omega), ih (by omega)]
theorem map_snoc {α β : Type} (f : α → β) (xs : List α) {k : Nat} (h : k < xs.length) : (xs.take (k + 1)).map f = (xs.take k).map f ++ [f xs[k]] := by
  rw [List.take_succ_eq_append_getElem h, List.map_append]; rfl
theorem take_take_self {α : Type} (xs : List α) {k r : Nat} (h : k ≤ r) : (xs.take r).take k = xs.take k := by rw [List.take_take, Nat.min_eq_left h]

theorem zeros_any (n : Nat) (w : World) (hn : n ≤ 1048576) :
    Calls Try.prog 30 #[.int .i64 n] w fun e w' => ∃ v, e = .returned v ∧ OwnI w.heap.size w' v (List.replicate n 0) ∧ Below w.heap.size w w' := by
  have hmk := fun w => run_make_row' (P := Try.prog) 31 2 (.int .i64 0) 8 Try.underlying31 infoI rfl .i64 .i64 n (by omega) (by omega) w
  have h0 := OwnI.made (B := w.heap.size) w n (Nat.le_refl _) (by unfold maxLen; omega)
  go_enter Try.func30, Try.ntmps30
  go_wp2_with fail
  go_ret
  exact ⟨_, rfl, h0, (Below.refl _ _).alloc (Nat.le_refl _) _⟩
set_option maxHeartbeats 800000 in
theorem reversed_any {p : Option Addr} {c : Nat} {xs : List Int} (w : World) (h : RdI w p xs) (hn : xs.length ≤ 1048576) :
    Calls Try.prog 23 #[.slice p xs.length c] w fun e w' => ∃ v, e = .returned v ∧ OwnI w.heap.size w' v xs.reverse ∧ Below w.heap.size w w' := by
  have h0 := OwnI.lit (B := w.heap.size) w [] (Nat.le_refl _) (by simp [maxLen])
  go_enter Try.func23, Try.ntmps23
  go_wp2_with fail
  go_loopw [3, 4] (fun v i wr => ∃ k : Nat, k ≤ xs.length ∧ i = .int .i64 ((k : Int) - 1) ∧ OwnI w.heap.size wr v (xs.drop k).reverse ∧ Below w.heap.size w wr) (fun _ i _ => (intOf i + 1).toNat)
  case atStart => exact ⟨xs.length, Nat.le_refl _, rfl, by simpa using h0, (Below.refl _ _).alloc (Nat.le_refl _) _⟩
  case round =>
    obtain ⟨k, hk, rfl, hown, hbel⟩ := hrel
    clear h0
    have hlen : ((xs.drop k).reverse).length < 17592186044415 := by simp; omega
    by_cases hlt : 0 < k
    · obtain ⟨m, rfl⟩ : ∃ m, k = m + 1 := ⟨k - 1, by omega⟩
      have e1 : (((m + 1 : Nat) : Int) - 1) = (m : Int) := by omega
      rw [e1]
      obtain ⟨b, o, rfl, hb, hc⟩ := (h.below hbel).pos (k := m) (by omega)
      have hck := hc m (by omega)
      clear hc e1
      have hst : Hid ((xs.drop m).reverse = (xs.drop (m + 1)).reverse ++ [xs[m]]) := by
        unfold Hid; rw [List.drop_eq_getElem_cons (by omega), List.reverse_cons]
      have hsz := hbel.size
      generalize xs[m] = x at hck hst
      go_wp2_with (at_builtin; refine wpList_append_one rfl _ _ rfl rfl hown rfl hbel hlen hsz (Nat.le_refl _) ?_; intro v' w1 hown1 hbel1 _ _)
      go_roundw
      case rel => exact ⟨m, by omega, by first | rfl | go_num, by rw [hst.out]; exact hown1, hbel1⟩
      case measure => simp [intOf] <;> omega
    · obtain rfl : k = 0 := by omega
      go_wp2_with fail
      go_ret
      exact ⟨_, rfl, by simpa using hown, hbel⟩
theorem colL_snoc (a : List (List Int)) (r : Nat) {m : Nat} (h : m < a.length) : colL (a.take (m + 1)) r = colL (a.take m) r ++ [a[m].getD r 0] := by unfold colL; rw [map_snoc _ _ h]
theorem chStepN_snoc (a : List (List Int)) (r : Nat) (s : List Int) {m : Nat} (h : m < a.length) : (a.take (m + 1)).map (fun row => dotN row s r) = (a.take m).map (fun row => dotN row s r) ++ [dotN a[m] s r] := map_snoc _ _ h
/-- the longer list, filled up to m -/
def chPart (f o : List Int) (m j : Nat) : List Int := (List.range (o.length + 1)).map fun i => if i < m then chAcc f o i o.length else if i = m then chAcc f o i j else 0
theorem chPart_length (f o : List Int) (m j : Nat) : (chPart f o m j).length = o.length + 1 := by simp [chPart]
theorem chPart_get (f o : List Int) (m j : Nat) (h : m < (chPart f o m j).length) : (chPart f o m j)[m] = chAcc f o m j := by
  simp [chPart]
theorem chPart_zero (f o : List Int) : chPart f o 0 0 = List.replicate (o.length + 1) 0 := by
  refine List.ext_getElem (by simp [chPart]) fun i h1 h2 => ?_
  simp only [chPart, List.getElem_map, List.getElem_range, List.getElem_replicate, Nat.not_lt_zero, if_false]
  split <;> rfl
theorem chPart_set (f o : List Int) (m j : Nat) : (chPart f o m j).set m (chAcc f o m (j + 1)) = chPart f o m (j + 1) := by
  refine List.ext_getElem (by simp [chPart]) fun i h1 h2 => ?_
  rw [List.getElem_set]
  by_cases e : m = i
  · subst e; simp [chPart]
  · rw [if_neg e]
    simp only [chPart, List.getElem_map, List.getElem_range]
    rw [if_neg (fun h : i = m => e h.symm), if_neg (fun h : i = m => e h.symm)]
theorem chPart_same (f o : List Int) (m j : Nat) (h : chAcc f o m (j + 1) = chAcc f o m j) : chPart f o m j = chPart f o m (j + 1) := by
  refine List.ext_getElem (by simp [chPart]) fun i h1 h2 => ?_
  simp only [chPart, List.getElem_map, List.getElem_range]
  by_cases e : i = m
  · subst e; simp [h]
  · simp [e]
theorem chPart_next (f o : List Int) (m : Nat) : chPart f o m o.length = chPart f o (m + 1) 0 := by
  refine List.ext_getElem (by simp [chPart]) fun i h1 h2 => ?_
  simp only [chPart, List.getElem_map, List.getElem_range]
  by_cases e : i = m
  · subst e; simp
  · by_cases e1 : i < m
    · rw [if_pos e1, if_pos (by omega)]
    · rw [if_neg e1, if_neg e, if_neg (by omega)]
      split <;> rfl
theorem chPart_done (f o : List Int) : chPart f o (o.length + 1) 0 = chNext f o := by
  refine List.ext_getElem (by simp [chPart, chNext]) fun i h1 h2 => ?_
  simp only [chPart, chNext, List.getElem_map, List.getElem_range]
  rw [chPart_length] at h1
  rw [if_pos h1]
theorem matB_smp {a : List (List Int)} (h : matB a = true) {i j : Nat} (hi : i < a.length) (hj : j < a[i].length) : -2147483648 ≤ a[i][j] ∧ a[i][j] ≤ 2147483647 :=
  inB_iff.1 ((matB_iff.1 h).2 _ (List.getElem_mem hi) |>.2 _ (List.getElem_mem hj))
set_option maxHeartbeats 16000000 in
set_option maxRecDepth 100000 in
theorem implCharPolyL_any {p : Option Addr} {c : Nat} {a : List (List Int)} (w : World) (h : RdII w p a) (hM : matB a = true) :
    Calls Try.prog 20 #[.slice p a.length c] w fun e w' => ∃ v, e = .returned v ∧ OwnI w.heap.size w' v (chp a a.length) ∧ Below w.heap.size w w' := by
  have HM := Lib.hid hM
  have hl1 := ((matB_iff).1 hM).1
  clear hM
  have h0 := OwnI.lit (B := w.heap.size) w [1] (Nat.le_refl _) (by simp [maxLen])
  go_enter Try.func20, Try.ntmps20
  go_wp2_with fail
  go_loopw [3, 18] (fun v i wr => ∃ r : Nat, r ≤ a.length ∧ i = .int .i64 r ∧ OwnI w.heap.size wr v (chp a r) ∧ Below w.heap.size w wr) (fun _ i _ => a.length - (intOf i).toNat)
  case atStart => exact ⟨0, Nat.zero_le _, rfl, by simpa [chp] using h0, (Below.refl _ _).alloc (Nat.le_refl _) _⟩
  case round =>
    obtain ⟨r, hr, rfl, hout, hbel⟩ := hrel
    clear h0
    obtain ⟨wo, rfl⟩ : ∃ wo : World, wo = wr := ⟨_, rfl⟩
    by_cases hlt : r < a.length
    · have hO := h.below hbel
      obtain ⟨b, o, rfl, hb1, hc⟩ := hO.pos hlt
      have hrl : ∀ (i : Nat) (hi : i < a.length), a[i].length = a.length := fun i hi => (((matB_iff).1 HM.out).2 _ (List.getElem_mem hi)).1
      have HRL := Lib.hid hrl
      have HC : Hid (∀ i, (hi : i < a.length) → ∃ q c, wo.cell? ⟨b, o + i, none⟩ = some (.slice q a.length c) ∧ RdI wo q a[i] ∧ a.length ≤ c) := fun i hi => by
        obtain ⟨q, c, h1, h2⟩ := hc i hi
        have h3 := hO.caps b o i q _ c rfl hi h1
        rw [hrl i hi] at h1 h3
        exact ⟨q, c, h1, h2, h3⟩
      clear hc hrl
      obtain ⟨qr, cr, hcr, hrr, hcap⟩ := HC.out r hlt
      obtain ⟨b2, o2, rfl, hb2, hc2⟩ := hrr.pos (k := r) (by rw [HRL.out r hlt]; exact hlt)
      have hcx := hc2 r (by rw [HRL.out r hlt]; exact hlt)
      have hx := matB_smp HM.out hlt (j := r) (by rw [HRL.out r hlt]; exact hlt)
      clear hc2
      have HX : Hid ((a.getD r []).getD r 0 = a[r][r]'(by rw [HRL.out r hlt]; exact hlt)) := by
        unfold Hid; rw [getD_of_lt [] hlt, getD_of_lt 0 (by rw [HRL.out r hlt]; exact hlt)]
      have HROW : Hid (a.getD r [] = a[r]) := getD_of_lt [] hlt
      generalize a[r][r]'(by rw [HRL.out r hlt]; exact hlt) = x at hcx hx HX
      obtain ⟨hx1, hx2⟩ := hx
      have hf0 := OwnI.lit (B := wo.heap.size) wo (chFirst a r 0) (Nat.le_refl _) (by simp [chFirst, maxLen])
      have HF0 : Hid (chFirst a r 0 = [1, smp (-x)]) := by unfold Hid; simp only [chFirst, List.range_zero, List.map_nil, HX.out]
      have hs0 := OwnI.lit (B := wo.heap.size + 1) (wo.alloc (.cells #[.int .i64 1, .int .i64 (smp (-x))] 2)) [] (by simp) (by simp [maxLen])
      rw [HF0.out] at hf0
      have hb0 : Below wo.heap.size wo ((wo.alloc (.cells #[.int .i64 1, .int .i64 (smp (-x))] 2)).alloc (.cells #[] 2)) := ((Below.refl _ _).alloc (Nat.le_refl _) _).alloc (by simp) _
      have hf1 := hf0.alloc (.cells #[] 2)
      clear hf0
      go_wp2_with (go_at_call 21; refine (implWrap_any _ _).mono ?_; rintro e w' ⟨rfl, rfl⟩)
      -- the column
      clear hs0
      have hs0 := OwnI.lit (B := wo.heap.size + 1) (wo.alloc (.cells #[.int .i64 1, .int .i64 (smp (-x))] 2)) [] (by simp) (by simp [maxLen])
      have hsz0 : (wo.alloc (.cells #[.int .i64 1, .int .i64 (smp (-x))] 2)).heap.size = wo.heap.size + 1 := by simp
      rw [hsz0] at hs0
      clear hsz0
      go_loopw [6, 7] (fun v i wr => ∃ m : Nat, m ≤ r ∧ i = .int .i64 m ∧ OwnI (wo.heap.size + 1) wr v (colL (a.take m) r) ∧ OwnI wo.heap.size wr (.slice (some ⟨wo.heap.size, 0, none⟩) 2 2) [1, smp (-x)] ∧ Below wo.heap.size wo wr) (fun _ i _ => r - (intOf i).toNat)
      case atStart => exact ⟨0, Nat.zero_le _, rfl, by simpa [colL] using hs0, hf1, hb0⟩
      case round =>
        obtain ⟨m, hm, rfl, hcol, hfi, hbi⟩ := hrel
        clear hs0 hf1 hb0
        obtain ⟨wi, rfl⟩ : ∃ wi : World, wi = wr := ⟨_, rfl⟩
        by_cases hltm : m < r
        · obtain ⟨q1, c1, e1, r1, -⟩ := HC.out m (by omega)
          obtain ⟨b3, o3, rfl, hb3, hc3⟩ := (r1.below hbi).pos (k := r) (by rw [HRL.out m (by omega)]; exact hlt)
          have hcy := hc3 r (by rw [HRL.out m (by omega)]; exact hlt)
          have e2 : wi.cell? ⟨b, o + m, none⟩ = _ := (hbi.cell (p := ⟨b, o + m, none⟩) hb1).trans e1
          have HS : Hid (colL (a.take (m + 1)) r = colL (a.take m) r ++ [a[m][r]'(by rw [HRL.out m (by omega)]; exact hlt)]) := by
            unfold Hid; rw [colL_snoc a r (by omega), getD_of_lt 0 (by rw [HRL.out m (by omega)]; exact hlt)]
          clear hc3 e1 r1
          have hlen : (colL (a.take m) r).length < 17592186044415 := by rw [colL_length, List.length_take]; omega
          generalize a[m][r]'(by rw [HRL.out m (by omega)]; exact hlt) = y at hcy HS
          have hsz := hbi.size
          have hlt1 : wo.heap.size < wi.heap.size := (hfi.lt (k := wo.heap.size) rfl).2
          go_wp2_with (at_builtin; refine wpList_append_one rfl _ _ rfl rfl hcol rfl hbi hlen (by omega) (by omega) ?_; intro v' w1 hown1 hbel1 hs1 hk1)
          have hfi' : OwnI wo.heap.size w1 (.slice (some ⟨wo.heap.size, 0, none⟩) 2 2) [1, smp (-x)] := hfi.keep fun k hk => hk1 k (hfi.lt hk).2 fun e => by
            have := (hcol.lt e).1
            simp only [Value.ownBlock, Option.some.injEq] at hk
            omega
          clear hk1
          go_roundw
          case rel => exact ⟨m + 1, by omega, by go_num, by rw [HS.out]; exact hown1, hfi', hbel1⟩
          case measure => simp [intOf] <;> omega
        · obtain rfl : r = m := by omega
          have hs2 : ∃ B2, wo.heap.size ≤ B2 ∧ OwnI B2 wi u6 (chIter a r 0) ∧ ∀ b, (Value.slice (some ⟨wo.heap.size, 0, none⟩) 2 2).ownBlock = some b → b < B2 :=
            ⟨wo.heap.size + 1, by omega, hcol, fun b hb => by simp only [Value.ownBlock, Option.some.injEq] at hb; omega⟩
          have HS2 := Lib.hid hs2
          clear hs2 hcol
          go_wp2_with fail
          -- the powers
          go_loopw [5, 6, 8] (fun f s i wr => ∃ m : Nat, m ≤ r ∧ i = .int .i64 m ∧ OwnI wo.heap.size wr f (chFirst a r m) ∧ (∃ B2, wo.heap.size ≤ B2 ∧ OwnI B2 wr s (chIter a r m) ∧ ∀ b, f.ownBlock = some b → b < B2) ∧ Below wo.heap.size wo wr) (fun _ _ i _ => r - (intOf i).toNat)
          case atStart => exact ⟨0, Nat.zero_le _, rfl, by rw [HF0.out]; exact hfi, HS2.out, hbi⟩
          case round =>
            obtain ⟨m, hm, rfl, hf, ⟨B2, hB2, hs, hfs⟩, hbk⟩ := hrel
            clear hfi hbi HS2
            obtain ⟨wi2, rfl⟩ : ∃ wi2 : World, wi2 = wr := ⟨_, rfl⟩
            by_cases hltm : m < r
            · obtain ⟨ps, cs, rfl, hsr⟩ := hs.rd
              rw [chIter_length a r m (by omega)] at hs ⊢
              have hcr2 : wi2.cell? ⟨b, o + r, none⟩ = _ := (hbk.cell (p := ⟨b, o + r, none⟩) hb1).trans hcr
              have hrr2 := (hrr.below hbk).take r
              have hdot : Hid (Calls Try.prog 19 #[.slice (some ⟨b2, o2, none⟩) r cr, .slice ps r cs] wi2 fun e w' => e = .returned (.int .i64 (dotN (a.getD r []) (chIter a r m) r)) ∧ wi2 = w') := by
                have e1 : (a[r].take r).length = r := by rw [List.length_take, HRL.out r hlt]; omega
                have := dot_any (c := cr) (d := cs) wi2 hrr2 hsr (by rw [e1, chIter_length a r m (by omega)]; exact Nat.le_refl _)
                rw [e1, chIter_length a r m (by omega), dotN_take _ _ (Nat.le_refl _), ← HROW.out] at this
                exact this
              have HFS := Lib.hid (chFirst_succ a r m)
              have hlen : (chFirst a r m).length < 17592186044415 := by rw [chFirst_length]; omega
              have hsz := hbk.size
              have HY : Hid (smp (-(dotN (a.getD r []) (chIter a r m) r)) = smp (wrap64 (-(dotN (a.getD r []) (chIter a r m) r)))) := (smp_wrap64 _).symm
              generalize dotN (a.getD r []) (chIter a r m) r = y at hdot HFS HY
              clear hrr2 hx1 hx2
              go_wp2_with (first | (go_at_call 19; refine hdot.out.mono ?_; rintro e w' ⟨rfl, rfl⟩) | (go_at_call 21; refine (implWrap_any _ _).mono ?_; rintro e w' ⟨rfl, rfl⟩) | (at_builtin; refine wpList_append_one rfl _ _ rfl rfl hf rfl hbk hlen hsz (Nat.le_refl _) ?_; intro v' w1 hown1 hbel1 hs1 hk1; refine Hid.out ?_))
              refine Lib.hid ?_
              rw [← HY.out, ← HFS.out] at hown1
              have hs1' : OwnI B2 w1 (.slice ps r cs) (chIter a r m) := hs.keep fun k hk => hk1 k (hs.lt hk).2 fun e => by have := (hs.lt hk).1; have := hfs k e; omega
              obtain ⟨qs, ds, eqs, hsr1⟩ := hs1'.rd
              rw [chIter_length a r m (by omega)] at eqs
              simp only [Value.slice.injEq, true_and] at eqs
              obtain ⟨rfl, rfl⟩ := eqs
              have hn0 := OwnI.lit (B := w1.heap.size) w1 [] (Nat.le_refl _) (by simp [maxLen])
              have HFL : Hid (∀ b, v'.ownBlock = some b → b < w1.heap.size) := fun b hb => (hown1.lt hb).2
              clear hk1 hdot HY HFS hf hs hfs
              have hbw : wo.heap.size ≤ w1.heap.size := hbel1.size
              go_wp2_with fail
              -- the next column
              go_loopw [9, 10] (fun v i wr => ∃ k : Nat, k ≤ r ∧ i = .int .i64 k ∧ OwnI w1.heap.size wr v ((a.take k).map fun row => dotN row (chIter a r m) r) ∧ Below w1.heap.size w1 wr) (fun _ i _ => r - (intOf i).toNat)
              case atStart => exact ⟨0, Nat.zero_le _, rfl, by simpa using hn0, (Below.refl _ _).alloc (Nat.le_refl _) _⟩
              case round =>
                obtain ⟨k, hk, rfl, hn, hbn⟩ := hrel
                clear hn0
                obtain ⟨wj, rfl⟩ : ∃ wj : World, wj = wr := ⟨_, rfl⟩
                by_cases hltk : k < r
                · obtain ⟨q1, c1, e1, r1, hcap1⟩ := HC.out k (by omega)
                  have hbj := hbel1.trans (hbn.mono hbel1.size)
                  have e2 : wj.cell? ⟨b, o + k, none⟩ = _ := (hbj.cell (p := ⟨b, o + k, none⟩) hb1).trans e1
                  have r2 := (r1.below hbj).take r
                  have hsr2 := hsr1.below hbn
                  have hdot : Hid (Calls Try.prog 19 #[.slice q1 r c1, .slice ps r cs] wj fun e w' => e = .returned (.int .i64 (dotN a[k] (chIter a r m) r)) ∧ wj = w') := by
                    have e1 : (a[k].take r).length = r := by rw [List.length_take, HRL.out k (by omega)]; omega
                    have := dot_any (c := c1) (d := cs) wj r2 hsr2 (by rw [e1, chIter_length a r m (by omega)]; exact Nat.le_refl _)
                    rw [e1, chIter_length a r m (by omega), dotN_take _ _ (Nat.le_refl _)] at this
                    exact this
                  have HKS := Lib.hid (chStepN_snoc a r (chIter a r m) (m := k) (by omega))
                  have hlen : ((a.take k).map fun row => dotN row (chIter a r m) r).length < 17592186044415 := by simp; omega
                  have hsz := hbn.size
                  generalize dotN a[k] (chIter a r m) r = y at hdot HKS
                  clear e1 r1 r2 hsr2
                  go_wp2_with (first | (go_at_call 19; refine hdot.out.mono ?_; rintro e w' ⟨rfl, rfl⟩) | (at_builtin; refine wpList_append_one rfl _ _ rfl rfl hn rfl hbn hlen hsz (Nat.le_refl _) ?_; intro v2 w2 hown2 hbel2 _ _))
                  go_roundw
                  case rel => exact ⟨k + 1, by omega, by go_num, by rw [HKS.out]; exact hown2, hbel2⟩
                  case measure => simp [intOf] <;> omega
                · obtain rfl : r = k := by omega
                  have hbj := hbel1.trans (hbn.mono hbel1.size)
                  have hf2 := hown1.below hbn
                  have HN : Hid (∃ B2, wo.heap.size ≤ B2 ∧ OwnI B2 wj u9 (chIter a r (m + 1)) ∧ ∀ b, v'.ownBlock = some b → b < B2) := ⟨_, hbw, hn, HFL.out⟩
                  clear hn
                  go_wp2_with fail
                  go_roundw
                  case rel => exact ⟨m + 1, by omega, by go_num, hf2, HN.out, hbj⟩
                  case measure => simp [intOf] <;> omega
            · obtain rfl : r = m := by omega
              have ho2 := hout.below hbk
              rcases ho2.cases with ⟨-, e0⟩ | ⟨g1, c1, e1, -, hg1, -, hr1⟩
              · have := chp_length a r; rw [e0] at this; simp at this
              rcases hf.cases with ⟨-, e0⟩ | ⟨g2, c2, e2, -, hg2, -, hr2⟩
              · have := chFirst_length a r r; rw [e0] at this; simp at this
              rw [chp_length] at e1
              rw [chFirst_length] at e2
              subst e1 e2
              have HO2 := Lib.hid (chp_length a r)
              have HF2 := Lib.hid (chFirst_length a r r)
              have hchp : Hid (chp a (r + 1) = chNext (chFirst a r r) (chp a r)) := rfl
              generalize chp a r = O at hr1 HO2 hchp
              generalize chFirst a r r = F at hr2 HF2 hchp
              clear hs hf ho2 hcr hrr hcap hcx hx1 hx2 HC hO hout
              have hlr : r ≤ 24 := by omega
              have hzer : Hid (Calls Try.prog 30 #[.int .i64 ((r : Int) + 1 + 1)] wi2 fun e w' => ∃ v, e = .returned v ∧ OwnI wi2.heap.size w' v (List.replicate (r + 1 + 1) 0) ∧ Below wi2.heap.size wi2 w') := zeros_any (r + 1 + 1) wi2 (by omega)
              have hsiz : Hid (Calls Try.prog 31 #[.slice (some ⟨g1, 0, none⟩) (r + 1) c1] wi2 fun e w' => e = .returned (.int .i64 ((r : Int) + 1)) ∧ wi2 = w') := sizeI_any _ (r + 1) _ _ (by unfold maxLen; omega)
              go_wp2_with (first | (go_at_call 31; refine hsiz.out.mono ?_; rintro e w' ⟨rfl, rfl⟩) | (go_at_call 30; refine hzer.out.mono ?_; rintro e wz ⟨v, rfl, hz, hbz⟩; refine Hid.out ?_))
              refine Lib.hid ?_
              clear hzer hsiz
              rcases hz.cases with ⟨-, e0⟩ | ⟨g, cz, e1, hg0, hg3, -, -⟩
              · simp at e0
              rw [List.length_replicate] at e1
              subst e1
              have hrO := hr1.below hbz
              have hrF := hr2.below hbz
              have HBZ := Lib.hid (hbel.trans ((hbk.trans (hbz.mono hbk.size)).mono hbel.size))
              have hz0 : OwnI wi2.heap.size wz (.slice (some ⟨g, 0, none⟩) (r + 1 + 1) cz) (chPart F O 0 0) := by rw [chPart_zero, HO2.out]; exact hz
              have hwz := Lib.hid hbel.size
              have hwz2 := Lib.hid hbk.size
              clear hz hr1 hr2 hbk hbz hbel
              go_wp2_with fail
              go_loopw [89] (fun i wr => ∃ m : Nat, m ≤ r + 1 + 1 ∧ i = .int .i64 m ∧ OwnI wi2.heap.size wr (.slice (some ⟨g, 0, none⟩) (r + 1 + 1) cz) (chPart F O m 0) ∧ Off (· = g) wz wr) (fun i _ => r + 2 - (intOf i).toNat)
              case atStart => exact ⟨0, Nat.zero_le _, rfl, hz0, Off.refl _ _⟩
              case round =>
                obtain ⟨m, hm, rfl, hz, hoff⟩ := hrel
                clear hz0
                obtain ⟨wa, rfl⟩ : ∃ wa : World, wa = wr := ⟨_, rfl⟩
                by_cases hltm : m < r + 1 + 1
                · have hdm : decide ((m : Int) < (r : Int) + 1 + 1) = true := decide_eq_true (by omega)
                  go_wp2_with fail
                  clear hdm
                  go_loopw [94] (fun j wr => ∃ k : Nat, k ≤ r + 1 ∧ j = .int .i64 k ∧ OwnI wi2.heap.size wr (.slice (some ⟨g, 0, none⟩) (r + 1 + 1) cz) (chPart F O m k) ∧ Off (· = g) wz wr) (fun j _ => r + 1 - (intOf j).toNat)
                  case atStart => exact ⟨0, Nat.zero_le _, rfl, hz, hoff⟩
                  case round =>
                    obtain ⟨k, hk, rfl, hz, hoff⟩ := hrel
                    obtain ⟨wb, rfl⟩ : ∃ wb : World, wb = wr := ⟨_, rfl⟩
                    by_cases hltk : k < r + 1
                    · have hrO2 : RdI wb (some ⟨g1, 0, none⟩) O := hrO.keep fun b o hb hlt => hoff.block b hlt (by simp only [Option.some.injEq, Addr.mk.injEq, and_true] at hb; omega)
                      obtain ⟨b4, o4, e4, -, hc4⟩ := hrO2.pos (k := k) (by rw [HO2.out]; exact hltk)
                      simp only [Option.some.injEq, Addr.mk.injEq, and_true] at e4
                      obtain ⟨rfl, rfl⟩ := e4
                      have hcx := hc4 k (by rw [HO2.out]; exact hltk)
                      rw [Nat.zero_add] at hcx
                      clear hc4
                      by_cases hmk : k ≤ m
                      · have hrF2 : RdI wb (some ⟨g2, 0, none⟩) F := hrF.keep fun b o hb hlt => hoff.block b hlt (by simp only [Option.some.injEq, Addr.mk.injEq, and_true] at hb; omega)
                        obtain ⟨b5, o5, e5, -, hc5⟩ := hrF2.pos (k := m - k) (by rw [HF2.out]; omega)
                        simp only [Option.some.injEq, Addr.mk.injEq, and_true] at e5
                        obtain ⟨rfl, rfl⟩ := e5
                        have hcy := hc5 (m - k) (by rw [HF2.out]; omega)
                        rw [Nat.zero_add] at hcy
                        clear hc5
                        have hlp : m < (chPart F O m k).length := by rw [chPart_length, HO2.out]; exact hltm
                        obtain ⟨-, -, -, hcz, hfz, hst⟩ := hz.storing (k := m) hlp
                        rw [chPart_get] at hcz
                        have HACC : Hid (chAcc F O m (k + 1) = smp (chAcc F O m k + F[m - k]'(by rw [HF2.out]; omega) * O[k]'(by rw [HO2.out]; exact hltk))) := by
                          unfold Hid; rw [chAcc, if_pos hmk, getD_of_lt 0 (by rw [HF2.out]; omega), getD_of_lt 0 (by rw [HO2.out]; exact hltk)]
                        have HST := Lib.hid hst
                        have HCS := Lib.hid (chPart_set F O m k)
                        obtain ⟨d, hd⟩ : ∃ d, d = m - k := ⟨_, rfl⟩
                        have hsub : ((m : Int) - (k : Int)) = (d : Int) := by omega
                        have hwd : IntKind.i64.wrap (d : Int) = (d : Int) := IntWalk.i64_in _ (by omega)
                        generalize F[m - k]'(by rw [HF2.out]; omega) = y at hcy HACC
                        generalize O[k]'(by rw [HO2.out]; exact hltk) = x2 at hcx HACC
                        rw [← hd] at hcy
                        have hd3 : d < r + 2 := by omega
                        generalize chAcc F O m k = s at hcz HACC
                        clear hst hd hrO2 hrF2 hlp
                        have hq1 : (0 : Int) ≤ (m : Int) := by omega
                        have hq2 : (m : Int) < (r : Int) + 1 + 1 := by omega
                        have hq3 : (0 : Int) ≤ (d : Int) := by omega
                        have hq4 : (d : Int) < (r : Int) + 2 := by omega
                        go_wp2_with fail
                        refine wp_region_still_tail 17 (by kernel_rfl) (by kernel_rfl) ?_
                        simp only [List.take_succ_cons, List.take_zero, List.drop_succ_cons, List.drop_zero]
                        change wpStill _ _ (World.drew _) _ _ _
                        repeat (first | still_step | (refine wpStill_step (fun K hK => ?_); go_simp; refine ⟨_, (by exact Calls.flip (implWrap_any _ _)), hK _ ?_⟩; clear hK K))
                        refine wpStill_nil ?_
                        change wpList _ _ _ _ _ (World.drew _)
                        go_wp2_with fail
                        go_roundw
                        case rel =>
                          refine ⟨k + 1, by omega, by go_num, ?_, hoff.trans ⟨rfl, rfl, rfl, by simp [World.setCell, World.drew], fun b hb hs => Below.heap_setCell _ _ _ _ hs⟩⟩
                          simp only [smp_wrap64, smp_add_w64]
                          rw [← HACC.out]
                          have h1 := HST.out (chAcc F O m (k + 1))
                          rw [HCS.out] at h1
                          exact h1
                        case measure => simp [intOf] <;> omega
                      · have HSM := Lib.hid (chPart_same F O m k (by rw [chAcc, if_neg hmk]))
                        go_wp2_with fail
                        go_roundw
                        case rel => exact ⟨k + 1, by omega, by go_num, by rw [← HSM.out]; exact hz, hoff⟩
                        case measure => simp [intOf] <;> omega
                    · obtain rfl : k = r + 1 := by omega
                      have HNX : Hid (chPart F O m (r + 1) = chPart F O (m + 1) 0) := by have := chPart_next F O m; rw [HO2.out] at this; exact this
                      rw [HNX.out] at hz
                      clear HNX
                      go_wp2_with fail
                      go_roundw
                      case rel => exact ⟨m + 1, by omega, by go_num, hz, hoff⟩
                      case measure => simp [intOf] <;> omega
                · obtain rfl : m = r + 1 + 1 := by omega
                  have hfin : OwnI w.heap.size wa (.slice (some ⟨g, 0, none⟩) (r + 1 + 1) cz) (chp a (r + 1)) := by
                    rw [hchp.out, ← chPart_done, HO2.out]
                    exact hz.mono (Nat.le_trans hwz.out hwz2.out)
                  have hbf : Below w.heap.size w wa := HBZ.out.trans (hoff.below (fun k hk => by have := hwz.out; have := hwz2.out; omega) HBZ.out.size)
                  clear hz hoff
                  go_wp2_with fail
                  go_roundw
                  case rel => exact ⟨r + 1, by omega, by go_num, hfin, hbf⟩
                  case measure => simp [intOf] <;> omega
    · obtain rfl : r = a.length := by omega
      go_wp2_with fail
      go_ret
      exact ⟨_, rfl, hout, hbel⟩
end Go.Proofs.Ytmfahnkcfcmhiaa
