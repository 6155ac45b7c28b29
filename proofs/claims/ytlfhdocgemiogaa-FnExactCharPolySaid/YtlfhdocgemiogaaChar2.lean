/-
  The characteristic polynomial: the reference's function; the contracts of CharPoly and Determinant on both sides.
-/
import Derived.Test.YtlfhdocgemiogaaChar
namespace Go.Proofs.Ytlfhdocgemiogaa
open Go.ChangeShapes Go.WideShapes Go.ChangeAt Go.RowKit
set_option linter.unusedVariables false

theorem RdII.of_ownV {B : Nat} {w : World} {v : Value} {L : List Value} {xss : List (List Int)} (h : OwnV B w 40 v L) (hl : L.length = xss.length)
    (hx : ∀ i, (hi : i < xss.length) → ∃ q c, L[i]? = some (.slice q xss[i].length c) ∧ RdI w q xss[i] ∧ xss[i].length ≤ c) : ∃ p c, v = .slice p xss.length c ∧ RdII w p xss := by
  rcases h.cases with ⟨rfl, rfl⟩ | ⟨g, cap, rfl, _, _, _, hr⟩
  · have : xss = [] := List.eq_nil_of_length_eq_zero hl.symm
    subst this
    exact ⟨none, 0, rfl, RdII.nil _ _⟩
  · refine ⟨_, cap, by rw [hl], ⟨by rw [← hl]; exact hr.len, ?_, fun b o i q l c hp hi hcl => ?_⟩⟩
    rotate_left
    · obtain ⟨b', o', e', _, hc'⟩ := hr.pos (k := i) (by rw [hl]; exact hi)
      rw [hp] at e'
      simp only [Option.some.injEq, Addr.mk.injEq, and_true] at e'
      obtain ⟨rfl, rfl⟩ := e'
      obtain ⟨q', c', h1, _, h3⟩ := hx i hi
      rw [List.getElem?_eq_getElem (by rw [hl]; exact hi), Option.some.injEq] at h1
      rw [hc' i (by rw [hl]; exact hi), h1, Option.some.injEq, Value.slice.injEq] at hcl
      omega
    rcases hr.cells with rfl | ⟨b, o, e, hc⟩
    · left
      exact List.eq_nil_of_length_eq_zero hl.symm
    · right
      refine ⟨b, o, e, fun i hi => ?_⟩
      obtain ⟨q, c, h1, h2, _⟩ := hx i hi
      rw [List.getElem?_eq_getElem (by rw [hl]; exact hi), Option.some.injEq] at h1
      exact ⟨q, c, by rw [hc i (by rw [hl]; exact hi), h1], h2⟩
theorem rdII_one {w : World} {q : Option Addr} {c : Nat} {xs : List Int} (h : RdI w q xs) (hc : xs.length ≤ c) : RdII (w.alloc (.cells #[.slice q xs.length c] 40)) (some ⟨w.heap.size, 0, none⟩) [xs] := by
  refine ⟨by simp [maxLen], .inr ⟨w.heap.size, 0, rfl, fun i hi => ?_⟩, fun b o i q' l c' hp hi hcl => ?_⟩
  · simp at hi
    subst hi
    refine ⟨q, c, by rw [World.cell?_alloc_at _ _ _ _ rfl]; rfl, h.below ((Below.refl _ _).alloc (Nat.le_refl _) _)⟩
  · simp at hi
    subst hi
    simp only [Option.some.injEq, Addr.mk.injEq, and_true] at hp
    obtain ⟨rfl, rfl⟩ := hp
    rw [World.cell?_alloc_at _ _ _ _ rfl] at hcl
    simp at hcl
    omega
/-- the leading rows' beginnings -/
def chPartR (a : List (List Int)) (r m : Nat) : List (List Int) := (a.take m).map fun row => row.take r
theorem timesL_part (a : List (List Int)) (r : Nat) (s : List Int) (hs : s.length = r) : timesL (chPartR a r r) s = chStep a r s := by
  unfold timesL chPartR chStep
  rw [List.map_map]
  refine List.map_congr_left fun x _ => ?_
  simp only [Function.comp, hs]
  exact dotN_take _ _ (Nat.le_refl _)
theorem timesL_one (row : List Int) (r : Nat) (s : List Int) (hs : s.length = r) : timesL [row.take r] s = [dotN row s r] := by
  simp only [timesL, List.map_cons, List.map_nil, hs]
  rw [dotN_take _ _ (Nat.le_refl _)]
/-- the values of L are the leading rows' beginnings, as they lie in w -/
def PartL (w : World) (L : List Value) (a : List (List Int)) (r m : Nat) : Prop := L.length = m ∧ ∀ i, (hi : i < a.length) → i < m → ∃ q c, L[i]? = some (.slice q r c) ∧ RdI w q (a[i].take r) ∧ r ≤ c
theorem PartL.snoc {w : World} {L : List Value} {a : List (List Int)} {r m : Nat} (h : PartL w L a r m) (hm : m < a.length) {q : Option Addr} {c : Nat} (hr : RdI w q (a[m].take r)) (hc : r ≤ c) : PartL w (L ++ [.slice q r c]) a r (m + 1) := by
  refine ⟨by simp [h.1], fun i hi him => ?_⟩
  by_cases e : i < m
  · obtain ⟨q', c', h1, h2⟩ := h.2 i hi e
    exact ⟨q', c', by rw [List.getElem?_append_left (by rw [h.1]; exact e), h1], h2⟩
  · obtain rfl : i = m := by omega
    exact ⟨q, c, by rw [List.getElem?_append_right (by rw [h.1]; exact Nat.le_refl _), h.1]; simp, hr, hc⟩
theorem PartL.rd {B : Nat} {w w' : World} {v : Value} {L : List Value} {a : List (List Int)} {r : Nat} (h : PartL w L a r r) (hv : OwnV B w' 40 v L) (hb : Below w.heap.size w w') (hr : r ≤ a.length) (hl : ∀ (i : Nat) (hi : i < a.length), a[i].length = a.length) :
    ∃ p c, v = .slice p r c ∧ RdII w' p (chPartR a r r) := by
  have e : (chPartR a r r).length = r := by simp [chPartR]; omega
  have := RdII.of_ownV (xss := chPartR a r r) hv (by rw [h.1, e]) fun i hi => by
    obtain ⟨q, c, h1, h2, h3⟩ := h.2 i (by omega) (by omega)
    have e2 : (chPartR a r r)[i] = a[i].take r := by simp [chPartR]
    have e3 : (a[i].take r).length = r := by rw [List.length_take, hl i (by omega)]; omega
    rw [e2]
    exact ⟨q, c, by rw [e3]; exact h1, h2.below hb, by omega⟩
  rwa [e] at this
theorem OwnV.ne_int {B B' : Nat} {w : World} {v u : Value} {L : List Value} {xs : List Int} (h : OwnV B w 40 v L) (hu : OwnI B' w u xs) {k : Nat} (hk : v.ownBlock = some k) : u.ownBlock ≠ some k := fun e =>
  h.off (by decide) (OwnIs.snoc (OwnIs.nil B' w) hu) hk ⟨u, by simp, e⟩
set_option maxHeartbeats 16000000 in
set_option maxRecDepth 100000 in
theorem l09Char_any {p : Option Addr} {c : Nat} {a : List (List Int)} (w : World) (h : RdII w p a) (hM : matB a = true) :
    Calls Try.prog 55 #[.slice p a.length c] w fun e w' => ∃ v, e = .returned v ∧ OwnI w.heap.size w' v (chp a a.length) ∧ Below w.heap.size w w' := by
  have HM := Lib.hid hM
  have hl1 := ((matB_iff).1 hM).1
  clear hM
  have h0 := OwnI.lit (B := w.heap.size) w [1] (Nat.le_refl _) (by simp [maxLen])
  go_enter Try.func55, Try.ntmps55
  go_wp2_with fail
  go_loopw [3, 4] (fun v i wr => ∃ r : Nat, r ≤ a.length ∧ i = .int .i64 r ∧ OwnI w.heap.size wr v (chp a r) ∧ Below w.heap.size w wr) (fun _ i _ => a.length - (intOf i).toNat)
  case atStart => exact ⟨0, Nat.zero_le _, rfl, by simpa [chp] using h0, (Below.refl _ _).alloc (Nat.le_refl _) _⟩
  case round =>
    obtain ⟨r, hr, rfl, hout, hbel⟩ := hrel
    clear h0
    obtain ⟨wo, rfl⟩ : ∃ wo : World, wo = wr := ⟨_, rfl⟩
    by_cases hlt : r < a.length
    · have hO := h.below hbel
      obtain ⟨b, o, rfl, hb1, hc⟩ := hO.pos hlt
      have hrl : ∀ (i : Nat) (hi : i < a.length), a[i].length = a.length := fun i hi => (((matB_iff).1 HM.out).2 _ (List.getElem_mem hi)).1
      have HRL := Lib.hid hrl
      have HC : Hid (∀ i, (hi : i < a.length) → ∃ q c, wo.cell? ⟨b, o + i, none⟩ = some (.slice q a.length c) ∧ RdI wo q a[i] ∧ a.length ≤ c) := fun i hi => by
        obtain ⟨q, c, h1, h2⟩ := hc i hi
        have h3 := hO.caps b o i q _ c rfl hi h1
        rw [hrl i hi] at h1 h3
        exact ⟨q, c, h1, h2, h3⟩
      clear hc hrl
      obtain ⟨qr, cr, hcr, hrr, hcap⟩ := HC.out r hlt
      obtain ⟨b2, o2, rfl, hb2, hc2⟩ := hrr.pos (k := r) (by rw [HRL.out r hlt]; exact hlt)
      have hcx := hc2 r (by rw [HRL.out r hlt]; exact hlt)
      clear hc2
      have HX : Hid ((a.getD r []).getD r 0 = a[r][r]'(by rw [HRL.out r hlt]; exact hlt)) := by
        unfold Hid; rw [getD_of_lt [] hlt, getD_of_lt 0 (by rw [HRL.out r hlt]; exact hlt)]
      have HROW : Hid (a.getD r [] = a[r]) := getD_of_lt [] hlt
      generalize a[r][r]'(by rw [HRL.out r hlt]; exact hlt) = x at hcx HX
      have hf0 := OwnI.lit (B := wo.heap.size) wo (chFirst a r 0) (Nat.le_refl _) (by simp [chFirst, maxLen])
      have HF0 : Hid (chFirst a r 0 = [1, smp (0 - x)]) := by unfold Hid; simp only [chFirst, List.range_zero, List.map_nil, HX.out, Int.zero_sub]
      rw [HF0.out] at hf0
      generalize hsx : smp (0 - x) = sx at hf0 HF0
      have HSX := Lib.hid hsx
      clear hsx
      have hf2 := (hf0.alloc (.cells #[] 40)).alloc (.cells #[] 2)
      have hp1 : OwnV (wo.heap.size + 1) (((wo.alloc (.cells #[.int .i64 1, .int .i64 sx] 2)).alloc (.cells #[] 40)).alloc (.cells #[] 2)) 40 (.slice (some ⟨wo.heap.size + 1, 0, none⟩) 0 0) [] := by
        have := (OwnII.empty (B := wo.heap.size + 1) (wo.alloc (.cells #[.int .i64 1, .int .i64 sx] 2)) (by simp)).1
        rw [show (wo.alloc (.cells #[.int .i64 1, .int .i64 sx] 2)).heap.size = wo.heap.size + 1 by simp] at this
        exact this.keep fun k hk => Below.heap_alloc _ _ _ (this.lt hk).2
      have hs1 : OwnI (wo.heap.size + 2) (((wo.alloc (.cells #[.int .i64 1, .int .i64 sx] 2)).alloc (.cells #[] 40)).alloc (.cells #[] 2)) (.slice (some ⟨wo.heap.size + 1 + 1, 0, none⟩) 0 0) [] := by
        have := OwnI.lit (B := wo.heap.size + 2) ((wo.alloc (.cells #[.int .i64 1, .int .i64 sx] 2)).alloc (.cells #[] 40)) [] (by simp) (by simp [maxLen])
        simpa using this
      have hB2 : Below wo.heap.size wo (((wo.alloc (.cells #[.int .i64 1, .int .i64 sx] 2)).alloc (.cells #[] 40)).alloc (.cells #[] 2)) := (((Below.refl _ _).alloc (Nat.le_refl _) _).alloc (by simp) _).alloc (by simp; omega) _
      clear hf0
      go_wp2_with (go_at_call 56; refine (l01Sub_any _ _ _).mono ?_; rintro e w' ⟨rfl, rfl⟩; rw [HSX.out])
      -- the rows' beginnings and the column
      go_loopw [6, 7, 8] (fun v s i wr => ∃ m : Nat, m ≤ r ∧ i = .int .i64 m ∧ (∃ L, OwnV (wo.heap.size + 1) wr 40 v L ∧ PartL wo L a r m) ∧ OwnI (wo.heap.size + 2) wr s (colL (a.take m) r) ∧ OwnI wo.heap.size wr (.slice (some ⟨wo.heap.size, 0, none⟩) 2 2) [1, sx] ∧ wo.heap.size + 3 ≤ wr.heap.size ∧ Below wo.heap.size wo wr) (fun _ _ i _ => r - (intOf i).toNat)
      case atStart => exact ⟨0, Nat.zero_le _, rfl, ⟨[], hp1, rfl, fun i _ h => by omega⟩, by simpa [colL] using hs1, hf2, by simp, hB2⟩
      case round =>
        obtain ⟨m, hm, rfl, ⟨L, hpv, hpl⟩, hcol, hfi, hsz3, hbi⟩ := hrel
        clear hp1 hs1 hf2 hB2
        obtain ⟨wi, rfl⟩ : ∃ wi : World, wi = wr := ⟨_, rfl⟩
        by_cases hltm : m < r
        · obtain ⟨q1, c1, e1, r1, hcap1⟩ := HC.out m (by omega)
          obtain ⟨b3, o3, rfl, hb3, hc3⟩ := r1.pos (k := r) (by rw [HRL.out m (by omega)]; exact hlt)
          have hcy := hc3 r (by rw [HRL.out m (by omega)]; exact hlt)
          have e2 : wi.cell? ⟨b, o + m, none⟩ = _ := (hbi.cell (p := ⟨b, o + m, none⟩) hb1).trans e1
          have HS : Hid (colL (a.take (m + 1)) r = colL (a.take m) r ++ [a[m][r]'(by rw [HRL.out m (by omega)]; exact hlt)]) := by
            unfold Hid; rw [colL_snoc a r (by omega), getD_of_lt 0 (by rw [HRL.out m (by omega)]; exact hlt)]
          have hpl' := Lib.hid (hpl.snoc (by omega) (r1.take r) (Nat.le_trans (Nat.le_of_lt hlt) hcap1))
          have hr1c : r ≤ c1 := by omega
          clear hc3 e1 r1
          have hlen : (colL (a.take m) r).length < 17592186044415 := by rw [colL_length, List.length_take]; omega
          have hlen2 : L.length < 1099511627776 := by have := hpl.1; omega
          generalize a[m][r]'(by rw [HRL.out m (by omega)]; exact hlt) = y at hcy HS
          have hsz := hbi.size
          have hlt1 : wo.heap.size < wi.heap.size := (hfi.lt (k := wo.heap.size) rfl).2
          have hone : (Value.slice (some ⟨b3, o3, none⟩) r c1).oneCell' = true := rfl
          have HPL := Lib.hid hpl
          clear hpl
          go_wp2_with (at_builtin; refine wpList_append_val rfl _ _ rfl 24 (.slice none 0 0) Try.underlying22 infoII rfl (by omega) rfl hpv rfl hone hbi hlen2 (by omega) (by omega) ?_; intro v1 w1 hpv1 hbi1 hs1 hk1; refine Hid.out ?_)
          refine Lib.hid ?_
          have hcol1 : OwnI (wo.heap.size + 2) w1 u7 (colL (a.take m) r) := hcol.keep fun k hk => hk1 k (hcol.lt hk).2 fun e => hpv.ne_int hcol e hk
          have hfi1 : OwnI wo.heap.size w1 (.slice (some ⟨wo.heap.size, 0, none⟩) 2 2) [1, sx] := hfi.keep fun k hk => hk1 k (hfi.lt hk).2 fun e => hpv.ne_int hfi e hk
          have e3 : w1.cell? ⟨b, o + m, none⟩ = _ := (hbi1.cell (p := ⟨b, o + m, none⟩) hb1).trans ((hbi.cell (p := ⟨b, o + m, none⟩) hb1).symm.trans e2)
          have hcy1 : w1.cell? ⟨b3, o3 + r, none⟩ = some (.int .i64 y) := (hbi1.cell (p := ⟨b3, o3 + r, none⟩) hb3).trans hcy
          clear hk1 hcol hfi hbi e2 hcy hpv
          go_wp2_with (at_builtin; refine wpList_append_one rfl _ _ rfl rfl hcol1 rfl hbi1 hlen (by omega) (by omega) ?_; intro v2 w2 hown2 hbel2 hs2 hk2; refine Hid.out ?_)
          refine Lib.hid ?_
          have hpv2 : OwnV (wo.heap.size + 1) w2 40 v1 (L ++ [.slice (some ⟨b3, o3, none⟩) r c1]) := hpv1.keep fun k hk => hk2 k (hpv1.lt hk).2 fun e => hpv1.ne_int hcol1 hk e
          have hfi2 : OwnI wo.heap.size w2 (.slice (some ⟨wo.heap.size, 0, none⟩) 2 2) [1, sx] := hfi1.keep fun k hk => hk2 k (hfi1.lt hk).2 fun e => by
            have := (hcol1.lt e).1
            simp only [Value.ownBlock, Option.some.injEq] at hk
            omega
          have hsz4 : wo.heap.size + 3 ≤ w2.heap.size := by omega
          rw [← HS.out] at hown2
          clear hk2 hcol1 hfi1 hpv1 HS
          go_wp2_with fail
          go_roundw
          case rel => exact ⟨m + 1, by omega, by go_num, ⟨_, hpv2, hpl'.out⟩, hown2, hfi2, hsz4, hbel2⟩
          case measure => simp [intOf] <;> omega
        · obtain rfl : r = m := by omega
          have hs2 : ∃ B2, wo.heap.size ≤ B2 ∧ OwnI B2 wi u7 (chIter a r 0) ∧ ∀ b, (Value.slice (some ⟨wo.heap.size, 0, none⟩) 2 2).ownBlock = some b → b < B2 :=
            ⟨wo.heap.size + 2, by omega, hcol, fun b hb => by simp only [Value.ownBlock, Option.some.injEq] at hb; omega⟩
          have HS2 := Lib.hid hs2
          obtain ⟨pp, cp, rfl, -⟩ := hpl.rd hpv hbi hr HRL.out
          clear hs2 hcol
          go_wp2_with fail
          -- the powers
          go_loopw [5, 7, 9] (fun f s i wr => ∃ m : Nat, m ≤ r ∧ i = .int .i64 m ∧ OwnI wo.heap.size wr f (chFirst a r m) ∧ (∃ B2, wo.heap.size ≤ B2 ∧ OwnI B2 wr s (chIter a r m) ∧ ∀ b, f.ownBlock = some b → b < B2) ∧ OwnV (wo.heap.size + 1) wr 40 (.slice pp r cp) L ∧ Below wo.heap.size wo wr) (fun _ _ i _ => r - (intOf i).toNat)
          case atStart => exact ⟨0, Nat.zero_le _, rfl, by rw [HF0.out]; exact hfi, HS2.out, hpv, hbi⟩
          case round =>
            obtain ⟨m, hm, rfl, hf, ⟨B2, hB2, hs, hfs⟩, hpv, hbk⟩ := hrel
            clear hfi hbi HS2
            obtain ⟨wi2, rfl⟩ : ∃ wi2 : World, wi2 = wr := ⟨_, rfl⟩
            by_cases hltm : m < r
            · obtain ⟨ps, cs, rfl, hsr⟩ := hs.rd
              rw [chIter_length a r m (by omega)] at hs ⊢
              have hcr2 : wi2.cell? ⟨b, o + r, none⟩ = _ := (hbk.cell (p := ⟨b, o + r, none⟩) hb1).trans hcr
              have hrr2 := (hrr.below hbk).take r
              have e1 : (a[r].take r).length = r := by rw [List.length_take, HRL.out r hlt]; omega
              have e5 := chIter_length a r m (by omega)
              have h1r := rdII_one (c := cr) hrr2 (by omega)
              rw [e1] at h1r
              have hb5 : Below wi2.heap.size wi2 (wi2.alloc (.cells #[.slice (some ⟨b2, o2, none⟩) r cr] 40)) := (Below.refl _ _).alloc (Nat.le_refl _) _
              have HT1 : Hid (Calls Try.prog 74 #[.slice (some ⟨wi2.heap.size, 0, none⟩) 1 1, .slice ps r cs] (wi2.alloc (.cells #[.slice (some ⟨b2, o2, none⟩) r cr] 40)) fun e w' => ∃ v, e = .returned v ∧ OwnI (wi2.heap.size + 1) w' v [dotN (a.getD r []) (chIter a r m) r] ∧ Below wi2.heap.size wi2 w') := by
                have := l09Times_any (c := 1) (d := cs) _ h1r (hsr.below hb5) (by intro x hx; simp only [List.mem_singleton] at hx; subst hx; omega) (by simp)
                rw [e5] at this
                refine this.mono fun e w' ⟨v, h1, h2, h3⟩ => ⟨v, h1, ?_, hb5.trans (h3.mono (by simp))⟩
                rw [timesL_one _ _ _ e5, ← HROW.out] at h2
                simpa using h2
              have HFS := Lib.hid (chFirst_succ a r m)
              have hlen : (chFirst a r m).length < 17592186044415 := by rw [chFirst_length]; omega
              have hsz := hbk.size
              generalize dotN (a.getD r []) (chIter a r m) r = y at HT1 HFS
              have HFF := Lib.hid hf
              have HSS := Lib.hid hs
              have HPV := Lib.hid hpv
              clear hrr2 h1r hsr hb5 e1 hf hs hpv
              go_wp2_with (go_at_call 74; refine HT1.out.mono ?_; rintro e wt ⟨vt, rfl, hot, hbt⟩; refine Hid.out ?_)
              refine Lib.hid ?_
              rcases hot.cases with ⟨-, e0⟩ | ⟨gt, ct, et, -, -, -, hrt⟩
              · simp at e0
              subst et
              obtain ⟨b6, o6, e6, -, hc6⟩ := hrt.pos (k := 0) (by simp)
              simp only [Option.some.injEq, Addr.mk.injEq, and_true] at e6
              obtain ⟨rfl, rfl⟩ := e6
              have hct := hc6 0 (by simp)
              simp only [Nat.zero_add, List.getElem_cons_zero, List.length_singleton] at hct ⊢
              have hft := HFF.out.below hbt
              have hst := HSS.out.below hbt
              have hpt := HPV.out.below hbt
              have hbtk := hbk.trans (hbt.mono hbk.size)
              have hszt := hbtk.size
              clear hc6 hot hrt HT1 hbt hbk
              go_wp2_with (first | (go_at_call 56; refine (l01Sub_any _ _ _).mono ?_; rintro e w' ⟨rfl, rfl⟩) | (at_builtin; refine wpList_append_one rfl _ _ rfl rfl hft rfl hbtk hlen hszt (Nat.le_refl _) ?_; intro v' w1 hown1 hbel1 hs1 hk1; refine Hid.out ?_))
              refine Lib.hid ?_
              rw [← HFS.out] at hown1
              have hs1' : OwnI B2 w1 (.slice ps r cs) (chIter a r m) := hst.keep fun k hk => hk1 k (hst.lt hk).2 fun e => by have := (hst.lt hk).1; have := hfs k e; omega
              have hp1' : OwnV (wo.heap.size + 1) w1 40 (.slice pp r cp) L := hpt.keep fun k hk => hk1 k (hpt.lt hk).2 fun e => hpt.ne_int hft hk e
              obtain ⟨pq, cq, ep, hpr⟩ := hpl.rd hp1' hbel1 hr HRL.out
              simp only [Value.slice.injEq, true_and] at ep
              obtain ⟨rfl, rfl⟩ := ep
              obtain ⟨qs, ds, eqs, hsr1⟩ := hs1'.rd
              rw [e5] at eqs
              simp only [Value.slice.injEq, true_and] at eqs
              obtain ⟨rfl, rfl⟩ := eqs
              have HFL : Hid (∀ b, v'.ownBlock = some b → b < w1.heap.size) := fun b hb => (hown1.lt hb).2
              have HT2 : Hid (Calls Try.prog 74 #[.slice pp r cp, .slice ps r cs] w1 fun e w' => ∃ v, e = .returned v ∧ OwnI w1.heap.size w' v (chIter a r (m + 1)) ∧ Below w1.heap.size w1 w') := by
                have e6 : (chPartR a r r).length = r := by simp [chPartR]; omega
                have := l09Times_any (c := cp) (d := cs) w1 hpr hsr1 (by
                  intro x hx
                  simp only [chPartR, List.mem_map] at hx
                  obtain ⟨y, hy, rfl⟩ := hx
                  obtain ⟨j, hj, rfl⟩ := List.mem_iff_getElem.1 hy
                  rw [e5, List.getElem_take, List.length_take, HRL.out j (by simp at hj; omega)]; omega) (by rw [e6]; omega)
                rw [e6, e5, timesL_part a r _ e5] at this
                exact this
              have HPV2 := Lib.hid hp1'
              have HBL := Lib.hid hbel1
              clear hk1 hft hst hpt hsr1 hpr hs1' hp1' HFS hct HFF HSS HPV hbtk hbel1
              go_wp2_with (go_at_call 74; refine HT2.out.mono ?_; rintro e w3 ⟨v3, rfl, ho3, hb3⟩; refine Hid.out ?_)
              refine Lib.hid ?_
              have hf3 := hown1.below hb3
              have hp3 := HPV2.out.below hb3
              have hb3' := HBL.out.trans (hb3.mono HBL.out.size)
              have HN : Hid (∃ B2, wo.heap.size ≤ B2 ∧ OwnI B2 w3 v3 (chIter a r (m + 1)) ∧ ∀ b, v'.ownBlock = some b → b < B2) := ⟨_, HBL.out.size, ho3, HFL.out⟩
              clear ho3 hown1 HT2 hb3
              go_wp2_with fail
              go_roundw
              case rel => exact ⟨m + 1, by omega, by go_num, hf3, HN.out, hp3, hb3'⟩
              case measure => simp [intOf] <;> omega
            · obtain rfl : r = m := by omega
              have ho2 := hout.below hbk
              rcases ho2.cases with ⟨-, e0⟩ | ⟨g1, c1, e1, -, hg1, -, hr1⟩
              · have := chp_length a r; rw [e0] at this; simp at this
              rcases hf.cases with ⟨-, e0⟩ | ⟨g2, c2, e2, -, hg2, -, hr2⟩
              · have := chFirst_length a r r; rw [e0] at this; simp at this
              rw [chp_length] at e1
              rw [chFirst_length] at e2
              subst e1 e2
              have HO2 := Lib.hid (chp_length a r)
              have HF2 := Lib.hid (chFirst_length a r r)
              have hchp : Hid (chp a (r + 1) = chNext (chFirst a r r) (chp a r)) := rfl
              generalize chp a r = O at hr1 HO2 hchp
              generalize chFirst a r r = F at hr2 HF2 hchp
              clear hs hf ho2 hcr hrr hcap hcx HC hO hout hpv hpl HF0
              have hlr : r ≤ 24 := by omega
              have hbw := hbel.trans (hbk.mono hbel.size)
              have hn0 := OwnI.lit (B := wi2.heap.size) wi2 [] (Nat.le_refl _) (by simp [maxLen])
              have HR1 := Lib.hid hr1
              have HR2 := Lib.hid hr2
              have HBW := Lib.hid hbw
              clear hr1 hr2 hbk hbel hbw
              go_wp2_with fail
              go_loopw [10, 11] (fun v i wr => ∃ m : Nat, m ≤ r + 2 ∧ i = .int .i64 m ∧ OwnI wi2.heap.size wr v ((List.range m).map fun i => chAcc F O i (r + 1)) ∧ Below wi2.heap.size wi2 wr) (fun _ i _ => r + 2 - (intOf i).toNat)
              case atStart => exact ⟨0, Nat.zero_le _, rfl, by simpa using hn0, (Below.refl _ _).alloc (Nat.le_refl _) _⟩
              case round =>
                obtain ⟨m, hm, rfl, hnx, hbn⟩ := hrel
                clear hn0
                obtain ⟨wa, rfl⟩ : ∃ wa : World, wa = wr := ⟨_, rfl⟩
                by_cases hltm : m < r + 2
                · have hdm : decide ((m : Int) ≤ (r : Int) + 1) = true := decide_eq_true (by omega)
                  go_wp2_with fail
                  clear hdm
                  go_loopw [12, 13] (fun x j wr => ∃ k : Nat, k ≤ r + 1 ∧ k ≤ m + 1 ∧ j = .int .i64 k ∧ x = .int .i64 (chAcc F O m k) ∧ Drawn wa wr) (fun _ j _ => r + 1 - (intOf j).toNat)
                  case atStart => exact ⟨0, Nat.zero_le _, Nat.zero_le _, rfl, rfl, Drawn.refl _⟩
                  case round =>
                    obtain ⟨k, hk, hkm, rfl, rfl, hdr⟩ := hrel
                    obtain ⟨wb, rfl⟩ : ∃ wb : World, wb = wr := ⟨_, rfl⟩
                    by_cases hmk : k ≤ m
                    · have hd1 : decide ((k : Int) ≤ (m : Int)) = true := decide_eq_true (by omega)
                      by_cases hkr : k ≤ r
                      · have hd2 : decide ((k : Int) ≤ (r : Int)) = true := decide_eq_true (by omega)
                        have hrO2 := hdr.rdI (HR1.out.below hbn)
                        have hrF2 := hdr.rdI (HR2.out.below hbn)
                        obtain ⟨b4, o4, e4, -, hc4⟩ := hrO2.pos (k := k) (by rw [HO2.out]; omega)
                        simp only [Option.some.injEq, Addr.mk.injEq, and_true] at e4
                        obtain ⟨rfl, rfl⟩ := e4
                        have hcx := hc4 k (by rw [HO2.out]; omega)
                        rw [Nat.zero_add] at hcx
                        obtain ⟨b5, o5, e5, -, hc5⟩ := hrF2.pos (k := m - k) (by rw [HF2.out]; omega)
                        simp only [Option.some.injEq, Addr.mk.injEq, and_true] at e5
                        obtain ⟨rfl, rfl⟩ := e5
                        have hcy := hc5 (m - k) (by rw [HF2.out]; omega)
                        rw [Nat.zero_add] at hcy
                        clear hc4 hc5 hrO2 hrF2
                        have HACC : Hid (chAcc F O m (k + 1) = smp (chAcc F O m k + F[m - k]'(by rw [HF2.out]; omega) * O[k]'(by rw [HO2.out]; omega))) := by
                          unfold Hid; rw [chAcc, if_pos hmk, getD_of_lt 0 (by rw [HF2.out]; omega), getD_of_lt 0 (by rw [HO2.out]; omega)]
                        obtain ⟨d, hd⟩ : ∃ d, d = m - k := ⟨_, rfl⟩
                        have hsub : ((m : Int) - (k : Int)) = (d : Int) := by omega
                        have hwd : IntKind.i64.wrap (d : Int) = (d : Int) := IntWalk.i64_in _ (by omega)
                        generalize F[m - k]'(by rw [HF2.out]; omega) = y at hcy HACC
                        generalize O[k]'(by rw [HO2.out]; omega) = x2 at hcx HACC
                        rw [← hd] at hcy
                        have hd3 : d < r + 2 := by omega
                        generalize chAcc F O m k = s at HACC
                        clear hd
                        have hq1 : (0 : Int) ≤ (m : Int) := by omega
                        have hq3 : (0 : Int) ≤ (d : Int) := by omega
                        have hq4 : (d : Int) < (r : Int) + 2 := by omega
                        have HMM : Hid (∀ n, Calls Try.prog 52 #[.int .i64 y, .int .i64 x2] (wb.drewN n) fun e w' => e = .returned (.int .i64 (smp (y * x2))) ∧ w' = wb.drewN n) := fun n => (l01Mul_any _ _ _).mono fun e w' h => ⟨h.1, h.2.symm⟩
                        have HSS : Hid (∀ n, Calls Try.prog 51 #[.int .i64 s, .int .i64 (smp (y * x2))] (wb.drewN n) fun e w' => e = .returned (.int .i64 (smp (s + smp (y * x2)))) ∧ w' = wb.drewN n) := fun n => (l01Add_any _ _ _).mono fun e w' h => ⟨h.1, h.2.symm⟩
                        go_wp2_with fail
                        go_quiet ((first | (go_at_call 52; exact Calls.quiet_of_same (HMM.out _)) | (go_at_call 51; exact Calls.quiet_of_same (HSS.out _))))
                        go_wp2_with fail
                        go_roundw
                        case rel => exact ⟨k + 1, by omega, by omega, by go_num, by rw [HACC.out, smp_add_right], hdr.on _⟩
                        case measure => simp [intOf] <;> omega
                      · obtain rfl : k = r + 1 := by omega
                        have hd2 : decide (((r : Int) + 1) ≤ (r : Int)) = false := decide_eq_false (by omega)
                        have hb4 := hdr.below wa.heap.size
                        have hnx' := hnx.below hb4
                        have hbn' := hbn.trans (hb4.mono hbn.size)
                        have hlen : ((List.range m).map fun i => chAcc F O i (r + 1)).length < 17592186044415 := by simp; omega
                        have hsz := hbn'.size
                        have HNX : Hid ((List.range (m + 1)).map (fun i => chAcc F O i (r + 1)) = (List.range m).map (fun i => chAcc F O i (r + 1)) ++ [chAcc F O m (r + 1)]) := by unfold Hid; rw [List.range_succ, List.map_append]; rfl
                        go_wp2_with (at_builtin; refine wpList_append_one rfl _ _ rfl rfl hnx' rfl hbn' hlen hsz (Nat.le_refl _) ?_; intro v2 w2 hown2 hbel2 _ _)
                        go_roundw
                        case rel => exact ⟨m + 1, by omega, by go_num, by rw [HNX.out]; exact hown2, hbel2⟩
                        case measure => simp [intOf] <;> omega
                    · obtain rfl : k = m + 1 := by omega
                      have hd2 : decide (((m : Int) + 1) ≤ (m : Int)) = false := decide_eq_false (by omega)
                      have hb4 := hdr.below wa.heap.size
                      have hnx' := hnx.below hb4
                      have hbn' := hbn.trans (hb4.mono hbn.size)
                      have hlen : ((List.range m).map fun i => chAcc F O i (r + 1)).length < 17592186044415 := by simp; omega
                      have hsz := hbn'.size
                      have HNX : Hid ((List.range (m + 1)).map (fun i => chAcc F O i (r + 1)) = (List.range m).map (fun i => chAcc F O i (r + 1)) ++ [chAcc F O m (m + 1)]) := by
                        unfold Hid; rw [List.range_succ, List.map_append, List.map_singleton, chAcc_stop F O m (k := m + 1) (m := r + 1) (Nat.le_refl _) hk]
                      go_wp2_with (at_builtin; refine wpList_append_one rfl _ _ rfl rfl hnx' rfl hbn' hlen hsz (Nat.le_refl _) ?_; intro v2 w2 hown2 hbel2 _ _)
                      go_roundw
                      case rel => exact ⟨m + 1, by omega, by go_num, by rw [HNX.out]; exact hown2, hbel2⟩
                      case measure => simp [intOf] <;> omega
                · obtain rfl : m = r + 2 := by omega
                  have hfin : OwnI w.heap.size wa u10 (chp a (r + 1)) := by
                    rw [hchp.out, chNext, HO2.out]
                    exact hnx.mono HBW.out.size
                  have hbf : Below w.heap.size w wa := HBW.out.trans (hbn.mono HBW.out.size)
                  clear hnx hbn
                  go_wp2_with fail
                  go_roundw
                  case rel => exact ⟨r + 1, by omega, by go_num, hfin, hbf⟩
                  case measure => simp [intOf] <;> omega
    · obtain rfl : r = a.length := by omega
      go_wp2_with fail
      go_ret
      exact ⟨_, rfl, hout, hbel⟩
end Go.Proofs.Ytlfhdocgemiogaa
