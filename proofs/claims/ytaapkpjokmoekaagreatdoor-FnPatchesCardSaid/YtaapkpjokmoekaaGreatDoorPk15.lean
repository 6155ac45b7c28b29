/-
  Several texts in one: RpI, RpJ.
-/
import Derived.Test.YtaapkpjokmoekaaGreatDoorPk14
namespace Go.Proofs.YtaapkpjokmoekaaGreatDoor
open Go.ChangeShapes Go.WideShapes Go.ChangeAt Go.RowKit Go.Sort
set_option linter.unusedVariables false
set_option linter.unusedSimpArgs false

theorem bne_of {a b : List UInt8} {c : Bool} (h : (a == b) = c) : (a != b) = !c := by rw [← h]; rfl
/-- how a line goes on the program's side -/
theorem stepI_ways (p : PatchD) (line : ByteArray) {k0 : ByteArray} {W0 : List ByteArray} (h : wordsB line = k0 :: W0) :
    ((k0 ≠ wPatch ∧ k0 ≠ wValues ∧ k0 ≠ wOut) ∧ stepI p line = (readN line).map (addNode p)) ∨
    ((k0 = wPatch ∨ k0 = wValues ∨ k0 = wOut) ∧ decsB W0 = none ∧ stepI p line = none) ∨
    (∃ ns, decsB W0 = some ns ∧ k0 = wPatch ∧ ns.length ≠ 1 ∧ stepI p line = none) ∨
    (∃ n, decsB W0 = some [n] ∧ k0 = wPatch ∧ stepI p line = some (setIn p n)) ∨
    (∃ ns, decsB W0 = some ns ∧ k0 = wValues ∧ stepI p line = some (addTable p ns)) ∨
    (∃ ns, decsB W0 = some ns ∧ k0 = wOut ∧ stepI p line = some (setOut p ns)) := by
  unfold stepI
  rw [h]
  simp only
  by_cases ho : k0 ≠ wPatch ∧ k0 ≠ wValues ∧ k0 ≠ wOut
  · exact .inl ⟨ho, by rw [if_pos ho]⟩
  · rw [if_neg ho]
    have hw : k0 = wPatch ∨ k0 = wValues ∨ k0 = wOut := by
      rcases word_cases k0 with e | e | e | e
      · exact .inl e
      · exact .inr (.inl e)
      · exact .inr (.inr e)
      · exact absurd e ho
    cases hd : decsB W0 with
    | none => exact .inr (.inl ⟨hw, rfl, rfl⟩)
    | some ns =>
      simp only
      rcases hw with e | e | e
      · rw [if_pos e]
        by_cases h1 : ns.length = 1
        · rw [if_pos h1]
          match ns, h1 with
          | [n], _ => exact .inr (.inr (.inr (.inl ⟨n, rfl, e, rfl⟩)))
        · rw [if_neg h1]
          exact .inr (.inr (.inl ⟨ns, rfl, e, h1, rfl⟩))
      · rw [if_neg (by rw [e]; decide), if_pos e]
        exact .inr (.inr (.inr (.inr (.inl ⟨ns, rfl, e, rfl⟩))))
      · rw [if_neg (by rw [e]; decide), if_neg (by rw [e]; decide)]
        exact .inr (.inr (.inr (.inr (.inr ⟨ns, rfl, e, rfl⟩))))
theorem stepI_empty (p : PatchD) (line : ByteArray) (h : wordsB line = []) : stepI p line = none := by unfold stepI; rw [h]
/-- a patch was read, or none -/
def RetRp (w : World) (s : ByteArray) (e : Ending) (w' : World) : Prop :=
  Below w.heap.size w w' ∧ match foldP stepI (linesB (trimN s)) zP with
    | none => e = .returned (.tuple #[.agg #[.int .i64 0, .slice none 0 0, .slice none 0 0, .slice none 0 0], .bool false])
    | some p => ∃ v1 v2 v3 L1 L, e = .returned (.tuple #[.agg #[.int .i64 p.inputs, v1, v2, v3], .bool true]) ∧ OwnP w.heap.size w' v1 v2 v3 p.tables p.nodes p.outputs L1 L
set_option maxHeartbeats 16000000 in
set_option maxRecDepth 100000 in
theorem readPatch_v {s : ByteArray} (w : World) (hs : s.size ≤ 1048576) (hT : TxtT w) (hE : TxtE w) (hC : TxtC w) :
    Calls Tryz.prog 24 #[.string s] w (RetRp w s) := by
  obtain ⟨P, hP⟩ : ∃ P, P = linesB (trimN s) := ⟨_, rfl⟩
  have hts := trimN_size s
  have hPl : P.length ≤ 1048577 := by rw [hP]; have := linesB_le (trimN s); omega
  have hP1 : 1 ≤ P.length := by
    rw [hP]
    have := linesB_ne (trimN s)
    cases h : linesB (trimN s) with
    | nil => exact absurd h this
    | cons x y => simp
  have HPs : Hid (∀ x ∈ P, x.size ≤ 1048576) := fun x hx => by rw [hP] at hx; have := linesB_size hx; omega
  obtain ⟨r, hr⟩ : ∃ r, r = w.heap.size := ⟨_, rfl⟩
  obtain ⟨E0, hE0⟩ : ∃ E, E = w.alloc (.cells #[.int .i64 0, .slice none 0 0, .slice none 0 0, .slice none 0 0] 28) := ⟨_, rfl⟩
  have hB0 : Below w.heap.size w E0 := by rw [hE0]; exact (Below.refl _ _).alloc (Nat.le_refl _) _
  have q0 : Box E0 r zPatch 28 := by rw [hE0, hr]; exact Box.newAt w zPatch _ rfl
  obtain ⟨g, hg⟩ : ∃ g, g = E0.heap.size := ⟨_, rfl⟩
  obtain ⟨E1, hE1⟩ : ∃ E, E = E0.alloc (.cells #[.int .i64 0, .slice none 0 0, .slice none 0 0, .slice none 0 0] 28) := ⟨_, rfl⟩
  have hB1 : Below E0.heap.size E0 E1 := by rw [hE1]; exact (Below.refl _ _).alloc (Nat.le_refl _) _
  have x1 : Box E1 g zPatch 28 := by rw [hE1, hg]; exact Box.newAt E0 zPatch _ rfl
  obtain ⟨gl, hgl⟩ : ∃ g, g = E1.heap.size := ⟨_, rfl⟩
  obtain ⟨E2, hE2⟩ : ∃ E, E = E1.alloc (.cells (P.map Value.string).toArray 9) := ⟨_, rfl⟩
  have hb12 : Below E1.heap.size E1 E2 := by rw [hE2]; exact (Below.refl _ _).alloc (Nat.le_refl _) _
  have hB2 : Below E0.heap.size E0 E2 := hB1.trans (hb12.mono hB1.size)
  have hsrc : E2.heap[gl]? = some (.cells (P.map Value.string).toArray 9 (0, 0)) := by rw [hE2, hgl]; exact heap_alloc_new E1 _
  have hglt : gl < E2.heap.size := (Array.getElem?_eq_some_iff.1 hsrc).1
  have hggl : g < gl := by rw [hgl]; exact x1.lt
  have hpb0 : PB E2.heap.size E0 E2 g 0 (.slice none 0 0) (.slice none 0 0) (.slice none 0 0) [] [] [] [] [] :=
    ⟨OwnP.nil E2 (OwnI.nil _ _), x1.below hb12, hB2, hB2.size, by rw [hg]; exact Nat.le_refl _⟩
  have TS : Hid (Calls Tryz.prog 53 #[.string s, .string ⟨#[10]⟩] E1 fun e w' => e = .returned (.string (trimN s)) ∧ w' = E1) := Tryz.strings_TrimSuffix s ⟨#[10]⟩ E1 (by omega)
  have SP : Hid (Calls Tryz.prog 52 #[.string (trimN s), .string ⟨#[10]⟩] E1 fun e w' => e = .returned (.slice (some ⟨gl, 0, none⟩) P.length P.length) ∧ w' = E2) := by
    obtain ⟨m, hm⟩ := (hC.below hB0).below hB1
    have h := Tryz.strings_Split (trimN s) ⟨#[10]⟩ m E1 (by omega) hm (by decide)
    have e1 : Lib.splitB ⟨#[10]⟩ 0 (Lib.countB (trimN s) ⟨#[10]⟩) (trimN s) = P := by rw [hP]; exact linesB_split _
    have e2 : Lib.countB (trimN s) ⟨#[10]⟩ + 1 = P.length := by rw [hP, linesB_length]
    rw [e1, e2, ← hE2, ← hgl] at h
    exact h
  have HNone : Hid (∀ W', foldP stepI P zP = none → Below w.heap.size w W' → RetRp w s (.returned (.tuple #[.agg #[.int .i64 0, .slice none 0 0, .slice none 0 0, .slice none 0 0], .bool false])) W') := fun W' h hb => ⟨hb, by rw [← hP, h]⟩
  have HSome : Hid (∀ W' (x : PatchD) v1 v2 v3 L1 L, foldP stepI P zP = some x → OwnP w.heap.size W' v1 v2 v3 x.tables x.nodes x.outputs L1 L → Below w.heap.size w W' → RetRp w s (.returned (.tuple #[.agg #[.int .i64 x.inputs, v1, v2, v3], .bool true])) W') := fun W' x v1 v2 v3 L1 L h ho hb => ⟨hb, by rw [← hP, h]; exact ⟨_, _, _, _, _, rfl, ho⟩⟩
  have HE0 := Lib.hid hE0
  have HE1 := Lib.hid hE1
  have HRR := Lib.hid hr
  have HG := Lib.hid hg
  have HB0 := Lib.hid hB0
  have HT := Lib.hid hT
  have HEE := Lib.hid hE
  have HC := Lib.hid hC
  have HPB := Lib.hid hpb0
  have HSRC0 := Lib.hid hsrc
  have HQ0 := Lib.hid q0
  have hE02 : w.heap.size ≤ E2.heap.size := Nat.le_trans hB0.size hB2.size
  generalize RetRp w s = RR at *
  clear hE0 hP hr hT hE hC hE1 hg hE2 hgl hB0 hB1 hB2 hb12 x1 q0 hpb0 hsrc hts
  obtain ⟨n, hn⟩ : ∃ n, n = P.length := ⟨_, rfl⟩
  have HN := Lib.hid hn
  rw [← hn] at hPl hP1 SP
  go_enter Tryz.func24, Tryz.ntmps24
  go_upto_region 1 with fail
  rw [← HE0.out]
  go_upto_region 2 with fail
  rw [← HE1.out, ← HRR.out, ← HG.out]
  clear hn
  go_wp2_with (first | (go_at_call 53; refine TS.out.mono ?_; rintro e w' ⟨rfl, hw⟩; rw [hw]; clear hw) | (go_at_call 52; refine SP.out.mono ?_; rintro e w' ⟨rfl, hw⟩; rw [hw]; clear hw) | fail)
  go_loopw [17] (fun i wr => ∃ (k : Nat) (p : PatchD) (v1 v2 v3 : Value) (L1 L : List Value), k ≤ n ∧ i = .int .i64 (k : Int) ∧ foldP stepI (P.take k) zP = some p ∧ PB E2.heap.size E0 wr g p.inputs v1 v2 v3 p.tables p.nodes p.outputs L1 L ∧ p.tables.length ≤ k ∧ p.nodes.length ≤ k ∧ Hid (wr.heap[gl]? = some (.cells (P.map Value.string).toArray 9 (0, 0))) ∧ E2.heap.size ≤ wr.heap.size) (fun i _ => n - (intOf i).toNat)
  case atStart => exact ⟨0, zP, _, _, _, _, _, by omega, rfl, rfl, HPB.out, Nat.le_refl _, Nat.le_refl _, HSRC0, Nat.le_refl _⟩
  case round =>
    obtain ⟨k, p, v1, v2, v3, L1, L, hk, rfl, hf, hpb, ht, hnn, HSRC, hEw⟩ := hrel
    have HF := Lib.hid hf
    have HPK := Lib.hid hpb
    clear hf hpb HPB HSRC0
    obtain ⟨wi, rfl⟩ : ∃ wi : World, wi = wr := ⟨_, rfl⟩
    have hBwi : Below w.heap.size w wi := HB0.out.trans (HPK.out.bel.mono HB0.out.size)
    by_cases hlt : k < n
    · have hkP : k < P.length := by have := HN.out; omega
      have hck : wi.cell? ⟨gl, k, none⟩ = some (.string P[k]) := by
        rw [cell_of_row wi gl k _ _ _ HSRC.out]
        simp [hkP]
      have hxs := HPs.out _ (List.getElem_mem hkP)
      have HSTEP : Hid (∀ q, stepI p P[k] = some q → foldP stepI (P.take (k + 1)) zP = some q) := fun q h => by
        rw [List.take_succ_eq_append_getElem hkP, foldP_snoc, HF.out]; exact h
      have HFAIL : Hid (stepI p P[k] = none → foldP stepI P zP = none) := fun h => by
        refine foldP_stop (k := k + 1) ?_
        rw [List.take_succ_eq_append_getElem hkP, foldP_snoc, HF.out]; exact h
      clear HF
      generalize P[k] = x at hck hxs HSTEP HFAIL
      have SQ := Lib.hid (splitWords_any x wi hxs (HC.out.below hBwi))
      have HRD : Hid (∀ W, Below w.heap.size w W → Calls Tryz.prog 55 #[.string x] W (RetNd W x)) := fun W hW => implReadNode_v W hxs (HT.out.below hW) (HEE.out.below hW) (HC.out.below hW)
      have hWl : (wordsB x).length ≤ 1048577 := by have := wordsB_le x; omega
      have HWs : Hid (∀ y ∈ wordsB x, y.size ≤ 281474976710656) := fun y hy => by have := wordsB_size hy; omega
      by_cases hW0 : wordsB x = []
      · have HF0 : Hid (foldP stepI P zP = none) := HFAIL.out (stepI_empty p x hW0)
        have SQ0 : Hid (Calls Tryz.prog 54 #[.string x] wi fun e w' => ∃ q c, e = .returned (.slice q 0 c) ∧ Below wi.heap.size wi w') := SQ.out.mono fun e w' ⟨u, he, ho, hb⟩ => by
          rw [hW0] at ho
          obtain ⟨q, c, rfl, -⟩ := ho.rdV
          exact ⟨q, c, he, hb⟩
        clear hW0 HSTEP HFAIL HRD hWl HWs SQ
        go_upto_region 7 with (first | (go_at_call 54; refine SQ0.out.mono ?_; rintro e w1 ⟨q1, c1, rfl, hb1⟩) | fail)
        have hpbF := HPK.out.below hb1
        have hnone : foldP stepI P zP = none := HF0.out
        have R1 := hpbF
        have hbx := HB0.out.trans (R1.bel.mono HB0.out.size)
        have bx2 := HQ0.out.below R1.bel
        have u0 := bx2.cell 0 rfl
        have u1 := bx2.cell 1 rfl
        have u2 := bx2.cell 2 rfl
        have u3 := bx2.cell 3 rfl
        have v0 := bx2.frozen 0
        have v1 := bx2.frozen 1
        have v2 := bx2.frozen 2
        have v3 := bx2.frozen 3
        obtain ⟨W', hW, bx, be⟩ := R1.exitZ bx2 hbx (by rw [HRR.out]; exact Nat.le_refl _)
        have k0' := bx.cell 0 rfl
        have k1' := bx.cell 1 rfl
        have k2' := bx.cell 2 rfl
        have k3' := bx.cell 3 rfl
        have FIN := Lib.hid (HNone.out W' hnone be)
        have HWW := Lib.hid hW
        clear hW bx be bx2 hbx R1 hnone
        go_wp2_with fail
        rw [← HWW.out]
        refine bodyPost_ret (v := .tuple #[.agg #[.int .i64 0, .slice none 0 0, .slice none 0 0, .slice none 0 0], .bool false]) (by simp [results, Tryz.results24, go_sem, *]) rfl ?_
        exact FIN.out
      · obtain ⟨k0, W0, hkw⟩ : ∃ k0 W0, wordsB x = k0 :: W0 := by
          cases hPc : wordsB x with
          | nil => exact absurd hPc hW0
          | cons a b => exact ⟨a, b, rfl⟩
        have HWAY := Lib.hid (stepI_ways p x hkw)
        rw [hkw] at SQ hWl HWs
        obtain ⟨m, hm⟩ : ∃ m, m = W0.length := ⟨_, rfl⟩
        have HM := Lib.hid hm
        have hml : m ≤ 1048577 := by rw [hm]; simp at hWl; omega
        clear hW0 hkw hWl hm
        obtain ⟨b1, b2, b3, q1, q2, q3, hwd⟩ := word_bools k0
        have q1n := bne_of q1
        have q2n := bne_of q2
        have q3n := bne_of q3
        go_upto_region 6 with (first | (go_at_call 54; refine SQ.out.mono ?_; rintro e w1 ⟨uq, rfl, hwq, hb1⟩) | fail)
        obtain ⟨gq, cw, e2, hcq⟩ := strB_cell hwq (k := 0) (by simp)
        subst e2
        have hcap : m + 1 ≤ cw := by have := hwq.cap; rw [HM.out]; simpa using this
        obtain ⟨ex, rfl⟩ : ∃ ex, cw = m + 1 + ex := ⟨cw - (m + 1), by omega⟩
        have hpb1 := HPK.out.below hb1
        have hBw1 : Below w.heap.size w w1 := hBwi.trans (hb1.mono hBwi.size)
        have hl1 : (k0 :: W0).length = m + 1 := by rw [HM.out]; simp
        have HPH : Hid (∀ o, (m + 1 + ex = 1 ∧ o = 0) ∨ (m + 1 + ex ≠ 1 ∧ o = 1) → RdV w1 (some ⟨gq, o, none⟩) (strB W0)) := fun o ho => by
          rcases ho with ⟨h1, rfl⟩ | ⟨h1, rfl⟩
          · have : W0 = [] := List.eq_nil_of_length_eq_zero (by rw [← HM.out]; omega)
            rw [this]; exact RdV.none0 _ _
          · obtain ⟨p', c', e3, hrd⟩ := hwq.rdV
            simp only [Value.slice.injEq] at e3
            obtain ⟨rfl, -, -⟩ := e3
            have := hrd.part 1 W0.length
            have e : ((strB (k0 :: W0)).drop 1).take W0.length = strB W0 := List.take_of_length_le (by simp [strB])
            rw [e] at this
            exact this
        have HRN : Hid (∀ ph, RdV w1 ph (strB W0) → Calls Tryz.prog 56 #[.slice ph m (m + ex)] w1 (RetNums w1 W0)) := fun ph h => by
          rw [HM.out]
          exact readNumbers_any w1 h (by rw [← HM.out]; omega) (fun y hy => HWs.out y (by simp [hy])) (HT.out.below hBw1) (HEE.out.below hBw1)
        rw [hl1]
        have HSRC1 : Hid (w1.heap[gl]? = some (.cells (P.map Value.string).toArray 9 (0, 0))) := (hb1.block gl (by omega)).trans HSRC.out
        have hE1w : E2.heap.size ≤ w1.heap.size := Nat.le_trans hEw hb1.size
        have hcq' : w1.cell? ⟨gq, 0, none⟩ = some (.string k0) := by rw [hcq]; rfl
        clear hcap hl1 hwq hcq hb1 SQ hck HPK HSRC
        rcases HWAY.out with ⟨ho, hst⟩ | ⟨hw, hd, hst⟩ | ⟨ns, hd, hk0, hn1, hst⟩ | ⟨nn, hd, hk0, hst⟩ | ⟨ns, hd, hk0, hst⟩ | ⟨ns, hd, hk0, hst⟩
        · obtain ⟨rfl, rfl, rfl⟩ : b1 = false ∧ b2 = false ∧ b3 = false := by
            rcases hwd with ⟨-, -, -, h⟩ | ⟨-, -, -, h⟩ | ⟨-, -, -, h⟩ | ⟨h1, h2, h3, -⟩
            · exact absurd h ho.1
            · exact absurd h ho.2.1
            · exact absurd h ho.2.2
            · exact ⟨h1, h2, h3⟩
          clear ho hwd HPH HRN
          cases hrn : readN x with
          | none =>
            have HF0 : Hid (foldP stepI P zP = none) := HFAIL.out (by rw [hst, hrn]; rfl)
            have RN0 : Hid (Calls Tryz.prog 55 #[.string x] w1 fun e w' => ∃ q3 c3, e = .returned (.tuple #[.agg #[.int .i64 0, .int .i64 0, .int .i64 0, .slice q3 0 c3], .bool false]) ∧ Below w1.heap.size w1 w') := (HRD.out w1 hBw1).mono fun e w' ⟨u, L, he, ho, hd, hb⟩ => by
              have e2 : nodeRd x = ⟨0, 0, 0, []⟩ := by unfold nodeRd; rw [hrn]; rfl
              rw [e2] at ho
              obtain ⟨u3, L3, rfl, -, o3⟩ := ho
              obtain ⟨q3, c3, rfl, -⟩ := o3.1.rd
              refine ⟨q3, c3, ?_, hb⟩
              rw [he]; unfold okRd; rw [hrn]; rfl
            clear hrn hst HFAIL HSTEP HRD
            go_upto_region 11 with (first | (go_at_call 55; refine RN0.out.mono ?_; rintro e w3 ⟨q3', c3', rfl, hb3⟩) | fail)
            have hpbF := (hpb1.below hb3).below ((Below.refl _ _).alloc (Nat.le_refl _) (.cells #[.int .i64 0, .int .i64 0, .int .i64 0, .slice q3' 0 c3'] 35))
            have hnone : foldP stepI P zP = none := HF0.out
            have R1 := hpbF
            have hbx := HB0.out.trans (R1.bel.mono HB0.out.size)
            have bx2 := HQ0.out.below R1.bel
            have u0 := bx2.cell 0 rfl
            have u1 := bx2.cell 1 rfl
            have u2 := bx2.cell 2 rfl
            have u3 := bx2.cell 3 rfl
            have v0 := bx2.frozen 0
            have v1 := bx2.frozen 1
            have v2 := bx2.frozen 2
            have v3 := bx2.frozen 3
            obtain ⟨W', hW, bx, be⟩ := R1.exitZ bx2 hbx (by rw [HRR.out]; exact Nat.le_refl _)
            have k0' := bx.cell 0 rfl
            have k1' := bx.cell 1 rfl
            have k2' := bx.cell 2 rfl
            have k3' := bx.cell 3 rfl
            have FIN := Lib.hid (HNone.out W' hnone be)
            have HWW := Lib.hid hW
            clear hW bx be bx2 hbx R1 hnone
            go_wp2_with fail
            rw [← HWW.out]
            refine bodyPost_ret (v := .tuple #[.agg #[.int .i64 0, .slice none 0 0, .slice none 0 0, .slice none 0 0], .bool false]) (by simp [results, Tryz.results24, go_sem, *]) rfl ?_
            exact FIN.out
          | some nd =>
            have HFN := Lib.hid (HSTEP.out (addNode p nd) (by rw [hst, hrn]; rfl))
            have RN1 : Hid (Calls Tryz.prog 55 #[.string x] w1 fun e w' => ∃ q3 c3, e = .returned (.tuple #[.agg #[.int .i64 nd.kind, .int .i64 nd.a, .int .i64 nd.b, .slice q3 nd.src.length c3], .bool true]) ∧ OwnI w1.heap.size w' (.slice q3 nd.src.length c3) nd.src ∧ Below w1.heap.size w1 w') := (HRD.out w1 hBw1).mono fun e w' ⟨u, L, he, ho, hd, hb⟩ => by
              have e2 : nodeRd x = nd := by unfold nodeRd; rw [hrn]; rfl
              rw [e2] at ho
              obtain ⟨u3, L3, rfl, -, o3⟩ := ho
              have o4 := o3.1
              obtain ⟨q3, c3, rfl, -⟩ := o4.rd
              refine ⟨q3, c3, ?_, o4, hb⟩
              rw [he]; unfold okRd; rw [hrn]; rfl
            clear hrn hst HFAIL HSTEP HRD
            go_upto_region 10 with (first | (go_at_call 55; refine RN1.out.mono ?_; rintro e w3 ⟨q3', c3', rfl, ho3, hb3⟩) | fail)
            obtain ⟨F, hF⟩ : ∃ F, F = w3.alloc (.cells #[.int .i64 nd.kind, .int .i64 nd.a, .int .i64 nd.b, .slice q3' nd.src.length c3'] 35) := ⟨_, rfl⟩
            have hwF : Below w3.heap.size w3 F := by rw [hF]; exact (Below.refl _ _).alloc (Nat.le_refl _) _
            have bn : Box F w3.heap.size [.int .i64 nd.kind, .int .i64 nd.a, .int .i64 nd.b, .slice q3' nd.src.length c3'] 35 := by rw [hF]; exact Box.newAt _ _ _ rfl
            have hnew := hpb1.fresh ho3 (Nat.le_refl _)
            have hu3 := (ho3.mono (B' := E2.heap.size) hE1w).below hwF
            have hpbF := (hpb1.below hb3).below hwF
            have z0 := bn.cell 0 rfl
            have z1 := bn.cell 1 rfl
            have z2 := bn.cell 2 rfl
            have z3 := bn.cell 3 rfl
            have c2 := hpbF.out.cell 2 rfl
            have o2 := hpbF.own.o2
            have hlen : p.nodes.length < 1099511627776 := by omega
            have hBs : E2.heap.size ≤ F.heap.size := Nat.le_trans hE1w (Nat.le_trans hb3.size hwF.size)
            have HSRCF : Hid (F.heap[gl]? = some (.cells (P.map Value.string).toArray 9 (0, 0))) := (hwF.block gl (by have := hb3.size; omega)).trans ((hb3.block gl (by omega)).trans HSRC1.out)
            have hnv : v2.ownBlock ≠ some gl := fun e => by have := (o2.lt e).1; omega
            have HNV := Lib.hid hnv
            have HP2 := Lib.hid hpbF
            have HU3 := Lib.hid hu3
            have HNW := Lib.hid hnew
            have HF := Lib.hid hF
            clear hF hwF bn hnew hu3 hpbF ho3 hb3 hpb1 HSRC1 hnv
            rw [← HF.out]
            go_wp2_with (first | (at_builtin; refine wpList_append_node rfl _ _ rfl nd rfl rfl rfl rfl o2 rfl rfl hlen hBs ?_; intro v' w5 hv hg hk3; obtain ⟨vp, vc, rfl⟩ := hv.slS; have PN := HP2.out.node HU3.out HNW.out hv hg; have t1 := PN.1.1; have t2 := PN.1.2; have HPN := Lib.hid PN.2; have hsz5 := hg.size; have HK3 := Lib.hid hk3; clear PN hv hg hk3) | fail)
            go_roundw
            case rel => exact ⟨k + 1, addNode p nd, v1, _, v3, L1, _, by omega, by go_num, HFN.out, HPN.out, by show p.tables.length ≤ k + 1; omega, by show (p.nodes ++ [nd]).length ≤ k + 1; simp; omega, (Below.heap_setCell _ _ _ _ (show gl ≠ g by omega)).trans ((HK3.out gl (by omega) HNV.out).trans HSRCF.out), by simp [World.setCell]; omega⟩
            case measure => simp [intOf] <;> omega
        · have HF0 : Hid (foldP stepI P zP = none) := HFAIL.out hst
          have RN2 : Hid (∀ ph, RdV w1 ph (strB W0) → Calls Tryz.prog 56 #[.slice ph m (m + ex)] w1 fun e w' => e = .returned (.tuple #[.slice none 0 0, .bool false]) ∧ Below w1.heap.size w1 w') := fun ph h => (HRN.out ph h).mono fun e w' ⟨hb, h⟩ => by
            rw [hd] at h
            exact ⟨h, hb⟩
          have HCASE : (b1 = true ∧ b2 = false ∧ b3 = false) ∨ (b1 = false ∧ b2 = true ∧ b3 = false) ∨ (b1 = false ∧ b2 = false ∧ b3 = true) := by
            rcases hwd with ⟨h1, h2, h3, -⟩ | ⟨h1, h2, h3, -⟩ | ⟨h1, h2, h3, -⟩ | ⟨-, -, -, h1, h2, h3⟩
            · exact .inl ⟨h1, h2, h3⟩
            · exact .inr (.inl ⟨h1, h2, h3⟩)
            · exact .inr (.inr ⟨h1, h2, h3⟩)
            · rcases hw with h | h | h
              · exact absurd h h1
              · exact absurd h h2
              · exact absurd h h3
          clear hw hd hst hwd HSTEP HFAIL HRD HRN
          rcases HCASE with ⟨rfl, rfl, rfl⟩ | ⟨rfl, rfl, rfl⟩ | ⟨rfl, rfl, rfl⟩
          all_goals
            go_upto_region 13 with fail
            go_wp2_with fail
            all_goals
              first | have XX := RN2.out _ (HPH.out 0 (by omega)) | have XX := RN2.out _ (HPH.out 1 (by omega))
              refine XX.mono ?_
              clear XX
              rintro e w2 ⟨rfl, hb2⟩
              have hcq2 := (hb2.cell (p := ⟨gq, 0, none⟩) (World.block_lt_of_cell? _ _ hcq')).trans hcq'
              go_upto_region 15 with fail
              have hpbF := hpb1.below hb2
              have hnone : foldP stepI P zP = none := HF0.out
              have R1 := hpbF
              have hbx := HB0.out.trans (R1.bel.mono HB0.out.size)
              have bx2 := HQ0.out.below R1.bel
              have u0 := bx2.cell 0 rfl
              have u1 := bx2.cell 1 rfl
              have u2 := bx2.cell 2 rfl
              have u3 := bx2.cell 3 rfl
              have v0 := bx2.frozen 0
              have v1 := bx2.frozen 1
              have v2 := bx2.frozen 2
              have v3 := bx2.frozen 3
              obtain ⟨W', hW, bx, be⟩ := R1.exitZ bx2 hbx (by rw [HRR.out]; exact Nat.le_refl _)
              have k0' := bx.cell 0 rfl
              have k1' := bx.cell 1 rfl
              have k2' := bx.cell 2 rfl
              have k3' := bx.cell 3 rfl
              have FIN := Lib.hid (HNone.out W' hnone be)
              have HWW := Lib.hid hW
              clear hW bx be bx2 hbx R1 hnone
              go_wp2_with fail
              rw [← HWW.out]
              refine bodyPost_ret (v := .tuple #[.agg #[.int .i64 0, .slice none 0 0, .slice none 0 0, .slice none 0 0], .bool false]) (by simp [results, Tryz.results24, go_sem, *]) rfl ?_
              exact FIN.out
        · obtain ⟨rfl, rfl, rfl⟩ : b1 = true ∧ b2 = false ∧ b3 = false := by
            rcases hwd with ⟨h1, h2, h3, -⟩ | ⟨-, -, -, h⟩ | ⟨-, -, -, h⟩ | ⟨-, -, -, h, -⟩
            · exact ⟨h1, h2, h3⟩
            · rw [hk0] at h; exact absurd h (by decide)
            · rw [hk0] at h; exact absurd h (by decide)
            · exact absurd hk0 h
          
          have RN2 : Hid (∀ ph, RdV w1 ph (strB W0) → Calls Tryz.prog 56 #[.slice ph m (m + ex)] w1 fun e w' => ∃ u, e = .returned (.tuple #[u, .bool true]) ∧ OwnI w1.heap.size w' u ns ∧ Below w1.heap.size w1 w') := fun ph h => (HRN.out ph h).mono fun e w' ⟨hb, h⟩ => by
            rw [hd] at h
            obtain ⟨u, he, ho⟩ := h
            exact ⟨u, he, ho, hb⟩
          have HF0 : Hid (foldP stepI P zP = none) := HFAIL.out hst
          have hm1 : ((ns.length : Int) == 1) = false := by rw [beq_eq_false_iff_ne]; omega
          have hm1n : ((ns.length : Int) != 1) = true := by rw [bne, hm1]; rfl
          clear hk0 hd hst hwd hn1 HSTEP HFAIL HRD HRN
          go_upto_region 13 with fail
          go_wp2_with fail
          all_goals
            first | have XX := RN2.out _ (HPH.out 0 (by omega)) | have XX := RN2.out _ (HPH.out 1 (by omega))
            refine XX.mono ?_
            clear XX
            rintro e w2 ⟨u, rfl, ho, hb2⟩
            obtain ⟨qu, cu, rfl, -⟩ := ho.rd
            have hcq2 := (hb2.cell (p := ⟨gq, 0, none⟩) (World.block_lt_of_cell? _ _ hcq')).trans hcq'
            go_upto_region 15 with fail
            have hpbF := hpb1.below hb2
            have hnone : foldP stepI P zP = none := HF0.out
            have R1 := hpbF
            have hbx := HB0.out.trans (R1.bel.mono HB0.out.size)
            have bx2 := HQ0.out.below R1.bel
            have u0 := bx2.cell 0 rfl
            have u1 := bx2.cell 1 rfl
            have u2 := bx2.cell 2 rfl
            have u3 := bx2.cell 3 rfl
            have v0 := bx2.frozen 0
            have v1 := bx2.frozen 1
            have v2 := bx2.frozen 2
            have v3 := bx2.frozen 3
            obtain ⟨W', hW, bx, be⟩ := R1.exitZ bx2 hbx (by rw [HRR.out]; exact Nat.le_refl _)
            have k0' := bx.cell 0 rfl
            have k1' := bx.cell 1 rfl
            have k2' := bx.cell 2 rfl
            have k3' := bx.cell 3 rfl
            have FIN := Lib.hid (HNone.out W' hnone be)
            have HWW := Lib.hid hW
            clear hW bx be bx2 hbx R1 hnone
            go_wp2_with fail
            rw [← HWW.out]
            refine bodyPost_ret (v := .tuple #[.agg #[.int .i64 0, .slice none 0 0, .slice none 0 0, .slice none 0 0], .bool false]) (by simp [results, Tryz.results24, go_sem, *]) rfl ?_
            exact FIN.out
        · obtain ⟨rfl, rfl, rfl⟩ : b1 = true ∧ b2 = false ∧ b3 = false := by
            rcases hwd with ⟨h1, h2, h3, -⟩ | ⟨-, -, -, h⟩ | ⟨-, -, -, h⟩ | ⟨-, -, -, h, -⟩
            · exact ⟨h1, h2, h3⟩
            · rw [hk0] at h; exact absurd h (by decide)
            · rw [hk0] at h; exact absurd h (by decide)
            · exact absurd hk0 h
          
          have RN2 : Hid (∀ ph, RdV w1 ph (strB W0) → Calls Tryz.prog 56 #[.slice ph m (m + ex)] w1 fun e w' => ∃ u, e = .returned (.tuple #[u, .bool true]) ∧ OwnI w1.heap.size w' u [nn] ∧ Below w1.heap.size w1 w') := fun ph h => (HRN.out ph h).mono fun e w' ⟨hb, h⟩ => by
            rw [hd] at h
            obtain ⟨u, he, ho⟩ := h
            exact ⟨u, he, ho, hb⟩
          have HFN := Lib.hid (HSTEP.out _ hst)
          clear hk0 hd hst hwd HSTEP HFAIL HRD HRN
          go_upto_region 13 with fail
          go_wp2_with fail
          all_goals
            first | have XX := RN2.out _ (HPH.out 0 (by omega)) | have XX := RN2.out _ (HPH.out 1 (by omega))
            refine XX.mono ?_
            clear XX
            rintro e w2 ⟨u, rfl, ho, hb2⟩
            have hcq2 := (hb2.cell (p := ⟨gq, 0, none⟩) (World.block_lt_of_cell? _ _ hcq')).trans hcq'
            rcases ho.cases with ⟨-, h0⟩ | ⟨gu, cu, rfl, -, -, -, hru⟩
            · exact absurd h0 (by simp)
            obtain ⟨bu, ou, e3, -, hcu⟩ := hru.pos (k := 0) (by simp)
            simp only [Option.some.injEq, Addr.mk.injEq, and_true] at e3
            obtain ⟨rfl, rfl⟩ := e3
            have hcn : w2.cell? ⟨gu, 0, none⟩ = some (.int .i64 nn) := by have := hcu 0 (by simp); simpa using this
            go_upto_region 14 with fail
            have hpb2 := hpb1.below hb2
            have f0 := hpb2.out.frozen 0
            have c0 := hpb2.out.cell 0 rfl
            have HP2 := Lib.hid (hpb2.inp nn)
            have HSRC2 : Hid (w2.heap[gl]? = some (.cells (P.map Value.string).toArray 9 (0, 0))) := (hb2.block gl (by omega)).trans HSRC1.out
            have hsz2 := hb2.size
            clear hcu hru ho hpb1 hpb2 hb2 hcq'
            go_wp2_with fail
            go_roundw
            case rel => exact ⟨k + 1, setIn p nn, v1, v2, v3, L1, L, by omega, by go_num, HFN.out, HP2.out, by show p.tables.length ≤ k + 1; omega, by show p.nodes.length ≤ k + 1; omega, (Below.heap_setCell _ _ _ _ (show gl ≠ g by omega)).trans HSRC2.out, by simp [World.setCell]; omega⟩
            case measure => simp [intOf] <;> omega
        · obtain ⟨rfl, rfl, rfl⟩ : b1 = false ∧ b2 = true ∧ b3 = false := by
            rcases hwd with ⟨-, -, -, h⟩ | ⟨h1, h2, h3, -⟩ | ⟨-, -, -, h⟩ | ⟨-, -, -, -, h, -⟩
            · rw [hk0] at h; exact absurd h (by decide)
            · exact ⟨h1, h2, h3⟩
            · rw [hk0] at h; exact absurd h (by decide)
            · exact absurd hk0 h
          
          have RN2 : Hid (∀ ph, RdV w1 ph (strB W0) → Calls Tryz.prog 56 #[.slice ph m (m + ex)] w1 fun e w' => ∃ u, e = .returned (.tuple #[u, .bool true]) ∧ OwnI w1.heap.size w' u ns ∧ Below w1.heap.size w1 w') := fun ph h => (HRN.out ph h).mono fun e w' ⟨hb, h⟩ => by
            rw [hd] at h
            obtain ⟨u, he, ho⟩ := h
            exact ⟨u, he, ho, hb⟩
          have HFN := Lib.hid (HSTEP.out _ hst)
          clear hk0 hd hst hwd HSTEP HFAIL HRD HRN
          go_upto_region 13 with fail
          go_wp2_with fail
          all_goals
            first | have XX := RN2.out _ (HPH.out 0 (by omega)) | have XX := RN2.out _ (HPH.out 1 (by omega))
            refine XX.mono ?_
            clear XX
            rintro e w2 ⟨u, rfl, ho, hb2⟩
            obtain ⟨qu, cu, rfl, -⟩ := ho.rd
            have hcq2 := (hb2.cell (p := ⟨gq, 0, none⟩) (World.block_lt_of_cell? _ _ hcq')).trans hcq'
            go_upto_region 14 with fail
            have hpb2 := hpb1.below hb2
            have c1 := hpb2.out.cell 1 rfl
            have hu2 := ho.mono (B' := E2.heap.size) hE1w
            have hnew := hpb1.fresh ho (Nat.le_refl _)
            have o1 := hpb2.own.o1
            have hlen : L1.length < 1099511627776 := by have := hpb2.own.s1.1; omega
            have hBs : E2.heap.size ≤ w2.heap.size := Nat.le_trans hE1w hb2.size
            have HP2 := Lib.hid hpb2
            have HU2 := Lib.hid hu2
            have HNW := Lib.hid hnew
            have HSRC2 : Hid (w2.heap[gl]? = some (.cells (P.map Value.string).toArray 9 (0, 0))) := (hb2.block gl (by omega)).trans HSRC1.out
            have hnv : v1.ownBlock ≠ some gl := fun e => by have := (o1.lt e).1; omega
            have HNV := Lib.hid hnv
            clear ho hpb1 hpb2 hb2 hu2 hnew hcq' hnv
            go_wp2_with (first | (at_builtin; refine wpList_append_valG rfl _ _ rfl 24 (.slice none 0 0) Tryz.underlying24 infoII rfl (by omega) rfl o1 rfl rfl hlen hBs ?_; intro v' w4 hv hg; obtain ⟨vp, vc, rfl⟩ := hv.slS; have PN := HP2.out.table HU2.out HNW.out hv hg; have t1 := PN.1.1; have t2 := PN.1.2; have HPN := Lib.hid PN.2; have hsz5 := hg.size; have HK3 := Lib.hid (hg.block gl (by omega) (fun e => HNV.out e.symm)); clear PN hv hg) | fail)
            go_roundw
            case rel => exact ⟨k + 1, addTable p ns, _, v2, v3, _, L, by omega, by go_num, HFN.out, HPN.out, by show (p.tables ++ [ns]).length ≤ k + 1; simp; omega, by show p.nodes.length ≤ k + 1; omega, (Below.heap_setCell _ _ _ _ (show gl ≠ g by omega)).trans (HK3.out.trans HSRC2.out), by simp [World.setCell]; omega⟩
            case measure => simp [intOf] <;> omega
        · obtain ⟨rfl, rfl, rfl⟩ : b1 = false ∧ b2 = false ∧ b3 = true := by
            rcases hwd with ⟨-, -, -, h⟩ | ⟨-, -, -, h⟩ | ⟨h1, h2, h3, -⟩ | ⟨-, -, -, -, -, h⟩
            · rw [hk0] at h; exact absurd h (by decide)
            · rw [hk0] at h; exact absurd h (by decide)
            · exact ⟨h1, h2, h3⟩
            · exact absurd hk0 h
          
          have RN2 : Hid (∀ ph, RdV w1 ph (strB W0) → Calls Tryz.prog 56 #[.slice ph m (m + ex)] w1 fun e w' => ∃ u, e = .returned (.tuple #[u, .bool true]) ∧ OwnI w1.heap.size w' u ns ∧ Below w1.heap.size w1 w') := fun ph h => (HRN.out ph h).mono fun e w' ⟨hb, h⟩ => by
            rw [hd] at h
            obtain ⟨u, he, ho⟩ := h
            exact ⟨u, he, ho, hb⟩
          have HFN := Lib.hid (HSTEP.out _ hst)
          clear hk0 hd hst hwd HSTEP HFAIL HRD HRN
          go_upto_region 13 with fail
          go_wp2_with fail
          all_goals
            first | have XX := RN2.out _ (HPH.out 0 (by omega)) | have XX := RN2.out _ (HPH.out 1 (by omega))
            refine XX.mono ?_
            clear XX
            rintro e w2 ⟨u, rfl, ho, hb2⟩
            obtain ⟨qu, cu, rfl, -⟩ := ho.rd
            have hcq2 := (hb2.cell (p := ⟨gq, 0, none⟩) (World.block_lt_of_cell? _ _ hcq')).trans hcq'
            go_upto_region 14 with fail
            have hpb2 := hpb1.below hb2
            have c3 := hpb2.out.cell 3 rfl
            have f3 := hpb2.out.frozen 3
            have hu2 := ho.mono (B' := E2.heap.size) hE1w
            have hnew := hpb1.fresh ho (Nat.le_refl _)
            have HP2 := Lib.hid (hpb2.outs hu2 hnew)
            have HSRC2 : Hid (w2.heap[gl]? = some (.cells (P.map Value.string).toArray 9 (0, 0))) := (hb2.block gl (by omega)).trans HSRC1.out
            have hsz2 := hb2.size
            clear ho hpb1 hpb2 hb2 hu2 hnew hcq'
            go_wp2_with fail
            go_roundw
            case rel => exact ⟨k + 1, setOut p ns, v1, v2, _, L1, L, by omega, by go_num, HFN.out, HP2.out, by show p.tables.length ≤ k + 1; omega, by show p.nodes.length ≤ k + 1; omega, (Below.heap_setCell _ _ _ _ (show gl ≠ g by omega)).trans HSRC2.out, by simp [World.setCell]; omega⟩
            case measure => simp [intOf] <;> omega
    · obtain rfl : k = n := by omega
      have hsome : foldP stepI P zP = some p := by have := HF.out; rw [HN.out, List.take_length] at this; exact this
      have HSM := Lib.hid hsome
      clear hsome HF
      obtain ⟨p1', c1', p2', c2', p3', c3', ep, -, -, -⟩ := (HPK.out.own.patch p.inputs).1.rd
      simp only [Value.agg.injEq, Array.mk.injEq, List.cons.injEq, and_true, true_and] at ep
      obtain ⟨rfl, rfl, rfl⟩ := ep
      have R1 := HPK.out
      have bx2 := HQ0.out.below R1.bel
      have u0 := bx2.cell 0 rfl
      have u1 := bx2.cell 1 rfl
      have u2 := bx2.cell 2 rfl
      have u3 := bx2.cell 3 rfl
      have f0 := bx2.frozen 0
      have f1 := bx2.frozen 1
      have f2 := bx2.frozen 2
      have f3 := bx2.frozen 3
      have y0 := R1.out.cell 0 rfl
      have y1 := R1.out.cell 1 rfl
      have y2 := R1.out.cell 2 rfl
      have y3 := R1.out.cell 3 rfl
      obtain ⟨W', hW, bx, be, ou⟩ := R1.exitP bx2 hBwi (by rw [HRR.out]; exact Nat.le_refl _) hE02
      have k0' := bx.cell 0 rfl
      have k1' := bx.cell 1 rfl
      have k2' := bx.cell 2 rfl
      have k3' := bx.cell 3 rfl
      have FIN := Lib.hid (HSome.out W' p _ _ _ _ _ HSM.out ou be)
      have HWW := Lib.hid hW
      clear hW bx be ou bx2 R1
      go_wp2_with fail
      rw [← HWW.out]
      refine bodyPost_ret (v := .tuple #[.agg #[.int .i64 p.inputs, .slice p1' p.tables.length c1', .slice p2' p.nodes.length c2', .slice p3' p.outputs.length c3'], .bool true]) (by simp [results, Tryz.results24, go_sem, *]) rfl ?_
      exact FIN.out
end Go.Proofs.YtaapkpjokmoekaaGreatDoor

namespace Go.Proofs.YtaapkpjokmoekaaGreatDoor
open Go.ChangeShapes Go.WideShapes Go.ChangeAt Go.RowKit Go.Sort
set_option linter.unusedVariables false
set_option linter.unusedSimpArgs false

theorem okB_smallR {x : PatchD} (h : okB x = true) : Small x := by
  obtain ⟨q1, q2, q3, q4, q5, q6, q7⟩ := okB_parts h
  exact ⟨by omega, fun t ht => by have := (q3 t ht).2; omega, by omega, fun n hn => by have := (nodeB_bounds (q5 n hn)).2.2.2; omega, by omega⟩
theorem lens_rowsR : ∀ (ts : List (List Int)) (m : Nat), (∀ t ∈ ts, t.length ≤ m) → lens ts ≤ m * ts.length
  | [], m, _ => by simp [lens]
  | t :: ts, m, h => by
    have h1 := h t (List.mem_cons_self ..)
    have h2 := lens_rowsR ts m fun u hu => h u (List.mem_cons_of_mem _ hu)
    rw [lens_cons, List.length_cons, Nat.mul_add]
    omega
theorem cntPatch_smallR {x : PatchD} (sm : Small x) : cntPatch x ≤ 6291456 := by
  have h1 := lens_rowsR x.tables 1000 sm.rows
  have h2 := lens_rowsR (x.nodes.map NodeD.src) 1000 fun t ht => by
    obtain ⟨n, hn, rfl⟩ := List.mem_map.1 ht
    exact sm.srcs n hn
  have h3 := sm.tables
  have h4 := sm.nodes
  have h5 := sm.outs
  rw [List.length_map] at h2
  unfold cntPatch cntII cntNodeS cntI
  omega
theorem patchRd_small (s : ByteArray) : cntPatch (patchRd s) ≤ 6291456 := by
  unfold patchRd
  cases h : readPI s with
  | none => simp [zP, cntPatch, cntII, cntNodeS, cntI, lens]
  | some x => exact cntPatch_smallR (okB_smallR ((readPI_iff s x).1 h).1)
theorem bne_str {a b : ByteArray} (h : a ≠ b) : (a.toList != b.toList) = true := by
  rw [bne, str_beq_false h]; rfl
set_option maxHeartbeats 8000000 in
set_option maxRecDepth 100000 in
theorem implReadPatch_v {s : ByteArray} (w : World) (hs : s.size ≤ 1048576) (hT : TxtT w) (hE : TxtE w) (hC : TxtC w) :
    Calls Tryz.prog 9 #[.string s] w (RetPt w s) := by
  obtain ⟨r, hr⟩ : ∃ r, r = w.heap.size := ⟨_, rfl⟩
  obtain ⟨E0, hE0⟩ : ∃ E, E = w.alloc (.cells #[.int .i64 0, .slice none 0 0, .slice none 0 0, .slice none 0 0] 28) := ⟨_, rfl⟩
  have hB0 : Below w.heap.size w E0 := by rw [hE0]; exact (Below.refl _ _).alloc (Nat.le_refl _) _
  have q0 : Box E0 r zPatch 28 := by rw [hE0, hr]; exact Box.newAt w zPatch _ rfl
  have RP := Lib.hid (readPatch_v E0 hs (hT.below hB0) (hE.below hB0) (hC.below hB0))
  have HNone : Hid (∀ W', readPI s = none → Below w.heap.size w W' → RetPt w s (.returned (.tuple #[.agg #[.int .i64 0, .slice none 0 0, .slice none 0 0, .slice none 0 0], .bool false])) W') := fun W' h hb => retPt_none h hb
  have HSome : Hid (∀ W' (x : PatchD) v1 v2 v3 L1 L, readPI s = some x → OwnP w.heap.size W' v1 v2 v3 x.tables x.nodes x.outputs L1 L → Below w.heap.size w W' → RetPt w s (.returned (.tuple #[.agg #[.int .i64 x.inputs, v1, v2, v3], .bool true])) W') := fun W' x v1 v2 v3 L1 L h ho hb => retPt_some h ho hb
  have HSQ : Hid (readPI s = checkP s (foldP stepI (linesB (trimN s)) zP)) := rfl
  have HT := Lib.hid (hT.below hB0)
  have HE0 := Lib.hid hE0
  have HRR := Lib.hid hr
  have HB0 := Lib.hid hB0
  have HQ0 := Lib.hid q0
  have hE02 : w.heap.size ≤ E0.heap.size := hB0.size
  generalize RetPt w s = RR at *
  clear hE0 hr hT hE hC hB0 q0
  cases hf : foldP stepI (linesB (trimN s)) zP with
  | none =>
    have HF0 : Hid (readPI s = none) := by unfold Hid; rw [HSQ.out, hf]; rfl
    have RP0 : Hid (Calls Tryz.prog 24 #[.string s] E0 fun e w' => e = .returned (.tuple #[.agg #[.int .i64 0, .slice none 0 0, .slice none 0 0, .slice none 0 0], .bool false]) ∧ Below E0.heap.size E0 w') := RP.out.mono fun e w' h => by
      obtain ⟨hb, h⟩ := h
      rw [hf] at h
      exact ⟨h, hb⟩
    clear hf RP HSQ
    go_enter Tryz.func9, Tryz.ntmps9
    go_upto_region 1 with fail
    rw [← HE0.out, ← HRR.out]
    go_upto_region 3 with (first | (go_at_call 24; refine RP0.out.mono ?_; rintro e w1 ⟨rfl, hb1⟩) | fail)
    have hwF : Below w1.heap.size w1 (w1.alloc (.cells #[.int .i64 0, .slice none 0 0, .slice none 0 0, .slice none 0 0] 28)) := (Below.refl _ _).alloc (Nat.le_refl _) _
    obtain ⟨F, hF⟩ : ∃ F, F = w1.alloc (.cells #[.int .i64 0, .slice none 0 0, .slice none 0 0, .slice none 0 0] 28) := ⟨_, rfl⟩
    rw [← hF] at hwF
    have bn : Box F w1.heap.size zPatch 28 := by rw [hF]; exact Box.newAt _ _ _ rfl
    have hpbF : PB E0.heap.size E0 F w1.heap.size 0 (.slice none 0 0) (.slice none 0 0) (.slice none 0 0) [] [] [] [] [] := ⟨OwnP.nil F (OwnI.nil _ _), bn, hb1.trans (hwF.mono hb1.size), Nat.le_refl _, hb1.size⟩
    rw [← hF]
    clear hF hwF bn hb1
    have hnone : readPI s = none := HF0.out
    have R1 := hpbF
    have hbx := HB0.out.trans (R1.bel.mono HB0.out.size)
    have bx2 := HQ0.out.below R1.bel
    have u0 := bx2.cell 0 rfl
    have u1 := bx2.cell 1 rfl
    have u2 := bx2.cell 2 rfl
    have u3 := bx2.cell 3 rfl
    have v0 := bx2.frozen 0
    have v1 := bx2.frozen 1
    have v2 := bx2.frozen 2
    have v3 := bx2.frozen 3
    obtain ⟨W', hW, bx, be⟩ := R1.exitZ bx2 hbx (by rw [HRR.out]; exact Nat.le_refl _)
    have k0' := bx.cell 0 rfl
    have k1' := bx.cell 1 rfl
    have k2' := bx.cell 2 rfl
    have k3' := bx.cell 3 rfl
    have FIN := Lib.hid (HNone.out W' hnone be)
    have HWW := Lib.hid hW
    clear hW bx be bx2 hbx R1 hnone
    go_wp2_with fail
    rw [← HWW.out]
    refine bodyPost_ret (v := .tuple #[.agg #[.int .i64 0, .slice none 0 0, .slice none 0 0, .slice none 0 0], .bool false]) (by simp [results, Tryz.results9, go_sem, *]) rfl ?_
    exact FIN.out
  | some p =>
    have HCK : Hid (readPI s = if okB p = true ∧ bs (patchStr p) = s then some p else none) := by unfold Hid; rw [HSQ.out, hf]; rfl
    have RP1 : Hid (Calls Tryz.prog 24 #[.string s] E0 fun e w' => ∃ p1 c1 p2 c2 p3 c3 L1 L, e = .returned (.tuple #[.agg #[.int .i64 p.inputs, .slice p1 p.tables.length c1, .slice p2 p.nodes.length c2, .slice p3 p.outputs.length c3], .bool true]) ∧ OwnP E0.heap.size w' (.slice p1 p.tables.length c1) (.slice p2 p.nodes.length c2) (.slice p3 p.outputs.length c3) p.tables p.nodes p.outputs L1 L ∧ Below E0.heap.size E0 w') := RP.out.mono fun e w' h => by
      obtain ⟨hb, h⟩ := h
      rw [hf] at h
      obtain ⟨v1, v2, v3, L1, L, he, ho⟩ := h
      obtain ⟨p1, c1, p2, c2, p3, c3, ep, -, -, -⟩ := (ho.patch p.inputs).1.rd
      simp only [Value.agg.injEq, Array.mk.injEq, List.cons.injEq, and_true, true_and] at ep
      obtain ⟨rfl, rfl, rfl⟩ := ep
      exact ⟨p1, c1, p2, c2, p3, c3, L1, L, he, ho, hb⟩
    clear hf RP HSQ
    go_enter Tryz.func9, Tryz.ntmps9
    go_upto_region 1 with fail
    rw [← HE0.out, ← HRR.out]
    go_upto_region 2 with (first | (go_at_call 24; refine RP1.out.mono ?_; rintro e w1 ⟨p1, c1, p2, c2, p3, c3, L1, L, rfl, ho, hb1⟩) | fail)
    obtain ⟨F, hF⟩ : ∃ F, F = w1.alloc (.cells #[.int .i64 p.inputs, .slice p1 p.tables.length c1, .slice p2 p.nodes.length c2, .slice p3 p.outputs.length c3] 28) := ⟨_, rfl⟩
    have hwF : Below w1.heap.size w1 F := by rw [hF]; exact (Below.refl _ _).alloc (Nat.le_refl _) _
    have bn : Box F w1.heap.size [.int .i64 p.inputs, .slice p1 p.tables.length c1, .slice p2 p.nodes.length c2, .slice p3 p.outputs.length c3] 28 := by rw [hF]; exact Box.newAt _ _ _ rfl
    have hpb : PB E0.heap.size E0 F w1.heap.size p.inputs (.slice p1 p.tables.length c1) (.slice p2 p.nodes.length c2) (.slice p3 p.outputs.length c3) p.tables p.nodes p.outputs L1 L := ⟨ho.below hwF, bn, hb1.trans (hwF.mono hb1.size), Nat.le_refl _, hb1.size⟩
    obtain ⟨g, hg⟩ : ∃ g, g = w1.heap.size := ⟨_, rfl⟩
    rw [← hF]
    rw [← hg] at hpb ⊢
    have hvp : VPatch F (.agg #[.int .i64 p.inputs, .slice p1 p.tables.length c1, .slice p2 p.nodes.length c2, .slice p3 p.outputs.length c3]) p := (hpb.own.patch p.inputs).1.rd
    have OKP := Lib.hid (isPatch_v F hvp)
    have LTX : Hid (okB p = true → ∀ W, Below F.heap.size F W → Calls Tryz.prog 25 #[.agg #[.int .i64 p.inputs, .slice p1 p.tables.length c1, .slice p2 p.nodes.length c2, .slice p3 p.outputs.length c3]] W fun e w' => e = .returned (.string (bs (patchStr p))) ∧ Below W.heap.size W w') := fun hk W hW => patchText_v W (hvp.below hW) hk ((HT.out.below hpb.bel).below hW)
    have y0 := hpb.out.cell 0 rfl
    have y1 := hpb.out.cell 1 rfl
    have y2 := hpb.out.cell 2 rfl
    have y3 := hpb.out.cell 3 rfl
    have HPB := Lib.hid hpb
    clear hF hg hvp hwF bn hb1 ho hpb RP1
    cases hok : okB p
    · rw [hok] at OKP
      have HF0 : Hid (readPI s = none) := by unfold Hid; rw [HCK.out, if_neg (by rw [hok]; simp)]
      clear hok LTX HCK
      go_upto_region 3 with (first | (go_at_call 22; refine OKP.out.mono ?_; rintro e w2 ⟨rfl, hb2⟩) | fail)
      have hpbF := HPB.out.below hb2
      have hnone : readPI s = none := HF0.out
      have R1 := hpbF
      have hbx := HB0.out.trans (R1.bel.mono HB0.out.size)
      have bx2 := HQ0.out.below R1.bel
      have u0 := bx2.cell 0 rfl
      have u1 := bx2.cell 1 rfl
      have u2 := bx2.cell 2 rfl
      have u3 := bx2.cell 3 rfl
      have v0 := bx2.frozen 0
      have v1 := bx2.frozen 1
      have v2 := bx2.frozen 2
      have v3 := bx2.frozen 3
      obtain ⟨W', hW, bx, be⟩ := R1.exitZ bx2 hbx (by rw [HRR.out]; exact Nat.le_refl _)
      have k0' := bx.cell 0 rfl
      have k1' := bx.cell 1 rfl
      have k2' := bx.cell 2 rfl
      have k3' := bx.cell 3 rfl
      have FIN := Lib.hid (HNone.out W' hnone be)
      have HWW := Lib.hid hW
      clear hW bx be bx2 hbx R1 hnone
      go_wp2_with fail
      rw [← HWW.out]
      refine bodyPost_ret (v := .tuple #[.agg #[.int .i64 0, .slice none 0 0, .slice none 0 0, .slice none 0 0], .bool false]) (by simp [results, Tryz.results9, go_sem, *]) rfl ?_
      exact FIN.out
    · rw [hok] at OKP
      have LT2 := Lib.hid (LTX.out hok)
      clear LTX
      by_cases hq : bs (patchStr p) = s
      · have hsome : readPI s = some p := by rw [HCK.out, if_pos ⟨hok, hq⟩]
        rw [hq] at LT2
        have HSM := Lib.hid hsome
        clear hok hq hsome HCK
        go_upto_region 4 with (first | (go_at_call 22; refine OKP.out.mono ?_; rintro e w2 ⟨rfl, hb2⟩; have hz := HPB.out.out.below hb2; have z0 := hz.cell 0 rfl; have z1 := hz.cell 1 rfl; have z2 := hz.cell 2 rfl; have z3 := hz.cell 3 rfl; clear hz) | (go_at_call 25; refine (LT2.out _ hb2).mono ?_; rintro e w3 ⟨rfl, hb3⟩) | fail)
        have R1 := (HPB.out.below hb2).below hb3
        have hbx := HB0.out.trans (R1.bel.mono HB0.out.size)
        have bx2 := HQ0.out.below R1.bel
        have u0 := bx2.cell 0 rfl
        have u1 := bx2.cell 1 rfl
        have u2 := bx2.cell 2 rfl
        have u3 := bx2.cell 3 rfl
        have f0 := bx2.frozen 0
        have f1 := bx2.frozen 1
        have f2 := bx2.frozen 2
        have f3 := bx2.frozen 3
        have x0 := R1.out.cell 0 rfl
        have x1 := R1.out.cell 1 rfl
        have x2 := R1.out.cell 2 rfl
        have x3 := R1.out.cell 3 rfl
        obtain ⟨W', hW, bx, be, ou⟩ := R1.exitP bx2 hbx (by rw [HRR.out]; exact Nat.le_refl _) hE02
        have k0' := bx.cell 0 rfl
        have k1' := bx.cell 1 rfl
        have k2' := bx.cell 2 rfl
        have k3' := bx.cell 3 rfl
        have FIN := Lib.hid (HSome.out W' p _ _ _ _ _ HSM.out ou be)
        have HWW := Lib.hid hW
        clear hW bx be ou bx2 hbx R1
        go_wp2_with fail
        rw [← HWW.out]
        refine bodyPost_ret (v := .tuple #[.agg #[.int .i64 p.inputs, .slice p1 p.tables.length c1, .slice p2 p.nodes.length c2, .slice p3 p.outputs.length c3], .bool true]) (by simp [results, Tryz.results9, go_sem, *]) rfl ?_
        exact FIN.out
      · have HF0 : Hid (readPI s = none) := by unfold Hid; rw [HCK.out, if_neg (fun h => hq h.2)]
        have hqb := str_beq_false hq
        have hqn := bne_str hq
        generalize bs (patchStr p) = ST at hqb hqn LT2
        clear hok hq HCK
        go_upto_region 3 with (first | (go_at_call 22; refine OKP.out.mono ?_; rintro e w2 ⟨rfl, hb2⟩; have hz := HPB.out.out.below hb2; have z0 := hz.cell 0 rfl; have z1 := hz.cell 1 rfl; have z2 := hz.cell 2 rfl; have z3 := hz.cell 3 rfl; clear hz) | (go_at_call 25; refine (LT2.out _ hb2).mono ?_; rintro e w3 ⟨rfl, hb3⟩) | fail)
        have hpbF := (HPB.out.below hb2).below hb3
        have hnone : readPI s = none := HF0.out
        have R1 := hpbF
        have hbx := HB0.out.trans (R1.bel.mono HB0.out.size)
        have bx2 := HQ0.out.below R1.bel
        have u0 := bx2.cell 0 rfl
        have u1 := bx2.cell 1 rfl
        have u2 := bx2.cell 2 rfl
        have u3 := bx2.cell 3 rfl
        have v0 := bx2.frozen 0
        have v1 := bx2.frozen 1
        have v2 := bx2.frozen 2
        have v3 := bx2.frozen 3
        obtain ⟨W', hW, bx, be⟩ := R1.exitZ bx2 hbx (by rw [HRR.out]; exact Nat.le_refl _)
        have k0' := bx.cell 0 rfl
        have k1' := bx.cell 1 rfl
        have k2' := bx.cell 2 rfl
        have k3' := bx.cell 3 rfl
        have FIN := Lib.hid (HNone.out W' hnone be)
        have HWW := Lib.hid hW
        clear hW bx be bx2 hbx R1 hnone
        go_wp2_with fail
        rw [← HWW.out]
        refine bodyPost_ret (v := .tuple #[.agg #[.int .i64 0, .slice none 0 0, .slice none 0 0, .slice none 0 0], .bool false]) (by simp [results, Tryz.results9, go_sem, *]) rfl ?_
        exact FIN.out
end Go.Proofs.YtaapkpjokmoekaaGreatDoor
