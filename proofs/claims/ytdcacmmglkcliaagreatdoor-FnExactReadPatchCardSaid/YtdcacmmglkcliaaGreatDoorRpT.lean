/-
  Reading a patch, on the reference's side: the walk.
-/
import Derived.Test.YtdcacmmglkcliaaGreatDoorRpS
namespace Go.Proofs.YtdcacmmglkcliaaGreatDoor
open Go.ChangeShapes Go.WideShapes Go.ChangeAt Go.RowKit Go.Sort
set_option linter.unusedVariables false
set_option linter.unusedSimpArgs false

theorem strB_cell {w : World} {B : Nat} {v : Value} {P : List ByteArray} (h : OwnV B w 9 v (strB P)) {k : Nat} (hk : k < P.length) : ∃ g c, v = .slice (some ⟨g, 0, none⟩) P.length c ∧ w.cell? ⟨g, k, none⟩ = some (.string P[k]) := by
  have hl : (strB P).length = P.length := by simp [strB]
  rcases h.cases with ⟨-, h0⟩ | ⟨g, c, e, -, -, -, hr⟩
  · rw [h0] at hl; simp at hl; omega
  · rw [hl] at e
    refine ⟨g, c, e, ?_⟩
    rcases hr.cells with h0 | ⟨b, o, e1, hc⟩
    · rw [h0] at hl; simp at hl; omega
    · simp only [Option.some.injEq, Addr.mk.injEq, and_true] at e1
      obtain ⟨rfl, rfl⟩ := e1
      have := hc k (by rw [hl]; exact hk)
      rw [Nat.zero_add] at this
      rw [this]; simp [strB]
/-- which of the three words a word is -/
theorem word_cases (k : ByteArray) : (k = wPatch) ∨ (k = wValues) ∨ (k = wOut) ∨ (k ≠ wPatch ∧ k ≠ wValues ∧ k ≠ wOut) := by
  by_cases h1 : k = wPatch
  · exact .inl h1
  by_cases h2 : k = wValues
  · exact .inr (.inl h2)
  by_cases h3 : k = wOut
  · exact .inr (.inr (.inl h3))
  exact .inr (.inr (.inr ⟨h1, h2, h3⟩))
theorem toL (l : List UInt8) : (⟨l.toArray⟩ : ByteArray).toList = l := by rw [ByteArray.toList_eq]
theorem is_word {k : ByteArray} {l : List UInt8} (h : k = ⟨l.toArray⟩) : (k.toList == l) = true := by rw [h, toL]; simp
theorem no_word {k : ByteArray} {l : List UInt8} (h : k ≠ ⟨l.toArray⟩) : (k.toList == l) = false := by
  rw [beq_eq_false_iff_ne]
  intro e
  exact h (str_ext (by rw [e, toL]))
theorem word_bools (k : ByteArray) : ∃ b1 b2 b3 : Bool, (k.toList == [112, 97, 116, 99, 104]) = b1 ∧ (k.toList == [118, 97, 108, 117, 101, 115]) = b2 ∧ (k.toList == [111, 117, 116]) = b3 ∧
    ((b1 = true ∧ b2 = false ∧ b3 = false ∧ k = wPatch) ∨ (b1 = false ∧ b2 = true ∧ b3 = false ∧ k = wValues) ∨ (b1 = false ∧ b2 = false ∧ b3 = true ∧ k = wOut) ∨ (b1 = false ∧ b2 = false ∧ b3 = false ∧ k ≠ wPatch ∧ k ≠ wValues ∧ k ≠ wOut)) := by
  rcases word_cases k with h | h | h | ⟨h1, h2, h3⟩
  · exact ⟨true, false, false, is_word h, no_word (by rw [h]; decide), no_word (by rw [h]; decide), .inl ⟨rfl, rfl, rfl, h⟩⟩
  · exact ⟨false, true, false, no_word (by rw [h]; decide), is_word h, no_word (by rw [h]; decide), .inr (.inl ⟨rfl, rfl, rfl, h⟩)⟩
  · exact ⟨false, false, true, no_word (by rw [h]; decide), no_word (by rw [h]; decide), is_word h, .inr (.inr (.inl ⟨rfl, rfl, rfl, h⟩))⟩
  · exact ⟨false, false, false, no_word h1, no_word h2, no_word h3, .inr (.inr (.inr ⟨rfl, rfl, rfl, h1, h2, h3⟩))⟩
/-- how a line goes: the tests' results, and what becomes of the patch -/
theorem stepR_ways (p : PatchD) (line : ByteArray) (k0 : ByteArray) (hk0 : (partsB line).headD ⟨#[]⟩ = k0) :
    (∃ ns n, numsS (partsB line) = some ns ∧ k0 = wPatch ∧ ns = [n] ∧ stepR p line = some (setIn p n)) ∨
    (∃ ns, numsS (partsB line) = some ns ∧ k0 = wValues ∧ stepR p line = some (addTable p ns)) ∨
    (∃ ns, numsS (partsB line) = some ns ∧ k0 = wOut ∧ stepR p line = some (setOut p ns)) ∨
    (stepR p line = (readN line).map (addNode p) ∧ (numsS (partsB line) = none ∨ (∃ ns, numsS (partsB line) = some ns ∧ ((k0 = wPatch ∧ ns.length ≠ 1) ∨ (k0 ≠ wPatch ∧ k0 ≠ wValues ∧ k0 ≠ wOut))))) := by
  unfold stepR
  simp only [hk0]
  cases hn : numsS (partsB line) with
  | none => exact .inr (.inr (.inr ⟨rfl, .inl rfl⟩))
  | some ns =>
    simp only
    by_cases h1 : k0 = wPatch ∧ ns.length = 1
    · left
      match ns, h1.2 with
      | [n], _ => exact ⟨[n], n, rfl, h1.1, rfl, by rw [if_pos h1]; rfl⟩
    · rw [if_neg h1]
      by_cases h2 : k0 = wValues
      · exact .inr (.inl ⟨ns, rfl, h2, by rw [if_pos h2]⟩)
      · rw [if_neg h2]
        by_cases h3 : k0 = wOut
        · exact .inr (.inr (.inl ⟨ns, rfl, h3, by rw [if_pos h3]⟩))
        · rw [if_neg h3]
          refine .inr (.inr (.inr ⟨rfl, .inr ⟨ns, rfl, ?_⟩⟩))
          by_cases h4 : k0 = wPatch
          · exact .inl ⟨h4, fun e => h1 ⟨h4, e⟩⟩
          · exact .inr ⟨h4, h2, h3⟩
theorem PB.exitZ {B : Nat} {w0 w : World} {s : Nat} {inp : Int} {v1 v2 v3 : Value} {ts : List (List Int)} {ns : List NodeD} {os : List Int} {L1 L : List Value} {r : Nat} {W0 : World} (h : PB B w0 w s inp v1 v2 v3 ts ns os L1 L) (hres : Box w r zPatch 46) (hb : Below W0.heap.size W0 w) (hr : W0.heap.size ≤ r) :
    ∃ W', W' = (((w.setCell ⟨r, 0, none⟩ (.int .i64 0)).setCell ⟨r, 1, none⟩ (.slice none 0 0)).setCell ⟨r, 2, none⟩ (.slice none 0 0)).setCell ⟨r, 3, none⟩ (.slice none 0 0) ∧ Box W' r zPatch 46 ∧ Below W0.heap.size W0 W' := by
  have b0 := hres.set 0 (.int .i64 0)
  have b1 := b0.set 1 (.slice none 0 0)
  have b2 := b1.set 2 (.slice none 0 0)
  have b3 := b2.set 3 (.slice none 0 0)
  exact ⟨_, rfl, by simpa [zPatch] using b3, (((hb.setCell (p := ⟨r, 0, none⟩) hr _).setCell (p := ⟨r, 1, none⟩) hr _).setCell (p := ⟨r, 2, none⟩) hr _).setCell (p := ⟨r, 3, none⟩) hr _⟩
theorem head_get {Q : List ByteArray} (h : 1 ≤ Q.length) : Q[0]'(by omega) = Q.headD ⟨#[]⟩ := by
  match Q, h with
  | y :: Q', _ => rfl
theorem PB.exitP {B : Nat} {w0 w : World} {s : Nat} {inp : Int} {v1 v2 v3 : Value} {ts : List (List Int)} {ns : List NodeD} {os : List Int} {L1 L : List Value} {r : Nat} {W0 : World} (h : PB B w0 w s inp v1 v2 v3 ts ns os L1 L) (hres : Box w r zPatch 46) (hb : Below W0.heap.size W0 w) (hr : W0.heap.size ≤ r) (hB : W0.heap.size ≤ B) :
    ∃ W', W' = (((w.setCell ⟨r, 0, none⟩ (.int .i64 inp)).setCell ⟨r, 1, none⟩ v1).setCell ⟨r, 2, none⟩ v2).setCell ⟨r, 3, none⟩ v3 ∧ Box W' r [.int .i64 inp, v1, v2, v3] 46 ∧ Below W0.heap.size W0 W' ∧ OwnP W0.heap.size W' v1 v2 v3 ts ns os L1 L := by
  have b0 := hres.set 0 (.int .i64 inp)
  have b1 := b0.set 1 v1
  have b2 := b1.set 2 v2
  have b3 := b2.set 3 v3
  exact ⟨_, rfl, by simpa [zPatch] using b3, (((hb.setCell (p := ⟨r, 0, none⟩) hr _).setCell (p := ⟨r, 1, none⟩) hr _).setCell (p := ⟨r, 2, none⟩) hr _).setCell (p := ⟨r, 3, none⟩) hr _, (((((h.own.setBox hres patchT 0 _).setBox b0 patchT 1 _).setBox b1 patchT 2 _).setBox b2 patchT 3 _)).mono hB⟩
theorem OwnV.rdV {B : Nat} {w : World} {v : Value} {P : List ByteArray} (h : OwnV B w 9 v (strB P)) : ∃ p c, v = .slice p P.length c ∧ RdV w p (strB P) := by
  have hl : (strB P).length = P.length := by simp [strB]
  rcases h.cases with ⟨e, h0⟩ | ⟨g, c, e, -, -, -, hr⟩
  · have : P = [] := by rw [h0] at hl; exact List.eq_nil_of_length_eq_zero hl.symm
    subst this
    exact ⟨none, 0, e, RdV.none0 _ _⟩
  · rw [hl] at e; exact ⟨_, c, e, hr⟩
set_option maxHeartbeats 16000000 in
set_option maxRecDepth 100000 in
theorem specReadPatch_v {s : ByteArray} (w : World) (hs : s.size ≤ 1048576) :
    Calls Tryz.prog 17 #[.string s] w (RetPt w s) := by
  obtain ⟨P, hP⟩ : ∃ P, P = linesB s := ⟨_, rfl⟩
  have hPl : P.length ≤ 1048577 := by rw [hP]; have := linesB_le s; omega
  have hP1 : 1 ≤ P.length := by
    rw [hP]
    have := linesB_ne s
    cases h : linesB s with
    | nil => exact absurd h this
    | cons x y => simp
  have HPs : Hid (∀ x ∈ P, x.size ≤ 1048576) := fun x hx => by rw [hP] at hx; have := linesB_size hx; omega
  obtain ⟨r, hr⟩ : ∃ r, r = w.heap.size := ⟨_, rfl⟩
  obtain ⟨E0, hE0⟩ : ∃ E, E = w.alloc (.cells #[.int .i64 0, .slice none 0 0, .slice none 0 0, .slice none 0 0] 46) := ⟨_, rfl⟩
  have hB0 : Below w.heap.size w E0 := by rw [hE0]; exact (Below.refl _ _).alloc (Nat.le_refl _) _
  have q0 : Box E0 r zPatch 46 := by rw [hE0, hr]; exact Box.newAt w zPatch _ rfl
  have SP := Lib.hid (l01SplitN_any s E0 hs)
  rw [← hP] at SP
  have HNone : Hid (∀ W', readPI s = none → Below w.heap.size w W' → RetPt w s (.returned (.tuple #[.agg #[.int .i64 0, .slice none 0 0, .slice none 0 0, .slice none 0 0], .bool false])) W') := fun W' h hb => retPt_none h hb
  have HSome : Hid (∀ W' (x : PatchD) v1 v2 v3 L1 L, readPI s = some x → OwnP w.heap.size W' v1 v2 v3 x.tables x.nodes x.outputs L1 L → Below w.heap.size w W' → RetPt w s (.returned (.tuple #[.agg #[.int .i64 x.inputs, v1, v2, v3], .bool true])) W') := fun W' x v1 v2 v3 L1 L h ho hb => retPt_some h ho hb
  have HSP : Hid (readPI s = if 31 < P.length then none else checkP s (foldP stepR (P.take (P.length - 1)) zP)) := by unfold Hid; rw [← readP_eq, hP]; rfl
  have HE0 := Lib.hid hE0
  have HRR := Lib.hid hr
  have HB0 := Lib.hid hB0
  generalize RetPt w s = RR at *
  clear hE0 hP hr
  obtain ⟨n, hn⟩ : ∃ n, n = P.length := ⟨_, rfl⟩
  have HN := Lib.hid hn
  rw [← hn] at hPl hP1 HSP
  go_enter Tryz.func17, Tryz.ntmps17
  go_upto_region 2 with (first | (go_at_call 46; rw [← HE0.out]; refine SP.out.mono ?_; rintro e E1 ⟨uw, rfl, hw1, hb1⟩) | fail)
  have hB1 := hB0.trans (hb1.mono hB0.size)
  have q1 := q0.below hb1
  obtain ⟨gw, cw, e1, -⟩ := strB_cell hw1 (k := 0) (by omega)
  subst e1
  rw [← hn]
  have HW := Lib.hid hw1
  obtain ⟨g, hg⟩ : ∃ g, g = E1.heap.size := ⟨_, rfl⟩
  obtain ⟨E2, hE2⟩ : ∃ E, E = E1.alloc (.cells #[.int .i64 0, .slice none 0 0, .slice none 0 0, .slice none 0 0] 46) := ⟨_, rfl⟩
  have hpb0 : PB E1.heap.size E1 E2 g 0 (.slice none 0 0) (.slice none 0 0) (.slice none 0 0) [] [] [] [] [] := by
    rw [hE2, hg]
    exact PB.new (OwnP.nil E1 (OwnI.nil _ _)) (Below.refl _ _)
  have HPB := Lib.hid hpb0
  have HG := Lib.hid hg
  have HE2 := Lib.hid hE2
  have HB1 := Lib.hid hB1
  have HQ1 := Lib.hid q1
  clear hn hw1 hb1 hB1 q0 q1 hB0 hpb0 hE2 hg
  rw [← HRR.out]
  by_cases h31 : 31 < n
  · skip
    have hnone : readPI s = none := by rw [HSP.out, if_pos h31]
    have R1 := HPB.out
    have hbx := HB1.out.trans (R1.bel.mono HB1.out.size)
    have bx2 := HQ1.out.below R1.bel
    have u0 := bx2.cell 0 rfl
    have u1 := bx2.cell 1 rfl
    have u2 := bx2.cell 2 rfl
    have u3 := bx2.cell 3 rfl
    have v0 := bx2.frozen 0
    have v1 := bx2.frozen 1
    have v2 := bx2.frozen 2
    have v3 := bx2.frozen 3
    obtain ⟨W', hW, bx, be⟩ := R1.exitZ bx2 hbx (by rw [HRR.out]; exact Nat.le_refl _)
    have k0' := bx.cell 0 rfl
    have k1' := bx.cell 1 rfl
    have k2' := bx.cell 2 rfl
    have k3' := bx.cell 3 rfl
    have FIN := Lib.hid (HNone.out W' hnone be)
    have HWW := Lib.hid hW
    clear hW bx be bx2 hbx R1 hnone
    go_upto_region 3 with fail
    rw [← HE2.out]
    go_wp2_with fail
    rw [← HWW.out]
    refine bodyPost_ret (v := .tuple #[.agg #[.int .i64 0, .slice none 0 0, .slice none 0 0, .slice none 0 0], .bool false]) (by simp [results, Tryz.results17, go_sem, *]) rfl ?_
    exact FIN.out
  have HSQ : Hid (readPI s = checkP s (foldP stepR (P.take (n - 1)) zP)) := by unfold Hid; rw [HSP.out, if_neg h31]
  have hn31 : n ≤ 31 := by omega
  clear h31 hPl HSP
  have h31d : decide ((31 : Int) < (n : Int)) = false := by simp; omega
  go_upto_region 3 with fail
  rw [← HE2.out, ← HG.out]
  go_wp2_with fail
  go_loopw [6] (fun i wr => ∃ (k : Nat) (p : PatchD) (v1 v2 v3 : Value) (L1 L : List Value), k < n ∧ i = .int .i64 (k : Int) ∧ foldP stepR (P.take k) zP = some p ∧ PB E1.heap.size E1 wr g p.inputs v1 v2 v3 p.tables p.nodes p.outputs L1 L ∧ p.tables.length ≤ k ∧ p.nodes.length ≤ k) (fun i _ => n - (intOf i).toNat)
  case atStart => exact ⟨0, zP, _, _, _, _, _, by omega, rfl, rfl, HPB.out, Nat.le_refl _, Nat.le_refl _⟩
  case round =>
    obtain ⟨k, p, v1, v2, v3, L1, L, hk, rfl, hf, hpb, ht, hnn⟩ := hrel
    have HF := Lib.hid hf
    have HPK := Lib.hid hpb
    clear hf hpb HPB
    obtain ⟨wi, rfl⟩ : ∃ wi : World, wi = wr := ⟨_, rfl⟩
    by_cases hlt : k + 1 < n
    · have hkP : k < P.length := by have := HN.out; omega
      obtain ⟨gw', cw', e1, hck⟩ := strB_cell (HW.out.below HPK.out.bel) hkP
      simp only [Value.slice.injEq, Option.some.injEq, Addr.mk.injEq, and_true] at e1
      obtain ⟨rfl, -, rfl⟩ := e1
      have hxs := HPs.out _ (List.getElem_mem hkP)
      have HSTEP : Hid (∀ q, stepR p P[k] = some q → foldP stepR (P.take (k + 1)) zP = some q) := fun q h => by
        rw [List.take_succ_eq_append_getElem hkP, foldP_snoc, HF.out]; exact h
      have HFAIL : Hid (stepR p P[k] = none → readPI s = none) := fun h => by
        rw [HSQ.out]
        have : foldP stepR ((P.take (n - 1)).take (k + 1)) zP = none := by
          rw [List.take_take, Nat.min_eq_left (by omega), List.take_succ_eq_append_getElem hkP, foldP_snoc, HF.out]; exact h
        rw [foldP_stop this]; rfl
      clear HF
      generalize P[k] = x at hck hxs HSTEP HFAIL
      obtain ⟨Q, hQ⟩ : ∃ Q, Q = partsB x := ⟨_, rfl⟩
      have hQ1 : 1 ≤ Q.length := by rw [hQ]; exact partsB_ne x
      have hQl : Q.length ≤ 1048577 := by rw [hQ]; have := partsB_le x; omega
      have HQs : Hid (∀ y ∈ Q, y.size ≤ 1048576) := fun y hy => by rw [hQ] at hy; have := partsB_size hy; omega
      have SQ := Lib.hid (l01Split_any x wi hxs)
      rw [← hQ] at SQ
      have HWAY := Lib.hid (stepR_ways p x (Q.headD ⟨#[]⟩) (by rw [hQ]))
      rw [← hQ] at HWAY
      have HRD : Hid (∀ W, Calls Tryz.prog 48 #[.string x] W (RetNd W x)) := fun W => specReadNode_v W hxs
      clear hQ
      go_upto_region 9 with (first | (go_at_call 46; refine SQ.out.mono ?_; rintro e w1 ⟨uq, rfl, hwq, hb1⟩) | fail)
      obtain ⟨gq, cq, e2, hcq⟩ := strB_cell hwq (k := 0) (by omega)
      subst e2
      have hpb1 := HPK.out.below hb1
      have NUM : Hid (Calls Tryz.prog 47 #[.slice (some ⟨gq, 0, none⟩) Q.length cq] w1 (RetNumS w1 Q)) := by
        obtain ⟨p', c', e3, hrq⟩ := hwq.rdV
        simp only [Value.slice.injEq] at e3
        obtain ⟨rfl, -, -⟩ := e3
        exact l07Numbers_any w1 hrq (by omega) hQ1 HQs.out
      have HWQ := Lib.hid hwq
      have HCQ : Hid (w1.cell? ⟨gq, 0, none⟩ = some (.string (Q.headD ⟨#[]⟩))) := by
        unfold Hid; rw [hcq, head_get hQ1]
      have hgq : gq < w1.heap.size := (hwq.lt (k := gq) rfl).2
      have hx1 := (hb1.cell (p := ⟨gw, k, none⟩) (World.block_lt_of_cell? _ _ hck)).trans hck
      have hgw1 : gw < w1.heap.size := World.block_lt_of_cell? _ _ hx1
      have HX1 := Lib.hid hx1
      have hzi : wi.heap.size ≤ w1.heap.size := hb1.size
      clear hcq hwq hck hb1 hx1
      generalize Q.headD ⟨#[]⟩ = k0 at HWAY HCQ
      obtain ⟨b1, b2, b3, q1, q2, q3, hwd⟩ := word_bools k0
      have hcq := HCQ.out
      rcases HWAY.out with ⟨ns, nn, hN, hk0, rfl, hst⟩ | ⟨ns, hN, hk0, hst⟩ | ⟨ns, hN, hk0, hst⟩ | ⟨hst, hD⟩
      · obtain ⟨rfl, rfl, rfl⟩ : b1 = true ∧ b2 = false ∧ b3 = false := by
          rcases hwd with ⟨h1, h2, h3, -⟩ | ⟨-, -, -, h⟩ | ⟨-, -, -, h⟩ | ⟨-, -, -, h, -⟩
          · exact ⟨h1, h2, h3⟩
          · rw [hk0] at h; exact absurd h (by decide)
          · rw [hk0] at h; exact absurd h (by decide)
          · exact absurd hk0 h
        have HFN := Lib.hid (HSTEP.out _ hst)
        have NUM2 : Hid (Calls Tryz.prog 47 #[.slice (some ⟨gq, 0, none⟩) Q.length cq] w1 fun e w' => ∃ u, e = .returned (.tuple #[u, .bool true]) ∧ OwnI w1.heap.size w' u [nn] ∧ Below w1.heap.size w1 w') := NUM.out.mono fun e w' h => by
          obtain ⟨hb, h⟩ := h
          rw [hN] at h
          obtain ⟨u, he, ho⟩ := h
          exact ⟨u, he, ho, hb⟩
        clear HSTEP HFAIL HWAY NUM HRD hst hN
        clear hk0 hwd
        go_upto_region 14 with (first | (go_at_call 47; refine NUM2.out.mono ?_; rintro e w2 ⟨u, rfl, ho, hb2⟩) | fail)
        have hpb2 := hpb1.below hb2
        rcases ho.cases with ⟨-, h0⟩ | ⟨gu, cu, rfl, -, -, -, hru⟩
        · exact absurd h0 (by simp)
        obtain ⟨bu, ou, e3, -, hcu⟩ := hru.pos (k := 0) (by simp)
        simp only [Option.some.injEq, Addr.mk.injEq, and_true] at e3
        obtain ⟨rfl, rfl⟩ := e3
        have hcn : w2.cell? ⟨gu, 0, none⟩ = some (.int .i64 nn) := by have := hcu 0 (by simp); simpa using this
        have hcq2 := (hb2.cell (p := ⟨gq, 0, none⟩) hgq).trans hcq
        have f0 := hpb2.out.frozen 0
        have c0 := hpb2.out.cell 0 rfl
        have HP2 := Lib.hid (hpb2.inp nn)
        clear hcu hru ho hcq hpb1 hpb2 hb2
        go_wp2_with fail
        go_roundw
        case rel => exact ⟨k + 1, setIn p nn, v1, v2, v3, L1, L, by omega, by go_num, HFN.out, HP2.out, by show p.tables.length ≤ k + 1; omega, by show p.nodes.length ≤ k + 1; omega⟩
        case measure => simp [intOf] <;> omega
      · obtain ⟨rfl, rfl, rfl⟩ : b1 = false ∧ b2 = true ∧ b3 = false := by
          rcases hwd with ⟨-, -, -, h⟩ | ⟨h1, h2, h3, -⟩ | ⟨-, -, -, h⟩ | ⟨-, -, -, -, h, -⟩
          · rw [hk0] at h; exact absurd h (by decide)
          · exact ⟨h1, h2, h3⟩
          · rw [hk0] at h; exact absurd h (by decide)
          · exact absurd hk0 h
        have HFN := Lib.hid (HSTEP.out _ hst)
        have NUM2 : Hid (Calls Tryz.prog 47 #[.slice (some ⟨gq, 0, none⟩) Q.length cq] w1 fun e w' => ∃ u, e = .returned (.tuple #[u, .bool true]) ∧ OwnI w1.heap.size w' u ns ∧ Below w1.heap.size w1 w') := NUM.out.mono fun e w' h => by
          obtain ⟨hb, h⟩ := h
          rw [hN] at h
          obtain ⟨u, he, ho⟩ := h
          exact ⟨u, he, ho, hb⟩
        clear HSTEP HFAIL HWAY NUM HRD hst hN
        clear hk0 hwd
        go_upto_region 14 with (first | (go_at_call 47; refine NUM2.out.mono ?_; rintro e w2 ⟨u, rfl, ho, hb2⟩) | fail)
        have hpb2 := hpb1.below hb2
        obtain ⟨qu, cu, rfl, -⟩ := ho.rd
        have hcq2 := (hb2.cell (p := ⟨gq, 0, none⟩) hgq).trans hcq
        have c1 := hpb2.out.cell 1 rfl
        have hu2 := ho.mono (B' := E1.heap.size) (by have := HPK.out.bel.size; omega)
        have hnew := hpb1.fresh ho (Nat.le_refl _)
        have o1 := hpb2.own.o1
        have hlen : L1.length < 1099511627776 := by have := hpb2.own.s1.1; omega
        have hBs : E1.heap.size ≤ w2.heap.size := hpb2.bel.size
        have HP2 := Lib.hid hpb2
        have HU2 := Lib.hid hu2
        have HNW := Lib.hid hnew
        clear ho hcq hpb1 hpb2 hb2 hu2 hnew
        go_wp2_with (first | (at_builtin; refine wpList_append_valG rfl _ _ rfl 24 (.slice none 0 0) Tryz.underlying27 infoII rfl (by omega) rfl o1 rfl rfl hlen hBs ?_; intro v' w4 hv hg; obtain ⟨vp, vc, rfl⟩ := hv.slS; have PN := HP2.out.table HU2.out HNW.out hv hg; have t1 := PN.1.1; have t2 := PN.1.2; have HPN := Lib.hid PN.2; clear PN hv hg) | fail)
        go_roundw
        case rel => exact ⟨k + 1, addTable p ns, _, v2, v3, _, L, by omega, by go_num, HFN.out, HPN.out, by show (p.tables ++ [ns]).length ≤ k + 1; simp; omega, by show p.nodes.length ≤ k + 1; omega⟩
        case measure => simp [intOf] <;> omega
      · obtain ⟨rfl, rfl, rfl⟩ : b1 = false ∧ b2 = false ∧ b3 = true := by
          rcases hwd with ⟨-, -, -, h⟩ | ⟨-, -, -, h⟩ | ⟨h1, h2, h3, -⟩ | ⟨-, -, -, -, -, h⟩
          · rw [hk0] at h; exact absurd h (by decide)
          · rw [hk0] at h; exact absurd h (by decide)
          · exact ⟨h1, h2, h3⟩
          · exact absurd hk0 h
        have HFN := Lib.hid (HSTEP.out _ hst)
        have NUM2 : Hid (Calls Tryz.prog 47 #[.slice (some ⟨gq, 0, none⟩) Q.length cq] w1 fun e w' => ∃ u, e = .returned (.tuple #[u, .bool true]) ∧ OwnI w1.heap.size w' u ns ∧ Below w1.heap.size w1 w') := NUM.out.mono fun e w' h => by
          obtain ⟨hb, h⟩ := h
          rw [hN] at h
          obtain ⟨u, he, ho⟩ := h
          exact ⟨u, he, ho, hb⟩
        clear HSTEP HFAIL HWAY NUM HRD hst hN
        clear hk0 hwd
        go_upto_region 14 with (first | (go_at_call 47; refine NUM2.out.mono ?_; rintro e w2 ⟨u, rfl, ho, hb2⟩) | fail)
        have hpb2 := hpb1.below hb2
        obtain ⟨qu, cu, rfl, -⟩ := ho.rd
        have hcq2 := (hb2.cell (p := ⟨gq, 0, none⟩) hgq).trans hcq
        have c3 := hpb2.out.cell 3 rfl
        have f3 := hpb2.out.frozen 3
        have hu2 := ho.mono (B' := E1.heap.size) (by have := HPK.out.bel.size; omega)
        have hnew := hpb1.fresh ho (Nat.le_refl _)
        have HP2 := Lib.hid (hpb2.outs hu2 hnew)
        clear ho hcq hpb1 hpb2 hb2 hu2 hnew
        go_wp2_with fail
        go_roundw
        case rel => exact ⟨k + 1, setOut p ns, v1, v2, _, L1, L, by omega, by go_num, HFN.out, HP2.out, by show p.tables.length ≤ k + 1; omega, by show p.nodes.length ≤ k + 1; omega⟩
        case measure => simp [intOf] <;> omega
      · have NUM2 : Hid (∃ (okb : Bool) (m : Nat), (Calls Tryz.prog 47 #[.slice (some ⟨gq, 0, none⟩) Q.length cq] w1 fun e w' => ∃ qn cn, e = .returned (.tuple #[.slice qn m cn, .bool okb]) ∧ Below w1.heap.size w1 w') ∧ (okb = false ∨ (okb = true ∧ ((k0 = wPatch ∧ m ≠ 1) ∨ (k0 ≠ wPatch ∧ k0 ≠ wValues ∧ k0 ≠ wOut))))) := by
          rcases hD with hN | ⟨ns, hN, hw⟩
          · exact ⟨false, 0, NUM.out.mono fun e w' h => by
              obtain ⟨hb, h⟩ := h
              rw [hN] at h
              exact ⟨none, 0, h, hb⟩, .inl rfl⟩
          · exact ⟨true, ns.length, NUM.out.mono fun e w' h => by
              obtain ⟨hb, h⟩ := h
              rw [hN] at h
              obtain ⟨u, he, ho⟩ := h
              obtain ⟨qn, cn, rfl, -⟩ := ho.rd
              exact ⟨qn, cn, he, hb⟩, .inr ⟨rfl, hw⟩⟩
        obtain ⟨okb, m, hnum, hways⟩ := NUM2.out
        have NUM3 := Lib.hid hnum
        have HCASE : (okb = false ∧ b1 = true ∧ b2 = false ∧ b3 = false) ∨ (okb = false ∧ b1 = false ∧ b2 = true ∧ b3 = false) ∨ (okb = false ∧ b1 = false ∧ b2 = false ∧ b3 = true) ∨ (okb = false ∧ b1 = false ∧ b2 = false ∧ b3 = false) ∨
            (okb = true ∧ b1 = true ∧ b2 = false ∧ b3 = false ∧ ((m : Int) == 1) = false) ∨ (okb = true ∧ b1 = false ∧ b2 = false ∧ b3 = false) := by
          rcases hways with ho | ⟨ho, hw | hw⟩
          · rcases hwd with ⟨h1, h2, h3, -⟩ | ⟨h1, h2, h3, -⟩ | ⟨h1, h2, h3, -⟩ | ⟨h1, h2, h3, -⟩
            · exact .inl ⟨ho, h1, h2, h3⟩
            · exact .inr (.inl ⟨ho, h1, h2, h3⟩)
            · exact .inr (.inr (.inl ⟨ho, h1, h2, h3⟩))
            · exact .inr (.inr (.inr (.inl ⟨ho, h1, h2, h3⟩)))
          · refine .inr (.inr (.inr (.inr (.inl ?_))))
            rcases hwd with ⟨h1, h2, h3, -⟩ | ⟨-, -, -, h⟩ | ⟨-, -, -, h⟩ | ⟨-, -, -, h, -⟩
            · exact ⟨ho, h1, h2, h3, by rw [beq_eq_false_iff_ne]; have := hw.2; omega⟩
            · rw [hw.1] at h; exact absurd h (by decide)
            · rw [hw.1] at h; exact absurd h (by decide)
            · exact absurd hw.1 h
          · refine .inr (.inr (.inr (.inr (.inr ?_))))
            rcases hwd with ⟨-, -, -, h⟩ | ⟨-, -, -, h⟩ | ⟨-, -, -, h⟩ | ⟨h1, h2, h3, -⟩
            · exact absurd h hw.1
            · exact absurd h hw.2.1
            · exact absurd h hw.2.2
            · exact ⟨ho, h1, h2, h3⟩
        have HST := Lib.hid hst
        clear hst hD hwd hnum hways NUM2 NUM HWAY
        cases hrn : readN x with
        | none =>
          have HF0 : Hid (readPI s = none) := HFAIL.out (by rw [HST.out, hrn]; rfl)
          have RN0 : Hid (∀ W, Calls Tryz.prog 48 #[.string x] W fun e w' => ∃ q3 c3, e = .returned (.tuple #[.agg #[.int .i64 0, .int .i64 0, .int .i64 0, .slice q3 0 c3], .bool false]) ∧ Below W.heap.size W w') := fun W => (HRD.out W).mono fun e w' ⟨u, L, he, ho, hd, hb⟩ => by
            have e2 : nodeRd x = ⟨0, 0, 0, []⟩ := by unfold nodeRd; rw [hrn]; rfl
            rw [e2] at ho
            obtain ⟨u3, L3, rfl, -, o3⟩ := ho
            obtain ⟨q3, c3, rfl, -⟩ := o3.1.rd
            refine ⟨q3, c3, ?_, hb⟩
            rw [he]; unfold okRd; rw [hrn]; rfl
          clear hrn HST HFAIL HSTEP HRD
          rcases HCASE with ⟨rfl, rfl, rfl, rfl⟩ | ⟨rfl, rfl, rfl, rfl⟩ | ⟨rfl, rfl, rfl, rfl⟩ | ⟨rfl, rfl, rfl, rfl⟩ | ⟨rfl, rfl, rfl, rfl, hm1⟩ | ⟨rfl, rfl, rfl, rfl⟩
          all_goals
            go_upto_region 14 with (first | (go_at_call 47; refine NUM3.out.mono ?_; rintro e w2 ⟨qn, cn, rfl, hb2⟩) | fail)
            have hcq2 := (hb2.cell (p := ⟨gq, 0, none⟩) hgq).trans hcq
            have hx2 := (hb2.cell (p := ⟨gw, k, none⟩) hgw1).trans HX1.out
            have hpb2 := hpb1.below hb2
            clear hcq
            go_upto_region 11 with (first | (go_at_call 48; refine (RN0.out _).mono ?_; rintro e w3 ⟨q3, c3, rfl, hb3⟩) | fail)
            have hpbF := (hpb2.below hb3).below ((Below.refl _ _).alloc (Nat.le_refl _) (.cells #[.int .i64 0, .int .i64 0, .int .i64 0, .slice q3 0 c3] 26))
            have hnone : readPI s = none := HF0.out
            have R1 := hpbF
            have hbx := HB1.out.trans (R1.bel.mono HB1.out.size)
            have bx2 := HQ1.out.below R1.bel
            have u0 := bx2.cell 0 rfl
            have u1 := bx2.cell 1 rfl
            have u2 := bx2.cell 2 rfl
            have u3 := bx2.cell 3 rfl
            have v0 := bx2.frozen 0
            have v1 := bx2.frozen 1
            have v2 := bx2.frozen 2
            have v3 := bx2.frozen 3
            obtain ⟨W', hW, bx, be⟩ := R1.exitZ bx2 hbx (by rw [HRR.out]; exact Nat.le_refl _)
            have k0' := bx.cell 0 rfl
            have k1' := bx.cell 1 rfl
            have k2' := bx.cell 2 rfl
            have k3' := bx.cell 3 rfl
            have FIN := Lib.hid (HNone.out W' hnone be)
            have HWW := Lib.hid hW
            clear hW bx be bx2 hbx R1 hnone
            go_wp2_with fail
            rw [← HWW.out]
            refine bodyPost_ret (v := .tuple #[.agg #[.int .i64 0, .slice none 0 0, .slice none 0 0, .slice none 0 0], .bool false]) (by simp [results, Tryz.results17, go_sem, *]) rfl ?_
            exact FIN.out
        | some nd =>
          have HFN := Lib.hid (HSTEP.out (addNode p nd) (by rw [HST.out, hrn]; rfl))
          have RN1 : Hid (∀ W, Calls Tryz.prog 48 #[.string x] W fun e w' => ∃ q3 c3, e = .returned (.tuple #[.agg #[.int .i64 nd.kind, .int .i64 nd.a, .int .i64 nd.b, .slice q3 nd.src.length c3], .bool true]) ∧ OwnI W.heap.size w' (.slice q3 nd.src.length c3) nd.src ∧ Below W.heap.size W w') := fun W => (HRD.out W).mono fun e w' ⟨u, L, he, ho, hd, hb⟩ => by
            have e2 : nodeRd x = nd := by unfold nodeRd; rw [hrn]; rfl
            rw [e2] at ho
            obtain ⟨u3, L3, rfl, -, o3⟩ := ho
            have o4 := o3.1
            obtain ⟨q3, c3, rfl, -⟩ := o4.rd
            refine ⟨q3, c3, ?_, o4, hb⟩
            rw [he]; unfold okRd; rw [hrn]; rfl
          clear hrn HST HFAIL HSTEP HRD
          rcases HCASE with ⟨rfl, rfl, rfl, rfl⟩ | ⟨rfl, rfl, rfl, rfl⟩ | ⟨rfl, rfl, rfl, rfl⟩ | ⟨rfl, rfl, rfl, rfl⟩ | ⟨rfl, rfl, rfl, rfl, hm1⟩ | ⟨rfl, rfl, rfl, rfl⟩
          all_goals
            go_upto_region 14 with (first | (go_at_call 47; refine NUM3.out.mono ?_; rintro e w2 ⟨qn, cn, rfl, hb2⟩) | fail)
            have hcq2 := (hb2.cell (p := ⟨gq, 0, none⟩) hgq).trans hcq
            have hx2 := (hb2.cell (p := ⟨gw, k, none⟩) hgw1).trans HX1.out
            have hpb2 := hpb1.below hb2
            clear hcq
            go_upto_region 11 with (first | (go_at_call 48; refine (RN1.out _).mono ?_; rintro e w3 ⟨q3, c3, rfl, ho3, hb3⟩) | fail)
            obtain ⟨F, hF⟩ : ∃ F, F = w3.alloc (.cells #[.int .i64 nd.kind, .int .i64 nd.a, .int .i64 nd.b, .slice q3 nd.src.length c3] 26) := ⟨_, rfl⟩
            have hwF : Below w3.heap.size w3 F := by rw [hF]; exact (Below.refl _ _).alloc (Nat.le_refl _) _
            have bn : Box F w3.heap.size [.int .i64 nd.kind, .int .i64 nd.a, .int .i64 nd.b, .slice q3 nd.src.length c3] 26 := by rw [hF]; exact Box.newAt _ _ _ rfl
            have hnew := hpb2.fresh ho3 (Nat.le_refl _)
            have hE12 : E1.heap.size ≤ w2.heap.size := hpb2.bel.size
            have hu3 := (ho3.mono (B' := E1.heap.size) hE12).below hwF
            have hpbF := (hpb2.below hb3).below hwF
            have z0 := bn.cell 0 rfl
            have z1 := bn.cell 1 rfl
            have z2 := bn.cell 2 rfl
            have z3 := bn.cell 3 rfl
            have c2 := hpbF.out.cell 2 rfl
            have o2 := hpbF.own.o2
            have hlen : p.nodes.length < 1099511627776 := by omega
            have hBs : E1.heap.size ≤ F.heap.size := hpbF.bel.size
            have HP2 := Lib.hid hpbF
            have HU3 := Lib.hid hu3
            have HNW := Lib.hid hnew
            have HF := Lib.hid hF
            clear hF hwF bn hnew hu3 hpbF ho3 hb3 hb2 hpb1 hpb2 HPK
            rw [← HF.out]
            go_wp2_with (first | (at_builtin; refine wpList_append_node rfl _ _ rfl nd rfl rfl rfl rfl o2 rfl rfl hlen hBs ?_; intro v' w5 hv hg hk3; obtain ⟨vp, vc, rfl⟩ := hv.slS; have PN := HP2.out.node HU3.out HNW.out hv hg; have t1 := PN.1.1; have t2 := PN.1.2; have HPN := Lib.hid PN.2; clear PN hv hg hk3) | fail)
            go_roundw
            case rel => exact ⟨k + 1, addNode p nd, v1, _, v3, L1, _, by omega, by go_num, HFN.out, HPN.out, by show p.tables.length ≤ k + 1; omega, by show (p.nodes ++ [nd]).length ≤ k + 1; simp; omega⟩
            case measure => simp [intOf] <;> omega
    · obtain rfl : k = n - 1 := by omega
      have HSE : Hid (readPI s = if okB p = true ∧ bs (patchStr p) = s then some p else none) := by unfold Hid; rw [HSQ.out, HF.out]; rfl
      have PP := HPK.out.ppatch
      have LOK := Lib.hid (l07Ok_any wi PP)
      have LTX : Hid (okB p = true → ∀ W, Below wi.heap.size wi W → Calls Tryz.prog 50 #[.pointer (some ⟨g, 0, none⟩)] W fun e w' => e = .returned (.string (bs (patchStr p))) ∧ Below W.heap.size W w') := fun ho W hW => l07Text_v W (PP.below hW) ho
      clear PP HF
      cases hok : okB p
      · rw [hok] at LOK
        have HNO : Hid (readPI s = none) := by unfold Hid; rw [HSE.out, if_neg (by rw [hok]; simp)]
        clear hok
        go_upto_region 21 with (first | (go_at_call 49; refine LOK.out.mono ?_; rintro e w1 ⟨rfl, hb1⟩) | fail)
        have hpbF := HPK.out.below hb1
        have hnone : readPI s = none := HNO.out
        have R1 := hpbF
        have hbx := HB1.out.trans (R1.bel.mono HB1.out.size)
        have bx2 := HQ1.out.below R1.bel
        have u0 := bx2.cell 0 rfl
        have u1 := bx2.cell 1 rfl
        have u2 := bx2.cell 2 rfl
        have u3 := bx2.cell 3 rfl
        have v0 := bx2.frozen 0
        have v1 := bx2.frozen 1
        have v2 := bx2.frozen 2
        have v3 := bx2.frozen 3
        obtain ⟨W', hW, bx, be⟩ := R1.exitZ bx2 hbx (by rw [HRR.out]; exact Nat.le_refl _)
        have k0' := bx.cell 0 rfl
        have k1' := bx.cell 1 rfl
        have k2' := bx.cell 2 rfl
        have k3' := bx.cell 3 rfl
        have FIN := Lib.hid (HNone.out W' hnone be)
        have HWW := Lib.hid hW
        clear hW bx be bx2 hbx R1 hnone
        go_wp2_with fail
        rw [← HWW.out]
        refine bodyPost_ret (v := .tuple #[.agg #[.int .i64 0, .slice none 0 0, .slice none 0 0, .slice none 0 0], .bool false]) (by simp [results, Tryz.results17, go_sem, *]) rfl ?_
        exact FIN.out
      · rw [hok] at LOK
        have LT2 := Lib.hid (LTX.out hok)
        by_cases hq : bs (patchStr p) = s
        · have hsome : readPI s = some p := by rw [HSE.out, if_pos ⟨hok, hq⟩]
          rw [hq] at LT2
          have HSM := Lib.hid hsome
          clear hok hq hsome
          obtain ⟨p1', c1', p2', c2', p3', c3', ep, -, -, -⟩ := (HPK.out.own.patch p.inputs).1.rd
          simp only [Value.agg.injEq, Array.mk.injEq, List.cons.injEq, and_true, true_and] at ep
          obtain ⟨rfl, rfl, rfl⟩ := ep
          go_upto_region 22 with (first | (go_at_call 49; refine LOK.out.mono ?_; rintro e w1 ⟨rfl, hb1⟩) | (go_at_call 50; refine (LT2.out _ hb1).mono ?_; rintro e w2 ⟨rfl, hb2⟩) | fail)
          have R1 := (HPK.out.below hb1).below hb2
          have hbx := HB1.out.trans (R1.bel.mono HB1.out.size)
          have bx2 := HQ1.out.below R1.bel
          have u0 := bx2.cell 0 rfl
          have u1 := bx2.cell 1 rfl
          have u2 := bx2.cell 2 rfl
          have u3 := bx2.cell 3 rfl
          have f0 := bx2.frozen 0
          have f1 := bx2.frozen 1
          have f2 := bx2.frozen 2
          have f3 := bx2.frozen 3
          have y0 := R1.out.cell 0 rfl
          have y1 := R1.out.cell 1 rfl
          have y2 := R1.out.cell 2 rfl
          have y3 := R1.out.cell 3 rfl
          obtain ⟨W', hW, bx, be, ou⟩ := R1.exitP bx2 hbx (by rw [HRR.out]; exact Nat.le_refl _) HB1.out.size
          have k0' := bx.cell 0 rfl
          have k1' := bx.cell 1 rfl
          have k2' := bx.cell 2 rfl
          have k3' := bx.cell 3 rfl
          have FIN := Lib.hid (HSome.out W' p _ _ _ _ _ HSM.out ou be)
          have HWW := Lib.hid hW
          clear hW bx be ou bx2 hbx R1
          go_wp2_with fail
          rw [← HWW.out]
          refine bodyPost_ret (v := .tuple #[.agg #[.int .i64 p.inputs, .slice p1' p.tables.length c1', .slice p2' p.nodes.length c2', .slice p3' p.outputs.length c3'], .bool true]) (by simp [results, Tryz.results17, go_sem, *]) rfl ?_
          exact FIN.out
        · have HNO : Hid (readPI s = none) := by unfold Hid; rw [HSE.out, if_neg (fun h => hq h.2)]
          have hqb := str_beq_false hq
          generalize bs (patchStr p) = ST at hqb LT2
          clear hok hq
          go_upto_region 21 with (first | (go_at_call 49; refine LOK.out.mono ?_; rintro e w1 ⟨rfl, hb1⟩) | (go_at_call 50; refine (LT2.out _ hb1).mono ?_; rintro e w2 ⟨rfl, hb2⟩) | fail)
          have hpbF := (HPK.out.below hb1).below hb2
          have hnone : readPI s = none := HNO.out
          have R1 := hpbF
          have hbx := HB1.out.trans (R1.bel.mono HB1.out.size)
          have bx2 := HQ1.out.below R1.bel
          have u0 := bx2.cell 0 rfl
          have u1 := bx2.cell 1 rfl
          have u2 := bx2.cell 2 rfl
          have u3 := bx2.cell 3 rfl
          have v0 := bx2.frozen 0
          have v1 := bx2.frozen 1
          have v2 := bx2.frozen 2
          have v3 := bx2.frozen 3
          obtain ⟨W', hW, bx, be⟩ := R1.exitZ bx2 hbx (by rw [HRR.out]; exact Nat.le_refl _)
          have k0' := bx.cell 0 rfl
          have k1' := bx.cell 1 rfl
          have k2' := bx.cell 2 rfl
          have k3' := bx.cell 3 rfl
          have FIN := Lib.hid (HNone.out W' hnone be)
          have HWW := Lib.hid hW
          clear hW bx be bx2 hbx R1 hnone
          go_wp2_with fail
          rw [← HWW.out]
          refine bodyPost_ret (v := .tuple #[.agg #[.int .i64 0, .slice none 0 0, .slice none 0 0, .slice none 0 0], .bool false]) (by simp [results, Tryz.results17, go_sem, *]) rfl ?_
          exact FIN.out
end Go.Proofs.YtdcacmmglkcliaaGreatDoor
