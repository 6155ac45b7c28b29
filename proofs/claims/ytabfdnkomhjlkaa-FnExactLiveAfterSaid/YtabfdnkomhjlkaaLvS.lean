/-
  Registers that are read later: plain law, and the reference's side.
-/
import Derived.Test.YtabfdnkomhjlkaaPvZ
namespace Go.Proofs.Ytabfdnkomhjlkaa
open Go.ChangeShapes Go.WideShapes Go.ChangeAt Go.RowKit Go.Sort
set_option linter.unusedVariables false
set_option linter.unusedSimpArgs false

def setF (f : Int → Bool) (y : InstrD) : Int → Bool := fun r => if y.src.contains r = true then true else if y.kind ≠ 18 ∧ y.dest = r then false else f r
def readL (outs : List Int) : List InstrD → Int → Bool
  | [] => fun r => outs.contains r
  | y :: l => setF (readL outs l) y
def liveCode (x : ProgramD) (k : Int) : Int := if progB x then (if inB k 0 (x.code.length - 1) then 0 else 2) else 1
def liveN (x : ProgramD) (k m : Nat) : List Int := ((List.range m).map fun (r : Nat) => (r : Int)).filter fun r => readL x.outputs (x.code.drop (k + 1)) r
def liveRes (x : ProgramD) (k : Int) : List Int := if liveCode x k = 0 then liveN x k.toNat x.registers.toNat else []
theorem liveCode_of {x : ProgramD} {k : Int} {a b : Bool} (h1 : progB x = a) (h2 : inB k 0 (x.code.length - 1) = b) : liveCode x k = if a then (if b then 0 else 2) else 1 := by unfold liveCode; rw [h1, h2]
theorem liveN_len (x : ProgramD) (k m : Nat) : (liveN x k m).length ≤ m := by
  unfold liveN
  refine Nat.le_trans (List.length_filter_le _ _) ?_
  simp
theorem progB_facts {x : ProgramD} (h : progB x = true) : 0 ≤ x.registers ∧ x.registers ≤ 24 ∧ x.code.length ≤ 48 ∧ x.outputs.length ≤ 4 ∧ (∀ f ∈ x.outputs, 0 ≤ f ∧ f ≤ x.registers - 1) ∧ x.code.all (insB x.registers x.tables.length x.inputs) = true := by
  rw [progB_has] at h
  simp only [Bool.and_eq_true, inB_iff, decide_eq_true_iff] at h
  obtain ⟨-, h2, -, h4, h5, h6, h7, -⟩ := h
  exact ⟨h2.1, h2.2, h4, h5, fun f hf => by have := List.all_eq_true.1 h6 f hf; exact inB_iff.1 this, h7⟩
theorem liveRes_small (x : ProgramD) (k : Int) : cntI (liveRes x k) ≤ 1048576 := by
  unfold cntI liveRes
  split
  · rename_i h
    unfold liveCode at h
    cases hp : progB x
    · rw [hp] at h; simp at h
    · have := progB_facts hp
      have := liveN_len x k.toNat x.registers.toNat
      omega
  · simp
theorem liveN_succ (x : ProgramD) (k m : Nat) : liveN x k (m + 1) = liveN x k m ++ (if readL x.outputs (x.code.drop (k + 1)) (m : Int) = true then [(m : Int)] else []) := by
  unfold liveN
  rw [List.range_succ, List.map_append, List.filter_append]
  simp [List.filter_cons]
theorem readL_drop (outs : List Int) (l : List InstrD) {j : Nat} (h : j < l.length) : readL outs (l.drop j) = setF (readL outs (l.drop (j + 1))) l[j] := by
  rw [List.drop_eq_getElem_cons h]; rfl
theorem readL_end (outs : List Int) (l : List InstrD) : readL outs (l.drop l.length) = fun r => outs.contains r := by
  rw [List.drop_length]; rfl
def RetLv (w : World) (L : List Int) (code : Int) (e : Ending) (w' : World) : Prop := ∃ u M, e = .returned (.tuple #[u, .int .i64 code]) ∧ OwnLI w.heap.size w' u L M ∧ Dis M ∧ Below w.heap.size w w'
theorem RetLv.mk {w w' : World} {L : List Int} {code : Int} {u : Value} {B : Nat} (h : OwnI B w' u L) (hB : w.heap.size ≤ B) (hb : Below w.heap.size w w') : RetLv w L code (.returned (.tuple #[u, .int .i64 code])) w' :=
  ⟨u, [u], rfl, ⟨h.mono hB, rfl⟩, List.pairwise_singleton _ _, hb⟩
set_option maxHeartbeats 8000000 in
set_option maxRecDepth 100000 in
theorem l11Read_any {g : Nat} {x : ProgramD} (k : Nat) (r : Int) (w : World) (h : PProgram w g x) (hm : x.code.length ≤ 48) (hk : k < x.code.length) :
    Calls Try.prog 27 #[.pointer (some ⟨g, 0, none⟩), .int .i64 (k : Int), .int .i64 r] w fun e w' => e = .returned (.bool (readL x.outputs (x.code.drop (k + 1)) r)) ∧ w' = w := by
  obtain ⟨p2, c2, p3, c3, p4, c4, bx, -, r3, r4⟩ := h
  obtain ⟨n, hn⟩ : ∃ n, n = x.code.length := ⟨_, rfl⟩
  rw [← hn] at bx hm hk
  have HN := Lib.hid hn
  have z3 := bx.cell 3 rfl
  have z4 := bx.cell 4 rfl
  have HR3 := Lib.hid r3
  have HR4 := Lib.hid r4
  generalize hR : readL x.outputs (x.code.drop (k + 1)) r = R
  have HRE := Lib.hid hR
  clear hn bx r3 r4 hR
  go_enter Try.func27, Try.ntmps27
  go_wp2_with fail
  go_loop [7] (fun i => ∃ j : Nat, k + 1 ≤ j ∧ j ≤ n ∧ i = .int .i64 (j : Int) ∧ readL x.outputs (x.code.drop j) r = R) (fun i => n - (intOf i).toNat)
  case atStart => exact ⟨k + 1, Nat.le_refl _, by omega, by go_num, HRE.out⟩
  case round =>
    obtain ⟨j, hj0, hj, rfl, hq⟩ := hrel
    have HQ := Lib.hid hq
    clear hq
    by_cases hlt : j < n
    · have hlt' : j < x.code.length := by have := HN.out; omega
      obtain ⟨b, o, rfl, hbl, hcs⟩ := HR3.out.pos hlt'
      have hin := hcs j hlt'
      have HD : Hid (setF (readL x.outputs (x.code.drop (j + 1))) x.code[j] r = R) := by have := HQ.out; rwa [readL_drop _ _ hlt'] at this
      clear hcs
      generalize x.code[j] = y at hin HD
      obtain ⟨y0, y1, y2, y3, ⟨q, d, y4, hr⟩, y5⟩ := hin
      have LH := Lib.hid (l00Has_any (c := d) r w hr)
      rw [any_contains] at LH
      clear hr
      cases hc : y.src.contains r
      · rw [hc] at LH
        by_cases hk18 : y.kind ≠ 18 ∧ y.dest = r
        · have hR : R = false := by have := HD.out; unfold setF at this; rw [if_neg (by rw [hc]; decide), if_pos hk18] at this; exact this.symm
          subst hR
          have q1 : (y.kind != 18) = true := by simp [hk18.1]
          have q2 : (y.dest == r) = true := by simp [hk18.2]
          clear hk18 hc
          go_wp2_with (first | (go_at_call 45; refine LH.out.mono ?_; rintro e w' ⟨rfl, rfl⟩) | fail)
          go_ret
          exact ⟨rfl, rfl⟩
        · have HNX : Hid (readL x.outputs (x.code.drop (j + 1)) r = R) := by have := HD.out; unfold setF at this; rw [if_neg (by rw [hc]; decide), if_neg hk18] at this; exact this
          have HQ2 : (y.kind != 18) = false ∨ ((y.kind != 18) = true ∧ (y.dest == r) = false) := by
            by_cases e : y.kind = 18
            · exact .inl (by simp [e])
            · exact .inr ⟨by simp [e], by simp; exact fun h => hk18 ⟨e, h⟩⟩
          clear hk18 hc
          rcases HQ2 with q1 | ⟨q1, q2⟩
          all_goals
            go_wp2_with (first | (go_at_call 45; refine LH.out.mono ?_; rintro e w' ⟨rfl, rfl⟩) | fail)
            go_round
            case rel => exact ⟨j + 1, by omega, by omega, by go_num, HNX.out⟩
            case measure => simp [intOf] <;> omega
      · rw [hc] at LH
        have hR : R = true := by have := HD.out; unfold setF at this; rw [if_pos hc] at this; exact this.symm
        subst hR
        clear hc
        go_wp2_with (first | (go_at_call 45; refine LH.out.mono ?_; rintro e w' ⟨rfl, rfl⟩) | fail)
        go_ret
        exact ⟨rfl, rfl⟩
    · obtain rfl : j = n := by omega
      have HD : Hid (x.outputs.contains r = R) := by have := HQ.out; rw [HN.out, readL_end] at this; exact this
      have LH := Lib.hid (l00Has_any (c := c4) r w HR4.out)
      rw [any_contains, HD.out] at LH
      go_wp2_with (first | (go_at_call 45; refine LH.out.mono ?_; rintro e w' ⟨rfl, rfl⟩) | fail)
      go_ret
      exact ⟨rfl, rfl⟩
set_option maxHeartbeats 8000000 in
set_option maxRecDepth 100000 in
theorem specLiveAfter_v {v : Value} {x : ProgramD} {k : Int} (w : World) (h : VProgram w v x) :
    Calls Try.prog 10 #[v, .int .i64 k] w (RetLv w (liveRes x k) (liveCode x k)) := by
  obtain ⟨p2, c2, p3, c3, p4, c4, rfl, hp⟩ := PProgram.of h
  have hml := hp
  obtain ⟨_, _, _, _, _, _, -, -, r3, -⟩ := hml
  have hl3 := r3.len
  unfold maxLen at hl3
  clear r3 h
  obtain ⟨E0, hE0⟩ : ∃ E, E = w.alloc (.cells #[.int .i64 x.inputs, .int .i64 x.registers, .slice p2 x.tables.length c2, .slice p3 x.code.length c3, .slice p4 x.outputs.length c4] 31) := ⟨_, rfl⟩
  have hB0 : Below w.heap.size w E0 := by rw [hE0]; exact (Below.refl _ _).alloc (Nat.le_refl _) _
  have bx : Box E0 w.heap.size [.int .i64 x.inputs, .int .i64 x.registers, .slice p2 x.tables.length c2, .slice p3 x.code.length c3, .slice p4 x.outputs.length c4] 31 := by rw [hE0]; exact Box.newAt w _ _ rfl
  rw [← hE0] at hp
  have HE := Lib.hid hE0
  have HP := Lib.hid hp
  have BX := Lib.hid bx
  have OK := Lib.hid (l11Ok_any _ hp)
  have HLC := Lib.hid (fun a b h1 h2 => liveCode_of (x := x) (k := k) (a := a) (b := b) h1 h2)
  have HRS : Hid (liveRes x k = if liveCode x k = 0 then liveN x k.toNat x.registers.toNat else []) := rfl
  generalize liveRes x k = RS at HRS ⊢
  generalize liveCode x k = RC at HLC HRS ⊢
  clear hE0 hp bx
  cases hq : progB x
  case false =>
    rw [hq] at OK
    obtain rfl : RC = 1 := HLC.out false _ hq rfl
    obtain rfl : RS = [] := HRS.out
    clear hq
    go_enter Try.func10, Try.ntmps10
    go_upto_region 1 with fail
    rw [← HE.out]
    go_wp2_with (first | (go_at_call 19; refine OK.out.mono ?_; rintro e W1 ⟨rfl, hb1⟩) | fail)
    go_ret2
    exact RetLv.mk (OwnI.nil w.heap.size _) (Nat.le_refl _) (hB0.trans (hb1.mono hB0.size))
  rw [hq] at OK
  have HQ := Lib.hid hq
  clear hq
  have hw : wrap64 ((x.code.length : Int) - 1) = (x.code.length : Int) - 1 := by unfold wrap64; omega
  have LI : Hid (∀ W b, inB k 0 ((x.code.length : Int) - 1) = b → Calls Try.prog 26 #[.int .i64 k, .int .i64 0, .int .i64 ((x.code.length : Int) - 1)] W fun e w' => e = .returned (.bool b) ∧ W = w') := fun W b hb => by rw [← hb]; exact l00In_any _ _ _ _
  cases hi : inB k 0 ((x.code.length : Int) - 1)
  case false =>
    obtain rfl : RC = 2 := HLC.out true false HQ.out hi
    obtain rfl : RS = [] := HRS.out
    go_enter Try.func10, Try.ntmps10
    go_upto_region 1 with fail
    rw [← HE.out]
    go_wp2_with (first | (go_at_call 19; refine OK.out.mono ?_; rintro e W1 ⟨rfl, hb1⟩; have bx1 := BX.out.below hb1; have z3 := bx1.cell 3 rfl) | (go_at_call 26; refine (LI.out _ _ hi).mono ?_; rintro e w' ⟨rfl, rfl⟩) | fail)
    go_ret2
    exact RetLv.mk (OwnI.nil w.heap.size _) (Nat.le_refl _) (hB0.trans (hb1.mono hB0.size))
  obtain rfl : RC = 0 := HLC.out true true HQ.out hi
  have hki := inB_iff.1 hi
  obtain ⟨kk, rfl⟩ : ∃ kk : Nat, k = kk := ⟨k.toNat, by omega⟩
  have hkn : kk < x.code.length := by omega
  have pf := progB_facts HQ.out
  have hr0 := pf.1
  have hr1 := pf.2.1
  have hm := pf.2.2.1
  obtain ⟨Rg, hRg⟩ : ∃ Rg : Nat, x.registers = Rg := ⟨x.registers.toNat, by omega⟩
  have HRG := Lib.hid hRg
  have HRS2 : Hid (RS = liveN x kk Rg) := by unfold Hid; rw [HRS.out, if_pos rfl, hRg]; simp
  rw [hRg] at hr1
  have hR24 : Rg ≤ 24 := by omega
  have BX2 : Hid (Box E0 w.heap.size [.int .i64 x.inputs, .int .i64 (Rg : Int), .slice p2 x.tables.length c2, .slice p3 x.code.length c3, .slice p4 x.outputs.length c4] 31) := by unfold Hid; rw [← hRg]; exact BX.out
  have HE2 : Hid (E0 = w.alloc (.cells #[.int .i64 x.inputs, .int .i64 (Rg : Int), .slice p2 x.tables.length c2, .slice p3 x.code.length c3, .slice p4 x.outputs.length c4] 31)) := by unfold Hid; rw [← hRg]; exact HE.out
  have HI := Lib.hid hi
  rw [hRg]
  clear hi hki pf hr0 hr1 hRg HE BX HLC HRS
  go_enter Try.func10, Try.ntmps10
  go_upto_region 1 with fail
  rw [← HE2.out]
  go_upto_region 5 with (first | (go_at_call 19; refine OK.out.mono ?_; rintro e W1 ⟨rfl, hb1⟩; have bx1 := BX2.out.below hb1; have z3 := bx1.cell 3 rfl) | (go_at_call 26; refine (LI.out _ _ HI.out).mono ?_; rintro e w' ⟨rfl, rfl⟩) | fail)
  have hB1 := hB0.trans (hb1.mono hB0.size)
  have HB1 := Lib.hid hb1
  obtain ⟨E1, hE1⟩ : ∃ E, E = W1.alloc (.cells #[] 2) := ⟨_, rfl⟩
  have o1 : OwnI W1.heap.size E1 (.slice (some ⟨W1.heap.size, 0, none⟩) 0 0) [] := by rw [hE1]; exact OwnI.lit (B := W1.heap.size) W1 [] (Nat.le_refl _) (by simp [maxLen])
  have hb2 : Below W1.heap.size W1 E1 := by rw [hE1]; exact (Below.refl _ _).alloc (Nat.le_refl _) _
  have HE1 := Lib.hid hE1
  have O1 := Lib.hid o1
  clear hE1 o1 z3 bx1 hb1
  go_upto_region 6 with fail
  rw [← HE1.out]
  go_wp2_with fail
  go_loopw [6, 7] (fun ov i wr => ∃ r : Nat, r ≤ Rg ∧ i = .int .i64 (r : Int) ∧ OwnI W1.heap.size wr ov (liveN x kk r) ∧ Below W1.heap.size W1 wr) (fun _ i _ => Rg - (intOf i).toNat)
  case atStart => exact ⟨0, Nat.zero_le _, rfl, O1.out, hb2⟩
  case round =>
    obtain ⟨r, hr, rfl, oo, hb⟩ := hrel
    obtain ⟨wi, rfl⟩ : ∃ wi : World, wi = wr := ⟨_, rfl⟩
    clear hb2 O1
    have hz := hb.size
    have hbE := HB1.out.trans (hb.mono HB1.out.size)
    have bx2 := BX2.out.below hbE
    have z1 := bx2.cell 1 rfl
    have HPi := HP.out.below hbE
    have hln := liveN_len x kk r
    by_cases hlt : r < Rg
    · have RD := Lib.hid (l11Read_any kk (r : Int) wi HPi hm hkn)
      have HS := Lib.hid (liveN_succ x kk r)
      clear HPi bx2 hbE
      generalize readL x.outputs (x.code.drop (kk + 1)) (r : Int) = b at RD HS
      generalize liveN x kk r = fl at oo hln HS
      cases b
      · rw [if_neg (by decide), List.append_nil] at HS
        go_wp2_with (first | (go_at_call 27; refine RD.out.mono ?_; rintro e w' ⟨rfl, hw⟩; rw [hw]; clear hw) | fail)
        go_roundw
        case rel => exact ⟨r + 1, by omega, by go_num, by rw [HS.out]; exact oo, hb⟩
        case measure => simp [intOf] <;> omega
      · rw [if_pos rfl] at HS
        go_wp2_with (first | (go_at_call 27; refine RD.out.mono ?_; rintro e w' ⟨rfl, hw⟩; rw [hw]; clear hw) | (at_builtin; refine wpList_append_one rfl _ _ rfl rfl oo rfl hb (by omega) hz (Nat.le_refl _) ?_; intro v' w4 hown4 hb4 hz4 hk4) | fail)
        have HO4 := Lib.hid hown4
        clear hk4 hown4 oo
        go_roundw
        case rel => exact ⟨r + 1, by omega, by go_num, by rw [HS.out]; exact HO4.out, hb4⟩
        case measure => simp [intOf] <;> omega
    · obtain rfl : r = Rg := by omega
      have HO := Lib.hid oo
      have hBf := hB1.trans (hb.mono hB1.size)
      have hzz : w.heap.size ≤ W1.heap.size := hB1.size
      clear HPi bx2 hbE oo
      go_wp2_with fail
      go_ret2
      refine RetLv.mk ?_ hzz hBf
      rw [HRS2.out]
      exact HO.out
end Go.Proofs.Ytabfdnkomhjlkaa
