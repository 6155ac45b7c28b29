/-
  Registers that are read later, on the program's side.
-/
import Derived.Test.YtabfdnkomhjlkaaLvS
namespace Go.Proofs.Ytabfdnkomhjlkaa
open Go.ChangeShapes Go.WideShapes Go.ChangeAt Go.RowKit Go.Sort
set_option linter.unusedVariables false
set_option linter.unusedSimpArgs false

def bitsF (R : Nat) (f : Int → Bool) : List Value := (List.range R).map fun (r : Nat) => Value.bool (f (r : Int))
theorem bitsF_length (R : Nat) (f : Int → Bool) : (bitsF R f).length = R := by simp [bitsF]
theorem bitsF_get (R : Nat) (f : Int → Bool) (r : Nat) (hr : r < (bitsF R f).length) : (bitsF R f)[r] = .bool (f (r : Int)) := by simp [bitsF]
theorem bitsF_false (R : Nat) : bitsF R (fun _ => false) = List.replicate R (.bool false) := by
  apply List.ext_getElem
  · simp [bitsF]
  · intro i h1 h2; simp [bitsF]
theorem bitsF_set (R : Nat) (f : Int → Bool) (d : Nat) (v : Bool) : (bitsF R f).set d (.bool v) = bitsF R (up f (d : Int) v) := by
  apply List.ext_getElem
  · simp [bitsF]
  · intro i h1 h2
    rw [List.getElem_set]
    simp only [bitsF, List.getElem_map, List.getElem_range, up]
    by_cases e : d = i
    · subst e; rw [if_pos rfl, if_pos rfl]
    · rw [if_neg e, if_neg (by omega)]
/-- the register's mark behind the first j reads of an instruction -/
def partF (f : Int → Bool) (y : InstrD) (j : Nat) : Int → Bool := fun r => if (y.src.take j).contains r = true then true else if y.kind ≠ 18 ∧ y.dest = r then false else f r
theorem up_take (f : Int → Bool) (xs : List Int) {j : Nat} (h : j < xs.length) : up (fun r => if (xs.take j).contains r = true then true else f r) xs[j] true = fun r => if (xs.take (j + 1)).contains r = true then true else f r := by
  have hm : ∀ r, (xs.take (j + 1)).contains r = true ↔ ((xs.take j).contains r = true ∨ r = xs[j]) := fun r => by
    rw [List.take_succ_eq_append_getElem h, List.contains_iff_mem, List.mem_append, List.mem_singleton, List.contains_iff_mem]
  funext r
  unfold up
  by_cases e : r = xs[j]
  · rw [if_pos e, if_pos ((hm r).2 (.inr e))]
  · rw [if_neg e]
    show (if (xs.take j).contains r = true then true else f r) = _
    by_cases c : (xs.take j).contains r = true
    · rw [if_pos c, if_pos ((hm r).2 (.inl c))]
    · rw [if_neg c, if_neg (fun h' => ((hm r).1 h').elim c e)]
theorem partF_succ (f : Int → Bool) (y : InstrD) {j : Nat} (h : j < y.src.length) : up (partF f y j) y.src[j] true = partF f y (j + 1) := up_take (fun r => if y.kind ≠ 18 ∧ y.dest = r then false else f r) y.src h
theorem partF_end (f : Int → Bool) (y : InstrD) : partF f y y.src.length = setF f y := by unfold partF setF; rw [List.take_length]
theorem partF_store (f : Int → Bool) (y : InstrD) (h : y.kind = 18) : partF f y 0 = f := by
  funext r; unfold partF; simp [h]
theorem partF_new (f : Int → Bool) (y : InstrD) (h : y.kind ≠ 18) : up f y.dest false = partF f y 0 := by
  funext r; unfold partF up
  by_cases e : r = y.dest
  · subst e; simp [h]
  · have e' : ¬ y.dest = r := fun h' => e h'.symm
    simp [e, e']
theorem sizeJ_any (p : Option Addr) (n c : Nat) (w : World) (hn : n ≤ maxLen) :
    Calls Try.prog 29 #[.slice p n c] w fun e w' => e = .returned (.int .i64 n) ∧ w = w' := by
  unfold maxLen at hn
  go_enter Try.func29, Try.ntmps29
  go_wp2
  go_ret
  exact ⟨rfl, rfl⟩
set_option maxHeartbeats 16000000 in
set_option maxRecDepth 100000 in
theorem implLiveAfter_v {v : Value} {x : ProgramD} {k : Int} (w : World) (h : VProgram w v x) :
    Calls Try.prog 11 #[v, .int .i64 k] w (RetLv w (liveRes x k) (liveCode x k)) := by
  have hv := h
  obtain ⟨p2, c2, p3, c3, p4, c4, rfl, r2, r3, r4⟩ := h
  have hl3 := r3.len
  have hm3 := r3.len
  unfold maxLen at hl3
  clear r2
  obtain ⟨E0, hE0⟩ : ∃ E, E = w.alloc (.cells #[.int .i64 x.inputs, .int .i64 x.registers, .slice p2 x.tables.length c2, .slice p3 x.code.length c3, .slice p4 x.outputs.length c4] 31) := ⟨_, rfl⟩
  have hB0 : Below w.heap.size w E0 := by rw [hE0]; exact (Below.refl _ _).alloc (Nat.le_refl _) _
  have bx : Box E0 w.heap.size [.int .i64 x.inputs, .int .i64 x.registers, .slice p2 x.tables.length c2, .slice p3 x.code.length c3, .slice p4 x.outputs.length c4] 31 := by rw [hE0]; exact Box.newAt w _ _ rfl
  have HE := Lib.hid hE0
  have HR3 := Lib.hid (r3.below hB0)
  have HR4 := Lib.hid (r4.below hB0)
  have OK := Lib.hid (isProgram_v _ (hv.below hB0))
  have HLC := Lib.hid (fun a b h1 h2 => liveCode_of (x := x) (k := k) (a := a) (b := b) h1 h2)
  have HRS : Hid (liveRes x k = if liveCode x k = 0 then liveN x k.toNat x.registers.toNat else []) := rfl
  generalize liveRes x k = RS at HRS ⊢
  generalize liveCode x k = RC at HLC HRS ⊢
  have BX := Lib.hid bx
  have z0 := bx.cell 0 rfl
  have z1 := bx.cell 1 rfl
  have z2 := bx.cell 2 rfl
  have z3 := bx.cell 3 rfl
  have z4 := bx.cell 4 rfl
  clear hE0 bx hv r3 r4
  cases hq : progB x
  case false =>
    rw [hq] at OK
    obtain rfl : RC = 1 := HLC.out false _ hq rfl
    obtain rfl : RS = [] := HRS.out
    clear hq
    go_enter Try.func11, Try.ntmps11
    go_upto_region 1 with fail
    rw [← HE.out]
    go_wp2_with (first | (go_at_call 23; refine OK.out.mono ?_; rintro e W1 ⟨rfl, hb1⟩) | fail)
    go_ret2
    exact RetLv.mk (OwnI.nil w.heap.size _) (Nat.le_refl _) (hB0.trans (hb1.mono hB0.size))
  rw [hq] at OK
  have HQ := Lib.hid hq
  clear hq
  have hw : wrap64 ((x.code.length : Int) - 1) = (x.code.length : Int) - 1 := by unfold wrap64; omega
  have SZ : Hid (∀ W, Calls Try.prog 29 #[.slice p3 x.code.length c3] W fun e w' => e = .returned (.int .i64 (x.code.length : Int)) ∧ W = w') := fun W => sizeJ_any _ _ _ _ hm3
  have LI : Hid (∀ W b, inB k 0 ((x.code.length : Int) - 1) = b → Calls Try.prog 28 #[.int .i64 k, .int .i64 0, .int .i64 ((x.code.length : Int) - 1)] W fun e w' => e = .returned (.bool b) ∧ W = w') := fun W b hb => by rw [← hb]; exact within_any _ _ _ _
  cases hi : inB k 0 ((x.code.length : Int) - 1)
  case false =>
    obtain rfl : RC = 2 := HLC.out true false HQ.out hi
    obtain rfl : RS = [] := HRS.out
    go_enter Try.func11, Try.ntmps11
    go_upto_region 1 with fail
    rw [← HE.out]
    go_wp2_with (first | (go_at_call 23; refine OK.out.mono ?_; rintro e W1 ⟨rfl, hb1⟩; have bx1 := BX.out.below hb1; have w3 := bx1.cell 3 rfl) | (go_at_call 29; refine (SZ.out _).mono ?_; rintro e w' ⟨rfl, rfl⟩) | (go_at_call 28; refine (LI.out _ _ hi).mono ?_; rintro e w' ⟨rfl, rfl⟩) | fail)
    go_ret2
    exact RetLv.mk (OwnI.nil w.heap.size _) (Nat.le_refl _) (hB0.trans (hb1.mono hB0.size))
  obtain rfl : RC = 0 := HLC.out true true HQ.out hi
  have hki := inB_iff.1 hi
  obtain ⟨kk, rfl⟩ : ∃ kk : Nat, k = kk := ⟨k.toNat, by omega⟩
  have hkn : kk < x.code.length := by omega
  have pf := progB_facts HQ.out
  have hr0 := pf.1
  have hr1 := pf.2.1
  have hm := pf.2.2.1
  have hml4 := pf.2.2.2.1
  obtain ⟨Rg, hRg⟩ : ∃ Rg : Nat, x.registers = Rg := ⟨x.registers.toNat, by omega⟩
  have HRS2 : Hid (RS = liveN x kk Rg) := by unfold Hid; rw [HRS.out, if_pos rfl, hRg]; simp
  have HO : Hid (∀ f ∈ x.outputs, 0 ≤ f ∧ f ≤ (Rg : Int) - 1) := by unfold Hid; rw [← hRg]; exact pf.2.2.2.2.1
  have HC : Hid (∀ y ∈ x.code, (∀ f ∈ y.src, 0 ≤ f ∧ f ≤ (Rg : Int) - 1) ∧ (y.kind ≠ 18 → 0 ≤ y.dest ∧ y.dest ≤ (Rg : Int) - 1)) := by
    unfold Hid; rw [← hRg]
    have hins := insB_all pf.2.2.2.2.2
    exact fun y hy => ⟨instr_src (hins y hy), instr_dest (hins y hy)⟩
  rw [hRg] at hr1 z1 OK
  have hR24 : Rg ≤ 24 := by omega
  have BX2 : Hid (Box E0 w.heap.size [.int .i64 x.inputs, .int .i64 (Rg : Int), .slice p2 x.tables.length c2, .slice p3 x.code.length c3, .slice p4 x.outputs.length c4] 31) := by unfold Hid; rw [← hRg]; exact BX.out
  have HE2 : Hid (E0 = w.alloc (.cells #[.int .i64 x.inputs, .int .i64 (Rg : Int), .slice p2 x.tables.length c2, .slice p3 x.code.length c3, .slice p4 x.outputs.length c4] 31)) := by unfold Hid; rw [← hRg]; exact HE.out
  have HI := Lib.hid hi
  rw [hRg]
  have hmk := fun W => run_make_row' (P := Try.prog) 55 4 (.bool false) 1 Try.underlying55 infoBv rfl .i64 .i64 Rg (by omega) (by omega) W
  clear hi hki pf hr0 hr1 hRg HE BX HLC HRS
  go_enter Try.func11, Try.ntmps11
  go_upto_region 1 with fail
  rw [← HE2.out]
  go_upto_region 5 with (first | (go_at_call 23; refine OK.out.mono ?_; rintro e W1 ⟨rfl, hb1⟩; have bx1 := BX2.out.below hb1; have w3 := bx1.cell 3 rfl) | (go_at_call 29; refine (SZ.out _).mono ?_; rintro e w' ⟨rfl, rfl⟩) | (go_at_call 28; refine (LI.out _ _ HI.out).mono ?_; rintro e w' ⟨rfl, rfl⟩) | fail)
  have w1 := bx1.cell 1 rfl
  have HB1 := Lib.hid hb1
  have hB1 := hB0.trans (hb1.mono hB0.size)
  have HBW1 := Lib.hid hB1
  have ow := OwnV.made (B := W1.heap.size) W1 4 (.bool false) Rg (Nat.le_refl _) (by unfold maxLen; omega)
  obtain ⟨b1, hb1'⟩ : ∃ b, b = W1.heap.size := ⟨_, rfl⟩
  obtain ⟨E1, hE1⟩ : ∃ E, E = W1.alloc (.cells (madeCells #[.bool false] Rg) 4) := ⟨_, rfl⟩
  rw [← hE1, ← hb1', ← bitsF_false] at ow
  have hb2 : Below W1.heap.size W1 E1 := by rw [hE1]; exact (Below.refl _ _).alloc (Nat.le_refl _) _
  have HE1 := Lib.hid hE1
  have HB1' := Lib.hid hb1'
  have HOW := Lib.hid ow
  have w4 := (bx1.below hb2).cell 4 rfl
  clear z0 z1 z2 z3 z4 hE1 hb1' ow hb1 w3
  go_upto_region 6 with fail
  rw [← HE1.out, ← HB1'.out]
  clear w1 hmk bx1
  go_wp2_with fail
  clear w4
  have hr40 := (HR4.out.below HB1.out)
  go_loopw [32] (fun i wr => ∃ j : Nat, j ≤ x.outputs.length ∧ i = .int .i64 (j : Int) ∧ OwnV b1 wr 4 (.slice (some ⟨b1, 0, none⟩) Rg Rg) (bitsF Rg (fun r => if (x.outputs.take j).contains r = true then true else false)) ∧ Below W1.heap.size W1 wr) (fun i _ => x.outputs.length - (intOf i).toNat)
  case atStart => exact ⟨0, Nat.zero_le _, rfl, by simpa using HOW.out, hb2⟩
  case round =>
    obtain ⟨j, hj, rfl, ow, hb⟩ := hrel
    obtain ⟨wi, rfl⟩ : ∃ wi : World, wi = wr := ⟨_, rfl⟩
    clear hb2
    by_cases hjt : j < x.outputs.length
    · obtain ⟨b', o', rfl, hbl', hcs'⟩ := (hr40.below hb).pos hjt
      have hcj := hcs' j hjt
      have hfb := HO.out _ (List.getElem_mem hjt)
      have HUP := Lib.hid (up_take (fun _ => false) x.outputs hjt)
      clear hcs'
      generalize x.outputs[j] = f at hcj hfb HUP
      obtain ⟨r, rfl⟩ : ∃ r : Nat, f = r := ⟨f.toNat, by omega⟩
      have hrR : r < Rg := by omega
      obtain ⟨-, hbg, hgl, cell, fz, hst⟩ := ow.storing (k := r) (by rw [bitsF_length]; exact hrR)
      have hst' := hst (.bool true)
      rw [bitsF_set, HUP.out] at hst'
      have HST := Lib.hid hst'
      rw [bitsF_get] at cell
      have hbz : W1.heap.size ≤ b1 := by have := HB1'.out; omega
      clear hst hst' ow
      generalize (if (x.outputs.take j).contains (r : Int) = true then true else false) = bb at cell
      go_wp2_with fail
      go_roundw
      case rel => exact ⟨j + 1, by omega, by go_num, HST.out, hb.setCell (by show W1.heap.size ≤ b1; omega) _⟩
      case measure => simp [intOf] <;> omega
    · obtain rfl : j = x.outputs.length := by omega
      have HW2 : Hid (OwnV b1 wi 4 (.slice (some ⟨b1, 0, none⟩) Rg Rg) (bitsF Rg (readL x.outputs (x.code.drop x.code.length)))) := by
        rw [List.take_length] at ow
        rw [readL_end]
        have : (fun r : Int => if x.outputs.contains r = true then true else false) = fun r => x.outputs.contains r := by funext r; cases x.outputs.contains r <;> rfl
        rw [this] at ow
        exact ow
      have bx2 := BX2.out.below (HB1.out.trans (hb.mono HB1.out.size))
      have w3 := bx2.cell 3 rfl
      clear ow hr40 hjt hj
      go_wp2_with (first | (go_at_call 29; refine (SZ.out _).mono ?_; rintro e w' ⟨rfl, rfl⟩) | fail)
      clear w3
      have HBI := Lib.hid hb
      go_loopw [9] (fun i wr => ∃ d : Nat, i = .int .i64 ((d : Nat) : Int) ∧ kk ≤ d ∧ d < x.code.length ∧ OwnV b1 wr 4 (.slice (some ⟨b1, 0, none⟩) Rg Rg) (bitsF Rg (readL x.outputs (x.code.drop (d + 1)))) ∧ Below W1.heap.size W1 wr) (fun i _ => (intOf i).toNat)
      case atStart => exact ⟨x.code.length - 1, by rw [show ((x.code.length - 1 : Nat) : Int) = (x.code.length : Int) - 1 by omega], by omega, by omega, by rw [show x.code.length - 1 + 1 = x.code.length by omega]; exact HW2.out, HBI.out⟩
      case round =>
        obtain ⟨d, rfl, hkd, hdn, ow, hb⟩ := hrel
        obtain ⟨wj, rfl⟩ : ∃ wj : World, wj = wr := ⟨_, rfl⟩
        clear HW2 HBI bx2
        have hbE := HB1.out.trans (hb.mono HB1.out.size)
        have bx3 := BX2.out.below hbE
        have w3 := bx3.cell 3 rfl
        by_cases hlt : kk < d
        · obtain ⟨e, rfl⟩ : ∃ e, d = e + 1 := ⟨d - 1, by omega⟩
          obtain ⟨b, o, rfl, hbl, hcs⟩ := HR3.out.pos hdn
          have hin := hcs (e + 1) hdn
          have HCI := Lib.hid (HC.out _ (List.getElem_mem hdn))
          have HDR := Lib.hid (readL_drop x.outputs x.code hdn)
          clear hcs bx3
          generalize x.code[e + 1] = y at hin HCI HDR
          obtain ⟨y0, y1, y2, y3, ⟨q, dd, y4, hr⟩, y5⟩ := hin
          have hyl := hr.len
          unfold maxLen at hyl
          have HRR := Lib.hid hr
          replace y0 := (hbE.cell (p := ⟨b, o + (e + 1) * 6, none⟩) hbl).trans y0
          replace y1 := (hbE.cell (p := ⟨b, o + (e + 1) * 6 + 1, none⟩) hbl).trans y1
          replace y2 := (hbE.cell (p := ⟨b, o + (e + 1) * 6 + 2, none⟩) hbl).trans y2
          replace y3 := (hbE.cell (p := ⟨b, o + (e + 1) * 6 + 3, none⟩) hbl).trans y3
          replace y4 := (hbE.cell (p := ⟨b, o + (e + 1) * 6 + 4, none⟩) hbl).trans y4
          replace y5 := (hbE.cell (p := ⟨b, o + (e + 1) * 6 + 5, none⟩) hbl).trans y5
          generalize readL x.outputs (x.code.drop (e + 1 + 1)) = f at ow HDR
          obtain ⟨F, hF⟩ : ∃ F, F = wj.alloc (.cells #[.int .i64 y.kind, .int .i64 y.a, .int .i64 y.b, .int .i64 y.node, .slice q y.src.length dd, .int .i64 y.dest] 54) := ⟨_, rfl⟩
          have bn : Box F wj.heap.size [.int .i64 y.kind, .int .i64 y.a, .int .i64 y.b, .int .i64 y.node, .slice q y.src.length dd, .int .i64 y.dest] 54 := by rw [hF]; exact Box.newAt _ _ _ rfl
          have hbF : Below W1.heap.size W1 F := by rw [hF]; exact hb.alloc hb.size _
          have hwF : Below wj.heap.size wj F := by rw [hF]; exact (Below.refl _ _).alloc (Nat.le_refl _) _
          have owF := ow.below hwF
          have HF := Lib.hid hF
          have t0 := bn.cell 0 rfl
          have t4 := bn.cell 4 rfl
          have t5 := bn.cell 5 rfl
          have hbz : W1.heap.size ≤ b1 := by have := HB1'.out; omega
          have hown := (ow.lt (k := b1) rfl).2
          have hbw : b1 ≠ wj.heap.size := by omega
          have HOWF := Lib.hid owF
          have HBN := Lib.hid bn
          have hef : e + 1 < x.code.length := hdn
          clear hF hr bn ow hwF hown owF hb hdn
          have hwe : wrap64 ((e : Int) + 1 - 1) = (e : Int) := by unfold wrap64; omega
          by_cases k18 : y.kind = 18
          · have hk18 : (y.kind != 18) = false := by simp [k18]
            have OW0 : Hid (OwnV b1 F 4 (.slice (some ⟨b1, 0, none⟩) Rg Rg) (bitsF Rg (partF f y 0))) := by unfold Hid; rw [partF_store f y k18]; exact HOWF.out
            have HBF := Lib.hid hbF
            clear k18 HOWF hbF
            go_upto_region 15 with fail
            rw [← HF.out]
            go_wp2_with fail
            clear t0 t4 t5
            go_loopw [64] (fun i wr => ∃ j : Nat, j ≤ y.src.length ∧ i = .int .i64 (j : Int) ∧ OwnV b1 wr 4 (.slice (some ⟨b1, 0, none⟩) Rg Rg) (bitsF Rg (partF f y j)) ∧ Below W1.heap.size W1 wr) (fun i _ => y.src.length - (intOf i).toNat)
            case atStart => exact ⟨0, Nat.zero_le _, rfl, OW0.out, HBF.out⟩
            case round =>
              obtain ⟨j, hj, rfl, ow, hb⟩ := hrel
              obtain ⟨wl, rfl⟩ : ∃ wl : World, wl = wr := ⟨_, rfl⟩
              clear OW0 HBF
              have hrl := HRR.out.below (HB1.out.trans (hb.mono HB1.out.size))
              by_cases hjt : j < y.src.length
              · obtain ⟨b', o', rfl, hbl', hcs'⟩ := hrl.pos hjt
                have hcj := hcs' j hjt
                have hfb := HCI.out.1 _ (List.getElem_mem hjt)
                have HUP := Lib.hid (partF_succ f y hjt)
                clear hcs' hrl
                generalize y.src[j] = u at hcj hfb HUP
                obtain ⟨r, rfl⟩ : ∃ r : Nat, u = r := ⟨u.toNat, by omega⟩
                have hrR : r < Rg := by omega
                obtain ⟨-, hbg, hgl, cell, fz, hst⟩ := ow.storing (k := r) (by rw [bitsF_length]; exact hrR)
                have hst' := hst (.bool true)
                rw [bitsF_set, HUP.out] at hst'
                have HST := Lib.hid hst'
                rw [bitsF_get] at cell
                clear hst hst' ow
                generalize partF f y j (r : Int) = bb at cell
                go_wp2_with fail
                go_roundw
                case rel => exact ⟨j + 1, by omega, by go_num, HST.out, hb.setCell (by show W1.heap.size ≤ b1; omega) _⟩
                case measure => simp [intOf] <;> omega
              · obtain rfl : j = y.src.length := by omega
                have HW3 : Hid (OwnV b1 wl 4 (.slice (some ⟨b1, 0, none⟩) Rg Rg) (bitsF Rg (readL x.outputs (x.code.drop (e + 1))))) := by unfold Hid; rw [HDR.out, ← partF_end]; exact ow
                clear ow hrl
                go_wp2_with fail
                go_roundw
                case rel => exact ⟨e, by go_num, by omega, by omega, HW3.out, hb⟩
                case measure => simp [intOf] <;> omega
          · have hk18 : (y.kind != 18) = true := by simp [k18]
            have hdb := HCI.out.2 k18
            obtain ⟨D, hD⟩ : ∃ D : Nat, y.dest = D := ⟨y.dest.toNat, by omega⟩
            have hdR : D < Rg := by omega
            obtain ⟨-, hbg, hgl, cell, fz, hst⟩ := HOWF.out.storing (k := D) (by rw [bitsF_length]; exact hdR)
            have hst' := hst (.bool false)
            rw [bitsF_set, ← hD, partF_new f y k18] at hst'
            rw [bitsF_get] at cell
            rw [hD] at t5
            obtain ⟨V, hV⟩ : ∃ V, V = F.setCell ⟨b1, D, none⟩ (.bool false) := ⟨_, rfl⟩
            rw [← hV] at hst'
            have OW0 := Lib.hid hst'
            have HBF : Hid (Below W1.heap.size W1 V) := by unfold Hid; rw [hV]; exact hbF.setCell (by show W1.heap.size ≤ b1; omega) _
            have v4 : V.cell? ⟨wj.heap.size, 4, none⟩ = some (.slice q y.src.length dd) := by
              rw [hV]; exact (HBN.out.other (a := ⟨b1, D, none⟩) (fun h => hbw h.symm) _).cell 4 rfl
            have HV := Lib.hid hV
            clear k18 HOWF hbF hst hst' hV hdb hD
            generalize f (D : Int) = bb at cell
            go_upto_region 15 with fail
            rw [← HF.out]
            go_upto_region 17 with fail
            rw [← HV.out]
            clear t4
            go_wp2_with fail
            clear t0 t5 v4 cell fz
            go_loopw [64] (fun i wr => ∃ j : Nat, j ≤ y.src.length ∧ i = .int .i64 (j : Int) ∧ OwnV b1 wr 4 (.slice (some ⟨b1, 0, none⟩) Rg Rg) (bitsF Rg (partF f y j)) ∧ Below W1.heap.size W1 wr) (fun i _ => y.src.length - (intOf i).toNat)
            case atStart => exact ⟨0, Nat.zero_le _, rfl, OW0.out, HBF.out⟩
            case round =>
              obtain ⟨j, hj, rfl, ow, hb⟩ := hrel
              obtain ⟨wl, rfl⟩ : ∃ wl : World, wl = wr := ⟨_, rfl⟩
              clear OW0 HBF
              have hrl := HRR.out.below (HB1.out.trans (hb.mono HB1.out.size))
              by_cases hjt : j < y.src.length
              · obtain ⟨b', o', rfl, hbl', hcs'⟩ := hrl.pos hjt
                have hcj := hcs' j hjt
                have hfb := HCI.out.1 _ (List.getElem_mem hjt)
                have HUP := Lib.hid (partF_succ f y hjt)
                clear hcs' hrl
                generalize y.src[j] = u at hcj hfb HUP
                obtain ⟨r, rfl⟩ : ∃ r : Nat, u = r := ⟨u.toNat, by omega⟩
                have hrR : r < Rg := by omega
                obtain ⟨-, hbg, hgl, cell, fz, hst⟩ := ow.storing (k := r) (by rw [bitsF_length]; exact hrR)
                have hst' := hst (.bool true)
                rw [bitsF_set, HUP.out] at hst'
                have HST := Lib.hid hst'
                rw [bitsF_get] at cell
                clear hst hst' ow
                generalize partF f y j (r : Int) = bb at cell
                go_wp2_with fail
                go_roundw
                case rel => exact ⟨j + 1, by omega, by go_num, HST.out, hb.setCell (by show W1.heap.size ≤ b1; omega) _⟩
                case measure => simp [intOf] <;> omega
              · obtain rfl : j = y.src.length := by omega
                have HW3 : Hid (OwnV b1 wl 4 (.slice (some ⟨b1, 0, none⟩) Rg Rg) (bitsF Rg (readL x.outputs (x.code.drop (e + 1))))) := by unfold Hid; rw [HDR.out, ← partF_end]; exact ow
                clear ow hrl
                go_wp2_with fail
                go_roundw
                case rel => exact ⟨e, by go_num, by omega, by omega, HW3.out, hb⟩
                case measure => simp [intOf] <;> omega
        · obtain rfl : kk = d := by omega
          have hbz : W1.heap.size ≤ b1 := by have := HB1'.out; omega
          have HOWX := Lib.hid ow
          have HBX := Lib.hid hb
          have hBj := HBW1.out.trans (hb.mono HBW1.out.size)
          have o1 := OwnI.lit (B := wj.heap.size) wj [] (Nat.le_refl _) (by simp [maxLen])
          have hb3 := (Below.refl wj.heap.size wj).alloc (Nat.le_refl _) (.cells #[] 2)
          have hwz : w.heap.size ≤ wj.heap.size := hBj.size
          clear ow hb bx3 w3
          go_wp2_with fail
          go_loopw [13, 75] (fun ov i wr => ∃ r : Nat, r ≤ Rg ∧ i = .int .i64 (r : Int) ∧ OwnI wj.heap.size wr ov (liveN x kk r) ∧ Below wj.heap.size wj wr) (fun _ i _ => Rg - (intOf i).toNat)
          case atStart => exact ⟨0, Nat.zero_le _, rfl, o1, hb3⟩
          case round =>
            obtain ⟨r, hr, rfl, oo, hb⟩ := hrel
            obtain ⟨wi2, rfl⟩ : ∃ wi2 : World, wi2 = wr := ⟨_, rfl⟩
            clear hb3 o1
            have hz := hb.size
            have hln := liveN_len x kk r
            by_cases hlt2 : r < Rg
            · have owr := HOWX.out.below hb
              obtain ⟨-, -, -, cell, -, -⟩ := owr.storing (k := r) (by rw [bitsF_length]; exact hlt2)
              rw [bitsF_get] at cell
              have HS := Lib.hid (liveN_succ x kk r)
              clear owr
              generalize readL x.outputs (x.code.drop (kk + 1)) (r : Int) = bb at cell HS
              generalize liveN x kk r = fl at oo hln HS
              cases bb
              · rw [if_neg (by decide), List.append_nil] at HS
                go_wp2_with fail
                go_roundw
                case rel => exact ⟨r + 1, by omega, by go_num, by rw [HS.out]; exact oo, hb⟩
                case measure => simp [intOf] <;> omega
              · rw [if_pos rfl] at HS
                go_wp2_with (first | (at_builtin; refine wpList_append_one rfl _ _ rfl rfl oo rfl hb (by omega) hz (Nat.le_refl _) ?_; intro v' w4 hown4 hb4 hz4 hk4) | fail)
                have HO4 := Lib.hid hown4
                clear hk4 hown4 oo
                go_roundw
                case rel => exact ⟨r + 1, by omega, by go_num, by rw [HS.out]; exact HO4.out, hb4⟩
                case measure => simp [intOf] <;> omega
            · obtain rfl : r = Rg := by omega
              have HOO := Lib.hid oo
              have hBf := hBj.trans (hb.mono hwz)
              clear oo
              go_wp2_with fail
              go_ret2
              refine RetLv.mk ?_ hwz hBf
              rw [HRS2.out]
              exact HOO.out
end Go.Proofs.Ytabfdnkomhjlkaa
