/-
  Programs: registers are written before they are read, on the program's side.
-/
import Derived.Test.YtabfdnkomhjlkaaPvH
namespace Go.Proofs.Ytabfdnkomhjlkaa
open Go.ChangeShapes Go.WideShapes Go.ChangeAt Go.RowKit Go.Maps
set_option linter.unusedVariables false
set_option linter.unusedSimpArgs false

theorem infoBv : (Try.prog.info? 4).map (fun i => (i.zero, i.size, i.bytes)) = some (some (.bool false), 1, 1) := by kernel_rfl
def bits (R : Nat) (h : List Int) : List Value := (List.range R).map fun (r : Nat) => Value.bool (h.contains (r : Int))
theorem bits_length (R : Nat) (h : List Int) : (bits R h).length = R := by simp [bits]
theorem bits_get (R : Nat) (h : List Int) (r : Nat) (hr : r < (bits R h).length) : (bits R h)[r] = .bool (h.contains (r : Int)) := by simp [bits]
theorem bits_nil (R : Nat) : bits R [] = List.replicate R (.bool false) := by
  apply List.ext_getElem
  · simp [bits]
  · intro i h1 h2; simp [bits]
theorem bits_set (R : Nat) (h : List Int) (d : Nat) : (bits R h).set d (.bool true) = bits R (h ++ [(d : Int)]) := by
  apply List.ext_getElem
  · simp [bits]
  · intro i h1 h2
    rw [List.getElem_set]
    simp only [bits, List.getElem_map, List.getElem_range]
    by_cases e : d = i
    · subst e; rw [if_pos rfl]; simp
    · rw [if_neg e]
      congr 1
      rw [Bool.eq_iff_iff, List.contains_iff_mem, List.contains_iff_mem, List.mem_append, List.mem_singleton]
      constructor
      · intro h; exact .inl h
      · rintro (h | h)
        · exact h
        · exact absurd h (by omega)
theorem wr_stop {l : List InstrD} {outs : List Int} {k : Nat} {h : List Int} (hk : k < l.length) (hs : wrRun (l.take k) = some h) (hf : l[k].src.all (fun f => h.contains f) = false) : writtenB l outs = false := by
  have : wrRun l = none := wrRun_stop (k := k + 1) (by rw [List.take_succ_eq_append_getElem hk, wrRun_snoc, hs]; show wrStep h l[k] = none; unfold wrStep; rw [hf]; rfl)
  unfold writtenB; rw [this]
theorem wr_step {l : List InstrD} {k : Nat} {h : List Int} (hk : k < l.length) (hs : wrRun (l.take k) = some h) (hf : l[k].src.all (fun f => h.contains f) = true) : wrRun (l.take (k + 1)) = some (if l[k].kind = 18 then h else h ++ [l[k].dest]) := by
  rw [List.take_succ_eq_append_getElem hk, wrRun_snoc, hs]; show wrStep h l[k] = _; unfold wrStep; rw [hf]; rfl
set_option maxHeartbeats 8000000 in
set_option maxRecDepth 100000 in
theorem writesFirst_v {v : Value} {x : ProgramD} (w : World) (h : VProgram w v x) (hg0 : 0 ≤ x.registers) (hg1 : x.registers ≤ 24) (ho : ∀ f ∈ x.outputs, 0 ≤ f ∧ f ≤ x.registers - 1)
    (hc : ∀ y ∈ x.code, (∀ f ∈ y.src, 0 ≤ f ∧ f ≤ x.registers - 1) ∧ (y.kind ≠ 18 → 0 ≤ y.dest ∧ y.dest ≤ x.registers - 1)) (hm : x.code.length ≤ 48) :
    Calls Try.prog 43 #[v] w fun e w' => e = .returned (.bool (writtenB x.code x.outputs)) ∧ Below w.heap.size w w' := by
  obtain ⟨p2, c2, p3, c3, p4, c4, rfl, -, r3, r4⟩ := h
  obtain ⟨R, hRg⟩ : ∃ R : Nat, x.registers = R := ⟨x.registers.toNat, by omega⟩
  rw [hRg] at hc ho ⊢
  have hR24 : R ≤ 24 := by omega
  have HC := Lib.hid hc
  have HO := Lib.hid ho
  obtain ⟨n, hn⟩ : ∃ n, n = x.code.length := ⟨_, rfl⟩
  have HN := Lib.hid hn
  have HR3 := Lib.hid r3
  have HR4 := Lib.hid r4
  rw [← hn] at hm
  obtain ⟨E0, hE0⟩ : ∃ E, E = w.alloc (.cells #[.int .i64 x.inputs, .int .i64 (R : Int), .slice p2 x.tables.length c2, .slice p3 n c3, .slice p4 x.outputs.length c4] 31) := ⟨_, rfl⟩
  have hB0 : Below w.heap.size w E0 := by rw [hE0]; exact (Below.refl _ _).alloc (Nat.le_refl _) _
  have bx : Box E0 w.heap.size [.int .i64 x.inputs, .int .i64 (R : Int), .slice p2 x.tables.length c2, .slice p3 n c3, .slice p4 x.outputs.length c4] 31 := by rw [hE0]; exact Box.newAt w _ _ rfl
  have HE := Lib.hid hE0
  have hmk := fun W => run_make_row' (P := Try.prog) 55 4 (.bool false) 1 Try.underlying55 infoBv rfl .i64 .i64 R (by omega) (by omega) W
  have ow := OwnV.made (B := E0.heap.size) E0 4 (.bool false) R (Nat.le_refl _) (by unfold maxLen; omega)
  obtain ⟨b1, hb1⟩ : ∃ b, b = E0.heap.size := ⟨_, rfl⟩
  obtain ⟨E1, hE1⟩ : ∃ E, E = E0.alloc (.cells (madeCells #[.bool false] R) 4) := ⟨_, rfl⟩
  rw [← hE1, ← hb1, ← bits_nil] at ow
  have hw1 : w.heap.size < b1 := by rw [hb1, hE0]; simp
  have hB1 : Below w.heap.size w E1 := by rw [hE1]; exact hB0.alloc (by omega) _
  have bx1 : Box E1 w.heap.size [.int .i64 x.inputs, .int .i64 (R : Int), .slice p2 x.tables.length c2, .slice p3 n c3, .slice p4 x.outputs.length c4] 31 := by rw [hE1]; exact bx.alloc _
  have y1 := bx.cell 1 rfl
  have HZ := Lib.hid (bx1.cell 3 rfl)
  have HE1 := Lib.hid hE1
  have HB1 := Lib.hid hb1
  have HOW := Lib.hid ow
  have HBX := Lib.hid bx1
  generalize hRR : writtenB x.code x.outputs = RR
  have HRE := Lib.hid hRR
  clear hc ho hn r3 r4 hE0 hb1 hE1 ow hB0 bx bx1 hRR hRg hg0 hg1
  rw [← HN.out]
  go_enter Try.func43, Try.ntmps43
  go_upto_region 1 with fail
  rw [← HE.out]
  go_upto_region 2 with fail
  rw [← HE1.out, ← HB1.out]
  have z3 := HZ.out
  go_wp2_with fail
  clear z3 hmk y1
  go_loopw [16] (fun i wr => ∃ (k : Nat) (h : List Int), k ≤ n ∧ i = .int .i64 (k : Int) ∧ wrRun (x.code.take k) = some h ∧ OwnV b1 wr 4 (.slice (some ⟨b1, 0, none⟩) R R) (bits R h) ∧ Below w.heap.size w wr ∧ Below (w.heap.size + 1) E1 wr) (fun i _ => n - (intOf i).toNat)
  case atStart => exact ⟨0, _, Nat.zero_le _, rfl, rfl, HOW.out, hB1, Below.refl _ _⟩
  case round =>
    obtain ⟨k, h, hk, rfl, hs, ow, hb, hbe⟩ := hrel
    have HS := Lib.hid hs
    clear hs
    obtain ⟨wi, rfl⟩ : ∃ wi : World, wi = wr := ⟨_, rfl⟩
    clear hB1
    by_cases hlt : k < n
    · have hlt' : k < x.code.length := by have := HN.out; omega
      obtain ⟨b, o, rfl, hbl, hcs⟩ := (HR3.out.below hb).pos hlt'
      have hin := hcs k hlt'
      have hci := HC.out _ (List.getElem_mem hlt')
      have STOP : Hid (x.code[k].src.all (fun f => h.contains f) = false → writtenB x.code x.outputs = false) := fun hh => wr_stop hlt' HS.out hh
      have STEP : Hid (x.code[k].src.all (fun f => h.contains f) = true → wrRun (x.code.take (k + 1)) = some (if x.code[k].kind = 18 then h else h ++ [x.code[k].dest])) := fun hh => wr_step hlt' HS.out hh
      clear hcs
      generalize x.code[k] = y at hin hci STOP STEP
      obtain ⟨y0, y1, y2, y3, ⟨q, d, y4, hr⟩, y5⟩ := hin
      have hyl := hr.len
      unfold maxLen at hyl
      obtain ⟨F, hF⟩ : ∃ F, F = wi.alloc (.cells #[.int .i64 y.kind, .int .i64 y.a, .int .i64 y.b, .int .i64 y.node, .slice q y.src.length d, .int .i64 y.dest] 54) := ⟨_, rfl⟩
      have bn : Box F wi.heap.size [.int .i64 y.kind, .int .i64 y.a, .int .i64 y.b, .int .i64 y.node, .slice q y.src.length d, .int .i64 y.dest] 54 := by rw [hF]; exact Box.newAt _ _ _ rfl
      have hbF : Below w.heap.size w F := by rw [hF]; exact hb.alloc hb.size _
      have hwF : Below wi.heap.size wi F := by rw [hF]; exact (Below.refl _ _).alloc (Nat.le_refl _) _
      have hbeF : Below (w.heap.size + 1) E1 F := by
        rw [hF]
        exact hbe.alloc (by have := hbe.size; have := (HBX.out).lt; omega) _
      have owF := ow.below hwF
      have hrF := hr.below hwF
      have HF := Lib.hid hF
      have t0 := bn.cell 0 rfl
      have t4 := bn.cell 4 rfl
      have t5 := bn.cell 5 rfl
      have HCI := Lib.hid hci
      have HOWF := Lib.hid owF
      clear hF hr bn ow owF hwF hci
      go_upto_region 5 with fail
      rw [← HF.out]
      go_wp2_with fail
      go_loop [23] (fun i => ∃ j : Nat, j ≤ y.src.length ∧ i = .int .i64 (j : Int) ∧ (y.src.take j).all (fun f => h.contains f) = true) (fun i => y.src.length - (intOf i).toNat)
      case atStart => exact ⟨0, Nat.zero_le _, rfl, by simp⟩
      case round =>
        obtain ⟨j, hj, rfl, hall⟩ := hrel
        have HA := Lib.hid hall
        clear hall
        by_cases hjt : j < y.src.length
        · obtain ⟨b', o', rfl, hbl', hcs'⟩ := hrF.pos hjt
          have hcj := hcs' j hjt
          have hfb := HCI.out.1 _ (List.getElem_mem hjt)
          clear hcs'
          generalize hf : y.src[j] = f at hcj hfb
          have HFJ := Lib.hid hf
          clear hf
          obtain ⟨r, rfl⟩ : ∃ r : Nat, f = r := ⟨f.toNat, by omega⟩
          have hrR : r < R := by omega
          obtain ⟨-, -, -, cell, -, -⟩ := HOWF.out.storing (k := r) (by rw [bits_length]; exact hrR)
          rw [bits_get] at cell
          cases hcn : h.contains (r : Int)
          · rw [hcn] at cell
            have HST : Hid (writtenB x.code x.outputs = false) := STOP.out (all_false hjt (by rw [HFJ.out]; exact hcn))
            have hR : RR = false := by rw [← HRE.out]; exact HST.out
            subst hR
            clear hcn
            go_wp2_with fail
            go_ret
            exact ⟨rfl, hbF⟩
          · rw [hcn] at cell
            have HSS := Lib.hid (all_step (f := fun f => h.contains f) hjt HA.out (by rw [HFJ.out]; exact hcn))
            clear hcn
            go_wp2_with fail
            go_round
            case rel => exact ⟨j + 1, by omega, by go_num, HSS.out⟩
            case measure => simp [intOf] <;> omega
        · obtain rfl : j = y.src.length := by omega
          have HALL := Lib.hid (all_done HA.out)
          have HSTP := Lib.hid (STEP.out HALL.out)
          by_cases k18 : y.kind = 18
          · have hk18 : (y.kind != 18) = false := by simp [k18]
            rw [if_pos k18] at HSTP
            clear k18
            go_wp2_with fail
            go_roundw
            case rel => exact ⟨k + 1, h, by omega, by go_num, HSTP.out, HOWF.out, hbF, hbeF⟩
            case measure => simp [intOf] <;> omega
          · have hk18 : (y.kind != 18) = true := by simp [k18]
            rw [if_neg k18] at HSTP
            have hdb := HCI.out.2 k18
            have hd0 := hdb.1
            have hd1 := hdb.2
            have HD : Hid (∃ dd : Nat, y.dest = dd) := ⟨y.dest.toNat, by omega⟩
            obtain ⟨dd, hdd⟩ := HD.out
            rw [hdd] at HSTP t5
            have hdR : dd < R := by omega
            obtain ⟨-, hbg, hgl, cell, fz, hst⟩ := HOWF.out.storing (k := dd) (by rw [bits_length]; exact hdR)
            have hst' := hst (.bool true)
            rw [bits_set] at hst'
            have HST := Lib.hid hst'
            rw [bits_get] at cell
            clear k18 hst hst' hdd hdb hd0 hd1 HD
            go_wp2_with fail
            go_roundw
            case rel => exact ⟨k + 1, _, by omega, by go_num, HSTP.out, HST.out, hbF.setCell (by show w.heap.size ≤ b1; omega) _, hbeF.setCell (by show w.heap.size + 1 ≤ b1; omega) _⟩
            case measure => simp [intOf] <;> omega
    · obtain rfl : k = n := by omega
      have HS2 : Hid (wrRun x.code = some h) := by have := HS.out; rw [HN.out, List.take_length] at this; exact this
      have HEND : Hid (writtenB x.code x.outputs = x.outputs.all (fun f => h.contains f)) := by unfold Hid writtenB; rw [HS2.out]
      have bxi := HBX.out.keep (hbe.block _ (by omega) )
      have z4 := bxi.cell 4 rfl
      have r4 := HR4.out.below hb
      have hol := r4.len
      unfold maxLen at hol
      have HOW2 := Lib.hid ow
      clear HS2 HS ow bxi
      go_wp2_with fail
      go_loop [44] (fun i => ∃ j : Nat, j ≤ x.outputs.length ∧ i = .int .i64 (j : Int) ∧ (x.outputs.take j).all (fun f => h.contains f) = true) (fun i => x.outputs.length - (intOf i).toNat)
      case atStart => exact ⟨0, Nat.zero_le _, rfl, by simp⟩
      case round =>
        obtain ⟨j, hj, rfl, hall⟩ := hrel
        have HA := Lib.hid hall
        clear hall
        by_cases hjt : j < x.outputs.length
        · obtain ⟨b', o', rfl, hbl', hcs'⟩ := r4.pos hjt
          have hcj := hcs' j hjt
          have hfb := HO.out _ (List.getElem_mem hjt)
          clear hcs'
          generalize hf : x.outputs[j] = f at hcj hfb
          have HFJ := Lib.hid hf
          clear hf
          obtain ⟨r, rfl⟩ : ∃ r : Nat, f = r := ⟨f.toNat, by omega⟩
          have hrR : r < R := by omega
          obtain ⟨-, -, -, cell, -, -⟩ := HOW2.out.storing (k := r) (by rw [bits_length]; exact hrR)
          rw [bits_get] at cell
          cases hcn : h.contains (r : Int)
          · rw [hcn] at cell
            have HST : Hid (writtenB x.code x.outputs = false) := by unfold Hid; rw [HEND.out]; exact all_false hjt (by rw [HFJ.out]; exact hcn)
            have hR : RR = false := by rw [← HRE.out]; exact HST.out
            subst hR
            clear hcn
            go_wp2_with fail
            go_ret
            exact ⟨rfl, hb⟩
          · rw [hcn] at cell
            have HSS := Lib.hid (all_step (f := fun f => h.contains f) hjt HA.out (by rw [HFJ.out]; exact hcn))
            clear hcn
            go_wp2_with fail
            go_round
            case rel => exact ⟨j + 1, by omega, by go_num, HSS.out⟩
            case measure => simp [intOf] <;> omega
        · obtain rfl : j = x.outputs.length := by omega
          have hR : RR = true := by rw [← HRE.out, HEND.out]; exact all_done HA.out
          subst hR
          go_wp2_with fail
          go_ret
          exact ⟨rfl, hb⟩
end Go.Proofs.Ytabfdnkomhjlkaa
