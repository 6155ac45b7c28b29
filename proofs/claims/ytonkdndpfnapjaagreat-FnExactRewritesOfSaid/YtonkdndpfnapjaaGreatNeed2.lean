/-
  The nodes that outputs need: the reference's way; both functions NeededNodes.
-/
import Derived.Test.YtonkdndpfnapjaaGreatNeed
namespace Go.Proofs.YtonkdndpfnapjaaGreat
open Go.ChangeShapes Go.WideShapes Go.ChangeAt Go.RowKit
set_option linter.unusedVariables false

theorem putAll_snoc {out l : List Int} {k : Nat} (h : k < l.length) : putAll out (l.take (k + 1)) = putR (putAll out (l.take k)) l[k] := by
  unfold putAll
  rw [List.take_succ_eq_append_getElem h, List.foldl_append]
  rfl
theorem putAll_cons {out l : List Int} {k : Nat} (h : k < l.length) : putAll out (l.drop k) = putAll (putR out l[k]) (l.drop (k + 1)) := by
  rw [List.drop_eq_getElem_cons h]; rfl
theorem rndL_cons {nodes : List NodeD} {out l : List Int} {k : Nat} (h : k < l.length) : rndL nodes out (l.drop k) = rndL nodes (putAll out (srcs nodes l[k])) (l.drop (k + 1)) := by
  rw [List.drop_eq_getElem_cons h]; rfl
/-- rising places in the patch: not more than there are nodes -/
def Pl (n : Nat) (xs : List Int) : Prop := Rising xs ∧ ∀ i ∈ xs, 0 ≤ i ∧ i < (n : Int)
theorem Pl.len {n : Nat} {xs : List Int} (h : Pl n xs) : xs.length ≤ n := rising_len (a := 0) h.1 fun i hi => by have := h.2 i hi; omega
theorem Pl.put {n : Nat} {xs : List Int} (h : Pl n xs) {i : Int} (h0 : 0 ≤ i) (h1 : i < (n : Int)) : Pl n (putR xs i) := ⟨putR_rising h.1, fun j hj => by
  rcases mem_putR.1 hj with rfl | hj
  · exact ⟨h0, h1⟩
  · exact h.2 j hj⟩
theorem Pl.nil (n : Nat) : Pl n [] := ⟨by simp [Rising], by simp⟩
set_option maxHeartbeats 6400000 in
set_option maxRecDepth 100000 in
theorem l07Needed_any {g : Nat} {x : PatchD} (w : World) (h : PPatch w g x) (hf : formedB x = true) :
    Calls Tryz.prog 40 #[.pointer (some ⟨g, 0, none⟩)] w fun e w' => ∃ u, e = .returned u ∧ OwnI w.heap.size w' u (need x) ∧ Below w.heap.size w w' := by
  have hn24 := (formed_iff.1 hf).2.2.1
  have ho4 := (formed_iff.1 hf).2.2.2.1
  have OK := Lib.hid (formed_src hf)
  have HO := Lib.hid (formed_outs hf)
  have HNE : Hid (sat x.nodes (x.nodes.length + 1) (putAll [] x.outputs) = need x) := needL_eq (formed_src hf) (formed_outs hf)
  generalize need x = R at HNE ⊢
  obtain ⟨p1, c1, p2, c2, p3, c3, bx, r1, r2, r3⟩ := h
  clear r1 hf
  have h0 := OwnI.lit (B := w.heap.size) w [] (Nat.le_refl _) (by simp [maxLen])
  have hb0 := (Below.refl w.heap.size w).alloc (Nat.le_refl _) (.cells #[] 2)
  go_enter Tryz.func40, Tryz.ntmps40
  go_wp2_with fail
  go_loopw [3, 4] (fun ov iv wr => ∃ k : Nat, k ≤ x.outputs.length ∧ iv = .int .i64 k ∧ OwnI w.heap.size wr ov (putAll [] (x.outputs.take k)) ∧ Below w.heap.size w wr ∧ Hid (Pl x.nodes.length (putAll [] (x.outputs.take k)))) (fun _ iv _ => x.outputs.length - (intOf iv).toNat)
  case atStart => exact ⟨0, Nat.zero_le _, rfl, by simpa [putAll] using h0, hb0, by unfold Hid; rw [List.take_zero]; exact Pl.nil _⟩
  case round =>
    obtain ⟨k, hk, rfl, hown, hbel, HP⟩ := hrel
    clear h0 hb0
    obtain ⟨wi, rfl⟩ : ∃ wi : World, wi = wr := ⟨_, rfl⟩
    have bx1 := bx.below hbel
    have z3 := bx1.cell 3 rfl
    by_cases hlt : k < x.outputs.length
    · obtain ⟨b, o, rfl, hb, hc⟩ := r3.pos hlt
      have hck := (hbel.cell (p := ⟨b, o + k, none⟩) hb).trans (hc k hlt)
      have hr := HO.out _ (List.getElem_mem hlt)
      have HN : Hid (putAll [] (x.outputs.take (k + 1)) = putR (putAll [] (x.outputs.take k)) x.outputs[k]) := putAll_snoc hlt
      have HP2 : Hid (Pl x.nodes.length (putR (putAll [] (x.outputs.take k)) x.outputs[k])) := HP.out.put hr.1 hr.2
      have hll := HP.out.len
      generalize putAll [] (x.outputs.take k) = cur at hown HP HN HP2 hll
      generalize x.outputs[k] = y at hck HN HP2
      obtain ⟨op, oc, rfl, hro⟩ := hown.rd
      have PU := Lib.hid (fun W hW => l00Put_any (c := oc) y W (hro.below hW) (by omega))
      clear hc hr hro hown
      go_wp2_with fail
      refine (PU.out wi (Below.refl _ _)).mono ?_
      rintro e W2 ⟨v, rfl, ho2, hb2⟩
      go_wp2_with fail
      go_roundw
      case rel => exact ⟨k + 1, by omega, by go_num, by rw [HN.out]; exact ho2.mono hbel.size, hbel.trans (hb2.mono hbel.size), by unfold Hid; rw [HN.out]; exact HP2.out⟩
      case measure => simp [intOf] <;> omega
    · obtain rfl : k = x.outputs.length := by omega
      rw [List.take_length] at hown HP
      go_wp2_with fail
      have HS : Hid (sat x.nodes (x.nodes.length + 1) (putAll [] x.outputs) = R) := HNE
      generalize putAll [] x.outputs = out0 at hown HP HS
      clear HO HNE r3 z3 bx1 ho4
      go_loopg [3, 5] (x.nodes.length + 2) (fun f ov mv wr' => ∃ (out : List Int) (more : Bool), mv = .bool more ∧ OwnI w.heap.size wr' ov out ∧ Below w.heap.size w wr' ∧ Hid (Pl x.nodes.length out) ∧ Hid ((more = true → ∃ f', f = f' + 1 ∧ sat x.nodes f' out = R ∧ x.nodes.length < f' + out.length) ∧ (more = false → out = R)))
      case atStart => exact ⟨out0, true, rfl, hown, hbel, HP, by unfold Hid; exact ⟨fun _ => ⟨x.nodes.length + 1, rfl, HS.out, by omega⟩, fun h => by cases h⟩⟩
      case round =>
        clear hown hbel HP HS
        obtain ⟨out, more, rfl, hown, hbel, HP, HM⟩ := hrel
        obtain ⟨wj, rfl⟩ : ∃ wj : World, wj = wr := ⟨_, rfl⟩
        cases more
        case false =>
          have HR : Hid (out = R) := HM.out.2 rfl
          have hh := hown
          obtain ⟨op, oc, rfl, -⟩ := hh.rd
          have HOW := Lib.hid hown
          clear hown hh
          go_wp2_with fail
          go_ret
          exact ⟨_, rfl, by rw [← HR.out]; exact HOW.out, hbel⟩
        obtain ⟨f', hfe, hsat, hfl⟩ := HM.out.1 rfl
        have hol := HP.out.len
        obtain ⟨f, rfl⟩ : ∃ f, f' = f + 1 := ⟨f' - 1, by omega⟩
        have HF := Lib.hid hfe
        have HSA := Lib.hid hsat
        have HFL := Lib.hid hfl
        clear HM hfe hsat hfl
        have hh := hown
        obtain ⟨op, oc, rfl, hro⟩ := hh.rd
        have OW := Lib.hid (l00Own_any (c := oc) wj hro (by omega))
        clear hh hro
        go_wp2_with (go_at_call 69; refine OW.out.mono ?_; rintro e W1 ⟨lv, rfl, hlist, hb1⟩)
        have hlt1 := hlist
        obtain ⟨lp, lc, rfl, hrl⟩ := hlt1.rd
        have hown1 := hown.below hb1
        have hbel1 := hbel.trans (hb1.mono hbel.size)
        clear hlist hown hlt1 OW
        have HRS : Hid (rndL x.nodes out (out.drop 0) = rndL x.nodes out out) := by unfold Hid; rw [List.drop_zero]
        go_wp2_with fail
        go_loopw [3, 8] (fun ov iv wr' => ∃ (k : Nat) (cur : List Int), k ≤ out.length ∧ iv = .int .i64 k ∧ OwnI w.heap.size wr' ov cur ∧ Below W1.heap.size W1 wr' ∧ Hid (Pl x.nodes.length cur) ∧ Hid (rndL x.nodes cur (out.drop k) = rndL x.nodes out out)) (fun _ iv _ => out.length - (intOf iv).toNat)
        case atStart => exact ⟨0, out, Nat.zero_le _, rfl, hown1, Below.refl _ _, HP, HRS⟩
        case round =>
          clear hown1 HRS
          obtain ⟨k, cur, hk, rfl, hown, hbk, HPC, HR⟩ := hrel
          obtain ⟨wk, rfl⟩ : ∃ wk : World, wk = wr := ⟨_, rfl⟩
          have hbelk := hbel1.trans (hbk.mono hbel1.size)
          have bxk := bx.below hbelk
          have z2 := bxk.cell 2 rfl
          by_cases hlt : k < out.length
          · obtain ⟨b, o, rfl, hb, hc⟩ := hrl.pos hlt
            have hck := (hbk.cell (p := ⟨b, o + k, none⟩) hb).trans (hc k hlt)
            have hr := HP.out.2 _ (List.getElem_mem hlt)
            obtain ⟨m, hm⟩ : ∃ m : Nat, out[k] = m := ⟨out[k].toNat, by omega⟩
            have HRN : Hid (rndL x.nodes cur (out.drop k) = rndL x.nodes (putAll cur (srcs x.nodes m)) (out.drop (k + 1))) := by rw [← hm]; exact rndL_cons hlt
            rw [hm] at hck hr
            have hmn : m < x.nodes.length := by omega
            obtain ⟨b2, o2, rfl, hbl2, hcc⟩ := r2.pos hmn
            obtain ⟨-, -, -, q, d, y3, hrs⟩ := hcc m hmn
            have Y3 := (hbelk.cell (p := ⟨b2, o2 + m * 4 + 3, none⟩) hbl2).trans y3
            have hse : srcs x.nodes (m : Int) = x.nodes[m].src := by unfold srcs; rw [Int.toNat_natCast, getD_node hmn]
            have HSR : Hid (∀ s ∈ srcs x.nodes (m : Int), 0 ≤ s ∧ s < (x.nodes.length : Int)) := fun s hs => srcs_rng OK.out hs
            have hs3 := srcs_len OK.out (m : Int)
            rw [← hse] at Y3 hrs
            generalize srcs x.nodes (m : Int) = ys at HRN Y3 hrs HSR hs3
            clear hc hm hr hcc y3 hse
            go_wp2_with fail
            go_quiet (fail)
            have hbkq := below_drewN hbk nq
            have hownq : OwnI w.heap.size (wk.drewN nq) _ cur := hown
            clear hown hbk z2 hck Y3 bxk hbelk
            generalize wk.drewN nq = W2 at hbkq hownq ⊢
            have hbelq := hbel1.trans (hbkq.mono hbel1.size)
            have hrsq := hrs.below hbelq
            have hsq := hbelq.size
            go_wp2_with fail
            go_loopw [3, 10] (fun ov iv wr' => ∃ (j : Nat) (c2 : List Int), j ≤ ys.length ∧ iv = .int .i64 j ∧ OwnI w.heap.size wr' ov c2 ∧ Below W2.heap.size W2 wr' ∧ Hid (Pl x.nodes.length c2) ∧ Hid (putAll c2 (ys.drop j) = putAll cur ys)) (fun _ iv _ => ys.length - (intOf iv).toNat)
            case atStart => exact ⟨0, cur, Nat.zero_le _, rfl, hownq, Below.refl _ _, HPC, by unfold Hid; rw [List.drop_zero]⟩
            case round =>
              clear hownq HPC
              obtain ⟨j, c2, hj, rfl, hown, hbj, HPC, HA⟩ := hrel
              obtain ⟨wl, rfl⟩ : ∃ wl : World, wl = wr := ⟨_, rfl⟩
              have hsl := hbj.size
              by_cases hlt2 : j < ys.length
              · obtain ⟨b3, o3, rfl, hb3, hc3⟩ := (hrsq.below hbj).pos hlt2
                have hcj := hc3 j hlt2
                have hrj := HSR.out _ (List.getElem_mem hlt2)
                have HN : Hid (putAll c2 (ys.drop j) = putAll (putR c2 ys[j]) (ys.drop (j + 1))) := putAll_cons hlt2
                have HP2 : Hid (Pl x.nodes.length (putR c2 ys[j])) := HPC.out.put hrj.1 hrj.2
                have hll := HPC.out.len
                generalize ys[j] = y at hcj HN HP2
                obtain ⟨op2, oc2, rfl, hro⟩ := hown.rd
                have PU := Lib.hid (fun W hW => l00Put_any (c := oc2) y W (hro.below hW) (by omega))
                clear hc3 hrj hro hown
                go_wp2_with fail
                refine (PU.out wl (Below.refl _ _)).mono ?_
                rintro e W3 ⟨v, rfl, ho2, hb2⟩
                go_wp2_with fail
                go_roundw
                case rel => exact ⟨j + 1, putR c2 y, by omega, by go_num, ho2.mono (by omega), hbj.trans (hb2.mono hbj.size), HP2, by unfold Hid; rw [← HN.out]; exact HA.out⟩
                case measure => simp [intOf] <;> omega
              · obtain rfl : j = ys.length := by omega
                have HE : Hid (c2 = putAll cur ys) := by have := HA.out; rw [List.drop_length] at this; exact this
                go_wp2_with fail
                go_roundw
                case rel => exact ⟨k + 1, c2, by omega, by go_num, hown, hbkq.trans (hbj.mono hbkq.size), HPC, by unfold Hid; rw [HE.out, ← HRN.out]; exact HR.out⟩
                case measure => simp [intOf] <;> omega
          · obtain rfl : k = out.length := by omega
            have HE : Hid (cur = rndL x.nodes out out) := by have := HR.out; rw [List.drop_length] at this; exact this
            have hh := hown
            obtain ⟨up, uc, rfl, -⟩ := hh.rd
            have HOW := Lib.hid hown
            have HSD : Hid (∀ b, decide ((out.length : Int) < (cur.length : Int)) = b → sat x.nodes (f + 1) out = if b then sat x.nodes f cur else cur) := fun b hb => by
              rw [← hb, sat, ← HE.out]
              by_cases hh : cur.length > out.length
              · rw [if_pos hh, if_pos (by simp; omega)]
              · rw [if_neg hh, if_neg (by simp; omega)]
            clear hown hh
            by_cases hgt : out.length < cur.length
            · have hs2 : sat x.nodes f cur = R := by rw [← HSA.out, HSD.out true (by simp; omega)]; rfl
              have HS2 := Lib.hid hs2
              clear hs2 HSD
              go_wp2_with fail
              go_roundg (f + 1)
              case measure => have := HF.out; omega
              case rel => exact ⟨cur, true, rfl, HOW.out, hbelk, HPC, by unfold Hid; exact ⟨fun _ => ⟨f, rfl, HS2.out, by have := HFL.out; omega⟩, fun h => by cases h⟩⟩
            · have hs2 : cur = R := by rw [← HSA.out, HSD.out false (by simp; omega)]; rfl
              have HS2 := Lib.hid hs2
              clear hs2 HSD
              go_wp2_with fail
              go_roundg 0
              case measure => have := HF.out; omega
              case rel => exact ⟨cur, false, rfl, HOW.out, hbelk, HPC, by unfold Hid; exact ⟨fun h => (by cases h), fun _ => HS2.out⟩⟩
def needRes (x : PatchD) : List Int := if okB x then need x else []
theorem needRes_small (x : PatchD) : cntI (needRes x) ≤ 1048576 := by
  unfold cntI needRes
  split
  · rename_i h
    have h1 := okB_n24 h
    have h2 := need_length x
    omega
  · simp
end Go.Proofs.YtonkdndpfnapjaaGreat
