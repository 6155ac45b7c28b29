/-
  Several texts in one: RwT, RwU, RwV, RwX.
-/
import Derived.Test.YtonkdndpfnapjaaGreatRwOne
import Derived.Test.YtonkdndpfnapjaaGreatRwTwo
import Derived.Test.YtonkdndpfnapjaaGreatNeed2
namespace Go.Proofs.YtonkdndpfnapjaaGreat
open Go.ChangeShapes Go.WideShapes Go.ChangeAt Go.RowKit Go.Sort
set_option linter.unusedVariables false

set_option maxHeartbeats 4000000 in
set_option maxRecDepth 100000 in
theorem l10Const_x {x : PatchD} {gp b o c2 i : Nat} (w : World) (h : SPat w gp b o c2 x) (hf : formedB x = true) (hi : i < x.nodes.length) :
    Calls Tryz.prog 63 #[.pointer (some ⟨gp, 0, none⟩), .int .i64 (i : Int)] w fun e w' => e = .returned (.bool (constB x (i : Int))) ∧ Below w.heap.size w w' := by
  have HC : Hid (∀ b1 b2, foldL.contains (nodeAt x.nodes (i : Int)).kind = b1 → (nodeAt x.nodes (i : Int)).src.all (fun j => isC (nodeAt x.nodes j)) = b2 → constB x (i : Int) = (b1 && b2)) := by
    intro b1 b2 e1 e2
    unfold constB; rw [e1, e2]
  have hn := h.2 i hi
  have hok := nodeAt_ok hf (i := (i : Int)) (by omega) (by omega)
  have hN3 := src_le3 hok
  obtain ⟨y0, y1, y2, q, d, y3, hr⟩ := hn
  have HAL : Hid (∀ k (hk : k < (nodeAt x.nodes (i : Int)).src.length), isC (nodeAt x.nodes ((nodeAt x.nodes (i : Int)).src[k])) = isC (frm x (i : Int) k)) := fun k hk => by
    unfold frm inp
    rw [List.getD_eq_getElem?_getD, List.getElem?_eq_getElem hk]; rfl
  have JK : Hid (∀ k, k < (nodeAt x.nodes (i : Int)).src.length → ∃ j b2 o2 : Nat, q = some ⟨b2, o2, none⟩ ∧ w.cell? ⟨b2, o2 + k, none⟩ = some (.int .i64 (j : Int)) ∧ ∀ W, Below w.heap.size w W → Calls Tryz.prog 66 #[.pointer (some ⟨gp, 0, none⟩), .int .i64 (j : Int)] W fun e w' => e = .returned (.bool (isC (frm x (i : Int) k))) ∧ W = w') := fun k hk => by
    obtain ⟨b2, o2, e, hb, hc⟩ := hr.at0 (by omega)
    obtain ⟨h0, h1⟩ := inp_rng hf (i := (i : Int)) (by omega) (by omega) hk
    obtain ⟨j, hj⟩ := Int.eq_ofNat_of_zero_le h0
    have hjn : j < x.nodes.length := by omega
    have e2 : frm x (i : Int) k = nodeAt x.nodes (j : Int) := by unfold frm; rw [hj]
    refine ⟨j, b2, o2, e, ?_, fun W hW => ?_⟩
    · rw [hc k hk]; exact congrArg (fun z => some (Value.int .i64 z)) hj
    · rw [e2]; exact l10Is_x W (h.below hW) hjn
  have hc2 := h.1
  clear hr hok y1 y2
  have HLEN : Hid ((nodeAt x.nodes (i : Int)).src.length = (nodeAt x.nodes (i : Int)).src.length) := rfl
  generalize hsr : (nodeAt x.nodes (i : Int)).src = SR at *
  generalize (nodeAt x.nodes (i : Int)).kind = K at *
  generalize constB x (i : Int) = CB at *
  clear hsr HLEN
  have hl8 := rdI_lit' w foldL (by simp [foldL])
  have HAS := Lib.hid (l00Has_any (xs := foldL) (c := 8) K _ hl8)
  have hBL : Below w.heap.size w (w.alloc (.cells (foldL.map (Value.int .i64)).toArray 2)) := (Below.refl _ _).alloc (Nat.le_refl _) _
  rw [any_contains] at HAS
  obtain ⟨F, hF⟩ : ∃ F, F = w.alloc (.cells (foldL.map (Value.int .i64)).toArray 2) := ⟨_, rfl⟩
  rw [← hF] at HAS hBL
  have HF := Lib.hid hF
  have l0 := World.block_lt_of_cell? w _ y0
  have lc := World.block_lt_of_cell? w _ hc2
  clear hF hl8
  cases hc1 : foldL.contains K
  case false =>
    rw [hc1] at HAS
    obtain rfl := HC.out _ _ hc1 rfl
    rw [Bool.false_and]
    clear hc1 HC JK HAL
    go_enter Tryz.func63, Tryz.ntmps63
    go_wp2_with fail
    rw [show (w.alloc (.cells #[.int .i64 3, .int .i64 4, .int .i64 5, .int .i64 9, .int .i64 10, .int .i64 11, .int .i64 13, .int .i64 15] 2)) = F from HF.out.symm]
    refine HAS.out.mono ?_
    rintro e W1 ⟨rfl, rfl⟩
    go_wp2_with fail
    go_ret
    exact ⟨rfl, hBL⟩
  rw [hc1] at HAS
  have HC2 := Lib.hid (fun b2 h2 => HC.out true b2 hc1 h2)
  clear HC hc1
  go_enter Tryz.func63, Tryz.ntmps63
  go_wp2_with fail
  rw [show (w.alloc (.cells #[.int .i64 3, .int .i64 4, .int .i64 5, .int .i64 9, .int .i64 10, .int .i64 11, .int .i64 13, .int .i64 15] 2)) = F from HF.out.symm]
  refine HAS.out.mono ?_
  rintro e W1 ⟨rfl, rfl⟩
  go_wp2_with fail
  go_loop [7] (fun ci => ∃ k : Nat, k ≤ SR.length ∧ ci = .int .i64 k ∧ (SR.take k).all (fun j => isC (nodeAt x.nodes j)) = true) (fun ci => SR.length - (intOf ci).toNat)
  case atStart => exact ⟨0, Nat.zero_le _, rfl, by simp⟩
  case round =>
    obtain ⟨k, hk, rfl, hall⟩ := hrel
    have HA := Lib.hid hall
    clear hall
    have x0 := (hBL.cell (p := ⟨b, o + i * 4, none⟩) l0).trans y0
    have x3 := (hBL.cell (p := ⟨b, o + i * 4 + 3, none⟩) l0).trans y3
    have xc := (hBL.cell (p := ⟨gp, 2, none⟩) lc).trans hc2
    by_cases hlt : k < SR.length
    · obtain ⟨j, b2, o2, rfl, hcj, IS⟩ := JK.out k hlt
      have xj := (hBL.cell (p := ⟨b2, o2 + k, none⟩) (World.block_lt_of_cell? w _ hcj)).trans hcj
      have AL := Lib.hid (HAL.out k hlt)
      have IS1 := Lib.hid (IS F hBL)
      generalize isC (frm x (i : Int) k) = cb at *
      cases cb
      · obtain rfl : CB = false := (HC2.out _ (all_false hlt AL.out)).trans rfl
        go_wp2_with (go_at_call 66; refine IS1.out.mono ?_; rintro e w' ⟨rfl, rfl⟩)
        go_ret
        exact ⟨rfl, hBL⟩
      · have ST := Lib.hid (all_step hlt HA.out AL.out)
        go_wp2_with (go_at_call 66; refine IS1.out.mono ?_; rintro e w' ⟨rfl, rfl⟩)
        go_round
        case rel => exact ⟨k + 1, by omega, by go_num, ST.out⟩
        case measure => simp [intOf] <;> omega
    · obtain rfl : k = SR.length := by omega
      obtain rfl : CB = true := (HC2.out _ (all_done HA.out)).trans rfl
      go_wp2_with fail
      go_ret
      exact ⟨rfl, hBL⟩
theorem find_at_some {p : Int → Bool} {l : List Int} {k : Nat} (h : k < l.length) (hp : p l[k] = true) (hb : ∀ j ∈ l.take k, p j = false) : l.find? p = some l[k] := by
  have e : l = l.take k ++ l[k] :: l.drop (k + 1) := by rw [← List.drop_eq_getElem_cons h, List.take_append_drop]
  conv => lhs; rw [e]
  rw [List.find?_append, List.find?_eq_none.2 (fun j hj => by rw [hb j hj]; simp), Option.none_or]
  exact List.find?_cons_of_pos hp
set_option maxHeartbeats 4000000 in
set_option maxRecDepth 100000 in
theorem l10Twin_x {x : PatchD} {gp b o c2 i : Nat} {pn : Option Addr} {cn : Nat} (w : World) (h : SPat w gp b o c2 x) (hi : i < x.nodes.length) (hn : RdI w pn (need x)) (hn24 : x.nodes.length ≤ 24) :
    Calls Tryz.prog 67 #[.pointer (some ⟨gp, 0, none⟩), .slice pn (need x).length cn, .int .i64 (i : Int)] w fun e w' => e = .returned (.int .i64 (twinI x (i : Int))) ∧ Drawn w w' := by
  have hnl : (need x).length ≤ 24 := Nat.le_trans (need_length x) hn24
  have hnr := need_rng (x := x)
  have HT : Hid (twinI x (i : Int) = ((need x).find? fun k => decide (k < (i : Int)) && decide (nodeAt x.nodes k = nodeAt x.nodes (i : Int))).getD (-1)) := rfl
  generalize twinI x (i : Int) = R at HT ⊢
  generalize need x = L at *
  go_enter Tryz.func67, Tryz.ntmps67
  go_wp2_with fail
  go_loopw [7] (fun ci wr => ∃ k : Nat, k ≤ L.length ∧ ci = .int .i64 k ∧ (∀ j ∈ L.take k, (decide (j < (i : Int)) && decide (nodeAt x.nodes j = nodeAt x.nodes (i : Int))) = false) ∧ Drawn w wr) (fun ci _ => L.length - (intOf ci).toNat)
  case atStart => exact ⟨0, Nat.zero_le _, rfl, by simp, Drawn.refl w⟩
  case round =>
    obtain ⟨k, hk, rfl, hno, hdr⟩ := hrel
    have HNO := Lib.hid hno
    clear hno
    have h1 := h.below (hdr.below _)
    have hn1 := hdr.rdI hn
    clear h hn
    by_cases hlt : k < L.length
    · obtain ⟨b3, o3, rfl, hb3, hc⟩ := hn1.pos hlt
      have hck := hc k hlt
      clear hc
      obtain ⟨r0, r1⟩ := hnr _ (List.getElem_mem hlt)
      have FS := Lib.hid (fun hp => find_at_some (p := fun k => decide (k < (i : Int)) && decide (nodeAt x.nodes k = nodeAt x.nodes (i : Int))) hlt hp HNO.out)
      have NXT : Hid ((decide (L[k] < (i : Int)) && decide (nodeAt x.nodes L[k] = nodeAt x.nodes (i : Int))) = false → ∀ j ∈ L.take (k + 1), (decide (j < (i : Int)) && decide (nodeAt x.nodes j = nodeAt x.nodes (i : Int))) = false) := fun hp j hj => by
        rw [List.take_succ_eq_append_getElem hlt, List.mem_append, List.mem_singleton] at hj
        rcases hj with hj | rfl
        · exact HNO.out j hj
        · exact hp
      generalize L[k] = z at *
      obtain ⟨m, rfl⟩ := Int.eq_ofNat_of_zero_le r0
      have hmn : m < x.nodes.length := by omega
      have hcc := h1.1
      by_cases hmi : m < i
      · have PK := h1.2 m hmn
        have PI := h1.2 i hi
        have SN : Hid (∀ c, decide (nodeAt x.nodes (m : Int) = nodeAt x.nodes (i : Int)) = c → ∀ n, Calls Tryz.prog 102 #[.pointer (some ⟨b, o + m * 4, none⟩), .pointer (some ⟨b, o + i * 4, none⟩)] (wr.drewN n) fun e w' => e = .returned (.bool c) ∧ ∃ j, w' = (wr.drewN n).drewN j) := fun c hc n => by
          have hb := below_drewN (Below.refl wr.heap.size wr) n
          have := l07SameNode_any _ (PK.below hb) (PI.below hb)
          rwa [hc] at this
        have hd : decide ((m : Int) < (i : Int)) = true := decide_eq_true (by omega)
        clear PK PI
        cases he : decide (nodeAt x.nodes (m : Int) = nodeAt x.nodes (i : Int))
        · have S1 := Lib.hid (SN.out _ he)
          have N1 := Lib.hid (NXT.out (by rw [he, Bool.and_false]))
          clear he SN NXT FS
          go_wp2_with fail
          go_quiet ((go_at_call 102; exact Calls.quiet_of (S1.out _)))
          go_wp2_with fail
          go_roundw
          case rel => exact ⟨k + 1, by omega, by go_num, N1.out, hdr.on _⟩
          case measure => simp [intOf] <;> omega
        · have S1 := Lib.hid (SN.out _ he)
          have e1 := FS.out (by rw [he, hd]; rfl)
          obtain rfl : R = (m : Int) := by rw [HT.out, e1]; rfl
          clear he SN NXT FS e1
          go_wp2_with fail
          go_quiet ((go_at_call 102; exact Calls.quiet_of (S1.out _)))
          go_wp2_with fail
          go_ret
          exact ⟨rfl, hdr.on _⟩
      · have hd : decide ((m : Int) < (i : Int)) = false := decide_eq_false (by omega)
        have N1 := Lib.hid (NXT.out (by rw [hd, Bool.false_and]))
        clear NXT FS
        go_wp2_with fail
        go_quiet (fail)
        go_wp2_with fail
        go_roundw
        case rel => exact ⟨k + 1, by omega, by go_num, N1.out, hdr.on _⟩
        case measure => simp [intOf] <;> omega
    · obtain rfl : k = L.length := by omega
      have hno := HNO.out
      rw [List.take_length] at hno
      obtain rfl : R = -1 := by rw [HT.out, List.find?_eq_none.2 (fun j hj => by rw [hno j hj]; simp)]; rfl
      go_wp2_with fail
      go_ret
      exact ⟨rfl, hdr⟩
end Go.Proofs.YtonkdndpfnapjaaGreat

namespace Go.Proofs.YtonkdndpfnapjaaGreat
open Go.ChangeShapes Go.WideShapes Go.ChangeAt Go.RowKit Go.Sort
set_option linter.unusedVariables false

theorem okB_formed {x : PatchD} (h : okB x = true) : formedB x = true := by
  unfold okB at h
  rw [Bool.and_eq_true] at h
  exact h.1
set_option maxHeartbeats 16000000 in
set_option maxRecDepth 100000 in
theorem l10Rule_x {x : PatchD} {gp b o c2 i : Nat} {pn : Option Addr} {cn : Nat} (w : World) (h : SPat w gp b o c2 x) (hok0 : okB x = true) (hi : i < x.nodes.length) (hnn : RdI w pn (need x)) :
    Calls Tryz.prog 39 #[.pointer (some ⟨gp, 0, none⟩), .slice pn (need x).length cn, .int .i64 (i : Int)] w fun e w' => e = .returned (.int .i64 (ruleP x (i : Int))) ∧ Below w.heap.size w w' := by
  have hf := okB_formed hok0
  have hn24 := (formed_iff.1 hf).2.2.1
  have hnl : (need x).length ≤ 24 := Nat.le_trans (need_length x) hn24
  have HNS : Hid ((nodeAt x.nodes (i : Int)).kind ≠ 6 → (i : Int) ∉ (nodeAt x.nodes (i : Int)).src) := fun hk => by
    rw [nodeAt_eq hi] at hk ⊢
    exact ok_noSelf hok0 hi hk
  obtain ⟨R, hR⟩ : ∃ R, R = ruleP x (i : Int) := ⟨_, rfl⟩
  rw [← hR]
  rw [ruleP_eq] at hR
  have HR : Hid (∀ nd c z s f j5 j6 t, (need x).contains (i : Int) = nd → constB x (i : Int) = c → zeroB x (i : Int) = z → sameI x (i : Int) = s → factB x (i : Int) = f → joinOk x (i : Int) 5 = j5 → joinOk x (i : Int) 6 = j6 → twinI x (i : Int) = t → R = ruleK nd c z s f j5 j6 t) := by
    intro nd c z s f j5 j6 t e1 e2 e3 e4 e5 e6 e7 e8
    rw [hR, e1, e2, e3, e4, e5, e6, e7, e8]
  clear hR
  have HFA : Hid (∀ b1 b2, ((frm x (i : Int) 0).kind == 2) = b1 → ((frm x (i : Int) 1).kind == 2) = b2 → factB x (i : Int) = ((nodeAt x.nodes (i : Int)).kind == 9 && (b1 || b2))) := by
    intro b1 b2 e1 e2
    unfold factB isC
    rw [e1, e2]
  have HJ : Hid (∀ kk b1 b2, ((frm x (i : Int) 0).kind == kk) = b1 → (inp x (i : Int) 0 == (i : Int)) = b2 → joinOk x (i : Int) kk = (((nodeAt x.nodes (i : Int)).kind == kk && b1) && !b2 && (kk == 5 || decide (joinA x (i : Int) kk ≤ 16)))) := by
    intro kk b1 b2 e1 e2
    unfold joinOk joinB
    rw [e1, e2]
  have HJA : Hid (joinA x (i : Int) 6 = (nodeAt x.nodes (i : Int)).a + (frm x (i : Int) 0).a) := rfl
  have HMEM : Hid (0 < (nodeAt x.nodes (i : Int)).src.length → inp x (i : Int) 0 ∈ (nodeAt x.nodes (i : Int)).src) := fun h => getD_mem h
  have HA1 : Hid (-2147483648 ≤ (nodeAt x.nodes (i : Int)).a ∧ (nodeAt x.nodes (i : Int)).a ≤ 2147483647) := nodeB_a (nodeAt_ok hf (i := (i : Int)) (by omega) (by omega))
  have HA2 : Hid (0 < (nodeAt x.nodes (i : Int)).src.length → -2147483648 ≤ (frm x (i : Int) 0).a ∧ (frm x (i : Int) 0).a ≤ 2147483647) := fun h => by
    obtain ⟨r0, r1⟩ := inp_rng hf (i := (i : Int)) (by omega) (by omega) (k := 0) h
    exact nodeB_a (nodeAt_ok hf r0 r1)
  have hn := h.2 i hi
  have hok := nodeAt_ok hf (i := (i : Int)) (by omega) (by omega)
  obtain ⟨hk, har⟩ := nodeB_ar hok
  obtain ⟨y0, y1, y2, q, d, y3, hr⟩ := hn
  have hlen := hr.len
  unfold maxLen at hlen
  have SC : Hid (1 ≤ (nodeAt x.nodes (i : Int)).src.length → ∃ b2 o2, q = some ⟨b2, o2, none⟩ ∧ b2 < w.heap.size ∧ w.cell? ⟨b2, o2, none⟩ = some (.int .i64 (inp x (i : Int) 0)) ∧ (1 < (nodeAt x.nodes (i : Int)).src.length → w.cell? ⟨b2, o2 + 1, none⟩ = some (.int .i64 (inp x (i : Int) 1))) ∧ (2 < (nodeAt x.nodes (i : Int)).src.length → w.cell? ⟨b2, o2 + 2, none⟩ = some (.int .i64 (inp x (i : Int) 2)))) := fun h => by
    obtain ⟨b2, o2, e, hb, hc⟩ := hr.at0 h
    exact ⟨b2, o2, e, hb, hc 0 (by omega), fun h1 => hc 1 h1, fun h2 => hc 2 h2⟩
  have J0 : Hid (0 < (nodeAt x.nodes (i : Int)).src.length → ∃ j : Nat, inp x (i : Int) 0 = (j : Int) ∧ j < x.nodes.length ∧ w.cell? ⟨b, o + j * 4, none⟩ = some (.int .i64 (frm x (i : Int) 0).kind) ∧ w.cell? ⟨b, o + j * 4 + 1, none⟩ = some (.int .i64 (frm x (i : Int) 0).a) ∧
      (∀ W, Below w.heap.size w W → Calls Tryz.prog 66 #[.pointer (some ⟨gp, 0, none⟩), .int .i64 (j : Int)] W fun e w' => e = .returned (.bool ((frm x (i : Int) 0).kind == 2)) ∧ W = w') ∧
      (∀ W, Below w.heap.size w W → Calls Tryz.prog 100 #[.pointer (some ⟨gp, 0, none⟩), .int .i64 (j : Int)] W fun e w' => e = .returned (.bool ((frm x (i : Int) 0).kind == 2 && (frm x (i : Int) 0).a == 0)) ∧ W = w')) := fun hm => by
    obtain ⟨h0, h1⟩ := inp_rng hf (i := (i : Int)) (by omega) (by omega) hm
    obtain ⟨j, hj⟩ := Int.eq_ofNat_of_zero_le h0
    have hjn : j < x.nodes.length := by omega
    have e : frm x (i : Int) 0 = nodeAt x.nodes (j : Int) := by unfold frm; rw [hj]
    rw [e]
    obtain ⟨c0, c1, -, -⟩ := h.2 j hjn
    exact ⟨j, hj, hjn, c0, c1, fun W hW => l10Is_x W (h.below hW) hjn, fun W hW => l10Zero_x W (h.below hW) hjn⟩
  have J1 : Hid (1 < (nodeAt x.nodes (i : Int)).src.length → ∃ j : Nat, inp x (i : Int) 1 = (j : Int) ∧ j < x.nodes.length ∧ w.cell? ⟨b, o + j * 4, none⟩ = some (.int .i64 (frm x (i : Int) 1).kind) ∧ w.cell? ⟨b, o + j * 4 + 1, none⟩ = some (.int .i64 (frm x (i : Int) 1).a) ∧
      (∀ W, Below w.heap.size w W → Calls Tryz.prog 66 #[.pointer (some ⟨gp, 0, none⟩), .int .i64 (j : Int)] W fun e w' => e = .returned (.bool ((frm x (i : Int) 1).kind == 2)) ∧ W = w') ∧
      (∀ W, Below w.heap.size w W → Calls Tryz.prog 100 #[.pointer (some ⟨gp, 0, none⟩), .int .i64 (j : Int)] W fun e w' => e = .returned (.bool ((frm x (i : Int) 1).kind == 2 && (frm x (i : Int) 1).a == 0)) ∧ W = w')) := fun hm => by
    obtain ⟨h0, h1⟩ := inp_rng hf (i := (i : Int)) (by omega) (by omega) hm
    obtain ⟨j, hj⟩ := Int.eq_ofNat_of_zero_le h0
    have hjn : j < x.nodes.length := by omega
    have e : frm x (i : Int) 1 = nodeAt x.nodes (j : Int) := by unfold frm; rw [hj]
    rw [e]
    obtain ⟨c0, c1, -, -⟩ := h.2 j hjn
    exact ⟨j, hj, hjn, c0, c1, fun W hW => l10Is_x W (h.below hW) hjn, fun W hW => l10Zero_x W (h.below hW) hjn⟩
  have hc2 := h.1
  have l0 := World.block_lt_of_cell? w _ y0
  have lc := World.block_lt_of_cell? w _ hc2
  have HASN := Lib.hid (l00Has_any (c := cn) (i : Int) w hnn)
  rw [any_contains] at HASN
  have CON := Lib.hid (l10Const_x w h hf hi)
  have NOT := Lib.hid (fun W (hW : Below w.heap.size w W) => l10Nothing_x W (h.below hW) hf hi)
  have SAM := Lib.hid (fun W (hW : Below w.heap.size w W) => l10Same_x W (h.below hW) hf hi)
  have TWI := Lib.hid (fun W (hW : Below w.heap.size w W) => l10Twin_x (cn := cn) W (h.below hW) hi (hnn.below hW) hn24)
  clear hr hok y2
  generalize need x = L at *
  generalize hsr : (nodeAt x.nodes (i : Int)).src = SR at *
  generalize (nodeAt x.nodes (i : Int)).kind = K at *
  generalize (nodeAt x.nodes (i : Int)).a = A at *
  generalize (nodeAt x.nodes (i : Int)).b = B at *
  generalize hN : SR.length = N at *
  generalize hs0 : inp x (i : Int) 0 = s0 at *
  generalize inp x (i : Int) 1 = s1 at *
  generalize inp x (i : Int) 2 = s2 at *
  generalize frm x (i : Int) 0 = f0 at *
  generalize frm x (i : Int) 1 = f1 at *
  clear hsr hs0 hN
  by_cases k9 : K = 9
  case pos =>
    have hN2 : N = 2 := by rw [k9] at har; have : kAr ((9 : Int) - 1).toNat = 2 := rfl; omega
    obtain ⟨b2, o2, rfl, hb2, r0, r1', -⟩ := SC.out (by omega)
    have r1 := r1' (by omega)
    obtain ⟨j0, rfl, hj0, t0, u0, CI0, -⟩ := J0.out (by omega)
    obtain ⟨j1, rfl, hj1, -, -, CI1, -⟩ := J1.out (by omega)
    replace CI0 := Lib.hid CI0
    replace CI1 := Lib.hid CI1
    have hN0 : 0 < N := by omega
    have hN1 : 1 < N := by omega
    have hq1 : ((N : Int) == 1) = false := by rw [beq_eq_false_iff_ne]; omega
    have hj5 : joinOk x (i : Int) 5 = false := by rw [HJ.out 5 _ _ rfl rfl, k9]; rfl
    have hj6 : joinOk x (i : Int) 6 = false := by rw [HJ.out 6 _ _ rfl rfl, k9]; rfl
    have HFK := Lib.hid (fun c0 c1 e0 e1 => (HFA.out c0 c1 e0 e1).trans (by rw [k9]; rfl : (K == 9 && (c0 || c1)) = (c0 || c1)))
    have q9 : (K == 9) = true := by rw [beq_iff_eq]; exact k9
    have q5 : (K == 5) = false := by rw [beq_eq_false_iff_ne, k9]; decide
    have q6 : (K == 6) = false := by rw [beq_eq_false_iff_ne, k9]; decide
    clear hk har SC J0 J1 HFA HJ HJA HMEM HA1 HA2 HNS r1' hN2 k9
    go_enter Tryz.func39, Tryz.ntmps39
    go_wp2_with fail
    refine HASN.out.mono ?_
    rintro e W0 ⟨rfl, rfl⟩
    cases hnd : L.contains (i : Int)
    case false =>
      obtain rfl : R = 0 := (HR.out false _ _ _ _ _ _ _ hnd rfl rfl rfl rfl rfl rfl rfl).trans (rfl)
      go_wp2_with fail
      go_ret
      exact ⟨rfl, Below.refl _ _⟩
    go_wp2_with fail
    refine CON.out.mono ?_
    rintro e W1 ⟨rfl, b1⟩
    have a_y0 := (b1.cell (p := ⟨b, o + i * 4, none⟩) l0).trans y0
    have a_y1 := (b1.cell (p := ⟨b, o + i * 4 + 1, none⟩) l0).trans y1
    have a_y3 := (b1.cell (p := ⟨b, o + i * 4 + 3, none⟩) l0).trans y3
    have a_hc2 := (b1.cell (p := ⟨gp, 2, none⟩) lc).trans hc2
    have a_r0 := (b1.cell (p := ⟨b2, o2, none⟩) hb2).trans r0
    have a_r1 := (b1.cell (p := ⟨b2, o2 + 1, none⟩) hb2).trans r1
    cases hc : constB x (i : Int)
    case true =>
      obtain rfl : R = 1 := (HR.out true true _ _ _ _ _ _ hnd hc rfl rfl rfl rfl rfl rfl).trans (rfl)
      go_wp2_with fail
      go_ret
      exact ⟨rfl, b1⟩
    have NT := Lib.hid (NOT.out W1 b1)
    go_wp2_with fail
    refine NT.out.mono ?_
    rintro e W2 ⟨rfl, d2⟩
    have b2' := b1.trans (d2.mono b1.size)
    clear a_y0 a_y1 a_y3 a_hc2 a_r0 a_r1
    have a_y0 := (b2'.cell (p := ⟨b, o + i * 4, none⟩) l0).trans y0
    have a_y1 := (b2'.cell (p := ⟨b, o + i * 4 + 1, none⟩) l0).trans y1
    have a_y3 := (b2'.cell (p := ⟨b, o + i * 4 + 3, none⟩) l0).trans y3
    have a_hc2 := (b2'.cell (p := ⟨gp, 2, none⟩) lc).trans hc2
    have a_r0 := (b2'.cell (p := ⟨b2, o2, none⟩) hb2).trans r0
    have a_r1 := (b2'.cell (p := ⟨b2, o2 + 1, none⟩) hb2).trans r1
    cases hz : zeroB x (i : Int)
    case true =>
      obtain rfl : R = 2 := (HR.out true false true _ _ _ _ _ hnd hc hz rfl rfl rfl rfl rfl).trans (rfl)
      go_wp2_with fail
      go_ret
      exact ⟨rfl, b2'⟩
    have SA := Lib.hid (SAM.out W2 b2')
    generalize hS : sameI x (i : Int) = S at SA
    go_wp2_with fail
    refine SA.out.mono ?_
    rintro e W3 ⟨rfl, d3⟩
    have b3 := b2'.trans (d3.mono b2'.size)
    clear a_y0 a_y1 a_y3 a_hc2 a_r0 a_r1
    have a_y0 := (b3.cell (p := ⟨b, o + i * 4, none⟩) l0).trans y0
    have a_y1 := (b3.cell (p := ⟨b, o + i * 4 + 1, none⟩) l0).trans y1
    have a_y3 := (b3.cell (p := ⟨b, o + i * 4 + 3, none⟩) l0).trans y3
    have a_hc2 := (b3.cell (p := ⟨gp, 2, none⟩) lc).trans hc2
    have a_r0 := (b3.cell (p := ⟨b2, o2, none⟩) hb2).trans r0
    have a_r1 := (b3.cell (p := ⟨b2, o2 + 1, none⟩) hb2).trans r1
    by_cases hsn : 0 ≤ S
    case pos =>
      obtain rfl : R = 3 := (HR.out true false false S _ _ _ _ hnd hc hz hS rfl rfl rfl rfl).trans (by simp [ruleK, hsn])
      go_wp2_with fail
      go_ret
      exact ⟨rfl, b3⟩
    have IS0 := Lib.hid (CI0.out W3 b3)
    have IS1 := Lib.hid (CI1.out W3 b3)
    go_wp2_with fail
    refine IS0.out.mono ?_
    rintro e W4 ⟨rfl, rfl⟩
    cases e0 : (f0.kind == 2)
    case true =>
      obtain rfl : R = 4 := (HR.out true false false S true _ _ _ hnd hc hz hS (HFK.out true _ e0 rfl) rfl rfl rfl).trans (by simp [ruleK, hsn])
      go_wp2_with fail
      go_ret
      exact ⟨rfl, b3⟩
    go_wp2_with fail
    refine IS1.out.mono ?_
    rintro e W5 ⟨rfl, rfl⟩
    cases e1 : (f1.kind == 2)
    case true =>
      obtain rfl : R = 4 := (HR.out true false false S true _ _ _ hnd hc hz hS (HFK.out false true e0 e1) rfl rfl rfl).trans (by simp [ruleK, hsn])
      go_wp2_with fail
      go_ret
      exact ⟨rfl, b3⟩
    go_wp2_with fail
    go_quiet (fail)
    have b4 := below_drewN b3 nq
    clear a_y0 a_y1 a_y3 a_hc2 a_r0 a_r1
    have TW := Lib.hid (TWI.out (W3.drewN nq) (b4))
    generalize hT : twinI x (i : Int) = T at TW
    go_wp2_with fail
    refine TW.out.mono ?_
    rintro e W9 ⟨rfl, hd9⟩
    have b9 := (b4).trans ((hd9.below _).mono (b4).size)
    by_cases ht0 : 0 ≤ T
    case pos =>
      obtain rfl : R = 7 := (HR.out true false false S false false false T hnd hc hz hS (HFK.out false false e0 e1) hj5 hj6 hT).trans (by simp [ruleK, hsn, ht0])
      clear hT
      go_wp2_with fail
      go_ret
      exact ⟨rfl, b9⟩
    case neg =>
      obtain rfl : R = 0 := (HR.out true false false S false false false T hnd hc hz hS (HFK.out false false e0 e1) hj5 hj6 hT).trans (by simp [ruleK, hsn, ht0])
      clear hT
      go_wp2_with fail
      go_ret
      exact ⟨rfl, b9⟩
  have hff : factB x (i : Int) = false := by rw [HFA.out _ _ rfl rfl, show (K == 9) = false by rw [beq_eq_false_iff_ne]; exact k9]; rfl
  have q9 : (K == 9) = false := by rw [beq_eq_false_iff_ne]; exact k9
  clear HFA J1 k9
  by_cases k5 : K = 5
  case pos =>
    have hN2 : N = 1 := by rw [k5] at har; have : kAr ((5 : Int) - 1).toNat = 1 := rfl; omega
    obtain ⟨b2, o2, rfl, hb2, r0, -, -⟩ := SC.out (by omega)
    have hne : s0 ≠ (i : Int) := fun e => HNS.out (by rw [k5]; decide) (e ▸ HMEM.out (by omega))
    obtain ⟨j0, rfl, hj0, t0, u0, -, -⟩ := J0.out (by omega)
    have hN0 : 0 < N := by omega
    have hq1 : ((N : Int) == 1) = true := by rw [beq_iff_eq]; omega
    have H5 := Lib.hid (fun c0 e0 => (HJ.out 5 c0 false e0 (by rw [beq_eq_false_iff_ne]; exact hne)).trans (by rw [k5]; cases c0 <;> rfl : ((K == 5 && c0) && !false && ((5 : Int) == 5 || decide (joinA x (i : Int) 5 ≤ 16))) = c0))
    have hj6 : joinOk x (i : Int) 6 = false := by rw [HJ.out 6 _ _ rfl rfl, k5]; rfl
    have q5 : (K == 5) = true := by rw [beq_iff_eq]; exact k5
    have q6 : (K == 6) = false := by rw [beq_eq_false_iff_ne, k5]; decide
    clear hk har SC J0 HJ HJA HMEM HA1 HA2 HNS hN2 hne k5
    cases e0 : (f0.kind == 5)
    case true =>
      go_enter Tryz.func39, Tryz.ntmps39
      go_wp2_with fail
      refine HASN.out.mono ?_
      rintro e W0 ⟨rfl, rfl⟩
      cases hnd : L.contains (i : Int)
      case false =>
        obtain rfl : R = 0 := (HR.out false _ _ _ _ _ _ _ hnd rfl rfl rfl rfl rfl rfl rfl).trans (rfl)
        go_wp2_with fail
        go_ret
        exact ⟨rfl, Below.refl _ _⟩
      go_wp2_with fail
      refine CON.out.mono ?_
      rintro e W1 ⟨rfl, b1⟩
      have a_y0 := (b1.cell (p := ⟨b, o + i * 4, none⟩) l0).trans y0
      have a_y1 := (b1.cell (p := ⟨b, o + i * 4 + 1, none⟩) l0).trans y1
      have a_y3 := (b1.cell (p := ⟨b, o + i * 4 + 3, none⟩) l0).trans y3
      have a_hc2 := (b1.cell (p := ⟨gp, 2, none⟩) lc).trans hc2
      have a_r0 := (b1.cell (p := ⟨b2, o2, none⟩) hb2).trans r0
      have a_t0 := (b1.cell (p := ⟨b, o + j0 * 4, none⟩) l0).trans t0
      have a_u0 := (b1.cell (p := ⟨b, o + j0 * 4 + 1, none⟩) l0).trans u0
      cases hc : constB x (i : Int)
      case true =>
        obtain rfl : R = 1 := (HR.out true true _ _ _ _ _ _ hnd hc rfl rfl rfl rfl rfl rfl).trans (rfl)
        go_wp2_with fail
        go_ret
        exact ⟨rfl, b1⟩
      have NT := Lib.hid (NOT.out W1 b1)
      go_wp2_with fail
      refine NT.out.mono ?_
      rintro e W2 ⟨rfl, d2⟩
      have b2' := b1.trans (d2.mono b1.size)
      clear a_y0 a_y1 a_y3 a_hc2 a_r0 a_t0 a_u0
      have a_y0 := (b2'.cell (p := ⟨b, o + i * 4, none⟩) l0).trans y0
      have a_y1 := (b2'.cell (p := ⟨b, o + i * 4 + 1, none⟩) l0).trans y1
      have a_y3 := (b2'.cell (p := ⟨b, o + i * 4 + 3, none⟩) l0).trans y3
      have a_hc2 := (b2'.cell (p := ⟨gp, 2, none⟩) lc).trans hc2
      have a_r0 := (b2'.cell (p := ⟨b2, o2, none⟩) hb2).trans r0
      have a_t0 := (b2'.cell (p := ⟨b, o + j0 * 4, none⟩) l0).trans t0
      have a_u0 := (b2'.cell (p := ⟨b, o + j0 * 4 + 1, none⟩) l0).trans u0
      cases hz : zeroB x (i : Int)
      case true =>
        obtain rfl : R = 2 := (HR.out true false true _ _ _ _ _ hnd hc hz rfl rfl rfl rfl rfl).trans (rfl)
        go_wp2_with fail
        go_ret
        exact ⟨rfl, b2'⟩
      have SA := Lib.hid (SAM.out W2 b2')
      generalize hS : sameI x (i : Int) = S at SA
      go_wp2_with fail
      refine SA.out.mono ?_
      rintro e W3 ⟨rfl, d3⟩
      have b3 := b2'.trans (d3.mono b2'.size)
      clear a_y0 a_y1 a_y3 a_hc2 a_r0 a_t0 a_u0
      have a_y0 := (b3.cell (p := ⟨b, o + i * 4, none⟩) l0).trans y0
      have a_y1 := (b3.cell (p := ⟨b, o + i * 4 + 1, none⟩) l0).trans y1
      have a_y3 := (b3.cell (p := ⟨b, o + i * 4 + 3, none⟩) l0).trans y3
      have a_hc2 := (b3.cell (p := ⟨gp, 2, none⟩) lc).trans hc2
      have a_r0 := (b3.cell (p := ⟨b2, o2, none⟩) hb2).trans r0
      have a_t0 := (b3.cell (p := ⟨b, o + j0 * 4, none⟩) l0).trans t0
      have a_u0 := (b3.cell (p := ⟨b, o + j0 * 4 + 1, none⟩) l0).trans u0
      by_cases hsn : 0 ≤ S
      case pos =>
        obtain rfl : R = 3 := (HR.out true false false S _ _ _ _ hnd hc hz hS rfl rfl rfl rfl).trans (by simp [ruleK, hsn])
        go_wp2_with fail
        go_ret
        exact ⟨rfl, b3⟩
      obtain rfl : R = 5 := (HR.out true false false S false true _ _ hnd hc hz hS hff (H5.out true e0) rfl rfl).trans (by simp [ruleK, hsn])
      go_wp2_with fail
      go_ret
      exact ⟨rfl, b3⟩
    case false =>
      go_enter Tryz.func39, Tryz.ntmps39
      go_wp2_with fail
      refine HASN.out.mono ?_
      rintro e W0 ⟨rfl, rfl⟩
      cases hnd : L.contains (i : Int)
      case false =>
        obtain rfl : R = 0 := (HR.out false _ _ _ _ _ _ _ hnd rfl rfl rfl rfl rfl rfl rfl).trans (rfl)
        go_wp2_with fail
        go_ret
        exact ⟨rfl, Below.refl _ _⟩
      go_wp2_with fail
      refine CON.out.mono ?_
      rintro e W1 ⟨rfl, b1⟩
      have a_y0 := (b1.cell (p := ⟨b, o + i * 4, none⟩) l0).trans y0
      have a_y1 := (b1.cell (p := ⟨b, o + i * 4 + 1, none⟩) l0).trans y1
      have a_y3 := (b1.cell (p := ⟨b, o + i * 4 + 3, none⟩) l0).trans y3
      have a_hc2 := (b1.cell (p := ⟨gp, 2, none⟩) lc).trans hc2
      have a_r0 := (b1.cell (p := ⟨b2, o2, none⟩) hb2).trans r0
      have a_t0 := (b1.cell (p := ⟨b, o + j0 * 4, none⟩) l0).trans t0
      have a_u0 := (b1.cell (p := ⟨b, o + j0 * 4 + 1, none⟩) l0).trans u0
      cases hc : constB x (i : Int)
      case true =>
        obtain rfl : R = 1 := (HR.out true true _ _ _ _ _ _ hnd hc rfl rfl rfl rfl rfl rfl).trans (rfl)
        go_wp2_with fail
        go_ret
        exact ⟨rfl, b1⟩
      have NT := Lib.hid (NOT.out W1 b1)
      go_wp2_with fail
      refine NT.out.mono ?_
      rintro e W2 ⟨rfl, d2⟩
      have b2' := b1.trans (d2.mono b1.size)
      clear a_y0 a_y1 a_y3 a_hc2 a_r0 a_t0 a_u0
      have a_y0 := (b2'.cell (p := ⟨b, o + i * 4, none⟩) l0).trans y0
      have a_y1 := (b2'.cell (p := ⟨b, o + i * 4 + 1, none⟩) l0).trans y1
      have a_y3 := (b2'.cell (p := ⟨b, o + i * 4 + 3, none⟩) l0).trans y3
      have a_hc2 := (b2'.cell (p := ⟨gp, 2, none⟩) lc).trans hc2
      have a_r0 := (b2'.cell (p := ⟨b2, o2, none⟩) hb2).trans r0
      have a_t0 := (b2'.cell (p := ⟨b, o + j0 * 4, none⟩) l0).trans t0
      have a_u0 := (b2'.cell (p := ⟨b, o + j0 * 4 + 1, none⟩) l0).trans u0
      cases hz : zeroB x (i : Int)
      case true =>
        obtain rfl : R = 2 := (HR.out true false true _ _ _ _ _ hnd hc hz rfl rfl rfl rfl rfl).trans (rfl)
        go_wp2_with fail
        go_ret
        exact ⟨rfl, b2'⟩
      have SA := Lib.hid (SAM.out W2 b2')
      generalize hS : sameI x (i : Int) = S at SA
      go_wp2_with fail
      refine SA.out.mono ?_
      rintro e W3 ⟨rfl, d3⟩
      have b3 := b2'.trans (d3.mono b2'.size)
      clear a_y0 a_y1 a_y3 a_hc2 a_r0 a_t0 a_u0
      have a_y0 := (b3.cell (p := ⟨b, o + i * 4, none⟩) l0).trans y0
      have a_y1 := (b3.cell (p := ⟨b, o + i * 4 + 1, none⟩) l0).trans y1
      have a_y3 := (b3.cell (p := ⟨b, o + i * 4 + 3, none⟩) l0).trans y3
      have a_hc2 := (b3.cell (p := ⟨gp, 2, none⟩) lc).trans hc2
      have a_r0 := (b3.cell (p := ⟨b2, o2, none⟩) hb2).trans r0
      have a_t0 := (b3.cell (p := ⟨b, o + j0 * 4, none⟩) l0).trans t0
      have a_u0 := (b3.cell (p := ⟨b, o + j0 * 4 + 1, none⟩) l0).trans u0
      by_cases hsn : 0 ≤ S
      case pos =>
        obtain rfl : R = 3 := (HR.out true false false S _ _ _ _ hnd hc hz hS rfl rfl rfl rfl).trans (by simp [ruleK, hsn])
        go_wp2_with fail
        go_ret
        exact ⟨rfl, b3⟩
      go_wp2_with fail
      go_quiet (fail)
      have b4 := below_drewN b3 nq
      clear a_y0 a_y1 a_y3 a_hc2 a_r0 a_t0 a_u0
      have TW := Lib.hid (TWI.out (W3.drewN nq) (b4))
      generalize hT : twinI x (i : Int) = T at TW
      go_wp2_with fail
      refine TW.out.mono ?_
      rintro e W9 ⟨rfl, hd9⟩
      have b9 := (b4).trans ((hd9.below _).mono (b4).size)
      by_cases ht0 : 0 ≤ T
      case pos =>
        obtain rfl : R = 7 := (HR.out true false false S false false false T hnd hc hz hS hff (H5.out false e0) hj6 hT).trans (by simp [ruleK, hsn, ht0])
        clear hT
        go_wp2_with fail
        go_ret
        exact ⟨rfl, b9⟩
      case neg =>
        obtain rfl : R = 0 := (HR.out true false false S false false false T hnd hc hz hS hff (H5.out false e0) hj6 hT).trans (by simp [ruleK, hsn, ht0])
        clear hT
        go_wp2_with fail
        go_ret
        exact ⟨rfl, b9⟩
  have hj5 : joinOk x (i : Int) 5 = false := by rw [HJ.out 5 _ _ rfl rfl, show (K == 5) = false by rw [beq_eq_false_iff_ne]; exact k5]; rfl
  have q5 : (K == 5) = false := by rw [beq_eq_false_iff_ne]; exact k5
  clear k5 HNS HMEM
  by_cases k6 : K = 6
  case pos =>
    have hN2 : N = 1 := by rw [k6] at har; have : kAr ((6 : Int) - 1).toNat = 1 := rfl; omega
    obtain ⟨b2, o2, rfl, hb2, r0, -, -⟩ := SC.out (by omega)
    obtain ⟨j0, rfl, hj0, t0, u0, -, -⟩ := J0.out (by omega)
    have hN0 : 0 < N := by omega
    have hq1 : ((N : Int) == 1) = true := by rw [beq_iff_eq]; omega
    have hA1 := HA1.out
    have hA2 := HA2.out hN0
    have hw : IntKind.i64.wrap (A + f0.a) = A + f0.a := IntWalk.i64_in _ (by omega)
    have H6 := Lib.hid (fun c0 c1 e0 e1 => (HJ.out 6 c0 c1 e0 e1).trans (by rw [k6, HJA.out]; cases c0 <;> cases c1 <;> rfl : ((K == 6 && c0) && !c1 && ((6 : Int) == 5 || decide (joinA x (i : Int) 6 ≤ 16))) = ((c0 && !c1) && decide (A + f0.a ≤ 16))))
    have q6 : (K == 6) = true := by rw [beq_iff_eq]; exact k6
    clear hk har SC J0 HJ HJA HA1 HA2 hN2 k6
    cases e1 : ((j0 : Int) == (i : Int))
    case true =>
      have qn : ((j0 : Int) != (i : Int)) = false := by rw [bne, e1]; rfl
      go_enter Tryz.func39, Tryz.ntmps39
      go_wp2_with fail
      refine HASN.out.mono ?_
      rintro e W0 ⟨rfl, rfl⟩
      cases hnd : L.contains (i : Int)
      case false =>
        obtain rfl : R = 0 := (HR.out false _ _ _ _ _ _ _ hnd rfl rfl rfl rfl rfl rfl rfl).trans (rfl)
        go_wp2_with fail
        go_ret
        exact ⟨rfl, Below.refl _ _⟩
      go_wp2_with fail
      refine CON.out.mono ?_
      rintro e W1 ⟨rfl, b1⟩
      have a_y0 := (b1.cell (p := ⟨b, o + i * 4, none⟩) l0).trans y0
      have a_y1 := (b1.cell (p := ⟨b, o + i * 4 + 1, none⟩) l0).trans y1
      have a_y3 := (b1.cell (p := ⟨b, o + i * 4 + 3, none⟩) l0).trans y3
      have a_hc2 := (b1.cell (p := ⟨gp, 2, none⟩) lc).trans hc2
      have a_r0 := (b1.cell (p := ⟨b2, o2, none⟩) hb2).trans r0
      have a_t0 := (b1.cell (p := ⟨b, o + j0 * 4, none⟩) l0).trans t0
      have a_u0 := (b1.cell (p := ⟨b, o + j0 * 4 + 1, none⟩) l0).trans u0
      cases hc : constB x (i : Int)
      case true =>
        obtain rfl : R = 1 := (HR.out true true _ _ _ _ _ _ hnd hc rfl rfl rfl rfl rfl rfl).trans (rfl)
        go_wp2_with fail
        go_ret
        exact ⟨rfl, b1⟩
      have NT := Lib.hid (NOT.out W1 b1)
      go_wp2_with fail
      refine NT.out.mono ?_
      rintro e W2 ⟨rfl, d2⟩
      have b2' := b1.trans (d2.mono b1.size)
      clear a_y0 a_y1 a_y3 a_hc2 a_r0 a_t0 a_u0
      have a_y0 := (b2'.cell (p := ⟨b, o + i * 4, none⟩) l0).trans y0
      have a_y1 := (b2'.cell (p := ⟨b, o + i * 4 + 1, none⟩) l0).trans y1
      have a_y3 := (b2'.cell (p := ⟨b, o + i * 4 + 3, none⟩) l0).trans y3
      have a_hc2 := (b2'.cell (p := ⟨gp, 2, none⟩) lc).trans hc2
      have a_r0 := (b2'.cell (p := ⟨b2, o2, none⟩) hb2).trans r0
      have a_t0 := (b2'.cell (p := ⟨b, o + j0 * 4, none⟩) l0).trans t0
      have a_u0 := (b2'.cell (p := ⟨b, o + j0 * 4 + 1, none⟩) l0).trans u0
      cases hz : zeroB x (i : Int)
      case true =>
        obtain rfl : R = 2 := (HR.out true false true _ _ _ _ _ hnd hc hz rfl rfl rfl rfl rfl).trans (rfl)
        go_wp2_with fail
        go_ret
        exact ⟨rfl, b2'⟩
      have SA := Lib.hid (SAM.out W2 b2')
      generalize hS : sameI x (i : Int) = S at SA
      go_wp2_with fail
      refine SA.out.mono ?_
      rintro e W3 ⟨rfl, d3⟩
      have b3 := b2'.trans (d3.mono b2'.size)
      clear a_y0 a_y1 a_y3 a_hc2 a_r0 a_t0 a_u0
      have a_y0 := (b3.cell (p := ⟨b, o + i * 4, none⟩) l0).trans y0
      have a_y1 := (b3.cell (p := ⟨b, o + i * 4 + 1, none⟩) l0).trans y1
      have a_y3 := (b3.cell (p := ⟨b, o + i * 4 + 3, none⟩) l0).trans y3
      have a_hc2 := (b3.cell (p := ⟨gp, 2, none⟩) lc).trans hc2
      have a_r0 := (b3.cell (p := ⟨b2, o2, none⟩) hb2).trans r0
      have a_t0 := (b3.cell (p := ⟨b, o + j0 * 4, none⟩) l0).trans t0
      have a_u0 := (b3.cell (p := ⟨b, o + j0 * 4 + 1, none⟩) l0).trans u0
      by_cases hsn : 0 ≤ S
      case pos =>
        obtain rfl : R = 3 := (HR.out true false false S _ _ _ _ hnd hc hz hS rfl rfl rfl rfl).trans (by simp [ruleK, hsn])
        go_wp2_with fail
        go_ret
        exact ⟨rfl, b3⟩
      go_wp2_with fail
      go_quiet (fail)
      have b4 := below_drewN b3 nq
      clear a_y0 a_y1 a_y3 a_hc2 a_r0 a_t0 a_u0
      have TW := Lib.hid (TWI.out (W3.drewN nq) (b4))
      generalize hT : twinI x (i : Int) = T at TW
      go_wp2_with fail
      refine TW.out.mono ?_
      rintro e W9 ⟨rfl, hd9⟩
      have b9 := (b4).trans ((hd9.below _).mono (b4).size)
      by_cases ht0 : 0 ≤ T
      case pos =>
        obtain rfl : R = 7 := (HR.out true false false S false false false T hnd hc hz hS hff hj5 ((H6.out _ true rfl e1).trans (by simp)) hT).trans (by simp [ruleK, hsn, ht0])
        clear hT
        go_wp2_with fail
        go_ret
        exact ⟨rfl, b9⟩
      case neg =>
        obtain rfl : R = 0 := (HR.out true false false S false false false T hnd hc hz hS hff hj5 ((H6.out _ true rfl e1).trans (by simp)) hT).trans (by simp [ruleK, hsn, ht0])
        clear hT
        go_wp2_with fail
        go_ret
        exact ⟨rfl, b9⟩
    case false =>
      have qn : ((j0 : Int) != (i : Int)) = true := by rw [bne, e1]; rfl
      cases e0 : (f0.kind == 6)
      case false =>
        go_enter Tryz.func39, Tryz.ntmps39
        go_wp2_with fail
        refine HASN.out.mono ?_
        rintro e W0 ⟨rfl, rfl⟩
        cases hnd : L.contains (i : Int)
        case false =>
          obtain rfl : R = 0 := (HR.out false _ _ _ _ _ _ _ hnd rfl rfl rfl rfl rfl rfl rfl).trans (rfl)
          go_wp2_with fail
          go_ret
          exact ⟨rfl, Below.refl _ _⟩
        go_wp2_with fail
        refine CON.out.mono ?_
        rintro e W1 ⟨rfl, b1⟩
        have a_y0 := (b1.cell (p := ⟨b, o + i * 4, none⟩) l0).trans y0
        have a_y1 := (b1.cell (p := ⟨b, o + i * 4 + 1, none⟩) l0).trans y1
        have a_y3 := (b1.cell (p := ⟨b, o + i * 4 + 3, none⟩) l0).trans y3
        have a_hc2 := (b1.cell (p := ⟨gp, 2, none⟩) lc).trans hc2
        have a_r0 := (b1.cell (p := ⟨b2, o2, none⟩) hb2).trans r0
        have a_t0 := (b1.cell (p := ⟨b, o + j0 * 4, none⟩) l0).trans t0
        have a_u0 := (b1.cell (p := ⟨b, o + j0 * 4 + 1, none⟩) l0).trans u0
        cases hc : constB x (i : Int)
        case true =>
          obtain rfl : R = 1 := (HR.out true true _ _ _ _ _ _ hnd hc rfl rfl rfl rfl rfl rfl).trans (rfl)
          go_wp2_with fail
          go_ret
          exact ⟨rfl, b1⟩
        have NT := Lib.hid (NOT.out W1 b1)
        go_wp2_with fail
        refine NT.out.mono ?_
        rintro e W2 ⟨rfl, d2⟩
        have b2' := b1.trans (d2.mono b1.size)
        clear a_y0 a_y1 a_y3 a_hc2 a_r0 a_t0 a_u0
        have a_y0 := (b2'.cell (p := ⟨b, o + i * 4, none⟩) l0).trans y0
        have a_y1 := (b2'.cell (p := ⟨b, o + i * 4 + 1, none⟩) l0).trans y1
        have a_y3 := (b2'.cell (p := ⟨b, o + i * 4 + 3, none⟩) l0).trans y3
        have a_hc2 := (b2'.cell (p := ⟨gp, 2, none⟩) lc).trans hc2
        have a_r0 := (b2'.cell (p := ⟨b2, o2, none⟩) hb2).trans r0
        have a_t0 := (b2'.cell (p := ⟨b, o + j0 * 4, none⟩) l0).trans t0
        have a_u0 := (b2'.cell (p := ⟨b, o + j0 * 4 + 1, none⟩) l0).trans u0
        cases hz : zeroB x (i : Int)
        case true =>
          obtain rfl : R = 2 := (HR.out true false true _ _ _ _ _ hnd hc hz rfl rfl rfl rfl rfl).trans (rfl)
          go_wp2_with fail
          go_ret
          exact ⟨rfl, b2'⟩
        have SA := Lib.hid (SAM.out W2 b2')
        generalize hS : sameI x (i : Int) = S at SA
        go_wp2_with fail
        refine SA.out.mono ?_
        rintro e W3 ⟨rfl, d3⟩
        have b3 := b2'.trans (d3.mono b2'.size)
        clear a_y0 a_y1 a_y3 a_hc2 a_r0 a_t0 a_u0
        have a_y0 := (b3.cell (p := ⟨b, o + i * 4, none⟩) l0).trans y0
        have a_y1 := (b3.cell (p := ⟨b, o + i * 4 + 1, none⟩) l0).trans y1
        have a_y3 := (b3.cell (p := ⟨b, o + i * 4 + 3, none⟩) l0).trans y3
        have a_hc2 := (b3.cell (p := ⟨gp, 2, none⟩) lc).trans hc2
        have a_r0 := (b3.cell (p := ⟨b2, o2, none⟩) hb2).trans r0
        have a_t0 := (b3.cell (p := ⟨b, o + j0 * 4, none⟩) l0).trans t0
        have a_u0 := (b3.cell (p := ⟨b, o + j0 * 4 + 1, none⟩) l0).trans u0
        by_cases hsn : 0 ≤ S
        case pos =>
          obtain rfl : R = 3 := (HR.out true false false S _ _ _ _ hnd hc hz hS rfl rfl rfl rfl).trans (by simp [ruleK, hsn])
          go_wp2_with fail
          go_ret
          exact ⟨rfl, b3⟩
        go_wp2_with fail
        go_quiet (fail)
        have b4 := below_drewN b3 nq
        clear a_y0 a_y1 a_y3 a_hc2 a_r0 a_t0 a_u0
        have TW := Lib.hid (TWI.out (W3.drewN nq) (b4))
        generalize hT : twinI x (i : Int) = T at TW
        go_wp2_with fail
        refine TW.out.mono ?_
        rintro e W9 ⟨rfl, hd9⟩
        have b9 := (b4).trans ((hd9.below _).mono (b4).size)
        by_cases ht0 : 0 ≤ T
        case pos =>
          obtain rfl : R = 7 := (HR.out true false false S false false false T hnd hc hz hS hff hj5 ((H6.out false false e0 e1).trans rfl) hT).trans (by simp [ruleK, hsn, ht0])
          clear hT
          go_wp2_with fail
          go_ret
          exact ⟨rfl, b9⟩
        case neg =>
          obtain rfl : R = 0 := (HR.out true false false S false false false T hnd hc hz hS hff hj5 ((H6.out false false e0 e1).trans rfl) hT).trans (by simp [ruleK, hsn, ht0])
          clear hT
          go_wp2_with fail
          go_ret
          exact ⟨rfl, b9⟩
      case true =>
        cases e2 : decide (A + f0.a ≤ 16)
        case false =>
          go_enter Tryz.func39, Tryz.ntmps39
          go_wp2_with fail
          refine HASN.out.mono ?_
          rintro e W0 ⟨rfl, rfl⟩
          cases hnd : L.contains (i : Int)
          case false =>
            obtain rfl : R = 0 := (HR.out false _ _ _ _ _ _ _ hnd rfl rfl rfl rfl rfl rfl rfl).trans (rfl)
            go_wp2_with fail
            go_ret
            exact ⟨rfl, Below.refl _ _⟩
          go_wp2_with fail
          refine CON.out.mono ?_
          rintro e W1 ⟨rfl, b1⟩
          have a_y0 := (b1.cell (p := ⟨b, o + i * 4, none⟩) l0).trans y0
          have a_y1 := (b1.cell (p := ⟨b, o + i * 4 + 1, none⟩) l0).trans y1
          have a_y3 := (b1.cell (p := ⟨b, o + i * 4 + 3, none⟩) l0).trans y3
          have a_hc2 := (b1.cell (p := ⟨gp, 2, none⟩) lc).trans hc2
          have a_r0 := (b1.cell (p := ⟨b2, o2, none⟩) hb2).trans r0
          have a_t0 := (b1.cell (p := ⟨b, o + j0 * 4, none⟩) l0).trans t0
          have a_u0 := (b1.cell (p := ⟨b, o + j0 * 4 + 1, none⟩) l0).trans u0
          cases hc : constB x (i : Int)
          case true =>
            obtain rfl : R = 1 := (HR.out true true _ _ _ _ _ _ hnd hc rfl rfl rfl rfl rfl rfl).trans (rfl)
            go_wp2_with fail
            go_ret
            exact ⟨rfl, b1⟩
          have NT := Lib.hid (NOT.out W1 b1)
          go_wp2_with fail
          refine NT.out.mono ?_
          rintro e W2 ⟨rfl, d2⟩
          have b2' := b1.trans (d2.mono b1.size)
          clear a_y0 a_y1 a_y3 a_hc2 a_r0 a_t0 a_u0
          have a_y0 := (b2'.cell (p := ⟨b, o + i * 4, none⟩) l0).trans y0
          have a_y1 := (b2'.cell (p := ⟨b, o + i * 4 + 1, none⟩) l0).trans y1
          have a_y3 := (b2'.cell (p := ⟨b, o + i * 4 + 3, none⟩) l0).trans y3
          have a_hc2 := (b2'.cell (p := ⟨gp, 2, none⟩) lc).trans hc2
          have a_r0 := (b2'.cell (p := ⟨b2, o2, none⟩) hb2).trans r0
          have a_t0 := (b2'.cell (p := ⟨b, o + j0 * 4, none⟩) l0).trans t0
          have a_u0 := (b2'.cell (p := ⟨b, o + j0 * 4 + 1, none⟩) l0).trans u0
          cases hz : zeroB x (i : Int)
          case true =>
            obtain rfl : R = 2 := (HR.out true false true _ _ _ _ _ hnd hc hz rfl rfl rfl rfl rfl).trans (rfl)
            go_wp2_with fail
            go_ret
            exact ⟨rfl, b2'⟩
          have SA := Lib.hid (SAM.out W2 b2')
          generalize hS : sameI x (i : Int) = S at SA
          go_wp2_with fail
          refine SA.out.mono ?_
          rintro e W3 ⟨rfl, d3⟩
          have b3 := b2'.trans (d3.mono b2'.size)
          clear a_y0 a_y1 a_y3 a_hc2 a_r0 a_t0 a_u0
          have a_y0 := (b3.cell (p := ⟨b, o + i * 4, none⟩) l0).trans y0
          have a_y1 := (b3.cell (p := ⟨b, o + i * 4 + 1, none⟩) l0).trans y1
          have a_y3 := (b3.cell (p := ⟨b, o + i * 4 + 3, none⟩) l0).trans y3
          have a_hc2 := (b3.cell (p := ⟨gp, 2, none⟩) lc).trans hc2
          have a_r0 := (b3.cell (p := ⟨b2, o2, none⟩) hb2).trans r0
          have a_t0 := (b3.cell (p := ⟨b, o + j0 * 4, none⟩) l0).trans t0
          have a_u0 := (b3.cell (p := ⟨b, o + j0 * 4 + 1, none⟩) l0).trans u0
          by_cases hsn : 0 ≤ S
          case pos =>
            obtain rfl : R = 3 := (HR.out true false false S _ _ _ _ hnd hc hz hS rfl rfl rfl rfl).trans (by simp [ruleK, hsn])
            go_wp2_with fail
            go_ret
            exact ⟨rfl, b3⟩
          go_wp2_with fail
          go_quiet (fail)
          have b4 := below_drewN b3 nq
          clear a_y0 a_y1 a_y3 a_hc2 a_r0 a_t0 a_u0
          have TW := Lib.hid (TWI.out (W3.drewN nq) (b4))
          generalize hT : twinI x (i : Int) = T at TW
          go_wp2_with fail
          refine TW.out.mono ?_
          rintro e W9 ⟨rfl, hd9⟩
          have b9 := (b4).trans ((hd9.below _).mono (b4).size)
          by_cases ht0 : 0 ≤ T
          case pos =>
            obtain rfl : R = 7 := (HR.out true false false S false false false T hnd hc hz hS hff hj5 ((H6.out true false e0 e1).trans (by rw [e2]; rfl)) hT).trans (by simp [ruleK, hsn, ht0])
            clear hT
            go_wp2_with fail
            go_ret
            exact ⟨rfl, b9⟩
          case neg =>
            obtain rfl : R = 0 := (HR.out true false false S false false false T hnd hc hz hS hff hj5 ((H6.out true false e0 e1).trans (by rw [e2]; rfl)) hT).trans (by simp [ruleK, hsn, ht0])
            clear hT
            go_wp2_with fail
            go_ret
            exact ⟨rfl, b9⟩
        case true =>
          go_enter Tryz.func39, Tryz.ntmps39
          go_wp2_with fail
          refine HASN.out.mono ?_
          rintro e W0 ⟨rfl, rfl⟩
          cases hnd : L.contains (i : Int)
          case false =>
            obtain rfl : R = 0 := (HR.out false _ _ _ _ _ _ _ hnd rfl rfl rfl rfl rfl rfl rfl).trans (rfl)
            go_wp2_with fail
            go_ret
            exact ⟨rfl, Below.refl _ _⟩
          go_wp2_with fail
          refine CON.out.mono ?_
          rintro e W1 ⟨rfl, b1⟩
          have a_y0 := (b1.cell (p := ⟨b, o + i * 4, none⟩) l0).trans y0
          have a_y1 := (b1.cell (p := ⟨b, o + i * 4 + 1, none⟩) l0).trans y1
          have a_y3 := (b1.cell (p := ⟨b, o + i * 4 + 3, none⟩) l0).trans y3
          have a_hc2 := (b1.cell (p := ⟨gp, 2, none⟩) lc).trans hc2
          have a_r0 := (b1.cell (p := ⟨b2, o2, none⟩) hb2).trans r0
          have a_t0 := (b1.cell (p := ⟨b, o + j0 * 4, none⟩) l0).trans t0
          have a_u0 := (b1.cell (p := ⟨b, o + j0 * 4 + 1, none⟩) l0).trans u0
          cases hc : constB x (i : Int)
          case true =>
            obtain rfl : R = 1 := (HR.out true true _ _ _ _ _ _ hnd hc rfl rfl rfl rfl rfl rfl).trans (rfl)
            go_wp2_with fail
            go_ret
            exact ⟨rfl, b1⟩
          have NT := Lib.hid (NOT.out W1 b1)
          go_wp2_with fail
          refine NT.out.mono ?_
          rintro e W2 ⟨rfl, d2⟩
          have b2' := b1.trans (d2.mono b1.size)
          clear a_y0 a_y1 a_y3 a_hc2 a_r0 a_t0 a_u0
          have a_y0 := (b2'.cell (p := ⟨b, o + i * 4, none⟩) l0).trans y0
          have a_y1 := (b2'.cell (p := ⟨b, o + i * 4 + 1, none⟩) l0).trans y1
          have a_y3 := (b2'.cell (p := ⟨b, o + i * 4 + 3, none⟩) l0).trans y3
          have a_hc2 := (b2'.cell (p := ⟨gp, 2, none⟩) lc).trans hc2
          have a_r0 := (b2'.cell (p := ⟨b2, o2, none⟩) hb2).trans r0
          have a_t0 := (b2'.cell (p := ⟨b, o + j0 * 4, none⟩) l0).trans t0
          have a_u0 := (b2'.cell (p := ⟨b, o + j0 * 4 + 1, none⟩) l0).trans u0
          cases hz : zeroB x (i : Int)
          case true =>
            obtain rfl : R = 2 := (HR.out true false true _ _ _ _ _ hnd hc hz rfl rfl rfl rfl rfl).trans (rfl)
            go_wp2_with fail
            go_ret
            exact ⟨rfl, b2'⟩
          have SA := Lib.hid (SAM.out W2 b2')
          generalize hS : sameI x (i : Int) = S at SA
          go_wp2_with fail
          refine SA.out.mono ?_
          rintro e W3 ⟨rfl, d3⟩
          have b3 := b2'.trans (d3.mono b2'.size)
          clear a_y0 a_y1 a_y3 a_hc2 a_r0 a_t0 a_u0
          have a_y0 := (b3.cell (p := ⟨b, o + i * 4, none⟩) l0).trans y0
          have a_y1 := (b3.cell (p := ⟨b, o + i * 4 + 1, none⟩) l0).trans y1
          have a_y3 := (b3.cell (p := ⟨b, o + i * 4 + 3, none⟩) l0).trans y3
          have a_hc2 := (b3.cell (p := ⟨gp, 2, none⟩) lc).trans hc2
          have a_r0 := (b3.cell (p := ⟨b2, o2, none⟩) hb2).trans r0
          have a_t0 := (b3.cell (p := ⟨b, o + j0 * 4, none⟩) l0).trans t0
          have a_u0 := (b3.cell (p := ⟨b, o + j0 * 4 + 1, none⟩) l0).trans u0
          by_cases hsn : 0 ≤ S
          case pos =>
            obtain rfl : R = 3 := (HR.out true false false S _ _ _ _ hnd hc hz hS rfl rfl rfl rfl).trans (by simp [ruleK, hsn])
            go_wp2_with fail
            go_ret
            exact ⟨rfl, b3⟩
          obtain rfl : R = 6 := (HR.out true false false S false false true _ hnd hc hz hS hff hj5 ((H6.out true false e0 e1).trans (by rw [e2]; rfl)) rfl).trans (by simp [ruleK, hsn])
          go_wp2_with fail
          go_quiet (fail)
          go_wp2_with fail
          go_ret
          exact ⟨rfl, below_drewN b3 _⟩
  have hj6 : joinOk x (i : Int) 6 = false := by rw [HJ.out 6 _ _ rfl rfl, show (K == 6) = false by rw [beq_eq_false_iff_ne]; exact k6]; rfl
  have q6 : (K == 6) = false := by rw [beq_eq_false_iff_ne]; exact k6
  clear k6 HJ HJA HA1 HA2 J0 hk har
  by_cases hN1 : N = 1
  case pos =>
    obtain ⟨b2, o2, rfl, hb2, r0, -, -⟩ := SC.out (by omega)
    have hN0 : 0 < N := by omega
    have hq1 : ((N : Int) == 1) = true := by rw [beq_iff_eq]; omega
    clear SC hN1
    go_enter Tryz.func39, Tryz.ntmps39
    go_wp2_with fail
    refine HASN.out.mono ?_
    rintro e W0 ⟨rfl, rfl⟩
    cases hnd : L.contains (i : Int)
    case false =>
      obtain rfl : R = 0 := (HR.out false _ _ _ _ _ _ _ hnd rfl rfl rfl rfl rfl rfl rfl).trans (rfl)
      go_wp2_with fail
      go_ret
      exact ⟨rfl, Below.refl _ _⟩
    go_wp2_with fail
    refine CON.out.mono ?_
    rintro e W1 ⟨rfl, b1⟩
    have a_y0 := (b1.cell (p := ⟨b, o + i * 4, none⟩) l0).trans y0
    have a_y1 := (b1.cell (p := ⟨b, o + i * 4 + 1, none⟩) l0).trans y1
    have a_y3 := (b1.cell (p := ⟨b, o + i * 4 + 3, none⟩) l0).trans y3
    have a_hc2 := (b1.cell (p := ⟨gp, 2, none⟩) lc).trans hc2
    have a_r0 := (b1.cell (p := ⟨b2, o2, none⟩) hb2).trans r0
    cases hc : constB x (i : Int)
    case true =>
      obtain rfl : R = 1 := (HR.out true true _ _ _ _ _ _ hnd hc rfl rfl rfl rfl rfl rfl).trans (rfl)
      go_wp2_with fail
      go_ret
      exact ⟨rfl, b1⟩
    have NT := Lib.hid (NOT.out W1 b1)
    go_wp2_with fail
    refine NT.out.mono ?_
    rintro e W2 ⟨rfl, d2⟩
    have b2' := b1.trans (d2.mono b1.size)
    clear a_y0 a_y1 a_y3 a_hc2 a_r0
    have a_y0 := (b2'.cell (p := ⟨b, o + i * 4, none⟩) l0).trans y0
    have a_y1 := (b2'.cell (p := ⟨b, o + i * 4 + 1, none⟩) l0).trans y1
    have a_y3 := (b2'.cell (p := ⟨b, o + i * 4 + 3, none⟩) l0).trans y3
    have a_hc2 := (b2'.cell (p := ⟨gp, 2, none⟩) lc).trans hc2
    have a_r0 := (b2'.cell (p := ⟨b2, o2, none⟩) hb2).trans r0
    cases hz : zeroB x (i : Int)
    case true =>
      obtain rfl : R = 2 := (HR.out true false true _ _ _ _ _ hnd hc hz rfl rfl rfl rfl rfl).trans (rfl)
      go_wp2_with fail
      go_ret
      exact ⟨rfl, b2'⟩
    have SA := Lib.hid (SAM.out W2 b2')
    generalize hS : sameI x (i : Int) = S at SA
    go_wp2_with fail
    refine SA.out.mono ?_
    rintro e W3 ⟨rfl, d3⟩
    have b3 := b2'.trans (d3.mono b2'.size)
    clear a_y0 a_y1 a_y3 a_hc2 a_r0
    have a_y0 := (b3.cell (p := ⟨b, o + i * 4, none⟩) l0).trans y0
    have a_y1 := (b3.cell (p := ⟨b, o + i * 4 + 1, none⟩) l0).trans y1
    have a_y3 := (b3.cell (p := ⟨b, o + i * 4 + 3, none⟩) l0).trans y3
    have a_hc2 := (b3.cell (p := ⟨gp, 2, none⟩) lc).trans hc2
    have a_r0 := (b3.cell (p := ⟨b2, o2, none⟩) hb2).trans r0
    by_cases hsn : 0 ≤ S
    case pos =>
      obtain rfl : R = 3 := (HR.out true false false S _ _ _ _ hnd hc hz hS rfl rfl rfl rfl).trans (by simp [ruleK, hsn])
      go_wp2_with fail
      go_ret
      exact ⟨rfl, b3⟩
    go_wp2_with fail
    go_quiet (fail)
    have b4 := below_drewN b3 nq
    clear a_y0 a_y1 a_y3 a_hc2 a_r0
    have TW := Lib.hid (TWI.out (W3.drewN nq) (b4))
    generalize hT : twinI x (i : Int) = T at TW
    go_wp2_with fail
    refine TW.out.mono ?_
    rintro e W9 ⟨rfl, hd9⟩
    have b9 := (b4).trans ((hd9.below _).mono (b4).size)
    by_cases ht0 : 0 ≤ T
    case pos =>
      obtain rfl : R = 7 := (HR.out true false false S false false false T hnd hc hz hS hff hj5 hj6 hT).trans (by simp [ruleK, hsn, ht0])
      clear hT
      go_wp2_with fail
      go_ret
      exact ⟨rfl, b9⟩
    case neg =>
      obtain rfl : R = 0 := (HR.out true false false S false false false T hnd hc hz hS hff hj5 hj6 hT).trans (by simp [ruleK, hsn, ht0])
      clear hT
      go_wp2_with fail
      go_ret
      exact ⟨rfl, b9⟩
  have hq1 : ((N : Int) == 1) = false := by rw [beq_eq_false_iff_ne]; omega
  clear SC hN1
  go_enter Tryz.func39, Tryz.ntmps39
  go_wp2_with fail
  refine HASN.out.mono ?_
  rintro e W0 ⟨rfl, rfl⟩
  cases hnd : L.contains (i : Int)
  case false =>
    obtain rfl : R = 0 := (HR.out false _ _ _ _ _ _ _ hnd rfl rfl rfl rfl rfl rfl rfl).trans (rfl)
    go_wp2_with fail
    go_ret
    exact ⟨rfl, Below.refl _ _⟩
  go_wp2_with fail
  refine CON.out.mono ?_
  rintro e W1 ⟨rfl, b1⟩
  have a_y0 := (b1.cell (p := ⟨b, o + i * 4, none⟩) l0).trans y0
  have a_y1 := (b1.cell (p := ⟨b, o + i * 4 + 1, none⟩) l0).trans y1
  have a_y3 := (b1.cell (p := ⟨b, o + i * 4 + 3, none⟩) l0).trans y3
  have a_hc2 := (b1.cell (p := ⟨gp, 2, none⟩) lc).trans hc2
  cases hc : constB x (i : Int)
  case true =>
    obtain rfl : R = 1 := (HR.out true true _ _ _ _ _ _ hnd hc rfl rfl rfl rfl rfl rfl).trans (rfl)
    go_wp2_with fail
    go_ret
    exact ⟨rfl, b1⟩
  have NT := Lib.hid (NOT.out W1 b1)
  go_wp2_with fail
  refine NT.out.mono ?_
  rintro e W2 ⟨rfl, d2⟩
  have b2' := b1.trans (d2.mono b1.size)
  clear a_y0 a_y1 a_y3 a_hc2
  have a_y0 := (b2'.cell (p := ⟨b, o + i * 4, none⟩) l0).trans y0
  have a_y1 := (b2'.cell (p := ⟨b, o + i * 4 + 1, none⟩) l0).trans y1
  have a_y3 := (b2'.cell (p := ⟨b, o + i * 4 + 3, none⟩) l0).trans y3
  have a_hc2 := (b2'.cell (p := ⟨gp, 2, none⟩) lc).trans hc2
  cases hz : zeroB x (i : Int)
  case true =>
    obtain rfl : R = 2 := (HR.out true false true _ _ _ _ _ hnd hc hz rfl rfl rfl rfl rfl).trans (rfl)
    go_wp2_with fail
    go_ret
    exact ⟨rfl, b2'⟩
  have SA := Lib.hid (SAM.out W2 b2')
  generalize hS : sameI x (i : Int) = S at SA
  go_wp2_with fail
  refine SA.out.mono ?_
  rintro e W3 ⟨rfl, d3⟩
  have b3 := b2'.trans (d3.mono b2'.size)
  clear a_y0 a_y1 a_y3 a_hc2
  have a_y0 := (b3.cell (p := ⟨b, o + i * 4, none⟩) l0).trans y0
  have a_y1 := (b3.cell (p := ⟨b, o + i * 4 + 1, none⟩) l0).trans y1
  have a_y3 := (b3.cell (p := ⟨b, o + i * 4 + 3, none⟩) l0).trans y3
  have a_hc2 := (b3.cell (p := ⟨gp, 2, none⟩) lc).trans hc2
  by_cases hsn : 0 ≤ S
  case pos =>
    obtain rfl : R = 3 := (HR.out true false false S _ _ _ _ hnd hc hz hS rfl rfl rfl rfl).trans (by simp [ruleK, hsn])
    go_wp2_with fail
    go_ret
    exact ⟨rfl, b3⟩
  go_wp2_with fail
  go_quiet (fail)
  have b4 := below_drewN b3 nq
  clear a_y0 a_y1 a_y3 a_hc2
  have TW := Lib.hid (TWI.out (W3.drewN nq) (b4))
  generalize hT : twinI x (i : Int) = T at TW
  go_wp2_with fail
  refine TW.out.mono ?_
  rintro e W9 ⟨rfl, hd9⟩
  have b9 := (b4).trans ((hd9.below _).mono (b4).size)
  by_cases ht0 : 0 ≤ T
  case pos =>
    obtain rfl : R = 7 := (HR.out true false false S false false false T hnd hc hz hS hff hj5 hj6 hT).trans (by simp [ruleK, hsn, ht0])
    clear hT
    go_wp2_with fail
    go_ret
    exact ⟨rfl, b9⟩
  case neg =>
    obtain rfl : R = 0 := (HR.out true false false S false false false T hnd hc hz hS hff hj5 hj6 hT).trans (by simp [ruleK, hsn, ht0])
    clear hT
    go_wp2_with fail
    go_ret
    exact ⟨rfl, b9⟩
end Go.Proofs.YtonkdndpfnapjaaGreat

namespace Go.Proofs.YtonkdndpfnapjaaGreat
open Go.ChangeShapes Go.WideShapes Go.ChangeAt Go.RowKit Go.Sort
set_option linter.unusedVariables false

def raRule (x : PatchD) (node : Int) : Int := if askCode x node = 0 then ruleP x node else 0
theorem ask_rng {x : PatchD} {node : Int} (h : askCode x node = 0) : okB x = true ∧ ∃ i : Nat, node = (i : Int) ∧ i < x.nodes.length := by
  obtain ⟨h1, h2⟩ := askCode_zero.1 h
  refine ⟨h1, ?_⟩
  have : 0 ≤ node ∧ node < (x.nodes.length : Int) := by
    first
      | exact h2
      | (rw [inB_iff] at h2; omega)
  exact ⟨node.toNat, by omega, by omega⟩
end Go.Proofs.YtonkdndpfnapjaaGreat

namespace Go.Proofs.YtonkdndpfnapjaaGreat
open Go.ChangeShapes Go.WideShapes Go.ChangeAt Go.RowKit Go.Sort
set_option linter.unusedVariables false

def fstI (x : PatchD) : Option Int := (need x).find? fun i => ruleP x i != 0
def nxR (x : PatchD) : Int := match fstI x with | some i => ruleP x i | none => 0
def nxN (x : PatchD) : Int := match fstI x with | some i => i | none => 0
def nxB (x : PatchD) : Bool := match fstI x with | some _ => true | none => false
def nxP (x : PatchD) : PatchD := match fstI x with | some i => afterP x i (ruleP x i) | none => x
theorem ruleP_need {x : PatchD} {i : Int} (h : ruleP x i ≠ 0) : i ∈ need x := by
  cases hc : (need x).contains i
  · exfalso; apply h; unfold ruleP; rw [hc]; rfl
  · simpa using hc
theorem fst_some {x : PatchD} {i : Int} (h : ruleP x i ≠ 0) (hb : ∀ j ∈ need x, j < i → ruleP x j = 0) : fstI x = some i :=
  find_rising (ups_rising _ _) (ruleP_need h) (by simpa using h) fun j hj hji => by rw [hb j hj hji]; rfl
theorem fst_none {x : PatchD} (hb : ∀ j ∈ need x, ruleP x j = 0) : fstI x = none := List.find?_eq_none.2 fun j hj => by rw [hb j hj]; decide
theorem fst_vals {x : PatchD} {i : Int} (h : fstI x = some i) : nxR x = ruleP x i ∧ nxN x = i ∧ nxB x = true ∧ nxP x = afterP x i (ruleP x i) := by
  unfold nxR nxN nxB nxP; rw [h]; exact ⟨rfl, rfl, rfl, rfl⟩
theorem fst_novals {x : PatchD} (h : fstI x = none) : nxR x = 0 ∧ nxN x = 0 ∧ nxB x = false ∧ nxP x = x := by
  unfold nxR nxN nxB nxP; rw [h]; exact ⟨rfl, rfl, rfl, rfl⟩
theorem Box.put2 {w : World} {g : Nat} {l0 l1 a b : Value} {T : TypeId} (h : Box w g [l0, l1] T) : Box ((w.setCell ⟨g, 0, none⟩ a).setCell ⟨g, 1, none⟩ b) g [a, b] T := by
  have := (h.set 0 a).set 1 b
  simpa using this
theorem below_put2 {B : Nat} {w0 w : World} {g : Nat} (a b : Value) (h : Below B w0 w) (hg : B ≤ g) : Below B w0 ((w.setCell ⟨g, 0, none⟩ a).setCell ⟨g, 1, none⟩ b) :=
  (h.setCell (p := ⟨g, 0, none⟩) hg a).setCell (p := ⟨g, 1, none⟩) hg b
set_option maxHeartbeats 8000000 in
set_option maxRecDepth 100000 in
theorem l10First_x {x : PatchD} {gp : Nat} (w : World) (h : PPatch w gp x) (hok : okB x = true) :
    Calls Tryz.prog 84 #[.pointer (some ⟨gp, 0, none⟩)] w fun e w' => e = .returned (.tuple #[.agg #[.int .i64 (nxR x), .int .i64 (nxN x)], .bool (nxB x)]) ∧ Below w.heap.size w w' := by
  have hf := okB_formed hok
  have hn24 := (formed_iff.1 hf).2.2.1
  have hnl : (need x).length ≤ 24 := Nat.le_trans (need_length x) hn24
  obtain ⟨r, hr⟩ : ∃ r, r = nxR x := ⟨_, rfl⟩
  obtain ⟨n, hn⟩ : ∃ n, n = nxN x := ⟨_, rfl⟩
  obtain ⟨t, ht⟩ : ∃ t, t = nxB x := ⟨_, rfl⟩
  rw [← hr, ← hn, ← ht]
  have HS : Hid (∀ i, fstI x = some i → r = ruleP x i ∧ n = i ∧ t = true) := fun i e => by
    obtain ⟨e1, e2, e3, -⟩ := fst_vals e
    exact ⟨hr.trans e1, hn.trans e2, ht.trans e3⟩
  have HN : Hid (fstI x = none → r = 0 ∧ n = 0 ∧ t = false) := fun e => by
    obtain ⟨e1, e2, e3, -⟩ := fst_novals e
    exact ⟨hr.trans e1, hn.trans e2, ht.trans e3⟩
  clear hr hn ht
  obtain ⟨g, hg⟩ : ∃ g, g = w.heap.size := ⟨_, rfl⟩
  obtain ⟨E, hE⟩ : ∃ E, E = w.alloc (.cells #[.int .i64 0, .int .i64 0] 40) := ⟨_, rfl⟩
  have hB0 : Below w.heap.size w E := by rw [hE]; exact (Below.refl _ _).alloc (Nat.le_refl _) _
  have br : Box E g [.int .i64 0, .int .i64 0] 40 := by rw [hE, hg]; exact Box.newAt w [.int .i64 0, .int .i64 0] _ rfl
  have hgw : w.heap.size ≤ g := by omega
  have HE := Lib.hid hE
  have HG := Lib.hid hg
  clear hE hg
  have hp0 := h.below hB0
  have NE := Lib.hid (l07Needed_any E hp0 hf)
  go_enter Tryz.func84, Tryz.ntmps84
  go_upto_region 1 with fail
  rw [← HE.out, ← HG.out]
  go_wp2_with fail
  refine NE.out.mono ?_
  rintro e W1 ⟨u, rfl, hu, hb1⟩
  have hp1 := hp0.below hb1
  have br1 := br.below hb1
  have hw1 := hB0.trans (hb1.mono hB0.size)
  obtain ⟨pn, cn, rfl, hrn⟩ := hu.rd
  clear hu NE hp0 br h
  go_wp2_with fail
  go_loopw [5] (fun ci wr => ∃ k : Nat, k ≤ (need x).length ∧ ci = .int .i64 k ∧ (∀ j ∈ (need x).take k, ruleP x j = 0) ∧ Below W1.heap.size W1 wr) (fun ci _ => (need x).length - (intOf ci).toNat)
  case atStart => exact ⟨0, Nat.zero_le _, rfl, by simp, Below.refl _ _⟩
  case round =>
    obtain ⟨k, hk, rfl, hno, hbel⟩ := hrel
    obtain ⟨wi, rfl⟩ : ∃ wi : World, wi = wr := ⟨_, rfl⟩
    have HNO := Lib.hid hno
    clear hno
    have hwi := hw1.trans (hbel.mono hw1.size)
    by_cases hlt : k < (need x).length
    · obtain ⟨b3, o3, rfl, hb3, hc⟩ := (hrn.below hbel).pos hlt
      have hck := hc k hlt
      obtain ⟨r0, r1⟩ := need_rng _ (List.getElem_mem hlt)
      have hrn1 := hrn.below hbel
      obtain ⟨m, hm⟩ := Int.eq_ofNat_of_zero_le r0
      have FS := Lib.hid (fun hp => find_at_some (p := fun i => ruleP x i != 0) hlt hp (fun j hj => by rw [HNO.out j hj]; rfl))
      have NXT : Hid (ruleP x (need x)[k] = 0 → ∀ j ∈ (need x).take (k + 1), ruleP x j = 0) := fun hp j hj => by
        rw [List.take_succ_eq_append_getElem hlt, List.mem_append, List.mem_singleton] at hj
        rcases hj with hj | rfl
        · exact HNO.out j hj
        · exact hp
      rw [hm] at hck FS NXT r1
      have hmn : m < x.nodes.length := by omega
      obtain ⟨b, o, c, hsp⟩ := SPat.of (hp1.below hbel) hmn
      have RU := Lib.hid (l10Rule_x (cn := cn) wi hsp hok hmn hrn1)
      clear hc hm r0 r1 hsp hrn1
      by_cases hz : ruleP x (m : Int) = 0
      · have q : (ruleP x (m : Int) != 0) = false := by rw [bne_eq_false_iff_eq]; exact hz
        have N1 := Lib.hid (NXT.out hz)
        clear hz NXT FS
        go_wp2_with fail
        refine RU.out.mono ?_
        rintro e W2 ⟨rfl, hb2⟩
        have hbel2 := hbel.trans (hb2.mono hbel.size)
        go_wp2_with fail
        go_roundw
        case rel => exact ⟨k + 1, by omega, by go_num, N1.out, hbel2⟩
        case measure => simp [intOf] <;> omega
      · have q : (ruleP x (m : Int) != 0) = true := by rw [bne_iff_ne]; exact hz
        obtain ⟨e1, e2, e3⟩ := HS.out (m : Int) (FS.out q)
        have E1 := Lib.hid e1
        have E2 := Lib.hid e2
        subst e3
        clear hz NXT FS e1 e2 HS HN
        go_wp2_with fail
        refine RU.out.mono ?_
        rintro e W2 ⟨rfl, hb2⟩
        have hw2 := hwi.trans (hb2.mono hwi.size)
        have br2 := (br1.below hbel).below hb2
        have hck2 := (hb2.cell (p := ⟨b3, o3 + k, none⟩) hb3).trans hck
        have j0 := br2.frozen 0
        have j1 := br2.frozen 1
        have i0 := br2.cell 0 rfl
        have i1 := br2.cell 1 rfl
        have b9 := br2.put2 (a := .int .i64 (ruleP x (m : Int))) (b := .int .i64 (m : Int))
        have l9 := below_put2 (.int .i64 (ruleP x (m : Int))) (.int .i64 (m : Int)) hw2 hgw
        have q0 := b9.cell 0 rfl
        have q1 := b9.cell 1 rfl
        have L9 := Lib.hid l9
        clear b9 l9
        go_wp2_with fail
        refine bodyPost_ret (v := .tuple #[.agg #[.int .i64 (ruleP x (m : Int)), .int .i64 (m : Int)], .bool true]) (by simp [results, Tryz.results84, go_sem, *]) rfl ?_
        exact ⟨by rw [E1.out, E2.out], L9.out⟩
    · obtain rfl : k = (need x).length := by omega
      have hno := HNO.out
      rw [List.take_length] at hno
      obtain ⟨e1, e2, e3⟩ := HN.out (fst_none hno)
      subst e1 e2 e3
      have br2 := br1.below hbel
      have j0 := br2.frozen 0
      have j1 := br2.frozen 1
      have i0 := br2.cell 0 rfl
      have i1 := br2.cell 1 rfl
      have b9 := br2.put2 (a := .int .i64 0) (b := .int .i64 0)
      have l9 := below_put2 (.int .i64 0) (.int .i64 0) hwi hgw
      have q0 := b9.cell 0 rfl
      have q1 := b9.cell 1 rfl
      have L9 := Lib.hid l9
      clear b9 l9 hno
      go_wp2_with fail
      refine bodyPost_ret (v := .tuple #[.agg #[.int .i64 0, .int .i64 0], .bool false]) (by simp [results, Tryz.results84, go_sem, *]) rfl ?_
      exact ⟨rfl, L9.out⟩
end Go.Proofs.YtonkdndpfnapjaaGreat
