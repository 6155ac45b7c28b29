/-
  Several texts in one: RwThree, ApX, ApD, ApE, RwY.
-/
import Derived.Test.YtcfhcmgmkhfjjaaGreatPk7
import Derived.Test.YtcfhcmgmkhfjjaaGreatPk9
import Derived.Test.YtcfhcmgmkhfjjaaGreatPk6
namespace Go.Proofs.YtcfhcmgmkhfjjaaGreat
open Go.ChangeShapes Go.WideShapes Go.ChangeAt Go.RowKit Go.Sort
set_option linter.unusedVariables false

set_option maxHeartbeats 4000000 in
set_option maxRecDepth 100000 in
theorem l10Const_x {x : PatchD} {gp b o c2 i : Nat} (w : World) (h : SPat w gp b o c2 x) (hf : formedB x = true) (hi : i < x.nodes.length) :
    Calls Tryz.prog 84 #[.pointer (some ⟨gp, 0, none⟩), .int .i64 (i : Int)] w fun e w' => e = .returned (.bool (constB x (i : Int))) ∧ Below w.heap.size w w' := by
  have HC : Hid (∀ b1 b2, foldL.contains (nodeAt x.nodes (i : Int)).kind = b1 → (nodeAt x.nodes (i : Int)).src.all (fun j => isC (nodeAt x.nodes j)) = b2 → constB x (i : Int) = (b1 && b2)) := by
    intro b1 b2 e1 e2
    unfold constB; rw [e1, e2]
  have hn := h.2 i hi
  have hok := nodeAt_ok hf (i := (i : Int)) (by omega) (by omega)
  have hN3 := src_le3 hok
  obtain ⟨y0, y1, y2, q, d, y3, hr⟩ := hn
  have HAL : Hid (∀ k (hk : k < (nodeAt x.nodes (i : Int)).src.length), isC (nodeAt x.nodes ((nodeAt x.nodes (i : Int)).src[k])) = isC (frm x (i : Int) k)) := fun k hk => by
    unfold frm inp
    rw [List.getD_eq_getElem?_getD, List.getElem?_eq_getElem hk]; rfl
  have JK : Hid (∀ k, k < (nodeAt x.nodes (i : Int)).src.length → ∃ j b2 o2 : Nat, q = some ⟨b2, o2, none⟩ ∧ w.cell? ⟨b2, o2 + k, none⟩ = some (.int .i64 (j : Int)) ∧ ∀ W, Below w.heap.size w W → Calls Tryz.prog 87 #[.pointer (some ⟨gp, 0, none⟩), .int .i64 (j : Int)] W fun e w' => e = .returned (.bool (isC (frm x (i : Int) k))) ∧ W = w') := fun k hk => by
    obtain ⟨b2, o2, e, hb, hc⟩ := hr.at0 (by omega)
    obtain ⟨h0, h1⟩ := inp_rng hf (i := (i : Int)) (by omega) (by omega) hk
    obtain ⟨j, hj⟩ := Int.eq_ofNat_of_zero_le h0
    have hjn : j < x.nodes.length := by omega
    have e2 : frm x (i : Int) k = nodeAt x.nodes (j : Int) := by unfold frm; rw [hj]
    refine ⟨j, b2, o2, e, ?_, fun W hW => ?_⟩
    · rw [hc k hk]; exact congrArg (fun z => some (Value.int .i64 z)) hj
    · rw [e2]; exact l10Is_x W (h.below hW) hjn
  have hc2 := h.1
  clear hr hok y1 y2
  have HLEN : Hid ((nodeAt x.nodes (i : Int)).src.length = (nodeAt x.nodes (i : Int)).src.length) := rfl
  generalize hsr : (nodeAt x.nodes (i : Int)).src = SR at *
  generalize (nodeAt x.nodes (i : Int)).kind = K at *
  generalize constB x (i : Int) = CB at *
  clear hsr HLEN
  have hl8 := rdI_lit' w foldL (by simp [foldL])
  have HAS := Lib.hid (l00Has_any (xs := foldL) (c := 8) K _ hl8)
  have hBL : Below w.heap.size w (w.alloc (.cells (foldL.map (Value.int .i64)).toArray 2)) := (Below.refl _ _).alloc (Nat.le_refl _) _
  rw [any_contains] at HAS
  obtain ⟨F, hF⟩ : ∃ F, F = w.alloc (.cells (foldL.map (Value.int .i64)).toArray 2) := ⟨_, rfl⟩
  rw [← hF] at HAS hBL
  have HF := Lib.hid hF
  have l0 := World.block_lt_of_cell? w _ y0
  have lc := World.block_lt_of_cell? w _ hc2
  clear hF hl8
  cases hc1 : foldL.contains K
  case false =>
    rw [hc1] at HAS
    obtain rfl := HC.out _ _ hc1 rfl
    rw [Bool.false_and]
    clear hc1 HC JK HAL
    go_enter Tryz.func84, Tryz.ntmps84
    go_wp2_with fail
    rw [show (w.alloc (.cells #[.int .i64 3, .int .i64 4, .int .i64 5, .int .i64 9, .int .i64 10, .int .i64 11, .int .i64 13, .int .i64 15] 2)) = F from HF.out.symm]
    refine HAS.out.mono ?_
    rintro e W1 ⟨rfl, rfl⟩
    go_wp2_with fail
    go_ret
    exact ⟨rfl, hBL⟩
  rw [hc1] at HAS
  have HC2 := Lib.hid (fun b2 h2 => HC.out true b2 hc1 h2)
  clear HC hc1
  go_enter Tryz.func84, Tryz.ntmps84
  go_wp2_with fail
  rw [show (w.alloc (.cells #[.int .i64 3, .int .i64 4, .int .i64 5, .int .i64 9, .int .i64 10, .int .i64 11, .int .i64 13, .int .i64 15] 2)) = F from HF.out.symm]
  refine HAS.out.mono ?_
  rintro e W1 ⟨rfl, rfl⟩
  go_wp2_with fail
  go_loop [7] (fun ci => ∃ k : Nat, k ≤ SR.length ∧ ci = .int .i64 k ∧ (SR.take k).all (fun j => isC (nodeAt x.nodes j)) = true) (fun ci => SR.length - (intOf ci).toNat)
  case atStart => exact ⟨0, Nat.zero_le _, rfl, by simp⟩
  case round =>
    obtain ⟨k, hk, rfl, hall⟩ := hrel
    have HA := Lib.hid hall
    clear hall
    have x0 := (hBL.cell (p := ⟨b, o + i * 4, none⟩) l0).trans y0
    have x3 := (hBL.cell (p := ⟨b, o + i * 4 + 3, none⟩) l0).trans y3
    have xc := (hBL.cell (p := ⟨gp, 2, none⟩) lc).trans hc2
    by_cases hlt : k < SR.length
    · obtain ⟨j, b2, o2, rfl, hcj, IS⟩ := JK.out k hlt
      have xj := (hBL.cell (p := ⟨b2, o2 + k, none⟩) (World.block_lt_of_cell? w _ hcj)).trans hcj
      have AL := Lib.hid (HAL.out k hlt)
      have IS1 := Lib.hid (IS F hBL)
      generalize isC (frm x (i : Int) k) = cb at *
      cases cb
      · obtain rfl : CB = false := (HC2.out _ (all_false hlt AL.out)).trans rfl
        go_wp2_with (go_at_call 87; refine IS1.out.mono ?_; rintro e w' ⟨rfl, rfl⟩)
        go_ret
        exact ⟨rfl, hBL⟩
      · have ST := Lib.hid (all_step hlt HA.out AL.out)
        go_wp2_with (go_at_call 87; refine IS1.out.mono ?_; rintro e w' ⟨rfl, rfl⟩)
        go_round
        case rel => exact ⟨k + 1, by omega, by go_num, ST.out⟩
        case measure => simp [intOf] <;> omega
    · obtain rfl : k = SR.length := by omega
      obtain rfl : CB = true := (HC2.out _ (all_done HA.out)).trans rfl
      go_wp2_with fail
      go_ret
      exact ⟨rfl, hBL⟩
theorem find_at_some {p : Int → Bool} {l : List Int} {k : Nat} (h : k < l.length) (hp : p l[k] = true) (hb : ∀ j ∈ l.take k, p j = false) : l.find? p = some l[k] := by
  have e : l = l.take k ++ l[k] :: l.drop (k + 1) := by rw [← List.drop_eq_getElem_cons h, List.take_append_drop]
  conv => lhs; rw [e]
  rw [List.find?_append, List.find?_eq_none.2 (fun j hj => by rw [hb j hj]; simp), Option.none_or]
  exact List.find?_cons_of_pos hp
set_option maxHeartbeats 4000000 in
set_option maxRecDepth 100000 in
theorem l10Twin_x {x : PatchD} {gp b o c2 i : Nat} {pn : Option Addr} {cn : Nat} (w : World) (h : SPat w gp b o c2 x) (hi : i < x.nodes.length) (hn : RdI w pn (need x)) (hn24 : x.nodes.length ≤ 24) :
    Calls Tryz.prog 88 #[.pointer (some ⟨gp, 0, none⟩), .slice pn (need x).length cn, .int .i64 (i : Int)] w fun e w' => e = .returned (.int .i64 (twinI x (i : Int))) ∧ Drawn w w' := by
  have hnl : (need x).length ≤ 24 := Nat.le_trans (need_length x) hn24
  have hnr := need_rng (x := x)
  have HT : Hid (twinI x (i : Int) = ((need x).find? fun k => decide (k < (i : Int)) && decide (nodeAt x.nodes k = nodeAt x.nodes (i : Int))).getD (-1)) := rfl
  generalize twinI x (i : Int) = R at HT ⊢
  generalize need x = L at *
  go_enter Tryz.func88, Tryz.ntmps88
  go_wp2_with fail
  go_loopw [7] (fun ci wr => ∃ k : Nat, k ≤ L.length ∧ ci = .int .i64 k ∧ (∀ j ∈ L.take k, (decide (j < (i : Int)) && decide (nodeAt x.nodes j = nodeAt x.nodes (i : Int))) = false) ∧ Drawn w wr) (fun ci _ => L.length - (intOf ci).toNat)
  case atStart => exact ⟨0, Nat.zero_le _, rfl, by simp, Drawn.refl w⟩
  case round =>
    obtain ⟨k, hk, rfl, hno, hdr⟩ := hrel
    have HNO := Lib.hid hno
    clear hno
    have h1 := h.below (hdr.below _)
    have hn1 := hdr.rdI hn
    clear h hn
    by_cases hlt : k < L.length
    · obtain ⟨b3, o3, rfl, hb3, hc⟩ := hn1.pos hlt
      have hck := hc k hlt
      clear hc
      obtain ⟨r0, r1⟩ := hnr _ (List.getElem_mem hlt)
      have FS := Lib.hid (fun hp => find_at_some (p := fun k => decide (k < (i : Int)) && decide (nodeAt x.nodes k = nodeAt x.nodes (i : Int))) hlt hp HNO.out)
      have NXT : Hid ((decide (L[k] < (i : Int)) && decide (nodeAt x.nodes L[k] = nodeAt x.nodes (i : Int))) = false → ∀ j ∈ L.take (k + 1), (decide (j < (i : Int)) && decide (nodeAt x.nodes j = nodeAt x.nodes (i : Int))) = false) := fun hp j hj => by
        rw [List.take_succ_eq_append_getElem hlt, List.mem_append, List.mem_singleton] at hj
        rcases hj with hj | rfl
        · exact HNO.out j hj
        · exact hp
      generalize L[k] = z at *
      obtain ⟨m, rfl⟩ := Int.eq_ofNat_of_zero_le r0
      have hmn : m < x.nodes.length := by omega
      have hcc := h1.1
      by_cases hmi : m < i
      · have PK := h1.2 m hmn
        have PI := h1.2 i hi
        have SN : Hid (∀ c, decide (nodeAt x.nodes (m : Int) = nodeAt x.nodes (i : Int)) = c → ∀ n, Calls Tryz.prog 114 #[.pointer (some ⟨b, o + m * 4, none⟩), .pointer (some ⟨b, o + i * 4, none⟩)] (wr.drewN n) fun e w' => e = .returned (.bool c) ∧ ∃ j, w' = (wr.drewN n).drewN j) := fun c hc n => by
          have hb := below_drewN (Below.refl wr.heap.size wr) n
          have := l07SameNode_any _ (PK.below hb) (PI.below hb)
          rwa [hc] at this
        have hd : decide ((m : Int) < (i : Int)) = true := decide_eq_true (by omega)
        clear PK PI
        cases he : decide (nodeAt x.nodes (m : Int) = nodeAt x.nodes (i : Int))
        · have S1 := Lib.hid (SN.out _ he)
          have N1 := Lib.hid (NXT.out (by rw [he, Bool.and_false]))
          clear he SN NXT FS
          go_wp2_with fail
          go_quiet ((go_at_call 114; exact Calls.quiet_of (S1.out _)))
          go_wp2_with fail
          go_roundw
          case rel => exact ⟨k + 1, by omega, by go_num, N1.out, hdr.on _⟩
          case measure => simp [intOf] <;> omega
        · have S1 := Lib.hid (SN.out _ he)
          have e1 := FS.out (by rw [he, hd]; rfl)
          obtain rfl : R = (m : Int) := by rw [HT.out, e1]; rfl
          clear he SN NXT FS e1
          go_wp2_with fail
          go_quiet ((go_at_call 114; exact Calls.quiet_of (S1.out _)))
          go_wp2_with fail
          go_ret
          exact ⟨rfl, hdr.on _⟩
      · have hd : decide ((m : Int) < (i : Int)) = false := decide_eq_false (by omega)
        have N1 := Lib.hid (NXT.out (by rw [hd, Bool.false_and]))
        clear NXT FS
        go_wp2_with fail
        go_quiet (fail)
        go_wp2_with fail
        go_roundw
        case rel => exact ⟨k + 1, by omega, by go_num, N1.out, hdr.on _⟩
        case measure => simp [intOf] <;> omega
    · obtain rfl : k = L.length := by omega
      have hno := HNO.out
      rw [List.take_length] at hno
      obtain rfl : R = -1 := by rw [HT.out, List.find?_eq_none.2 (fun j hj => by rw [hno j hj]; simp)]; rfl
      go_wp2_with fail
      go_ret
      exact ⟨rfl, hdr⟩
end Go.Proofs.YtcfhcmgmkhfjjaaGreat

namespace Go.Proofs.YtcfhcmgmkhfjjaaGreat
open Go.ChangeShapes Go.WideShapes Go.ChangeAt Go.RowKit Go.Sort
set_option linter.unusedVariables false

theorem okB_formed {x : PatchD} (h : okB x = true) : formedB x = true := by
  unfold okB at h
  rw [Bool.and_eq_true] at h
  exact h.1
set_option maxHeartbeats 16000000 in
set_option maxRecDepth 100000 in
theorem l10Rule_x {x : PatchD} {gp b o c2 i : Nat} {pn : Option Addr} {cn : Nat} (w : World) (h : SPat w gp b o c2 x) (hok0 : okB x = true) (hi : i < x.nodes.length) (hnn : RdI w pn (need x)) :
    Calls Tryz.prog 48 #[.pointer (some ⟨gp, 0, none⟩), .slice pn (need x).length cn, .int .i64 (i : Int)] w fun e w' => e = .returned (.int .i64 (ruleP x (i : Int))) ∧ Below w.heap.size w w' := by
  have hf := okB_formed hok0
  have hn24 := (formed_iff.1 hf).2.2.1
  have hnl : (need x).length ≤ 24 := Nat.le_trans (need_length x) hn24
  have HNS : Hid ((nodeAt x.nodes (i : Int)).kind ≠ 6 → (i : Int) ∉ (nodeAt x.nodes (i : Int)).src) := fun hk => by
    rw [nodeAt_eq hi] at hk ⊢
    exact ok_noSelf hok0 hi hk
  obtain ⟨R, hR⟩ : ∃ R, R = ruleP x (i : Int) := ⟨_, rfl⟩
  rw [← hR]
  rw [ruleP_eq] at hR
  have HR : Hid (∀ nd c z s f j5 j6 t, (need x).contains (i : Int) = nd → constB x (i : Int) = c → zeroB x (i : Int) = z → sameI x (i : Int) = s → factB x (i : Int) = f → joinOk x (i : Int) 5 = j5 → joinOk x (i : Int) 6 = j6 → twinI x (i : Int) = t → R = ruleK nd c z s f j5 j6 t) := by
    intro nd c z s f j5 j6 t e1 e2 e3 e4 e5 e6 e7 e8
    rw [hR, e1, e2, e3, e4, e5, e6, e7, e8]
  clear hR
  have HFA : Hid (∀ b1 b2, ((frm x (i : Int) 0).kind == 2) = b1 → ((frm x (i : Int) 1).kind == 2) = b2 → factB x (i : Int) = ((nodeAt x.nodes (i : Int)).kind == 9 && (b1 || b2))) := by
    intro b1 b2 e1 e2
    unfold factB isC
    rw [e1, e2]
  have HJ : Hid (∀ kk b1 b2, ((frm x (i : Int) 0).kind == kk) = b1 → (inp x (i : Int) 0 == (i : Int)) = b2 → joinOk x (i : Int) kk = (((nodeAt x.nodes (i : Int)).kind == kk && b1) && !b2 && (kk == 5 || decide (joinA x (i : Int) kk ≤ 16)))) := by
    intro kk b1 b2 e1 e2
    unfold joinOk joinB
    rw [e1, e2]
  have HJA : Hid (joinA x (i : Int) 6 = (nodeAt x.nodes (i : Int)).a + (frm x (i : Int) 0).a) := rfl
  have HMEM : Hid (0 < (nodeAt x.nodes (i : Int)).src.length → inp x (i : Int) 0 ∈ (nodeAt x.nodes (i : Int)).src) := fun h => getD_mem h
  have HA1 : Hid (-2147483648 ≤ (nodeAt x.nodes (i : Int)).a ∧ (nodeAt x.nodes (i : Int)).a ≤ 2147483647) := nodeB_a (nodeAt_ok hf (i := (i : Int)) (by omega) (by omega))
  have HA2 : Hid (0 < (nodeAt x.nodes (i : Int)).src.length → -2147483648 ≤ (frm x (i : Int) 0).a ∧ (frm x (i : Int) 0).a ≤ 2147483647) := fun h => by
    obtain ⟨r0, r1⟩ := inp_rng hf (i := (i : Int)) (by omega) (by omega) (k := 0) h
    exact nodeB_a (nodeAt_ok hf r0 r1)
  have hn := h.2 i hi
  have hok := nodeAt_ok hf (i := (i : Int)) (by omega) (by omega)
  obtain ⟨hk, har⟩ := nodeB_ar hok
  obtain ⟨y0, y1, y2, q, d, y3, hr⟩ := hn
  have hlen := hr.len
  unfold maxLen at hlen
  have SC : Hid (1 ≤ (nodeAt x.nodes (i : Int)).src.length → ∃ b2 o2, q = some ⟨b2, o2, none⟩ ∧ b2 < w.heap.size ∧ w.cell? ⟨b2, o2, none⟩ = some (.int .i64 (inp x (i : Int) 0)) ∧ (1 < (nodeAt x.nodes (i : Int)).src.length → w.cell? ⟨b2, o2 + 1, none⟩ = some (.int .i64 (inp x (i : Int) 1))) ∧ (2 < (nodeAt x.nodes (i : Int)).src.length → w.cell? ⟨b2, o2 + 2, none⟩ = some (.int .i64 (inp x (i : Int) 2)))) := fun h => by
    obtain ⟨b2, o2, e, hb, hc⟩ := hr.at0 h
    exact ⟨b2, o2, e, hb, hc 0 (by omega), fun h1 => hc 1 h1, fun h2 => hc 2 h2⟩
  have J0 : Hid (0 < (nodeAt x.nodes (i : Int)).src.length → ∃ j : Nat, inp x (i : Int) 0 = (j : Int) ∧ j < x.nodes.length ∧ w.cell? ⟨b, o + j * 4, none⟩ = some (.int .i64 (frm x (i : Int) 0).kind) ∧ w.cell? ⟨b, o + j * 4 + 1, none⟩ = some (.int .i64 (frm x (i : Int) 0).a) ∧
      (∀ W, Below w.heap.size w W → Calls Tryz.prog 87 #[.pointer (some ⟨gp, 0, none⟩), .int .i64 (j : Int)] W fun e w' => e = .returned (.bool ((frm x (i : Int) 0).kind == 2)) ∧ W = w') ∧
      (∀ W, Below w.heap.size w W → Calls Tryz.prog 112 #[.pointer (some ⟨gp, 0, none⟩), .int .i64 (j : Int)] W fun e w' => e = .returned (.bool ((frm x (i : Int) 0).kind == 2 && (frm x (i : Int) 0).a == 0)) ∧ W = w')) := fun hm => by
    obtain ⟨h0, h1⟩ := inp_rng hf (i := (i : Int)) (by omega) (by omega) hm
    obtain ⟨j, hj⟩ := Int.eq_ofNat_of_zero_le h0
    have hjn : j < x.nodes.length := by omega
    have e : frm x (i : Int) 0 = nodeAt x.nodes (j : Int) := by unfold frm; rw [hj]
    rw [e]
    obtain ⟨c0, c1, -, -⟩ := h.2 j hjn
    exact ⟨j, hj, hjn, c0, c1, fun W hW => l10Is_x W (h.below hW) hjn, fun W hW => l10Zero_x W (h.below hW) hjn⟩
  have J1 : Hid (1 < (nodeAt x.nodes (i : Int)).src.length → ∃ j : Nat, inp x (i : Int) 1 = (j : Int) ∧ j < x.nodes.length ∧ w.cell? ⟨b, o + j * 4, none⟩ = some (.int .i64 (frm x (i : Int) 1).kind) ∧ w.cell? ⟨b, o + j * 4 + 1, none⟩ = some (.int .i64 (frm x (i : Int) 1).a) ∧
      (∀ W, Below w.heap.size w W → Calls Tryz.prog 87 #[.pointer (some ⟨gp, 0, none⟩), .int .i64 (j : Int)] W fun e w' => e = .returned (.bool ((frm x (i : Int) 1).kind == 2)) ∧ W = w') ∧
      (∀ W, Below w.heap.size w W → Calls Tryz.prog 112 #[.pointer (some ⟨gp, 0, none⟩), .int .i64 (j : Int)] W fun e w' => e = .returned (.bool ((frm x (i : Int) 1).kind == 2 && (frm x (i : Int) 1).a == 0)) ∧ W = w')) := fun hm => by
    obtain ⟨h0, h1⟩ := inp_rng hf (i := (i : Int)) (by omega) (by omega) hm
    obtain ⟨j, hj⟩ := Int.eq_ofNat_of_zero_le h0
    have hjn : j < x.nodes.length := by omega
    have e : frm x (i : Int) 1 = nodeAt x.nodes (j : Int) := by unfold frm; rw [hj]
    rw [e]
    obtain ⟨c0, c1, -, -⟩ := h.2 j hjn
    exact ⟨j, hj, hjn, c0, c1, fun W hW => l10Is_x W (h.below hW) hjn, fun W hW => l10Zero_x W (h.below hW) hjn⟩
  have hc2 := h.1
  have l0 := World.block_lt_of_cell? w _ y0
  have lc := World.block_lt_of_cell? w _ hc2
  have HASN := Lib.hid (l00Has_any (c := cn) (i : Int) w hnn)
  rw [any_contains] at HASN
  have CON := Lib.hid (l10Const_x w h hf hi)
  have NOT := Lib.hid (fun W (hW : Below w.heap.size w W) => l10Nothing_x W (h.below hW) hf hi)
  have SAM := Lib.hid (fun W (hW : Below w.heap.size w W) => l10Same_x W (h.below hW) hf hi)
  have TWI := Lib.hid (fun W (hW : Below w.heap.size w W) => l10Twin_x (cn := cn) W (h.below hW) hi (hnn.below hW) hn24)
  clear hr hok y2
  generalize need x = L at *
  generalize hsr : (nodeAt x.nodes (i : Int)).src = SR at *
  generalize (nodeAt x.nodes (i : Int)).kind = K at *
  generalize (nodeAt x.nodes (i : Int)).a = A at *
  generalize (nodeAt x.nodes (i : Int)).b = B at *
  generalize hN : SR.length = N at *
  generalize hs0 : inp x (i : Int) 0 = s0 at *
  generalize inp x (i : Int) 1 = s1 at *
  generalize inp x (i : Int) 2 = s2 at *
  generalize frm x (i : Int) 0 = f0 at *
  generalize frm x (i : Int) 1 = f1 at *
  clear hsr hs0 hN
  by_cases k9 : K = 9
  case pos =>
    have hN2 : N = 2 := by rw [k9] at har; have : kAr ((9 : Int) - 1).toNat = 2 := rfl; omega
    obtain ⟨b2, o2, rfl, hb2, r0, r1', -⟩ := SC.out (by omega)
    have r1 := r1' (by omega)
    obtain ⟨j0, rfl, hj0, t0, u0, CI0, -⟩ := J0.out (by omega)
    obtain ⟨j1, rfl, hj1, -, -, CI1, -⟩ := J1.out (by omega)
    replace CI0 := Lib.hid CI0
    replace CI1 := Lib.hid CI1
    have hN0 : 0 < N := by omega
    have hN1 : 1 < N := by omega
    have hq1 : ((N : Int) == 1) = false := by rw [beq_eq_false_iff_ne]; omega
    have hj5 : joinOk x (i : Int) 5 = false := by rw [HJ.out 5 _ _ rfl rfl, k9]; rfl
    have hj6 : joinOk x (i : Int) 6 = false := by rw [HJ.out 6 _ _ rfl rfl, k9]; rfl
    have HFK := Lib.hid (fun c0 c1 e0 e1 => (HFA.out c0 c1 e0 e1).trans (by rw [k9]; rfl : (K == 9 && (c0 || c1)) = (c0 || c1)))
    have q9 : (K == 9) = true := by rw [beq_iff_eq]; exact k9
    have q5 : (K == 5) = false := by rw [beq_eq_false_iff_ne, k9]; decide
    have q6 : (K == 6) = false := by rw [beq_eq_false_iff_ne, k9]; decide
    clear hk har SC J0 J1 HFA HJ HJA HMEM HA1 HA2 HNS r1' hN2 k9
    go_enter Tryz.func48, Tryz.ntmps48
    go_wp2_with fail
    refine HASN.out.mono ?_
    rintro e W0 ⟨rfl, rfl⟩
    cases hnd : L.contains (i : Int)
    case false =>
      obtain rfl : R = 0 := (HR.out false _ _ _ _ _ _ _ hnd rfl rfl rfl rfl rfl rfl rfl).trans (rfl)
      go_wp2_with fail
      go_ret
      exact ⟨rfl, Below.refl _ _⟩
    go_wp2_with fail
    refine CON.out.mono ?_
    rintro e W1 ⟨rfl, b1⟩
    have a_y0 := (b1.cell (p := ⟨b, o + i * 4, none⟩) l0).trans y0
    have a_y1 := (b1.cell (p := ⟨b, o + i * 4 + 1, none⟩) l0).trans y1
    have a_y3 := (b1.cell (p := ⟨b, o + i * 4 + 3, none⟩) l0).trans y3
    have a_hc2 := (b1.cell (p := ⟨gp, 2, none⟩) lc).trans hc2
    have a_r0 := (b1.cell (p := ⟨b2, o2, none⟩) hb2).trans r0
    have a_r1 := (b1.cell (p := ⟨b2, o2 + 1, none⟩) hb2).trans r1
    cases hc : constB x (i : Int)
    case true =>
      obtain rfl : R = 1 := (HR.out true true _ _ _ _ _ _ hnd hc rfl rfl rfl rfl rfl rfl).trans (rfl)
      go_wp2_with fail
      go_ret
      exact ⟨rfl, b1⟩
    have NT := Lib.hid (NOT.out W1 b1)
    go_wp2_with fail
    refine NT.out.mono ?_
    rintro e W2 ⟨rfl, d2⟩
    have b2' := b1.trans (d2.mono b1.size)
    clear a_y0 a_y1 a_y3 a_hc2 a_r0 a_r1
    have a_y0 := (b2'.cell (p := ⟨b, o + i * 4, none⟩) l0).trans y0
    have a_y1 := (b2'.cell (p := ⟨b, o + i * 4 + 1, none⟩) l0).trans y1
    have a_y3 := (b2'.cell (p := ⟨b, o + i * 4 + 3, none⟩) l0).trans y3
    have a_hc2 := (b2'.cell (p := ⟨gp, 2, none⟩) lc).trans hc2
    have a_r0 := (b2'.cell (p := ⟨b2, o2, none⟩) hb2).trans r0
    have a_r1 := (b2'.cell (p := ⟨b2, o2 + 1, none⟩) hb2).trans r1
    cases hz : zeroB x (i : Int)
    case true =>
      obtain rfl : R = 2 := (HR.out true false true _ _ _ _ _ hnd hc hz rfl rfl rfl rfl rfl).trans (rfl)
      go_wp2_with fail
      go_ret
      exact ⟨rfl, b2'⟩
    have SA := Lib.hid (SAM.out W2 b2')
    generalize hS : sameI x (i : Int) = S at SA
    go_wp2_with fail
    refine SA.out.mono ?_
    rintro e W3 ⟨rfl, d3⟩
    have b3 := b2'.trans (d3.mono b2'.size)
    clear a_y0 a_y1 a_y3 a_hc2 a_r0 a_r1
    have a_y0 := (b3.cell (p := ⟨b, o + i * 4, none⟩) l0).trans y0
    have a_y1 := (b3.cell (p := ⟨b, o + i * 4 + 1, none⟩) l0).trans y1
    have a_y3 := (b3.cell (p := ⟨b, o + i * 4 + 3, none⟩) l0).trans y3
    have a_hc2 := (b3.cell (p := ⟨gp, 2, none⟩) lc).trans hc2
    have a_r0 := (b3.cell (p := ⟨b2, o2, none⟩) hb2).trans r0
    have a_r1 := (b3.cell (p := ⟨b2, o2 + 1, none⟩) hb2).trans r1
    by_cases hsn : 0 ≤ S
    case pos =>
      obtain rfl : R = 3 := (HR.out true false false S _ _ _ _ hnd hc hz hS rfl rfl rfl rfl).trans (by simp [ruleK, hsn])
      go_wp2_with fail
      go_ret
      exact ⟨rfl, b3⟩
    have IS0 := Lib.hid (CI0.out W3 b3)
    have IS1 := Lib.hid (CI1.out W3 b3)
    go_wp2_with fail
    refine IS0.out.mono ?_
    rintro e W4 ⟨rfl, rfl⟩
    cases e0 : (f0.kind == 2)
    case true =>
      obtain rfl : R = 4 := (HR.out true false false S true _ _ _ hnd hc hz hS (HFK.out true _ e0 rfl) rfl rfl rfl).trans (by simp [ruleK, hsn])
      go_wp2_with fail
      go_ret
      exact ⟨rfl, b3⟩
    go_wp2_with fail
    refine IS1.out.mono ?_
    rintro e W5 ⟨rfl, rfl⟩
    cases e1 : (f1.kind == 2)
    case true =>
      obtain rfl : R = 4 := (HR.out true false false S true _ _ _ hnd hc hz hS (HFK.out false true e0 e1) rfl rfl rfl).trans (by simp [ruleK, hsn])
      go_wp2_with fail
      go_ret
      exact ⟨rfl, b3⟩
    go_wp2_with fail
    go_quiet (fail)
    have b4 := below_drewN b3 nq
    clear a_y0 a_y1 a_y3 a_hc2 a_r0 a_r1
    have TW := Lib.hid (TWI.out (W3.drewN nq) (b4))
    generalize hT : twinI x (i : Int) = T at TW
    go_wp2_with fail
    refine TW.out.mono ?_
    rintro e W9 ⟨rfl, hd9⟩
    have b9 := (b4).trans ((hd9.below _).mono (b4).size)
    by_cases ht0 : 0 ≤ T
    case pos =>
      obtain rfl : R = 7 := (HR.out true false false S false false false T hnd hc hz hS (HFK.out false false e0 e1) hj5 hj6 hT).trans (by simp [ruleK, hsn, ht0])
      clear hT
      go_wp2_with fail
      go_ret
      exact ⟨rfl, b9⟩
    case neg =>
      obtain rfl : R = 0 := (HR.out true false false S false false false T hnd hc hz hS (HFK.out false false e0 e1) hj5 hj6 hT).trans (by simp [ruleK, hsn, ht0])
      clear hT
      go_wp2_with fail
      go_ret
      exact ⟨rfl, b9⟩
  have hff : factB x (i : Int) = false := by rw [HFA.out _ _ rfl rfl, show (K == 9) = false by rw [beq_eq_false_iff_ne]; exact k9]; rfl
  have q9 : (K == 9) = false := by rw [beq_eq_false_iff_ne]; exact k9
  clear HFA J1 k9
  by_cases k5 : K = 5
  case pos =>
    have hN2 : N = 1 := by rw [k5] at har; have : kAr ((5 : Int) - 1).toNat = 1 := rfl; omega
    obtain ⟨b2, o2, rfl, hb2, r0, -, -⟩ := SC.out (by omega)
    have hne : s0 ≠ (i : Int) := fun e => HNS.out (by rw [k5]; decide) (e ▸ HMEM.out (by omega))
    obtain ⟨j0, rfl, hj0, t0, u0, -, -⟩ := J0.out (by omega)
    have hN0 : 0 < N := by omega
    have hq1 : ((N : Int) == 1) = true := by rw [beq_iff_eq]; omega
    have H5 := Lib.hid (fun c0 e0 => (HJ.out 5 c0 false e0 (by rw [beq_eq_false_iff_ne]; exact hne)).trans (by rw [k5]; cases c0 <;> rfl : ((K == 5 && c0) && !false && ((5 : Int) == 5 || decide (joinA x (i : Int) 5 ≤ 16))) = c0))
    have hj6 : joinOk x (i : Int) 6 = false := by rw [HJ.out 6 _ _ rfl rfl, k5]; rfl
    have q5 : (K == 5) = true := by rw [beq_iff_eq]; exact k5
    have q6 : (K == 6) = false := by rw [beq_eq_false_iff_ne, k5]; decide
    clear hk har SC J0 HJ HJA HMEM HA1 HA2 HNS hN2 hne k5
    cases e0 : (f0.kind == 5)
    case true =>
      go_enter Tryz.func48, Tryz.ntmps48
      go_wp2_with fail
      refine HASN.out.mono ?_
      rintro e W0 ⟨rfl, rfl⟩
      cases hnd : L.contains (i : Int)
      case false =>
        obtain rfl : R = 0 := (HR.out false _ _ _ _ _ _ _ hnd rfl rfl rfl rfl rfl rfl rfl).trans (rfl)
        go_wp2_with fail
        go_ret
        exact ⟨rfl, Below.refl _ _⟩
      go_wp2_with fail
      refine CON.out.mono ?_
      rintro e W1 ⟨rfl, b1⟩
      have a_y0 := (b1.cell (p := ⟨b, o + i * 4, none⟩) l0).trans y0
      have a_y1 := (b1.cell (p := ⟨b, o + i * 4 + 1, none⟩) l0).trans y1
      have a_y3 := (b1.cell (p := ⟨b, o + i * 4 + 3, none⟩) l0).trans y3
      have a_hc2 := (b1.cell (p := ⟨gp, 2, none⟩) lc).trans hc2
      have a_r0 := (b1.cell (p := ⟨b2, o2, none⟩) hb2).trans r0
      have a_t0 := (b1.cell (p := ⟨b, o + j0 * 4, none⟩) l0).trans t0
      have a_u0 := (b1.cell (p := ⟨b, o + j0 * 4 + 1, none⟩) l0).trans u0
      cases hc : constB x (i : Int)
      case true =>
        obtain rfl : R = 1 := (HR.out true true _ _ _ _ _ _ hnd hc rfl rfl rfl rfl rfl rfl).trans (rfl)
        go_wp2_with fail
        go_ret
        exact ⟨rfl, b1⟩
      have NT := Lib.hid (NOT.out W1 b1)
      go_wp2_with fail
      refine NT.out.mono ?_
      rintro e W2 ⟨rfl, d2⟩
      have b2' := b1.trans (d2.mono b1.size)
      clear a_y0 a_y1 a_y3 a_hc2 a_r0 a_t0 a_u0
      have a_y0 := (b2'.cell (p := ⟨b, o + i * 4, none⟩) l0).trans y0
      have a_y1 := (b2'.cell (p := ⟨b, o + i * 4 + 1, none⟩) l0).trans y1
      have a_y3 := (b2'.cell (p := ⟨b, o + i * 4 + 3, none⟩) l0).trans y3
      have a_hc2 := (b2'.cell (p := ⟨gp, 2, none⟩) lc).trans hc2
      have a_r0 := (b2'.cell (p := ⟨b2, o2, none⟩) hb2).trans r0
      have a_t0 := (b2'.cell (p := ⟨b, o + j0 * 4, none⟩) l0).trans t0
      have a_u0 := (b2'.cell (p := ⟨b, o + j0 * 4 + 1, none⟩) l0).trans u0
      cases hz : zeroB x (i : Int)
      case true =>
        obtain rfl : R = 2 := (HR.out true false true _ _ _ _ _ hnd hc hz rfl rfl rfl rfl rfl).trans (rfl)
        go_wp2_with fail
        go_ret
        exact ⟨rfl, b2'⟩
      have SA := Lib.hid (SAM.out W2 b2')
      generalize hS : sameI x (i : Int) = S at SA
      go_wp2_with fail
      refine SA.out.mono ?_
      rintro e W3 ⟨rfl, d3⟩
      have b3 := b2'.trans (d3.mono b2'.size)
      clear a_y0 a_y1 a_y3 a_hc2 a_r0 a_t0 a_u0
      have a_y0 := (b3.cell (p := ⟨b, o + i * 4, none⟩) l0).trans y0
      have a_y1 := (b3.cell (p := ⟨b, o + i * 4 + 1, none⟩) l0).trans y1
      have a_y3 := (b3.cell (p := ⟨b, o + i * 4 + 3, none⟩) l0).trans y3
      have a_hc2 := (b3.cell (p := ⟨gp, 2, none⟩) lc).trans hc2
      have a_r0 := (b3.cell (p := ⟨b2, o2, none⟩) hb2).trans r0
      have a_t0 := (b3.cell (p := ⟨b, o + j0 * 4, none⟩) l0).trans t0
      have a_u0 := (b3.cell (p := ⟨b, o + j0 * 4 + 1, none⟩) l0).trans u0
      by_cases hsn : 0 ≤ S
      case pos =>
        obtain rfl : R = 3 := (HR.out true false false S _ _ _ _ hnd hc hz hS rfl rfl rfl rfl).trans (by simp [ruleK, hsn])
        go_wp2_with fail
        go_ret
        exact ⟨rfl, b3⟩
      obtain rfl : R = 5 := (HR.out true false false S false true _ _ hnd hc hz hS hff (H5.out true e0) rfl rfl).trans (by simp [ruleK, hsn])
      go_wp2_with fail
      go_ret
      exact ⟨rfl, b3⟩
    case false =>
      go_enter Tryz.func48, Tryz.ntmps48
      go_wp2_with fail
      refine HASN.out.mono ?_
      rintro e W0 ⟨rfl, rfl⟩
      cases hnd : L.contains (i : Int)
      case false =>
        obtain rfl : R = 0 := (HR.out false _ _ _ _ _ _ _ hnd rfl rfl rfl rfl rfl rfl rfl).trans (rfl)
        go_wp2_with fail
        go_ret
        exact ⟨rfl, Below.refl _ _⟩
      go_wp2_with fail
      refine CON.out.mono ?_
      rintro e W1 ⟨rfl, b1⟩
      have a_y0 := (b1.cell (p := ⟨b, o + i * 4, none⟩) l0).trans y0
      have a_y1 := (b1.cell (p := ⟨b, o + i * 4 + 1, none⟩) l0).trans y1
      have a_y3 := (b1.cell (p := ⟨b, o + i * 4 + 3, none⟩) l0).trans y3
      have a_hc2 := (b1.cell (p := ⟨gp, 2, none⟩) lc).trans hc2
      have a_r0 := (b1.cell (p := ⟨b2, o2, none⟩) hb2).trans r0
      have a_t0 := (b1.cell (p := ⟨b, o + j0 * 4, none⟩) l0).trans t0
      have a_u0 := (b1.cell (p := ⟨b, o + j0 * 4 + 1, none⟩) l0).trans u0
      cases hc : constB x (i : Int)
      case true =>
        obtain rfl : R = 1 := (HR.out true true _ _ _ _ _ _ hnd hc rfl rfl rfl rfl rfl rfl).trans (rfl)
        go_wp2_with fail
        go_ret
        exact ⟨rfl, b1⟩
      have NT := Lib.hid (NOT.out W1 b1)
      go_wp2_with fail
      refine NT.out.mono ?_
      rintro e W2 ⟨rfl, d2⟩
      have b2' := b1.trans (d2.mono b1.size)
      clear a_y0 a_y1 a_y3 a_hc2 a_r0 a_t0 a_u0
      have a_y0 := (b2'.cell (p := ⟨b, o + i * 4, none⟩) l0).trans y0
      have a_y1 := (b2'.cell (p := ⟨b, o + i * 4 + 1, none⟩) l0).trans y1
      have a_y3 := (b2'.cell (p := ⟨b, o + i * 4 + 3, none⟩) l0).trans y3
      have a_hc2 := (b2'.cell (p := ⟨gp, 2, none⟩) lc).trans hc2
      have a_r0 := (b2'.cell (p := ⟨b2, o2, none⟩) hb2).trans r0
      have a_t0 := (b2'.cell (p := ⟨b, o + j0 * 4, none⟩) l0).trans t0
      have a_u0 := (b2'.cell (p := ⟨b, o + j0 * 4 + 1, none⟩) l0).trans u0
      cases hz : zeroB x (i : Int)
      case true =>
        obtain rfl : R = 2 := (HR.out true false true _ _ _ _ _ hnd hc hz rfl rfl rfl rfl rfl).trans (rfl)
        go_wp2_with fail
        go_ret
        exact ⟨rfl, b2'⟩
      have SA := Lib.hid (SAM.out W2 b2')
      generalize hS : sameI x (i : Int) = S at SA
      go_wp2_with fail
      refine SA.out.mono ?_
      rintro e W3 ⟨rfl, d3⟩
      have b3 := b2'.trans (d3.mono b2'.size)
      clear a_y0 a_y1 a_y3 a_hc2 a_r0 a_t0 a_u0
      have a_y0 := (b3.cell (p := ⟨b, o + i * 4, none⟩) l0).trans y0
      have a_y1 := (b3.cell (p := ⟨b, o + i * 4 + 1, none⟩) l0).trans y1
      have a_y3 := (b3.cell (p := ⟨b, o + i * 4 + 3, none⟩) l0).trans y3
      have a_hc2 := (b3.cell (p := ⟨gp, 2, none⟩) lc).trans hc2
      have a_r0 := (b3.cell (p := ⟨b2, o2, none⟩) hb2).trans r0
      have a_t0 := (b3.cell (p := ⟨b, o + j0 * 4, none⟩) l0).trans t0
      have a_u0 := (b3.cell (p := ⟨b, o + j0 * 4 + 1, none⟩) l0).trans u0
      by_cases hsn : 0 ≤ S
      case pos =>
        obtain rfl : R = 3 := (HR.out true false false S _ _ _ _ hnd hc hz hS rfl rfl rfl rfl).trans (by simp [ruleK, hsn])
        go_wp2_with fail
        go_ret
        exact ⟨rfl, b3⟩
      go_wp2_with fail
      go_quiet (fail)
      have b4 := below_drewN b3 nq
      clear a_y0 a_y1 a_y3 a_hc2 a_r0 a_t0 a_u0
      have TW := Lib.hid (TWI.out (W3.drewN nq) (b4))
      generalize hT : twinI x (i : Int) = T at TW
      go_wp2_with fail
      refine TW.out.mono ?_
      rintro e W9 ⟨rfl, hd9⟩
      have b9 := (b4).trans ((hd9.below _).mono (b4).size)
      by_cases ht0 : 0 ≤ T
      case pos =>
        obtain rfl : R = 7 := (HR.out true false false S false false false T hnd hc hz hS hff (H5.out false e0) hj6 hT).trans (by simp [ruleK, hsn, ht0])
        clear hT
        go_wp2_with fail
        go_ret
        exact ⟨rfl, b9⟩
      case neg =>
        obtain rfl : R = 0 := (HR.out true false false S false false false T hnd hc hz hS hff (H5.out false e0) hj6 hT).trans (by simp [ruleK, hsn, ht0])
        clear hT
        go_wp2_with fail
        go_ret
        exact ⟨rfl, b9⟩
  have hj5 : joinOk x (i : Int) 5 = false := by rw [HJ.out 5 _ _ rfl rfl, show (K == 5) = false by rw [beq_eq_false_iff_ne]; exact k5]; rfl
  have q5 : (K == 5) = false := by rw [beq_eq_false_iff_ne]; exact k5
  clear k5 HNS HMEM
  by_cases k6 : K = 6
  case pos =>
    have hN2 : N = 1 := by rw [k6] at har; have : kAr ((6 : Int) - 1).toNat = 1 := rfl; omega
    obtain ⟨b2, o2, rfl, hb2, r0, -, -⟩ := SC.out (by omega)
    obtain ⟨j0, rfl, hj0, t0, u0, -, -⟩ := J0.out (by omega)
    have hN0 : 0 < N := by omega
    have hq1 : ((N : Int) == 1) = true := by rw [beq_iff_eq]; omega
    have hA1 := HA1.out
    have hA2 := HA2.out hN0
    have hw : IntKind.i64.wrap (A + f0.a) = A + f0.a := IntWalk.i64_in _ (by omega)
    have H6 := Lib.hid (fun c0 c1 e0 e1 => (HJ.out 6 c0 c1 e0 e1).trans (by rw [k6, HJA.out]; cases c0 <;> cases c1 <;> rfl : ((K == 6 && c0) && !c1 && ((6 : Int) == 5 || decide (joinA x (i : Int) 6 ≤ 16))) = ((c0 && !c1) && decide (A + f0.a ≤ 16))))
    have q6 : (K == 6) = true := by rw [beq_iff_eq]; exact k6
    clear hk har SC J0 HJ HJA HA1 HA2 hN2 k6
    cases e1 : ((j0 : Int) == (i : Int))
    case true =>
      have qn : ((j0 : Int) != (i : Int)) = false := by rw [bne, e1]; rfl
      go_enter Tryz.func48, Tryz.ntmps48
      go_wp2_with fail
      refine HASN.out.mono ?_
      rintro e W0 ⟨rfl, rfl⟩
      cases hnd : L.contains (i : Int)
      case false =>
        obtain rfl : R = 0 := (HR.out false _ _ _ _ _ _ _ hnd rfl rfl rfl rfl rfl rfl rfl).trans (rfl)
        go_wp2_with fail
        go_ret
        exact ⟨rfl, Below.refl _ _⟩
      go_wp2_with fail
      refine CON.out.mono ?_
      rintro e W1 ⟨rfl, b1⟩
      have a_y0 := (b1.cell (p := ⟨b, o + i * 4, none⟩) l0).trans y0
      have a_y1 := (b1.cell (p := ⟨b, o + i * 4 + 1, none⟩) l0).trans y1
      have a_y3 := (b1.cell (p := ⟨b, o + i * 4 + 3, none⟩) l0).trans y3
      have a_hc2 := (b1.cell (p := ⟨gp, 2, none⟩) lc).trans hc2
      have a_r0 := (b1.cell (p := ⟨b2, o2, none⟩) hb2).trans r0
      have a_t0 := (b1.cell (p := ⟨b, o + j0 * 4, none⟩) l0).trans t0
      have a_u0 := (b1.cell (p := ⟨b, o + j0 * 4 + 1, none⟩) l0).trans u0
      cases hc : constB x (i : Int)
      case true =>
        obtain rfl : R = 1 := (HR.out true true _ _ _ _ _ _ hnd hc rfl rfl rfl rfl rfl rfl).trans (rfl)
        go_wp2_with fail
        go_ret
        exact ⟨rfl, b1⟩
      have NT := Lib.hid (NOT.out W1 b1)
      go_wp2_with fail
      refine NT.out.mono ?_
      rintro e W2 ⟨rfl, d2⟩
      have b2' := b1.trans (d2.mono b1.size)
      clear a_y0 a_y1 a_y3 a_hc2 a_r0 a_t0 a_u0
      have a_y0 := (b2'.cell (p := ⟨b, o + i * 4, none⟩) l0).trans y0
      have a_y1 := (b2'.cell (p := ⟨b, o + i * 4 + 1, none⟩) l0).trans y1
      have a_y3 := (b2'.cell (p := ⟨b, o + i * 4 + 3, none⟩) l0).trans y3
      have a_hc2 := (b2'.cell (p := ⟨gp, 2, none⟩) lc).trans hc2
      have a_r0 := (b2'.cell (p := ⟨b2, o2, none⟩) hb2).trans r0
      have a_t0 := (b2'.cell (p := ⟨b, o + j0 * 4, none⟩) l0).trans t0
      have a_u0 := (b2'.cell (p := ⟨b, o + j0 * 4 + 1, none⟩) l0).trans u0
      cases hz : zeroB x (i : Int)
      case true =>
        obtain rfl : R = 2 := (HR.out true false true _ _ _ _ _ hnd hc hz rfl rfl rfl rfl rfl).trans (rfl)
        go_wp2_with fail
        go_ret
        exact ⟨rfl, b2'⟩
      have SA := Lib.hid (SAM.out W2 b2')
      generalize hS : sameI x (i : Int) = S at SA
      go_wp2_with fail
      refine SA.out.mono ?_
      rintro e W3 ⟨rfl, d3⟩
      have b3 := b2'.trans (d3.mono b2'.size)
      clear a_y0 a_y1 a_y3 a_hc2 a_r0 a_t0 a_u0
      have a_y0 := (b3.cell (p := ⟨b, o + i * 4, none⟩) l0).trans y0
      have a_y1 := (b3.cell (p := ⟨b, o + i * 4 + 1, none⟩) l0).trans y1
      have a_y3 := (b3.cell (p := ⟨b, o + i * 4 + 3, none⟩) l0).trans y3
      have a_hc2 := (b3.cell (p := ⟨gp, 2, none⟩) lc).trans hc2
      have a_r0 := (b3.cell (p := ⟨b2, o2, none⟩) hb2).trans r0
      have a_t0 := (b3.cell (p := ⟨b, o + j0 * 4, none⟩) l0).trans t0
      have a_u0 := (b3.cell (p := ⟨b, o + j0 * 4 + 1, none⟩) l0).trans u0
      by_cases hsn : 0 ≤ S
      case pos =>
        obtain rfl : R = 3 := (HR.out true false false S _ _ _ _ hnd hc hz hS rfl rfl rfl rfl).trans (by simp [ruleK, hsn])
        go_wp2_with fail
        go_ret
        exact ⟨rfl, b3⟩
      go_wp2_with fail
      go_quiet (fail)
      have b4 := below_drewN b3 nq
      clear a_y0 a_y1 a_y3 a_hc2 a_r0 a_t0 a_u0
      have TW := Lib.hid (TWI.out (W3.drewN nq) (b4))
      generalize hT : twinI x (i : Int) = T at TW
      go_wp2_with fail
      refine TW.out.mono ?_
      rintro e W9 ⟨rfl, hd9⟩
      have b9 := (b4).trans ((hd9.below _).mono (b4).size)
      by_cases ht0 : 0 ≤ T
      case pos =>
        obtain rfl : R = 7 := (HR.out true false false S false false false T hnd hc hz hS hff hj5 ((H6.out _ true rfl e1).trans (by simp)) hT).trans (by simp [ruleK, hsn, ht0])
        clear hT
        go_wp2_with fail
        go_ret
        exact ⟨rfl, b9⟩
      case neg =>
        obtain rfl : R = 0 := (HR.out true false false S false false false T hnd hc hz hS hff hj5 ((H6.out _ true rfl e1).trans (by simp)) hT).trans (by simp [ruleK, hsn, ht0])
        clear hT
        go_wp2_with fail
        go_ret
        exact ⟨rfl, b9⟩
    case false =>
      have qn : ((j0 : Int) != (i : Int)) = true := by rw [bne, e1]; rfl
      cases e0 : (f0.kind == 6)
      case false =>
        go_enter Tryz.func48, Tryz.ntmps48
        go_wp2_with fail
        refine HASN.out.mono ?_
        rintro e W0 ⟨rfl, rfl⟩
        cases hnd : L.contains (i : Int)
        case false =>
          obtain rfl : R = 0 := (HR.out false _ _ _ _ _ _ _ hnd rfl rfl rfl rfl rfl rfl rfl).trans (rfl)
          go_wp2_with fail
          go_ret
          exact ⟨rfl, Below.refl _ _⟩
        go_wp2_with fail
        refine CON.out.mono ?_
        rintro e W1 ⟨rfl, b1⟩
        have a_y0 := (b1.cell (p := ⟨b, o + i * 4, none⟩) l0).trans y0
        have a_y1 := (b1.cell (p := ⟨b, o + i * 4 + 1, none⟩) l0).trans y1
        have a_y3 := (b1.cell (p := ⟨b, o + i * 4 + 3, none⟩) l0).trans y3
        have a_hc2 := (b1.cell (p := ⟨gp, 2, none⟩) lc).trans hc2
        have a_r0 := (b1.cell (p := ⟨b2, o2, none⟩) hb2).trans r0
        have a_t0 := (b1.cell (p := ⟨b, o + j0 * 4, none⟩) l0).trans t0
        have a_u0 := (b1.cell (p := ⟨b, o + j0 * 4 + 1, none⟩) l0).trans u0
        cases hc : constB x (i : Int)
        case true =>
          obtain rfl : R = 1 := (HR.out true true _ _ _ _ _ _ hnd hc rfl rfl rfl rfl rfl rfl).trans (rfl)
          go_wp2_with fail
          go_ret
          exact ⟨rfl, b1⟩
        have NT := Lib.hid (NOT.out W1 b1)
        go_wp2_with fail
        refine NT.out.mono ?_
        rintro e W2 ⟨rfl, d2⟩
        have b2' := b1.trans (d2.mono b1.size)
        clear a_y0 a_y1 a_y3 a_hc2 a_r0 a_t0 a_u0
        have a_y0 := (b2'.cell (p := ⟨b, o + i * 4, none⟩) l0).trans y0
        have a_y1 := (b2'.cell (p := ⟨b, o + i * 4 + 1, none⟩) l0).trans y1
        have a_y3 := (b2'.cell (p := ⟨b, o + i * 4 + 3, none⟩) l0).trans y3
        have a_hc2 := (b2'.cell (p := ⟨gp, 2, none⟩) lc).trans hc2
        have a_r0 := (b2'.cell (p := ⟨b2, o2, none⟩) hb2).trans r0
        have a_t0 := (b2'.cell (p := ⟨b, o + j0 * 4, none⟩) l0).trans t0
        have a_u0 := (b2'.cell (p := ⟨b, o + j0 * 4 + 1, none⟩) l0).trans u0
        cases hz : zeroB x (i : Int)
        case true =>
          obtain rfl : R = 2 := (HR.out true false true _ _ _ _ _ hnd hc hz rfl rfl rfl rfl rfl).trans (rfl)
          go_wp2_with fail
          go_ret
          exact ⟨rfl, b2'⟩
        have SA := Lib.hid (SAM.out W2 b2')
        generalize hS : sameI x (i : Int) = S at SA
        go_wp2_with fail
        refine SA.out.mono ?_
        rintro e W3 ⟨rfl, d3⟩
        have b3 := b2'.trans (d3.mono b2'.size)
        clear a_y0 a_y1 a_y3 a_hc2 a_r0 a_t0 a_u0
        have a_y0 := (b3.cell (p := ⟨b, o + i * 4, none⟩) l0).trans y0
        have a_y1 := (b3.cell (p := ⟨b, o + i * 4 + 1, none⟩) l0).trans y1
        have a_y3 := (b3.cell (p := ⟨b, o + i * 4 + 3, none⟩) l0).trans y3
        have a_hc2 := (b3.cell (p := ⟨gp, 2, none⟩) lc).trans hc2
        have a_r0 := (b3.cell (p := ⟨b2, o2, none⟩) hb2).trans r0
        have a_t0 := (b3.cell (p := ⟨b, o + j0 * 4, none⟩) l0).trans t0
        have a_u0 := (b3.cell (p := ⟨b, o + j0 * 4 + 1, none⟩) l0).trans u0
        by_cases hsn : 0 ≤ S
        case pos =>
          obtain rfl : R = 3 := (HR.out true false false S _ _ _ _ hnd hc hz hS rfl rfl rfl rfl).trans (by simp [ruleK, hsn])
          go_wp2_with fail
          go_ret
          exact ⟨rfl, b3⟩
        go_wp2_with fail
        go_quiet (fail)
        have b4 := below_drewN b3 nq
        clear a_y0 a_y1 a_y3 a_hc2 a_r0 a_t0 a_u0
        have TW := Lib.hid (TWI.out (W3.drewN nq) (b4))
        generalize hT : twinI x (i : Int) = T at TW
        go_wp2_with fail
        refine TW.out.mono ?_
        rintro e W9 ⟨rfl, hd9⟩
        have b9 := (b4).trans ((hd9.below _).mono (b4).size)
        by_cases ht0 : 0 ≤ T
        case pos =>
          obtain rfl : R = 7 := (HR.out true false false S false false false T hnd hc hz hS hff hj5 ((H6.out false false e0 e1).trans rfl) hT).trans (by simp [ruleK, hsn, ht0])
          clear hT
          go_wp2_with fail
          go_ret
          exact ⟨rfl, b9⟩
        case neg =>
          obtain rfl : R = 0 := (HR.out true false false S false false false T hnd hc hz hS hff hj5 ((H6.out false false e0 e1).trans rfl) hT).trans (by simp [ruleK, hsn, ht0])
          clear hT
          go_wp2_with fail
          go_ret
          exact ⟨rfl, b9⟩
      case true =>
        cases e2 : decide (A + f0.a ≤ 16)
        case false =>
          go_enter Tryz.func48, Tryz.ntmps48
          go_wp2_with fail
          refine HASN.out.mono ?_
          rintro e W0 ⟨rfl, rfl⟩
          cases hnd : L.contains (i : Int)
          case false =>
            obtain rfl : R = 0 := (HR.out false _ _ _ _ _ _ _ hnd rfl rfl rfl rfl rfl rfl rfl).trans (rfl)
            go_wp2_with fail
            go_ret
            exact ⟨rfl, Below.refl _ _⟩
          go_wp2_with fail
          refine CON.out.mono ?_
          rintro e W1 ⟨rfl, b1⟩
          have a_y0 := (b1.cell (p := ⟨b, o + i * 4, none⟩) l0).trans y0
          have a_y1 := (b1.cell (p := ⟨b, o + i * 4 + 1, none⟩) l0).trans y1
          have a_y3 := (b1.cell (p := ⟨b, o + i * 4 + 3, none⟩) l0).trans y3
          have a_hc2 := (b1.cell (p := ⟨gp, 2, none⟩) lc).trans hc2
          have a_r0 := (b1.cell (p := ⟨b2, o2, none⟩) hb2).trans r0
          have a_t0 := (b1.cell (p := ⟨b, o + j0 * 4, none⟩) l0).trans t0
          have a_u0 := (b1.cell (p := ⟨b, o + j0 * 4 + 1, none⟩) l0).trans u0
          cases hc : constB x (i : Int)
          case true =>
            obtain rfl : R = 1 := (HR.out true true _ _ _ _ _ _ hnd hc rfl rfl rfl rfl rfl rfl).trans (rfl)
            go_wp2_with fail
            go_ret
            exact ⟨rfl, b1⟩
          have NT := Lib.hid (NOT.out W1 b1)
          go_wp2_with fail
          refine NT.out.mono ?_
          rintro e W2 ⟨rfl, d2⟩
          have b2' := b1.trans (d2.mono b1.size)
          clear a_y0 a_y1 a_y3 a_hc2 a_r0 a_t0 a_u0
          have a_y0 := (b2'.cell (p := ⟨b, o + i * 4, none⟩) l0).trans y0
          have a_y1 := (b2'.cell (p := ⟨b, o + i * 4 + 1, none⟩) l0).trans y1
          have a_y3 := (b2'.cell (p := ⟨b, o + i * 4 + 3, none⟩) l0).trans y3
          have a_hc2 := (b2'.cell (p := ⟨gp, 2, none⟩) lc).trans hc2
          have a_r0 := (b2'.cell (p := ⟨b2, o2, none⟩) hb2).trans r0
          have a_t0 := (b2'.cell (p := ⟨b, o + j0 * 4, none⟩) l0).trans t0
          have a_u0 := (b2'.cell (p := ⟨b, o + j0 * 4 + 1, none⟩) l0).trans u0
          cases hz : zeroB x (i : Int)
          case true =>
            obtain rfl : R = 2 := (HR.out true false true _ _ _ _ _ hnd hc hz rfl rfl rfl rfl rfl).trans (rfl)
            go_wp2_with fail
            go_ret
            exact ⟨rfl, b2'⟩
          have SA := Lib.hid (SAM.out W2 b2')
          generalize hS : sameI x (i : Int) = S at SA
          go_wp2_with fail
          refine SA.out.mono ?_
          rintro e W3 ⟨rfl, d3⟩
          have b3 := b2'.trans (d3.mono b2'.size)
          clear a_y0 a_y1 a_y3 a_hc2 a_r0 a_t0 a_u0
          have a_y0 := (b3.cell (p := ⟨b, o + i * 4, none⟩) l0).trans y0
          have a_y1 := (b3.cell (p := ⟨b, o + i * 4 + 1, none⟩) l0).trans y1
          have a_y3 := (b3.cell (p := ⟨b, o + i * 4 + 3, none⟩) l0).trans y3
          have a_hc2 := (b3.cell (p := ⟨gp, 2, none⟩) lc).trans hc2
          have a_r0 := (b3.cell (p := ⟨b2, o2, none⟩) hb2).trans r0
          have a_t0 := (b3.cell (p := ⟨b, o + j0 * 4, none⟩) l0).trans t0
          have a_u0 := (b3.cell (p := ⟨b, o + j0 * 4 + 1, none⟩) l0).trans u0
          by_cases hsn : 0 ≤ S
          case pos =>
            obtain rfl : R = 3 := (HR.out true false false S _ _ _ _ hnd hc hz hS rfl rfl rfl rfl).trans (by simp [ruleK, hsn])
            go_wp2_with fail
            go_ret
            exact ⟨rfl, b3⟩
          go_wp2_with fail
          go_quiet (fail)
          have b4 := below_drewN b3 nq
          clear a_y0 a_y1 a_y3 a_hc2 a_r0 a_t0 a_u0
          have TW := Lib.hid (TWI.out (W3.drewN nq) (b4))
          generalize hT : twinI x (i : Int) = T at TW
          go_wp2_with fail
          refine TW.out.mono ?_
          rintro e W9 ⟨rfl, hd9⟩
          have b9 := (b4).trans ((hd9.below _).mono (b4).size)
          by_cases ht0 : 0 ≤ T
          case pos =>
            obtain rfl : R = 7 := (HR.out true false false S false false false T hnd hc hz hS hff hj5 ((H6.out true false e0 e1).trans (by rw [e2]; rfl)) hT).trans (by simp [ruleK, hsn, ht0])
            clear hT
            go_wp2_with fail
            go_ret
            exact ⟨rfl, b9⟩
          case neg =>
            obtain rfl : R = 0 := (HR.out true false false S false false false T hnd hc hz hS hff hj5 ((H6.out true false e0 e1).trans (by rw [e2]; rfl)) hT).trans (by simp [ruleK, hsn, ht0])
            clear hT
            go_wp2_with fail
            go_ret
            exact ⟨rfl, b9⟩
        case true =>
          go_enter Tryz.func48, Tryz.ntmps48
          go_wp2_with fail
          refine HASN.out.mono ?_
          rintro e W0 ⟨rfl, rfl⟩
          cases hnd : L.contains (i : Int)
          case false =>
            obtain rfl : R = 0 := (HR.out false _ _ _ _ _ _ _ hnd rfl rfl rfl rfl rfl rfl rfl).trans (rfl)
            go_wp2_with fail
            go_ret
            exact ⟨rfl, Below.refl _ _⟩
          go_wp2_with fail
          refine CON.out.mono ?_
          rintro e W1 ⟨rfl, b1⟩
          have a_y0 := (b1.cell (p := ⟨b, o + i * 4, none⟩) l0).trans y0
          have a_y1 := (b1.cell (p := ⟨b, o + i * 4 + 1, none⟩) l0).trans y1
          have a_y3 := (b1.cell (p := ⟨b, o + i * 4 + 3, none⟩) l0).trans y3
          have a_hc2 := (b1.cell (p := ⟨gp, 2, none⟩) lc).trans hc2
          have a_r0 := (b1.cell (p := ⟨b2, o2, none⟩) hb2).trans r0
          have a_t0 := (b1.cell (p := ⟨b, o + j0 * 4, none⟩) l0).trans t0
          have a_u0 := (b1.cell (p := ⟨b, o + j0 * 4 + 1, none⟩) l0).trans u0
          cases hc : constB x (i : Int)
          case true =>
            obtain rfl : R = 1 := (HR.out true true _ _ _ _ _ _ hnd hc rfl rfl rfl rfl rfl rfl).trans (rfl)
            go_wp2_with fail
            go_ret
            exact ⟨rfl, b1⟩
          have NT := Lib.hid (NOT.out W1 b1)
          go_wp2_with fail
          refine NT.out.mono ?_
          rintro e W2 ⟨rfl, d2⟩
          have b2' := b1.trans (d2.mono b1.size)
          clear a_y0 a_y1 a_y3 a_hc2 a_r0 a_t0 a_u0
          have a_y0 := (b2'.cell (p := ⟨b, o + i * 4, none⟩) l0).trans y0
          have a_y1 := (b2'.cell (p := ⟨b, o + i * 4 + 1, none⟩) l0).trans y1
          have a_y3 := (b2'.cell (p := ⟨b, o + i * 4 + 3, none⟩) l0).trans y3
          have a_hc2 := (b2'.cell (p := ⟨gp, 2, none⟩) lc).trans hc2
          have a_r0 := (b2'.cell (p := ⟨b2, o2, none⟩) hb2).trans r0
          have a_t0 := (b2'.cell (p := ⟨b, o + j0 * 4, none⟩) l0).trans t0
          have a_u0 := (b2'.cell (p := ⟨b, o + j0 * 4 + 1, none⟩) l0).trans u0
          cases hz : zeroB x (i : Int)
          case true =>
            obtain rfl : R = 2 := (HR.out true false true _ _ _ _ _ hnd hc hz rfl rfl rfl rfl rfl).trans (rfl)
            go_wp2_with fail
            go_ret
            exact ⟨rfl, b2'⟩
          have SA := Lib.hid (SAM.out W2 b2')
          generalize hS : sameI x (i : Int) = S at SA
          go_wp2_with fail
          refine SA.out.mono ?_
          rintro e W3 ⟨rfl, d3⟩
          have b3 := b2'.trans (d3.mono b2'.size)
          clear a_y0 a_y1 a_y3 a_hc2 a_r0 a_t0 a_u0
          have a_y0 := (b3.cell (p := ⟨b, o + i * 4, none⟩) l0).trans y0
          have a_y1 := (b3.cell (p := ⟨b, o + i * 4 + 1, none⟩) l0).trans y1
          have a_y3 := (b3.cell (p := ⟨b, o + i * 4 + 3, none⟩) l0).trans y3
          have a_hc2 := (b3.cell (p := ⟨gp, 2, none⟩) lc).trans hc2
          have a_r0 := (b3.cell (p := ⟨b2, o2, none⟩) hb2).trans r0
          have a_t0 := (b3.cell (p := ⟨b, o + j0 * 4, none⟩) l0).trans t0
          have a_u0 := (b3.cell (p := ⟨b, o + j0 * 4 + 1, none⟩) l0).trans u0
          by_cases hsn : 0 ≤ S
          case pos =>
            obtain rfl : R = 3 := (HR.out true false false S _ _ _ _ hnd hc hz hS rfl rfl rfl rfl).trans (by simp [ruleK, hsn])
            go_wp2_with fail
            go_ret
            exact ⟨rfl, b3⟩
          obtain rfl : R = 6 := (HR.out true false false S false false true _ hnd hc hz hS hff hj5 ((H6.out true false e0 e1).trans (by rw [e2]; rfl)) rfl).trans (by simp [ruleK, hsn])
          go_wp2_with fail
          go_quiet (fail)
          go_wp2_with fail
          go_ret
          exact ⟨rfl, below_drewN b3 _⟩
  have hj6 : joinOk x (i : Int) 6 = false := by rw [HJ.out 6 _ _ rfl rfl, show (K == 6) = false by rw [beq_eq_false_iff_ne]; exact k6]; rfl
  have q6 : (K == 6) = false := by rw [beq_eq_false_iff_ne]; exact k6
  clear k6 HJ HJA HA1 HA2 J0 hk har
  by_cases hN1 : N = 1
  case pos =>
    obtain ⟨b2, o2, rfl, hb2, r0, -, -⟩ := SC.out (by omega)
    have hN0 : 0 < N := by omega
    have hq1 : ((N : Int) == 1) = true := by rw [beq_iff_eq]; omega
    clear SC hN1
    go_enter Tryz.func48, Tryz.ntmps48
    go_wp2_with fail
    refine HASN.out.mono ?_
    rintro e W0 ⟨rfl, rfl⟩
    cases hnd : L.contains (i : Int)
    case false =>
      obtain rfl : R = 0 := (HR.out false _ _ _ _ _ _ _ hnd rfl rfl rfl rfl rfl rfl rfl).trans (rfl)
      go_wp2_with fail
      go_ret
      exact ⟨rfl, Below.refl _ _⟩
    go_wp2_with fail
    refine CON.out.mono ?_
    rintro e W1 ⟨rfl, b1⟩
    have a_y0 := (b1.cell (p := ⟨b, o + i * 4, none⟩) l0).trans y0
    have a_y1 := (b1.cell (p := ⟨b, o + i * 4 + 1, none⟩) l0).trans y1
    have a_y3 := (b1.cell (p := ⟨b, o + i * 4 + 3, none⟩) l0).trans y3
    have a_hc2 := (b1.cell (p := ⟨gp, 2, none⟩) lc).trans hc2
    have a_r0 := (b1.cell (p := ⟨b2, o2, none⟩) hb2).trans r0
    cases hc : constB x (i : Int)
    case true =>
      obtain rfl : R = 1 := (HR.out true true _ _ _ _ _ _ hnd hc rfl rfl rfl rfl rfl rfl).trans (rfl)
      go_wp2_with fail
      go_ret
      exact ⟨rfl, b1⟩
    have NT := Lib.hid (NOT.out W1 b1)
    go_wp2_with fail
    refine NT.out.mono ?_
    rintro e W2 ⟨rfl, d2⟩
    have b2' := b1.trans (d2.mono b1.size)
    clear a_y0 a_y1 a_y3 a_hc2 a_r0
    have a_y0 := (b2'.cell (p := ⟨b, o + i * 4, none⟩) l0).trans y0
    have a_y1 := (b2'.cell (p := ⟨b, o + i * 4 + 1, none⟩) l0).trans y1
    have a_y3 := (b2'.cell (p := ⟨b, o + i * 4 + 3, none⟩) l0).trans y3
    have a_hc2 := (b2'.cell (p := ⟨gp, 2, none⟩) lc).trans hc2
    have a_r0 := (b2'.cell (p := ⟨b2, o2, none⟩) hb2).trans r0
    cases hz : zeroB x (i : Int)
    case true =>
      obtain rfl : R = 2 := (HR.out true false true _ _ _ _ _ hnd hc hz rfl rfl rfl rfl rfl).trans (rfl)
      go_wp2_with fail
      go_ret
      exact ⟨rfl, b2'⟩
    have SA := Lib.hid (SAM.out W2 b2')
    generalize hS : sameI x (i : Int) = S at SA
    go_wp2_with fail
    refine SA.out.mono ?_
    rintro e W3 ⟨rfl, d3⟩
    have b3 := b2'.trans (d3.mono b2'.size)
    clear a_y0 a_y1 a_y3 a_hc2 a_r0
    have a_y0 := (b3.cell (p := ⟨b, o + i * 4, none⟩) l0).trans y0
    have a_y1 := (b3.cell (p := ⟨b, o + i * 4 + 1, none⟩) l0).trans y1
    have a_y3 := (b3.cell (p := ⟨b, o + i * 4 + 3, none⟩) l0).trans y3
    have a_hc2 := (b3.cell (p := ⟨gp, 2, none⟩) lc).trans hc2
    have a_r0 := (b3.cell (p := ⟨b2, o2, none⟩) hb2).trans r0
    by_cases hsn : 0 ≤ S
    case pos =>
      obtain rfl : R = 3 := (HR.out true false false S _ _ _ _ hnd hc hz hS rfl rfl rfl rfl).trans (by simp [ruleK, hsn])
      go_wp2_with fail
      go_ret
      exact ⟨rfl, b3⟩
    go_wp2_with fail
    go_quiet (fail)
    have b4 := below_drewN b3 nq
    clear a_y0 a_y1 a_y3 a_hc2 a_r0
    have TW := Lib.hid (TWI.out (W3.drewN nq) (b4))
    generalize hT : twinI x (i : Int) = T at TW
    go_wp2_with fail
    refine TW.out.mono ?_
    rintro e W9 ⟨rfl, hd9⟩
    have b9 := (b4).trans ((hd9.below _).mono (b4).size)
    by_cases ht0 : 0 ≤ T
    case pos =>
      obtain rfl : R = 7 := (HR.out true false false S false false false T hnd hc hz hS hff hj5 hj6 hT).trans (by simp [ruleK, hsn, ht0])
      clear hT
      go_wp2_with fail
      go_ret
      exact ⟨rfl, b9⟩
    case neg =>
      obtain rfl : R = 0 := (HR.out true false false S false false false T hnd hc hz hS hff hj5 hj6 hT).trans (by simp [ruleK, hsn, ht0])
      clear hT
      go_wp2_with fail
      go_ret
      exact ⟨rfl, b9⟩
  have hq1 : ((N : Int) == 1) = false := by rw [beq_eq_false_iff_ne]; omega
  clear SC hN1
  go_enter Tryz.func48, Tryz.ntmps48
  go_wp2_with fail
  refine HASN.out.mono ?_
  rintro e W0 ⟨rfl, rfl⟩
  cases hnd : L.contains (i : Int)
  case false =>
    obtain rfl : R = 0 := (HR.out false _ _ _ _ _ _ _ hnd rfl rfl rfl rfl rfl rfl rfl).trans (rfl)
    go_wp2_with fail
    go_ret
    exact ⟨rfl, Below.refl _ _⟩
  go_wp2_with fail
  refine CON.out.mono ?_
  rintro e W1 ⟨rfl, b1⟩
  have a_y0 := (b1.cell (p := ⟨b, o + i * 4, none⟩) l0).trans y0
  have a_y1 := (b1.cell (p := ⟨b, o + i * 4 + 1, none⟩) l0).trans y1
  have a_y3 := (b1.cell (p := ⟨b, o + i * 4 + 3, none⟩) l0).trans y3
  have a_hc2 := (b1.cell (p := ⟨gp, 2, none⟩) lc).trans hc2
  cases hc : constB x (i : Int)
  case true =>
    obtain rfl : R = 1 := (HR.out true true _ _ _ _ _ _ hnd hc rfl rfl rfl rfl rfl rfl).trans (rfl)
    go_wp2_with fail
    go_ret
    exact ⟨rfl, b1⟩
  have NT := Lib.hid (NOT.out W1 b1)
  go_wp2_with fail
  refine NT.out.mono ?_
  rintro e W2 ⟨rfl, d2⟩
  have b2' := b1.trans (d2.mono b1.size)
  clear a_y0 a_y1 a_y3 a_hc2
  have a_y0 := (b2'.cell (p := ⟨b, o + i * 4, none⟩) l0).trans y0
  have a_y1 := (b2'.cell (p := ⟨b, o + i * 4 + 1, none⟩) l0).trans y1
  have a_y3 := (b2'.cell (p := ⟨b, o + i * 4 + 3, none⟩) l0).trans y3
  have a_hc2 := (b2'.cell (p := ⟨gp, 2, none⟩) lc).trans hc2
  cases hz : zeroB x (i : Int)
  case true =>
    obtain rfl : R = 2 := (HR.out true false true _ _ _ _ _ hnd hc hz rfl rfl rfl rfl rfl).trans (rfl)
    go_wp2_with fail
    go_ret
    exact ⟨rfl, b2'⟩
  have SA := Lib.hid (SAM.out W2 b2')
  generalize hS : sameI x (i : Int) = S at SA
  go_wp2_with fail
  refine SA.out.mono ?_
  rintro e W3 ⟨rfl, d3⟩
  have b3 := b2'.trans (d3.mono b2'.size)
  clear a_y0 a_y1 a_y3 a_hc2
  have a_y0 := (b3.cell (p := ⟨b, o + i * 4, none⟩) l0).trans y0
  have a_y1 := (b3.cell (p := ⟨b, o + i * 4 + 1, none⟩) l0).trans y1
  have a_y3 := (b3.cell (p := ⟨b, o + i * 4 + 3, none⟩) l0).trans y3
  have a_hc2 := (b3.cell (p := ⟨gp, 2, none⟩) lc).trans hc2
  by_cases hsn : 0 ≤ S
  case pos =>
    obtain rfl : R = 3 := (HR.out true false false S _ _ _ _ hnd hc hz hS rfl rfl rfl rfl).trans (by simp [ruleK, hsn])
    go_wp2_with fail
    go_ret
    exact ⟨rfl, b3⟩
  go_wp2_with fail
  go_quiet (fail)
  have b4 := below_drewN b3 nq
  clear a_y0 a_y1 a_y3 a_hc2
  have TW := Lib.hid (TWI.out (W3.drewN nq) (b4))
  generalize hT : twinI x (i : Int) = T at TW
  go_wp2_with fail
  refine TW.out.mono ?_
  rintro e W9 ⟨rfl, hd9⟩
  have b9 := (b4).trans ((hd9.below _).mono (b4).size)
  by_cases ht0 : 0 ≤ T
  case pos =>
    obtain rfl : R = 7 := (HR.out true false false S false false false T hnd hc hz hS hff hj5 hj6 hT).trans (by simp [ruleK, hsn, ht0])
    clear hT
    go_wp2_with fail
    go_ret
    exact ⟨rfl, b9⟩
  case neg =>
    obtain rfl : R = 0 := (HR.out true false false S false false false T hnd hc hz hS hff hj5 hj6 hT).trans (by simp [ruleK, hsn, ht0])
    clear hT
    go_wp2_with fail
    go_ret
    exact ⟨rfl, b9⟩
end Go.Proofs.YtcfhcmgmkhfjjaaGreat

namespace Go.Proofs.YtcfhcmgmkhfjjaaGreat
open Go.ChangeShapes Go.WideShapes Go.ChangeAt Go.RowKit Go.Sort
set_option linter.unusedVariables false

def raRule (x : PatchD) (node : Int) : Int := if askCode x node = 0 then ruleP x node else 0
theorem ask_rng {x : PatchD} {node : Int} (h : askCode x node = 0) : okB x = true ∧ ∃ i : Nat, node = (i : Int) ∧ i < x.nodes.length := by
  obtain ⟨h1, h2⟩ := askCode_zero.1 h
  refine ⟨h1, ?_⟩
  have : 0 ≤ node ∧ node < (x.nodes.length : Int) := by
    first
      | exact h2
      | (rw [inB_iff] at h2; omega)
  exact ⟨node.toNat, by omega, by omega⟩
end Go.Proofs.YtcfhcmgmkhfjjaaGreat

namespace Go.Proofs.YtcfhcmgmkhfjjaaGreat
open Go.ChangeShapes Go.WideShapes Go.ChangeAt Go.RowKit Go.Sort
set_option linter.unusedVariables false

def fstI (x : PatchD) : Option Int := (need x).find? fun i => ruleP x i != 0
def nxR (x : PatchD) : Int := match fstI x with | some i => ruleP x i | none => 0
def nxN (x : PatchD) : Int := match fstI x with | some i => i | none => 0
def nxB (x : PatchD) : Bool := match fstI x with | some _ => true | none => false
def nxP (x : PatchD) : PatchD := match fstI x with | some i => afterP x i (ruleP x i) | none => x
theorem ruleP_need {x : PatchD} {i : Int} (h : ruleP x i ≠ 0) : i ∈ need x := by
  cases hc : (need x).contains i
  · exfalso; apply h; unfold ruleP; rw [hc]; rfl
  · simpa using hc
theorem fst_some {x : PatchD} {i : Int} (h : ruleP x i ≠ 0) (hb : ∀ j ∈ need x, j < i → ruleP x j = 0) : fstI x = some i :=
  find_rising (ups_rising _ _) (ruleP_need h) (by simpa using h) fun j hj hji => by rw [hb j hj hji]; rfl
theorem fst_none {x : PatchD} (hb : ∀ j ∈ need x, ruleP x j = 0) : fstI x = none := List.find?_eq_none.2 fun j hj => by rw [hb j hj]; decide
theorem fst_vals {x : PatchD} {i : Int} (h : fstI x = some i) : nxR x = ruleP x i ∧ nxN x = i ∧ nxB x = true ∧ nxP x = afterP x i (ruleP x i) := by
  unfold nxR nxN nxB nxP; rw [h]; exact ⟨rfl, rfl, rfl, rfl⟩
theorem fst_novals {x : PatchD} (h : fstI x = none) : nxR x = 0 ∧ nxN x = 0 ∧ nxB x = false ∧ nxP x = x := by
  unfold nxR nxN nxB nxP; rw [h]; exact ⟨rfl, rfl, rfl, rfl⟩
theorem Box.put2 {w : World} {g : Nat} {l0 l1 a b : Value} {T : TypeId} (h : Box w g [l0, l1] T) : Box ((w.setCell ⟨g, 0, none⟩ a).setCell ⟨g, 1, none⟩ b) g [a, b] T := by
  have := (h.set 0 a).set 1 b
  simpa using this
theorem below_put2 {B : Nat} {w0 w : World} {g : Nat} (a b : Value) (h : Below B w0 w) (hg : B ≤ g) : Below B w0 ((w.setCell ⟨g, 0, none⟩ a).setCell ⟨g, 1, none⟩ b) :=
  (h.setCell (p := ⟨g, 0, none⟩) hg a).setCell (p := ⟨g, 1, none⟩) hg b
set_option maxHeartbeats 8000000 in
set_option maxRecDepth 100000 in
theorem l10First_x {x : PatchD} {gp : Nat} (w : World) (h : PPatch w gp x) (hok : okB x = true) :
    Calls Tryz.prog 29 #[.pointer (some ⟨gp, 0, none⟩)] w fun e w' => e = .returned (.tuple #[.agg #[.int .i64 (nxR x), .int .i64 (nxN x)], .bool (nxB x)]) ∧ Below w.heap.size w w' := by
  have hf := okB_formed hok
  have hn24 := (formed_iff.1 hf).2.2.1
  have hnl : (need x).length ≤ 24 := Nat.le_trans (need_length x) hn24
  obtain ⟨r, hr⟩ : ∃ r, r = nxR x := ⟨_, rfl⟩
  obtain ⟨n, hn⟩ : ∃ n, n = nxN x := ⟨_, rfl⟩
  obtain ⟨t, ht⟩ : ∃ t, t = nxB x := ⟨_, rfl⟩
  rw [← hr, ← hn, ← ht]
  have HS : Hid (∀ i, fstI x = some i → r = ruleP x i ∧ n = i ∧ t = true) := fun i e => by
    obtain ⟨e1, e2, e3, -⟩ := fst_vals e
    exact ⟨hr.trans e1, hn.trans e2, ht.trans e3⟩
  have HN : Hid (fstI x = none → r = 0 ∧ n = 0 ∧ t = false) := fun e => by
    obtain ⟨e1, e2, e3, -⟩ := fst_novals e
    exact ⟨hr.trans e1, hn.trans e2, ht.trans e3⟩
  clear hr hn ht
  obtain ⟨g, hg⟩ : ∃ g, g = w.heap.size := ⟨_, rfl⟩
  obtain ⟨E, hE⟩ : ∃ E, E = w.alloc (.cells #[.int .i64 0, .int .i64 0] 40) := ⟨_, rfl⟩
  have hB0 : Below w.heap.size w E := by rw [hE]; exact (Below.refl _ _).alloc (Nat.le_refl _) _
  have br : Box E g [.int .i64 0, .int .i64 0] 40 := by rw [hE, hg]; exact Box.newAt w [.int .i64 0, .int .i64 0] _ rfl
  have hgw : w.heap.size ≤ g := by omega
  have HE := Lib.hid hE
  have HG := Lib.hid hg
  clear hE hg
  have hp0 := h.below hB0
  have NE := Lib.hid (l07Needed_any E hp0 hf)
  go_enter Tryz.func29, Tryz.ntmps29
  go_upto_region 1 with fail
  rw [← HE.out, ← HG.out]
  go_wp2_with fail
  refine NE.out.mono ?_
  rintro e W1 ⟨u, rfl, hu, hb1⟩
  have hp1 := hp0.below hb1
  have br1 := br.below hb1
  have hw1 := hB0.trans (hb1.mono hB0.size)
  obtain ⟨pn, cn, rfl, hrn⟩ := hu.rd
  clear hu NE hp0 br h
  go_wp2_with fail
  go_loopw [5] (fun ci wr => ∃ k : Nat, k ≤ (need x).length ∧ ci = .int .i64 k ∧ (∀ j ∈ (need x).take k, ruleP x j = 0) ∧ Below W1.heap.size W1 wr) (fun ci _ => (need x).length - (intOf ci).toNat)
  case atStart => exact ⟨0, Nat.zero_le _, rfl, by simp, Below.refl _ _⟩
  case round =>
    obtain ⟨k, hk, rfl, hno, hbel⟩ := hrel
    obtain ⟨wi, rfl⟩ : ∃ wi : World, wi = wr := ⟨_, rfl⟩
    have HNO := Lib.hid hno
    clear hno
    have hwi := hw1.trans (hbel.mono hw1.size)
    by_cases hlt : k < (need x).length
    · obtain ⟨b3, o3, rfl, hb3, hc⟩ := (hrn.below hbel).pos hlt
      have hck := hc k hlt
      obtain ⟨r0, r1⟩ := need_rng _ (List.getElem_mem hlt)
      have hrn1 := hrn.below hbel
      obtain ⟨m, hm⟩ := Int.eq_ofNat_of_zero_le r0
      have FS := Lib.hid (fun hp => find_at_some (p := fun i => ruleP x i != 0) hlt hp (fun j hj => by rw [HNO.out j hj]; rfl))
      have NXT : Hid (ruleP x (need x)[k] = 0 → ∀ j ∈ (need x).take (k + 1), ruleP x j = 0) := fun hp j hj => by
        rw [List.take_succ_eq_append_getElem hlt, List.mem_append, List.mem_singleton] at hj
        rcases hj with hj | rfl
        · exact HNO.out j hj
        · exact hp
      rw [hm] at hck FS NXT r1
      have hmn : m < x.nodes.length := by omega
      obtain ⟨b, o, c, hsp⟩ := SPat.of (hp1.below hbel) hmn
      have RU := Lib.hid (l10Rule_x (cn := cn) wi hsp hok hmn hrn1)
      clear hc hm r0 r1 hsp hrn1
      by_cases hz : ruleP x (m : Int) = 0
      · have q : (ruleP x (m : Int) != 0) = false := by rw [bne_eq_false_iff_eq]; exact hz
        have N1 := Lib.hid (NXT.out hz)
        clear hz NXT FS
        go_wp2_with fail
        refine RU.out.mono ?_
        rintro e W2 ⟨rfl, hb2⟩
        have hbel2 := hbel.trans (hb2.mono hbel.size)
        go_wp2_with fail
        go_roundw
        case rel => exact ⟨k + 1, by omega, by go_num, N1.out, hbel2⟩
        case measure => simp [intOf] <;> omega
      · have q : (ruleP x (m : Int) != 0) = true := by rw [bne_iff_ne]; exact hz
        obtain ⟨e1, e2, e3⟩ := HS.out (m : Int) (FS.out q)
        have E1 := Lib.hid e1
        have E2 := Lib.hid e2
        subst e3
        clear hz NXT FS e1 e2 HS HN
        go_wp2_with fail
        refine RU.out.mono ?_
        rintro e W2 ⟨rfl, hb2⟩
        have hw2 := hwi.trans (hb2.mono hwi.size)
        have br2 := (br1.below hbel).below hb2
        have hck2 := (hb2.cell (p := ⟨b3, o3 + k, none⟩) hb3).trans hck
        have j0 := br2.frozen 0
        have j1 := br2.frozen 1
        have i0 := br2.cell 0 rfl
        have i1 := br2.cell 1 rfl
        have b9 := br2.put2 (a := .int .i64 (ruleP x (m : Int))) (b := .int .i64 (m : Int))
        have l9 := below_put2 (.int .i64 (ruleP x (m : Int))) (.int .i64 (m : Int)) hw2 hgw
        have q0 := b9.cell 0 rfl
        have q1 := b9.cell 1 rfl
        have L9 := Lib.hid l9
        clear b9 l9
        go_wp2_with fail
        refine bodyPost_ret (v := .tuple #[.agg #[.int .i64 (ruleP x (m : Int)), .int .i64 (m : Int)], .bool true]) (by simp [results, Tryz.results29, go_sem, *]) rfl ?_
        exact ⟨by rw [E1.out, E2.out], L9.out⟩
    · obtain rfl : k = (need x).length := by omega
      have hno := HNO.out
      rw [List.take_length] at hno
      obtain ⟨e1, e2, e3⟩ := HN.out (fst_none hno)
      subst e1 e2 e3
      have br2 := br1.below hbel
      have j0 := br2.frozen 0
      have j1 := br2.frozen 1
      have i0 := br2.cell 0 rfl
      have i1 := br2.cell 1 rfl
      have b9 := br2.put2 (a := .int .i64 0) (b := .int .i64 0)
      have l9 := below_put2 (.int .i64 0) (.int .i64 0) hwi hgw
      have q0 := b9.cell 0 rfl
      have q1 := b9.cell 1 rfl
      have L9 := Lib.hid l9
      clear b9 l9 hno
      go_wp2_with fail
      refine bodyPost_ret (v := .tuple #[.agg #[.int .i64 0, .int .i64 0], .bool false]) (by simp [results, Tryz.results29, go_sem, *]) rfl ?_
      exact ⟨rfl, L9.out⟩
end Go.Proofs.YtcfhcmgmkhfjjaaGreat

namespace Go.Proofs.YtcfhcmgmkhfjjaaGreat
open Go.ChangeShapes Go.WideShapes Go.ChangeAt Go.RowKit Go.Sort
set_option linter.unusedVariables false

/-! ### ranks -/
/-- each node has a higher rank than those it waits for -/
def Ranked (nodes : List NodeD) (ρ : Int → Nat) : Prop := ∀ j : Int, 0 ≤ j → j < (nodes.length : Int) → ∀ s ∈ waits (nodeAt nodes j), ρ s < ρ j
def OutRank (nodes : List NodeD) (out : List Int) : Prop := ∃ ρ : Int → Nat, (∀ o ∈ out, ρ o < out.length) ∧ ∀ o ∈ out, ∀ s ∈ waits (nodeAt nodes o), s ∈ out ∧ ρ s < ρ o
theorem outRank_snoc {nodes : List NodeD} {out : List Int} {i : Nat} (h : OutRank nodes out) (hr : rdy nodes out i = true) : OutRank nodes (out ++ [(i : Int)]) := by
  obtain ⟨ρ, h1, h2⟩ := h
  have hf := rdy_free hr
  have hni : (i : Int) ∉ out := by simpa using hf
  unfold rdy at hr
  simp only [Bool.and_eq_true, List.all_eq_true] at hr
  have hw : ∀ s ∈ waits (nodeAt nodes (i : Int)), s ∈ out := fun s hs => by simpa using hr.2 s hs
  refine ⟨fun o => if o = (i : Int) then out.length else ρ o, fun o ho => ?_, fun o ho s hs => ?_⟩
  · rw [List.length_append, List.length_singleton]
    dsimp only
    rcases List.mem_append.1 ho with ho | ho
    · split
      · omega
      · have := h1 o ho; omega
    · rw [if_pos (List.mem_singleton.1 ho)]; omega
  · dsimp only
    rcases List.mem_append.1 ho with ho | ho
    · obtain ⟨a, b⟩ := h2 o ho s hs
      have e1 : s ≠ (i : Int) := fun e => hni (e ▸ a)
      have e2 : o ≠ (i : Int) := fun e => hni (e ▸ ho)
      refine ⟨List.mem_append.2 (.inl a), ?_⟩
      rw [if_neg e1, if_neg e2]; exact b
    · obtain rfl := List.mem_singleton.1 ho
      have a := hw s hs
      have e1 : s ≠ (i : Int) := fun e => hni (e ▸ a)
      refine ⟨List.mem_append.2 (.inl a), ?_⟩
      rw [if_neg e1, if_pos rfl]; exact h1 s a
theorem ord_rank {nodes : List NodeD} : ∀ (f : Nat) (out : List Int), OutRank nodes out → OutRank nodes (ord nodes f out)
  | 0, _, h => h
  | f + 1, out, h => by
    rcases e : nxt nodes out 0 nodes.length with _ | i
    · rw [ord_none e]; exact h
    · rw [ord_some e]; exact ord_rank f _ (outRank_snoc h (nxt_some e).2.2)
theorem ok_all {x : PatchD} (h : okB x = true) {i : Nat} (hi : i < x.nodes.length) : (i : Int) ∈ orderL x.nodes := by
  have hl := (okB_len h).2.1
  have hf := ord_free (nodes := x.nodes) x.nodes.length []
  rw [free_nil] at hf
  have hO : orderL x.nodes = ord x.nodes x.nodes.length [] := rfl
  rw [← hO] at hf
  have h0 : free (orderL x.nodes) x.nodes.length = 0 := by simp at hf; omega
  have hc : (orderL x.nodes).contains (i : Int) = true := by
    cases hc : (orderL x.nodes).contains (i : Int)
    · have := free_pos hc hi; omega
    · rfl
  simpa using hc
theorem okB_ranked {x : PatchD} (h : okB x = true) : ∃ ρ, Ranked x.nodes ρ ∧ ∀ j, ρ j ≤ 24 := by
  obtain ⟨ρ, h1, h2⟩ := ord_rank (nodes := x.nodes) x.nodes.length [] ⟨fun _ => 0, by simp, by simp⟩
  have hl := okB_len h
  refine ⟨fun j => if (orderL x.nodes).contains j then ρ j else 0, fun j h0 hj s hs => ?_, fun j => ?_⟩
  · obtain ⟨k, rfl⟩ := Int.eq_ofNat_of_zero_le h0
    have hm := ok_all h (i := k) (by omega)
    obtain ⟨a, b⟩ := h2 _ hm s hs
    have a' : s ∈ orderL x.nodes := a
    dsimp only
    rw [if_pos (by simpa using a'), if_pos (by simpa using hm)]; exact b
  · dsimp only
    split
    · rename_i hc
      have e1 := h1 j (by simpa [orderL] using hc)
      have e2 : (ord x.nodes x.nodes.length []).length = x.nodes.length := hl.2.1
      have e3 := hl.2.2
      omega
    · omega
theorem nxt_none {nodes : List NodeD} {out : List Int} : ∀ {m k : Nat}, nxt nodes out k m = none → ∀ i, k ≤ i → i < k + m → rdy nodes out i = false
  | 0, _, _, i, h1, h2 => by omega
  | m + 1, k, h, i, h1, h2 => by
    unfold nxt at h
    split at h
    · cases h
    · rename_i hk
      rcases Nat.lt_or_ge k i with hlt | hge
      · exact nxt_none h i hlt (by omega)
      · obtain rfl : k = i := by omega
        simpa using hk
theorem ord_stop {nodes : List NodeD} : ∀ (f : Nat) (out : List Int), nxt nodes (ord nodes f out) 0 nodes.length = none ∨ (ord nodes f out).length = out.length + f
  | 0, out => .inr rfl
  | f + 1, out => by
    rcases e : nxt nodes out 0 nodes.length with _ | i
    · rw [ord_none e]; exact .inl e
    · rw [ord_some e]
      rcases ord_stop f (out ++ [(i : Int)]) with h | h
      · exact .inl h
      · right
        rw [h, List.length_append, List.length_singleton]; omega
theorem free_zero {out : List Int} : ∀ n : Nat, (∀ i : Nat, i < n → out.contains (i : Int) = true) → free out n = 0
  | 0, _ => rfl
  | n + 1, h => by
    rw [free, free_zero n fun i hi => h i (by omega), h n (by omega)]; rfl
theorem ranked_okB {x : PatchD} {ρ : Int → Nat} (hf : formedB x = true) (hr : Ranked x.nodes ρ) : okB x = true := by
  have key : (orderL x.nodes).length = x.nodes.length := by
    have hfr := ord_free (nodes := x.nodes) x.nodes.length []
    rw [free_nil] at hfr
    rcases ord_stop (nodes := x.nodes) x.nodes.length [] with h | h
    · have hall : ∀ m i : Nat, i < x.nodes.length → ρ (i : Int) = m → (ord x.nodes x.nodes.length []).contains (i : Int) = true := by
        intro m
        induction m using Nat.strongRecOn with
        | _ m ih =>
          intro i hi hm
          cases hc : (ord x.nodes x.nodes.length []).contains (i : Int)
          · exfalso
            have hrd := nxt_none h i (Nat.zero_le _) (by omega)
            unfold rdy at hrd
            rw [hc] at hrd
            have hw : (waits (x.nodes.getD i ⟨0, 0, 0, []⟩)).all (fun f => (ord x.nodes x.nodes.length []).contains f) = true := List.all_eq_true.2 fun s hs => by
              have hs0 : s ∈ waits (nodeAt x.nodes (i : Int)) := hs
              have rng := nodeAt_src hf (by omega) (by omega) s (waits_src hs0)
              obtain ⟨k, rfl⟩ := Int.eq_ofNat_of_zero_le rng.1
              have hlt := hr (i : Int) (by omega) (by omega) _ hs0
              rw [hm] at hlt
              exact ih _ hlt k (by omega) rfl
            rw [hw] at hrd
            cases hrd
          · rfl
      have h0 := free_zero (out := ord x.nodes x.nodes.length []) x.nodes.length fun i hi => hall _ i hi rfl
      have hO : orderL x.nodes = ord x.nodes x.nodes.length [] := rfl
      rw [hO]
      simp only [List.length_nil] at hfr
      omega
    · simpa [orderL] using h
  unfold okB
  rw [hf, Bool.true_and]; exact decide_eq_true key

/-! ### what is needed -/
theorem need_shut {x : PatchD} (hf : formedB x = true) : ∀ j ∈ need x, ∀ s ∈ (nodeAt x.nodes j).src, s ∈ need x := fun j hj s hs => by
  have M := marksL_end (formed_src hf) (formed_outs hf)
  obtain ⟨h0, h1, h2⟩ := mem_ups.1 hj
  have hr := nodeAt_src hf h0 h1 s hs
  exact mem_ups.2 ⟨hr.1, hr.2, M.shut j h0 h1 h2 s hs⟩
theorem need_outs {x : PatchD} (hf : formedB x = true) : ∀ j ∈ x.outputs, j ∈ need x := fun j hj => by
  have M := marksL_end (formed_src hf) (formed_outs hf)
  have hr := formed_outs hf j hj
  exact mem_ups.2 ⟨hr.1, hr.2, M.todo j hj⟩
theorem need_least {x : PatchD} (hf : formedB x = true) (S : Int → Prop) (hs : ∀ j, 0 ≤ j → j < (x.nodes.length : Int) → S j → ∀ s ∈ (nodeAt x.nodes j).src, S s) (ho : ∀ j ∈ x.outputs, S j) : ∀ j ∈ need x, S j := fun j hj => by
  have M := marksL_end (formed_src hf) (formed_outs hf)
  obtain ⟨h0, h1, h2⟩ := mem_ups.1 hj
  exact M.least S hs (fun j _ _ h => absurd h (mk_none _ _)) ho j h0 h1 h2

/-! ### the measure -/
def cost (ρ : Int → Nat) (n : NodeD) : Nat := if n.kind = 2 then 1 else if n.kind = 5 then 2 + ρ (n.src.getD 0 0) else if n.kind = 9 then 30 else if n.kind = 6 then 2 + (16 - n.a).toNat else 2
theorem cost_pos (ρ : Int → Nat) (n : NodeD) : 1 ≤ cost ρ n := by unfold cost; (repeat' split) <;> omega
theorem cost_two {ρ : Int → Nat} {n : NodeD} (h : n.kind ≠ 2) : 2 ≤ cost ρ n := by unfold cost; rw [if_neg h]; (repeat' split) <;> omega
def sumN (f : Nat → Nat) : Nat → Nat
  | 0 => 0
  | n + 1 => sumN f n + f n
theorem sumN_le {f g : Nat → Nat} : ∀ n : Nat, (∀ j, j < n → f j ≤ g j) → sumN f n ≤ sumN g n
  | 0, _ => Nat.le_refl _
  | n + 1, h => Nat.add_le_add (sumN_le n fun j hj => h j (by omega)) (h n (by omega))
theorem sumN_lt {f g : Nat → Nat} {i : Nat} : ∀ n : Nat, i < n → (∀ j, j < n → f j ≤ g j) → f i < g i → sumN f n < sumN g n
  | 0, h, _, _ => by omega
  | n + 1, hi, h, hlt => by
    rw [sumN, sumN]
    rcases Nat.lt_or_ge i n with h1 | h1
    · have e1 := sumN_lt n h1 (fun j hj => h j (by omega)) hlt
      have e2 := h n (by omega)
      omega
    · obtain rfl : i = n := by omega
      have e1 := sumN_le i fun j hj => h j (by omega)
      omega
def mass (ρ : Int → Nat) (x : PatchD) : Nat := sumN (fun j => if (need x).contains (j : Int) then cost ρ (nodeAt x.nodes (j : Int)) else 0) x.nodes.length
/-- so many rewrites are left at most -/
def Fuel (x : PatchD) (N : Nat) : Prop := ∃ ρ, Ranked x.nodes ρ ∧ (∀ j, ρ j ≤ 24) ∧ mass ρ x ≤ N
theorem fuel_some {x : PatchD} (h : okB x = true) : ∃ N, Fuel x N := by
  obtain ⟨ρ, h1, h2⟩ := okB_ranked h
  exact ⟨_, ρ, h1, h2, Nat.le_refl _⟩
theorem mass_lt {ρ ρ' : Int → Nat} {x y : PatchD} {i : Int} (hl : y.nodes.length = x.nodes.length) (hi : i ∈ need x) (hsub : ∀ j ∈ need y, j ∈ need x) (hle : ∀ j ∈ need y, cost ρ' (nodeAt y.nodes j) ≤ cost ρ (nodeAt x.nodes j)) (hlt : i ∈ need y → cost ρ' (nodeAt y.nodes i) < cost ρ (nodeAt x.nodes i)) :
    mass ρ' y < mass ρ x := by
  obtain ⟨h0, h1⟩ := need_rng i hi
  obtain ⟨k, rfl⟩ := Int.eq_ofNat_of_zero_le h0
  unfold mass
  rw [hl]
  refine sumN_lt (i := k) _ (by omega) (fun j hj => ?_) ?_
  · by_cases hy : (j : Int) ∈ need y
    · rw [if_pos (by simpa using hy), if_pos (by simpa using hsub _ hy)]; exact hle _ hy
    · rw [if_neg (by simpa using hy)]; omega
  · rw [if_pos (c := (need x).contains _ = true) (by simpa using hi)]
    by_cases hy : (k : Int) ∈ need y
    · rw [if_pos (by simpa using hy)]; exact hlt hy
    · rw [if_neg (by simpa using hy)]; exact cost_pos _ _

/-! ### a node is put in the place of another -/
theorem nodeAt_set {nodes : List NodeD} {n : NodeD} {i j : Int} (h0 : 0 ≤ i) (h1 : i < (nodes.length : Int)) (hj : 0 ≤ j) : nodeAt (nodes.set i.toNat n) j = if j = i then n else nodeAt nodes j := by
  unfold nodeAt
  rw [List.getD_eq_getElem?_getD, List.getD_eq_getElem?_getD, List.getElem?_set]
  by_cases e : j = i
  · subst e
    rw [if_pos rfl, if_pos rfl, if_pos (by omega)]; rfl
  · rw [if_neg e, if_neg (by omega)]
theorem set_step {x : PatchD} {i : Int} {n : NodeD} {ρ : Int → Nat} (hf : formedB x = true) (hi : i ∈ need x) (hnd : ndB x.inputs x.tables.length x.nodes.length n = true) (hsub : ∀ s ∈ n.src, s ∈ need x) (hR : Ranked x.nodes ρ) (hw : ∀ s ∈ waits n, ρ s < ρ i)
    (hc : cost ρ n < cost ρ (nodeAt x.nodes i)) : formedB (setN x i n) = true ∧ Ranked (setN x i n).nodes ρ ∧ mass ρ (setN x i n) < mass ρ x := by
  obtain ⟨h0, h1⟩ := need_rng i hi
  have hl : (setN x i n).nodes.length = x.nodes.length := List.length_set
  have hF : formedB (setN x i n) = true := by
    obtain ⟨f1, f2, f3, f4, f5, f6⟩ := formed_iff.1 hf
    refine formed_iff.2 ⟨f1, f2, by rw [hl]; exact f3, f4, fun y hy => ?_, fun f h => ?_⟩
    · rw [hl]
      rcases List.mem_or_eq_of_mem_set hy with h | h
      · exact f5 y h
      · rw [h]; exact hnd
    · rw [hl]; exact f6 f h
  have hat : ∀ j, 0 ≤ j → nodeAt (setN x i n).nodes j = if j = i then n else nodeAt x.nodes j := fun j hj => nodeAt_set h0 h1 hj
  have hsubN : ∀ j ∈ need (setN x i n), j ∈ need x := need_least hF (· ∈ need x) (fun j hj0 hj1 hj s hs => by
    rw [hat j hj0] at hs
    split at hs
    · exact hsub s hs
    · exact need_shut hf j hj s hs) (need_outs hf)
  refine ⟨hF, fun j hj0 hj1 s hs => ?_, mass_lt hl hi hsubN (fun j hj => ?_) fun _ => ?_⟩
  · rw [hat j hj0] at hs
    split at hs
    · rename_i e; rw [e]; exact hw s hs
    · exact hR j hj0 (by rw [hl] at hj1; exact hj1) s hs
  · rw [hat j (need_rng j hj).1]
    split
    · rename_i e; rw [e]; omega
    · exact Nat.le_refl _
  · rw [hat i h0, if_pos rfl]; exact hc

/-! ### a node is used in the place of another -/
def swapN (i b : Int) (n : NodeD) : NodeD := { n with src := swapL i b n.src }
theorem nodeAt_repl (x : PatchD) (i b j : Int) : nodeAt (replP x i b).nodes j = swapN i b (nodeAt x.nodes j) := by
  unfold nodeAt replP
  rw [List.getD_eq_getElem?_getD, List.getD_eq_getElem?_getD, List.getElem?_map]
  rcases x.nodes[j.toNat]? with _ | y <;> rfl
theorem mem_swapL {i b s : Int} {l : List Int} (h : s ∈ swapL i b l) : (s = b ∧ i ∈ l) ∨ (s ∈ l ∧ s ≠ i) := by
  obtain ⟨t, ht, rfl⟩ := List.mem_map.1 h
  split
  · rename_i e; exact .inl ⟨rfl, e ▸ ht⟩
  · rename_i e; exact .inr ⟨ht, e⟩
theorem waits_swap (i b : Int) (n : NodeD) : waits (swapN i b n) = swapL i b (waits n) := by
  unfold waits swapN
  dsimp only
  split <;> rfl
theorem repl_step {x : PatchD} {i b : Int} {ρ ρ' : Int → Nat} (hf : formedB x = true) (hi : i ∈ need x) (hb : b ∈ need x) (hne : b ≠ i) (hR : Ranked x.nodes ρ) (hle : ∀ j, ρ' j ≤ ρ j) (hbi : ρ' b ≤ ρ i) (hbb : ∀ s ∈ waits (nodeAt x.nodes b), ρ s < ρ' b) (heq : ∀ j, j ≠ b → ρ' j = ρ j) :
    formedB (replP x i b) = true ∧ Ranked (replP x i b).nodes ρ' ∧ mass ρ' (replP x i b) < mass ρ x := by
  have hl : (replP x i b).nodes.length = x.nodes.length := List.length_map _
  have rb := need_rng b hb
  have hF : formedB (replP x i b) = true := by
    obtain ⟨f1, f2, f3, f4, f5, f6⟩ := formed_iff.1 hf
    refine formed_iff.2 ⟨f1, f2, by rw [hl]; exact f3, by show (swapL i b x.outputs).length ≤ 4; unfold swapL; rw [List.length_map]; exact f4, fun y hy => ?_, fun f h => ?_⟩
    · rw [hl]
      obtain ⟨z, hz, rfl⟩ := List.mem_map.1 hy
      have e := f5 z hz
      unfold ndB nodeB at e ⊢
      simp only [Bool.and_eq_true, List.all_eq_true, inB_iff] at e ⊢
      obtain ⟨⟨⟨⟨⟨⟨e1, e2⟩, e3⟩, e4⟩, e5⟩, e6⟩, e7⟩ := e
      refine ⟨⟨⟨⟨⟨⟨e1, e2⟩, fun s hs => ?_⟩, ?_⟩, e5⟩, e6⟩, fun s hs => ?_⟩
      · rcases mem_swapL hs with ⟨rfl, -⟩ | ⟨h, -⟩
        · omega
        · exact e3 s h
      · unfold swapL; rw [List.length_map]; exact e4
      · rcases mem_swapL hs with ⟨rfl, -⟩ | ⟨h, -⟩
        · omega
        · exact e7 s h
    · rw [hl]
      rcases mem_swapL h with ⟨rfl, -⟩ | ⟨h, -⟩
      · exact rb
      · exact f6 f h
  have hsubN : ∀ j ∈ need (replP x i b), j ∈ need x ∧ j ≠ i := need_least hF (fun j => j ∈ need x ∧ j ≠ i) (fun j hj0 hj1 hj s hs => by
    rw [nodeAt_repl] at hs
    rcases mem_swapL hs with ⟨rfl, -⟩ | ⟨h, h'⟩
    · exact ⟨hb, hne⟩
    · exact ⟨need_shut hf j hj.1 s h, h'⟩) (fun j hj => by
    rcases mem_swapL hj with ⟨rfl, -⟩ | ⟨h, h'⟩
    · exact ⟨hb, hne⟩
    · exact ⟨need_outs hf j h, h'⟩)
  refine ⟨hF, fun j hj0 hj1 s hs => ?_, mass_lt hl hi (fun j hj => (hsubN j hj).1) (fun j hj => ?_) fun h => absurd rfl (hsubN i h).2⟩
  · rw [hl] at hj1
    rw [nodeAt_repl, waits_swap] at hs
    by_cases e : j = b
    · subst e
      rcases mem_swapL hs with ⟨rfl, h⟩ | ⟨h, h'⟩
      · have := hbb i h; omega
      · have := hbb s h; have := hle s; omega
    · rw [heq j e]
      rcases mem_swapL hs with ⟨rfl, h⟩ | ⟨h, h'⟩
      · have := hR j hj0 hj1 i h; omega
      · have := hR j hj0 hj1 s h; have := hle s; omega
  · rw [nodeAt_repl]
    unfold cost swapN
    dsimp only
    repeat' split
    all_goals first | omega | skip
    rw [show (swapL i b (nodeAt x.nodes j).src).getD 0 0 = if (nodeAt x.nodes j).src = [] then 0 else if (nodeAt x.nodes j).src.getD 0 0 = i then b else (nodeAt x.nodes j).src.getD 0 0 from by
      unfold swapL
      rcases (nodeAt x.nodes j).src with _ | ⟨y, ys⟩ <;> simp]
    split
    · rename_i e
      rw [e]
      exact Nat.add_le_add_left (hle 0) _
    · split
      · rename_i e; rw [e]; omega
      · have := hle ((nodeAt x.nodes j).src.getD 0 0); omega

/-! ### each rule -/
theorem outP_smpA {x : NodeD} {tb : List (List Int)} {xs ss : List Int} (ok : OutOk x tb xs ss) (hk : x.kind ∈ foldL) (ht : ∀ t ∈ tb, ∀ y ∈ t, -2147483648 ≤ y ∧ y ≤ 2147483647) : -2147483648 ≤ outP x tb xs ss ∧ outP x tb xs ss ≤ 2147483647 := by
  have hx : ∀ k, -2147483648 ≤ xs.getD k 0 ∧ xs.getD k 0 ≤ 2147483647 := fun k => by
    rcases Nat.lt_or_ge k xs.length with h | h
    · exact ok.smps _ (getD_mem h)
    · rw [List.getD_eq_getElem?_getD, List.getElem?_eq_none h]; decide
  have h0 := hx 0
  have h1 := hx 1
  have h2 := hx 2
  unfold outP
  simp only [foldL, List.mem_cons, List.not_mem_nil, or_false] at hk
  rcases hk with e | e | e | e | e | e | e | e <;> rw [e]
  · exact smp_bounds _
  · exact smp_bounds _
  · exact smp_bounds _
  · exact smp_bounds _
  · show -2147483648 ≤ xs.getD 0 0 / 2 ^ x.a.toNat ∧ xs.getD 0 0 / 2 ^ x.a.toNat ≤ 2147483647
    have hd : (1 : Int) ≤ 2 ^ x.a.toNat := Int.pow_pos (by decide)
    generalize (2 : Int) ^ x.a.toNat = d at hd
    generalize xs.getD 0 0 = y at h0
    constructor
    · refine (Int.le_ediv_iff_mul_le (by omega)).2 ?_
      omega
    · refine Int.ediv_le_of_le_mul (by omega) ?_
      omega
  · have hc := ok.clip e
    show -2147483648 ≤ max (-x.a) (min (xs.getD 0 0) x.a) ∧ max (-x.a) (min (xs.getD 0 0) x.a) ≤ 2147483647
    omega
  · show -2147483648 ≤ lookP (tb.getD x.a.toNat []) (xs.getD 0 0) ∧ lookP (tb.getD x.a.toNat []) (xs.getD 0 0) ≤ 2147483647
    have hc := ok.tab e
    have hm : tb.getD x.a.toNat [] ∈ tb := by
      rw [List.getD_eq_getElem?_getD, List.getElem?_eq_getElem (by omega)]
      exact List.getElem_mem _
    unfold lookP
    generalize (((tb.getD x.a.toNat []).length : Int) * (xs.getD 0 0 % 4294967296) / 4294967296).toNat = k
    rcases Nat.lt_or_ge k (tb.getD x.a.toNat []).length with h | h
    · exact ht _ hm _ (getD_mem h)
    · rw [List.getD_eq_getElem?_getD, List.getElem?_eq_none h]; decide
  · show -2147483648 ≤ (if 0 ≤ xs.getD 0 0 then xs.getD 1 0 else xs.getD 2 0) ∧ (if 0 ≤ xs.getD 0 0 then xs.getD 1 0 else xs.getD 2 0) ≤ 2147483647
    split <;> assumption
theorem tables_smp {x : PatchD} (hf : formedB x = true) : ∀ t ∈ x.tables, ∀ y ∈ t, -2147483648 ≤ y ∧ y ≤ 2147483647 := fun t ht y hy => by
  have h := (formed_iff.1 hf).2.1
  unfold tablesB at h
  simp only [Bool.and_eq_true, List.all_eq_true] at h
  have h1 := h.1 t ht
  unfold tblB at h1
  simp only [Bool.and_eq_true, List.all_eq_true] at h1
  have h2 := h1.2 y hy
  unfold isSmp at h2
  rwa [inB_iff] at h2
theorem nd_const {m t n v : Int} (h : -2147483648 ≤ v ∧ v ≤ 2147483647) : ndB m t n ⟨2, v, 0, []⟩ = true := by
  unfold ndB
  rw [nodeB_split]
  have e : aB 2 v t = true := by
    unfold aB
    rw [if_neg (by decide), if_pos (by decide)]
    exact inB_true h
  simp only [e, List.all_nil, Bool.and_true, Bool.true_and]
  rfl
theorem nd_gain {m t n v s : Int} (h : -2147483648 ≤ v ∧ v ≤ 2147483647) (hs : 0 ≤ s ∧ s < n) (hn : n ≤ 24) : ndB m t n ⟨5, v, 0, [s]⟩ = true := by
  unfold ndB
  rw [nodeB_split]
  have e : aB 5 v t = true := by
    unfold aB
    rw [if_neg (by decide), if_pos (by decide)]
    exact inB_true h
  have e1 : inB s 0 23 = true := inB_true (by omega)
  have e2 : inB s 0 (n - 1) = true := inB_true (by omega)
  simp only [e, e1, e2, List.all_cons, List.all_nil, Bool.and_true, Bool.true_and]
  rfl
theorem nd_delay {m t n v s : Int} (h : 1 ≤ v ∧ v ≤ 16) (hs : 0 ≤ s ∧ s < n) (hn : n ≤ 24) : ndB m t n ⟨6, v, 0, [s]⟩ = true := by
  unfold ndB
  rw [nodeB_split]
  have e : aB 6 v t = true := by
    unfold aB
    rw [if_neg (by decide), if_pos (by decide)]
    exact inB_true h
  have e1 : inB s 0 23 = true := inB_true (by omega)
  have e2 : inB s 0 (n - 1) = true := inB_true (by omega)
  simp only [e, e1, e2, List.all_cons, List.all_nil, Bool.and_true, Bool.true_and]
  rfl
/-- a node with one input -/
theorem one_src {x : PatchD} (hf : formedB x = true) {i : Int} (h0 : 0 ≤ i) (h1 : i < (x.nodes.length : Int)) (hk : (nodeAt x.nodes i).kind = 5 ∨ (nodeAt x.nodes i).kind = 6) : (nodeAt x.nodes i).src = [inp x i 0] := by
  have h := (nodeB_ar (nodeAt_ok hf h0 h1)).2
  have hl : (nodeAt x.nodes i).src.length = 1 := by
    rcases hk with e | e
    · rw [e] at h
      have : kAr (5 - 1 : Int).toNat = 1 := rfl
      omega
    · rw [e] at h
      have : kAr (6 - 1 : Int).toNat = 1 := rfl
      omega
  unfold inp
  generalize (nodeAt x.nodes i).src = l at hl
  match l, hl with
  | [y], _ => rfl
theorem inp_mem {x : PatchD} (hf : formedB x = true) {i : Int} (h0 : 0 ≤ i) (h1 : i < (x.nodes.length : Int)) {k : Nat} (hk : (k : Int) < kAr ((nodeAt x.nodes i).kind - 1).toNat) : inp x i k ∈ (nodeAt x.nodes i).src := by
  have h := (nodeB_ar (nodeAt_ok hf h0 h1)).2
  exact getD_mem (by omega)
theorem waits_of {n : NodeD} {s : Int} (hk : n.kind ≠ 6) (h : s ∈ n.src) : s ∈ waits n := by
  unfold waits; rw [if_neg hk]; exact h
theorem same_mem {x : PatchD} (hf : formedB x = true) {i : Int} (h0 : 0 ≤ i) (h1 : i < (x.nodes.length : Int)) (hs : 0 ≤ sameI x i) : (nodeAt x.nodes i).kind ≠ 6 ∧ sameI x i ∈ (nodeAt x.nodes i).src := by
  have m0 := fun h => inp_mem hf h0 h1 (k := 0) h
  have m1 := fun h => inp_mem hf h0 h1 (k := 1) h
  have m2 := fun h => inp_mem hf h0 h1 (k := 2) h
  unfold sameI sameK at hs ⊢
  generalize (nodeAt x.nodes i).kind = k at *
  by_cases k5 : k = 5
  · subst k5
    rw [if_pos rfl] at hs ⊢
    split at hs
    · rename_i h; rw [if_pos h]; exact ⟨by decide, m0 (by decide)⟩
    · omega
  rw [if_neg k5] at hs ⊢
  by_cases k10 : k = 10
  · subst k10
    rw [if_pos rfl] at hs ⊢
    split at hs
    · rename_i h; rw [if_pos h]; exact ⟨by decide, m0 (by decide)⟩
    · omega
  rw [if_neg k10] at hs ⊢
  by_cases k3 : k = 3
  · subst k3
    rw [if_pos rfl] at hs ⊢
    refine ⟨by decide, ?_⟩
    split at hs
    · rename_i h; rw [if_pos h]; exact m1 (by decide)
    · rename_i h
      rw [if_neg h]
      split at hs
      · rename_i h'; rw [if_pos h']; exact m0 (by decide)
      · omega
  rw [if_neg k3] at hs ⊢
  by_cases k4 : k = 4
  · subst k4
    rw [if_pos rfl] at hs ⊢
    split at hs
    · rename_i h; rw [if_pos h]; exact ⟨by decide, m0 (by decide)⟩
    · omega
  rw [if_neg k4] at hs ⊢
  by_cases k16 : k = 16
  · subst k16
    rw [if_pos rfl] at hs ⊢
    split at hs
    · rename_i h; rw [if_pos h]; exact ⟨by decide, m0 (by decide)⟩
    · omega
  rw [if_neg k16] at hs ⊢
  by_cases k15 : k = 15
  · subst k15
    rw [if_pos rfl] at hs ⊢
    refine ⟨by decide, ?_⟩
    split at hs
    · rename_i h; rw [if_pos h]; exact m1 (by decide)
    · rename_i h
      rw [if_neg h]
      split at hs
      · rename_i h'; rw [if_pos h']; exact m2 (by decide)
      · omega
  rw [if_neg k15] at hs
  omega
theorem zero_kind {x : PatchD} {i : Int} (h : zeroB x i = true) : (nodeAt x.nodes i).kind ≠ 2 := by
  intro e
  unfold zeroB zeroK at h
  rw [e] at h
  simp at h
theorem rule_cases {x : PatchD} {i : Int} (h : ruleP x i ≠ 0) : i ∈ need x ∧ ((ruleP x i = 1 ∧ constB x i = true) ∨ (ruleP x i = 2 ∧ zeroB x i = true) ∨ (ruleP x i = 3 ∧ 0 ≤ sameI x i) ∨ (ruleP x i = 4 ∧ factB x i = true) ∨ (ruleP x i = 5 ∧ joinOk x i 5 = true) ∨ (ruleP x i = 6 ∧ joinOk x i 6 = true) ∨ (ruleP x i = 7 ∧ 0 ≤ twinI x i)) := by
  refine ⟨ruleP_need h, ?_⟩
  unfold ruleP at h ⊢
  split at h
  case isFalse => exact absurd rfl h
  case isTrue hc =>
    simp only [hc, if_true]
    cases h1 : constB x i
    case true => simp
    cases h2 : zeroB x i
    case true => simp
    by_cases h3 : 0 ≤ sameI x i
    · simp [h3]
    cases h4 : factB x i
    case true => simp [h3]
    cases h5 : joinOk x i 5
    case true => simp [h3]
    cases h6 : joinOk x i 6
    case true => simp [h3]
    by_cases h7 : 0 ≤ twinI x i
    · simp [h3, h7]
    · rw [h1, h2, h4, h5, h6] at h
      simp [h3, h7] at h
/-- a rewrite keeps the patch valid and eats fuel -/
theorem rewrite_step {x : PatchD} {i : Int} {N : Nat} (h : okB x = true) (hr : ruleP x i ≠ 0) (hN : Fuel x N) : okB (afterP x i (ruleP x i)) = true ∧ ∃ M, M < N ∧ Fuel (afterP x i (ruleP x i)) M := by
  obtain ⟨ρ, hR, h24, hm⟩ := hN
  have hf := okB_formed h
  have hn24 := (formed_iff.1 hf).2.2.1
  obtain ⟨hi, hc⟩ := rule_cases hr
  obtain ⟨h0, h1⟩ := need_rng i hi
  have fin : ∀ (y : PatchD) (ρ' : Int → Nat), (∀ j, ρ' j ≤ 24) → formedB y = true ∧ Ranked y.nodes ρ' ∧ mass ρ' y < mass ρ x → okB y = true ∧ ∃ M, M < N ∧ Fuel y M := fun y ρ' hb hy =>
    ⟨ranked_okB hy.1 hy.2.1, mass ρ' y, by omega, ρ', hy.2.1, hb, Nat.le_refl _⟩
  have hsh := need_shut hf i hi
  have hno := nodeAt_ok hf h0 h1
  rcases hc with ⟨e, hc⟩ | ⟨e, hc⟩ | ⟨e, hc⟩ | ⟨e, hc⟩ | ⟨e, hc⟩ | ⟨e, hc⟩ | ⟨e, hc⟩ <;> rw [e]
  · rw [show afterP x i 1 = setN x i ⟨2, constV x i, 0, []⟩ from rfl]
    have hk : (nodeAt x.nodes i).kind ∈ foldL := by
      unfold constB at hc
      rw [Bool.and_eq_true] at hc
      simpa using hc.1
    refine fin _ ρ h24 (set_step hf hi (nd_const (outP_smpA (const_ok hf h0 h1 hc).1 hk (tables_smp hf))) (by simp) hR (by simp [waits]) ?_)
    refine Nat.lt_of_lt_of_le (by decide : 1 < 2) (cost_two fun e2 => ?_)
    rw [e2] at hk
    exact absurd hk (by decide)
  · rw [show afterP x i 2 = setN x i ⟨2, 0, 0, []⟩ from rfl]
    refine fin _ ρ h24 (set_step hf hi (nd_const (by decide)) (by simp) hR (by simp [waits]) ?_)
    exact Nat.lt_of_lt_of_le (by decide : 1 < 2) (cost_two (zero_kind hc))
  · rw [show afterP x i 3 = replP x i (sameI x i) from rfl]
    obtain ⟨hk, hs⟩ := same_mem hf h0 h1 hc
    have hlt := hR i h0 h1 _ (waits_of hk hs)
    have hb := hsh _ hs
    refine fin _ ρ h24 (repl_step hf hi hb (fun e2 => ?_) hR (fun _ => Nat.le_refl _) (by omega) (fun s hs' => hR _ (need_rng _ hb).1 (need_rng _ hb).2 s hs') fun _ _ => rfl)
    rw [e2] at hlt; omega
  · rw [show afterP x i 4 = setN x i (factN x i) from rfl]
    unfold factB at hc
    rw [Bool.and_eq_true, beq_iff_eq] at hc
    have m0 := inp_mem hf h0 h1 (k := 0) (by rw [hc.1]; decide)
    have m1 := inp_mem hf h0 h1 (k := 1) (by rw [hc.1]; decide)
    have r0 := need_rng _ (hsh _ m0)
    have r1 := need_rng _ (hsh _ m1)
    have hk6 : (nodeAt x.nodes i).kind ≠ 6 := by rw [hc.1]; decide
    have c9 : cost ρ (nodeAt x.nodes i) = 30 := by unfold cost; rw [hc.1]; rfl
    unfold factN
    split
    · refine fin _ ρ h24 (set_step hf hi (nd_gain (nodeB_a (nodeAt_ok hf r0.1 r0.2)) r1 (by omega)) (fun s hs => ?_) hR (fun s hs => ?_) ?_)
      · obtain rfl := List.mem_singleton.1 hs; exact hsh _ m1
      · obtain rfl : s = inp x i 1 := by simpa [waits] using hs
        exact hR i h0 h1 _ (waits_of hk6 m1)
      · rw [c9]
        have := h24 (inp x i 1)
        show 2 + ρ (inp x i 1) < 30
        omega
    · refine fin _ ρ h24 (set_step hf hi (nd_gain (nodeB_a (nodeAt_ok hf r1.1 r1.2)) r0 (by omega)) (fun s hs => ?_) hR (fun s hs => ?_) ?_)
      · obtain rfl := List.mem_singleton.1 hs; exact hsh _ m0
      · obtain rfl : s = inp x i 0 := by simpa [waits] using hs
        exact hR i h0 h1 _ (waits_of hk6 m0)
      · rw [c9]
        have := h24 (inp x i 0)
        show 2 + ρ (inp x i 0) < 30
        omega
  · rw [show afterP x i 5 = setN x i (joinN x i 5) from rfl]
    unfold joinOk joinB at hc
    simp only [Bool.and_eq_true, beq_iff_eq] at hc
    obtain ⟨⟨⟨k1, k2⟩, -⟩, -⟩ := hc
    have s1 := one_src hf h0 h1 (.inl k1)
    have m0 : inp x i 0 ∈ (nodeAt x.nodes i).src := by rw [s1]; simp
    have hb := hsh _ m0
    have r0 := need_rng _ hb
    have s2 := one_src hf r0.1 r0.2 (.inl k2)
    have m2 : inp x (inp x i 0) 0 ∈ (nodeAt x.nodes (inp x i 0)).src := by rw [s2]; simp
    have hb2 := need_shut hf _ hb _ m2
    have l1 := hR i h0 h1 _ (waits_of (by rw [k1]; decide) m0)
    have l2 := hR _ r0.1 r0.2 _ (waits_of (n := nodeAt x.nodes (inp x i 0)) (by show (frm x i 0).kind ≠ 6; rw [k2]; decide) m2)
    have eN : joinN x i 5 = ⟨5, joinA x i 5, 0, [inp x (inp x i 0) 0]⟩ := by unfold joinN; rw [show (frm x i 0).src = [inp x (inp x i 0) 0] from s2]
    rw [eN]
    refine fin _ ρ h24 (set_step hf hi (nd_gain ?_ (need_rng _ hb2) (by omega)) (fun s hs => ?_) hR (fun s hs => ?_) ?_)
    · unfold joinA; rw [if_pos rfl]; exact smp_bounds _
    · obtain rfl := List.mem_singleton.1 hs; exact hb2
    · obtain rfl : s = inp x (inp x i 0) 0 := by simpa [waits] using hs
      omega
    · have : cost ρ (nodeAt x.nodes i) = 2 + ρ (inp x i 0) := by unfold cost; rw [k1]; rfl
      rw [this]
      show 2 + ρ (inp x (inp x i 0) 0) < 2 + ρ (inp x i 0)
      omega
  · rw [show afterP x i 6 = setN x i (joinN x i 6) from rfl]
    unfold joinOk joinB at hc
    simp only [Bool.and_eq_true, beq_iff_eq, Bool.or_eq_true, decide_eq_true_eq] at hc
    obtain ⟨⟨⟨k1, k2⟩, -⟩, hA⟩ := hc
    have hA : joinA x i 6 ≤ 16 := by rcases hA with h | h <;> omega
    have s1 := one_src hf h0 h1 (.inr k1)
    have m0 : inp x i 0 ∈ (nodeAt x.nodes i).src := by rw [s1]; simp
    have hb := hsh _ m0
    have r0 := need_rng _ hb
    have s2 := one_src hf r0.1 r0.2 (.inr k2)
    have m2 : inp x (inp x i 0) 0 ∈ (nodeAt x.nodes (inp x i 0)).src := by rw [s2]; simp
    have hb2 := need_shut hf _ hb _ m2
    have da : ∀ j, 0 ≤ j → j < (x.nodes.length : Int) → (nodeAt x.nodes j).kind = 6 → 1 ≤ (nodeAt x.nodes j).a ∧ (nodeAt x.nodes j).a ≤ 16 := fun j j0 j1 hk => by
      have hq := nodeAt_ok hf j0 j1
      rw [nodeB_split] at hq
      simp only [Bool.and_eq_true] at hq
      have h2 := hq.2.1
      rw [hk] at h2
      have : inB (nodeAt x.nodes j).a 1 16 = true := h2
      rwa [inB_iff] at this
    have a1 := da i h0 h1 k1
    have a2 : 1 ≤ (frm x i 0).a ∧ (frm x i 0).a ≤ 16 := da _ r0.1 r0.2 k2
    have eA : joinA x i 6 = (nodeAt x.nodes i).a + (frm x i 0).a := by unfold joinA; rw [if_neg (by decide)]
    have eN : joinN x i 6 = ⟨6, joinA x i 6, 0, [inp x (inp x i 0) 0]⟩ := by unfold joinN; rw [show (frm x i 0).src = [inp x (inp x i 0) 0] from s2]
    rw [eN]
    refine fin _ ρ h24 (set_step hf hi (nd_delay ?_ (need_rng _ hb2) (by omega)) (fun s hs => ?_) hR (by simp [waits]) ?_)
    · omega
    · obtain rfl := List.mem_singleton.1 hs; exact hb2
    · have : cost ρ (nodeAt x.nodes i) = 2 + (16 - (nodeAt x.nodes i).a).toNat := by unfold cost; rw [k1]; rfl
      rw [this]
      show 2 + (16 - joinA x i 6).toNat < 2 + (16 - (nodeAt x.nodes i).a).toNat
      omega
  · rw [show afterP x i 7 = replP x i (twinI x i) from rfl]
    have hq : twinI x i ∈ need x ∧ twinI x i < i ∧ nodeAt x.nodes (twinI x i) = nodeAt x.nodes i := by
      unfold twinI at hc ⊢
      rcases hq : (need x).find? (fun k => decide (k < i) && decide (nodeAt x.nodes k = nodeAt x.nodes i)) with _ | k
      · rw [hq] at hc
        exact absurd hc (by decide)
      · have e1 := List.find?_some hq
        have e2 := List.mem_of_find?_eq_some hq
        simp only [Bool.and_eq_true, decide_eq_true_eq] at e1
        exact ⟨e2, e1⟩
    generalize twinI x i = b at hq
    obtain ⟨hb, hlt, he⟩ := hq
    have rb := need_rng b hb
    refine fin _ (fun j => if j = b then min (ρ b) (ρ i) else ρ j) (fun j => ?_) (repl_step hf hi hb (by omega) hR (fun j => ?_) ?_ (fun s hs => ?_) fun j hj => if_neg hj)
    · have := h24 j
      have := h24 b
      split <;> omega
    · split
      · rename_i e2; rw [e2]; omega
      · exact Nat.le_refl _
    · rw [if_pos rfl]; omega
    · rw [if_pos rfl]
      have l1 := hR b rb.1 rb.2 s hs
      rw [he] at hs
      have l2 := hR i h0 h1 s hs
      omega
end Go.Proofs.YtcfhcmgmkhfjjaaGreat

namespace Go.Proofs.YtcfhcmgmkhfjjaaGreat
open Go.ChangeShapes Go.WideShapes Go.ChangeAt Go.RowKit Go.Sort
set_option linter.unusedVariables false

end Go.Proofs.YtcfhcmgmkhfjjaaGreat

namespace Go.Proofs.YtcfhcmgmkhfjjaaGreat
open Go.ChangeShapes Go.WideShapes Go.ChangeAt Go.RowKit Go.Sort
set_option linter.unusedVariables false

end Go.Proofs.YtcfhcmgmkhfjjaaGreat

namespace Go.Proofs.YtcfhcmgmkhfjjaaGreat
open Go.ChangeShapes Go.WideShapes Go.ChangeAt Go.RowKit Go.Sort
set_option linter.unusedVariables false

end Go.Proofs.YtcfhcmgmkhfjjaaGreat

namespace Go.Proofs.YtcfhcmgmkhfjjaaGreat
open Go.ChangeShapes Go.WideShapes Go.ChangeAt Go.RowKit Go.Sort
set_option linter.unusedVariables false

end Go.Proofs.YtcfhcmgmkhfjjaaGreat

namespace Go.Proofs.YtcfhcmgmkhfjjaaGreat
open Go.ChangeShapes Go.WideShapes Go.ChangeAt Go.RowKit Go.Sort
set_option linter.unusedVariables false

end Go.Proofs.YtcfhcmgmkhfjjaaGreat

namespace Go.Proofs.YtcfhcmgmkhfjjaaGreat
open Go.ChangeShapes Go.WideShapes Go.ChangeAt Go.RowKit Go.Sort
set_option linter.unusedVariables false

/-- the first rewrite, the patch behind it, and whether there is one -/
def RetX (w : World) (x : PatchD) (e : Ending) (w' : World) : Prop :=
  ∃ v', e = .returned (.tuple #[.agg #[.int .i64 (nxR x), .int .i64 (nxN x)], v', .bool (nxB x)]) ∧ VPatch w' v' (nxP x) ∧ Below w.heap.size w w' ∧ (nxB x = true → ∃ v1 v2 v3 L1 L, v' = .agg #[.int .i64 (nxP x).inputs, v1, v2, v3] ∧ OwnP w.heap.size w' v1 v2 v3 (nxP x).tables (nxP x).nodes (nxP x).outputs L1 L)
theorem RetX.drew {w W : World} {x : PatchD} {e : Ending} (h : RetX w x e W) : RetX w x e W.drew := by
  obtain ⟨v', e1, h1, h2, h3⟩ := h
  refine ⟨v', e1, h1.below (bdrewn W), h2.trans ((bdrewn W).mono h2.size), fun hb => ?_⟩
  obtain ⟨v1, v2, v3, L1, L, e, ho⟩ := h3 hb
  exact ⟨v1, v2, v3, L1, L, e, ho.below (bdrewn W)⟩
/-- the world behind the stores of a rewrite and of a patch, in both orders -/
theorem put_next {w W : World} {g k : Nat} {T : TypeId} {l0 l1 m0 m1 m2 m3 a b c0 c1 c2 c3 : Value} (h1 : Box W g [l0, l1] T) (h2 : Box W k [m0, m1, m2, m3] 28) (hgk : g ≠ k) (hb : Below w.heap.size w W) (hg : w.heap.size ≤ g) (hk : w.heap.size ≤ k) :
    ∃ V, V = ((((((W.setCell ⟨g, 0, none⟩ a).setCell ⟨g, 1, none⟩ b).setCell ⟨k, 0, none⟩ c0).setCell ⟨k, 1, none⟩ c1).setCell ⟨k, 2, none⟩ c2).setCell ⟨k, 3, none⟩ c3) ∧ Box V g [a, b] T ∧ Box V k [c0, c1, c2, c3] 28 ∧ Below w.heap.size w V ∧ ∀ b, b ≠ g → b ≠ k → V.heap[b]? = W.heap[b]? := by
  have e1 := h1.put2 (a := a) (b := b)
  have e2 : Box ((W.setCell ⟨g, 0, none⟩ a).setCell ⟨g, 1, none⟩ b) k [m0, m1, m2, m3] 28 := (h2.other (fun e => hgk e.symm) _).other (fun e => hgk e.symm) _
  have e3 := e2.put4 (a := c0) (b := c1) (c := c2) (d := c3)
  exact ⟨_, rfl, (((e1.other (by exact hgk) _).other (by exact hgk) _).other (by exact hgk) _).other (by exact hgk) _, e3, below_put4 _ _ _ _ (below_put2 _ _ hb hg) hk, fun b h1 h2 => by
    rw [Below.heap_setCell _ _ _ _ h2, Below.heap_setCell _ _ _ _ h2, Below.heap_setCell _ _ _ _ h2, Below.heap_setCell _ _ _ _ h2, Below.heap_setCell _ _ _ _ h1, Below.heap_setCell _ _ _ _ h1]⟩
theorem put_next' {w W : World} {g k : Nat} {T : TypeId} {l0 l1 m0 m1 m2 m3 a b c0 c1 c2 c3 : Value} (h1 : Box W g [l0, l1] T) (h2 : Box W k [m0, m1, m2, m3] 28) (hgk : g ≠ k) (hb : Below w.heap.size w W) (hg : w.heap.size ≤ g) (hk : w.heap.size ≤ k) :
    ∃ V, V = ((((((W.setCell ⟨k, 0, none⟩ c0).setCell ⟨k, 1, none⟩ c1).setCell ⟨k, 2, none⟩ c2).setCell ⟨k, 3, none⟩ c3).setCell ⟨g, 0, none⟩ a).setCell ⟨g, 1, none⟩ b) ∧ Box V g [a, b] T ∧ Box V k [c0, c1, c2, c3] 28 ∧ Below w.heap.size w V ∧ ∀ b, b ≠ g → b ≠ k → V.heap[b]? = W.heap[b]? := by
  have e1 := h2.put4 (a := c0) (b := c1) (c := c2) (d := c3)
  have e2 : Box ((((W.setCell ⟨k, 0, none⟩ c0).setCell ⟨k, 1, none⟩ c1).setCell ⟨k, 2, none⟩ c2).setCell ⟨k, 3, none⟩ c3) g [l0, l1] T := (((h1.other (by exact hgk) _).other (by exact hgk) _).other (by exact hgk) _).other (by exact hgk) _
  have e3 := e2.put2 (a := a) (b := b)
  exact ⟨_, rfl, e3, (e1.other (fun e => hgk e.symm) _).other (fun e => hgk e.symm) _, below_put2 _ _ (below_put4 _ _ _ _ hb hk) hg, fun b h1 h2 => by
    rw [Below.heap_setCell _ _ _ _ h1, Below.heap_setCell _ _ _ _ h1, Below.heap_setCell _ _ _ _ h2, Below.heap_setCell _ _ _ _ h2, Below.heap_setCell _ _ _ _ h2, Below.heap_setCell _ _ _ _ h2]⟩
set_option maxHeartbeats 16000000 in
set_option maxRecDepth 100000 in
theorem next_x {x : PatchD} {v : Value} (w : World) (h : VPatch w v x) (hf : formedB x = true) :
    Calls Tryz.prog 22 #[v] w (RetX w x) := by
  have hv := h
  have hn24 := (formed_iff.1 hf).2.2.1
  obtain ⟨r, hr⟩ : ∃ r, r = nxR x := ⟨_, rfl⟩
  obtain ⟨n, hn⟩ : ∃ n, n = nxN x := ⟨_, rfl⟩
  obtain ⟨t, ht⟩ : ∃ t, t = nxB x := ⟨_, rfl⟩
  obtain ⟨P, hP⟩ : ∃ P, P = nxP x := ⟨_, rfl⟩
  have RX : Hid (∀ v' w', VPatch w' v' P → Below w.heap.size w w' → (t = true → ∃ v1 v2 v3 L1 L, v' = .agg #[.int .i64 P.inputs, v1, v2, v3] ∧ OwnP w.heap.size w' v1 v2 v3 P.tables P.nodes P.outputs L1 L) → RetX w x (.returned (.tuple #[.agg #[.int .i64 r, .int .i64 n], v', .bool t])) w') := fun v' w' h1 h2 h3 => by
    rw [hr, hn, ht]
    rw [hP, ht] at h3
    rw [hP] at h1
    exact ⟨v', rfl, h1, h2, h3⟩
  have HS : Hid (∀ i, fstI x = some i → r = ruleP x i ∧ n = i ∧ t = true ∧ P = afterP x i (ruleP x i)) := fun i e => by
    obtain ⟨e1, e2, e3, e4⟩ := fst_vals e
    exact ⟨hr.trans e1, hn.trans e2, ht.trans e3, hP.trans e4⟩
  have HN : Hid (fstI x = none → r = 0 ∧ n = 0 ∧ t = false ∧ P = x) := fun e => by
    obtain ⟨e1, e2, e3, e4⟩ := fst_novals e
    exact ⟨hr.trans e1, hn.trans e2, ht.trans e3, hP.trans e4⟩
  clear hr hn ht hP
  obtain ⟨p1, c1, p2, c2, p3, c3, rfl, r1, r2, r3⟩ := h
  have hml := r2.len
  clear r1 r2 r3
  obtain ⟨g, hg⟩ : ∃ g, g = w.heap.size := ⟨_, rfl⟩
  obtain ⟨E, hE⟩ : ∃ E, E = ((w.alloc (.cells #[.int .i64 x.inputs, .slice p1 x.tables.length c1, .slice p2 x.nodes.length c2, .slice p3 x.outputs.length c3] 28)).alloc (.cells #[.int .i64 0, .int .i64 0] 40)).alloc (.cells #[.int .i64 0, .slice none 0 0, .slice none 0 0, .slice none 0 0] 28) := ⟨_, rfl⟩
  have hB0 : Below w.heap.size w E := by rw [hE]; exact (((Below.refl _ _).alloc (Nat.le_refl _) _).alloc (by simp) _).alloc (by simp; omega) _
  have bx : Box E g [.int .i64 x.inputs, .slice p1 x.tables.length c1, .slice p2 x.nodes.length c2, .slice p3 x.outputs.length c3] 28 := by rw [hE, hg]; exact ((Box.newAt w _ _ rfl).alloc _).alloc _
  have bw : Box E (g + 1) [.int .i64 0, .int .i64 0] 40 := by rw [hE, hg]; exact (Box.newAt (w.alloc _) [.int .i64 0, .int .i64 0] _ (by simp)).alloc _
  have br : Box E (g + 1 + 1) zPatch 28 := by rw [hE, hg]; exact Box.newAt ((w.alloc _).alloc _) _ _ (by simp)
  have hg1 : w.heap.size ≤ g + 1 := by omega
  have hg2 : w.heap.size ≤ g + 1 + 1 := by omega
  have HE := Lib.hid hE
  have HG := Lib.hid hg
  clear hE hg
  have z0 := bx.cell 0 rfl
  have z1 := bx.cell 1 rfl
  have z2 := bx.cell 2 rfl
  have z3 := bx.cell 3 rfl
  go_enter Tryz.func22, Tryz.ntmps22
  go_upto_region 1 with fail
  rw [← HE.out, ← HG.out]
  go_wp2_with (go_at_call 21; refine (sizeN_any _ _ _ _ hml).mono ?_; rintro e w' ⟨rfl, rfl⟩)
  clear z0 z1 z2 z3
  go_loopw [11] (fun ci wr => ∃ k : Nat, k ≤ x.nodes.length ∧ ci = .int .i64 k ∧ (∀ j : Nat, j < k → ruleP x (j : Int) = 0) ∧ Below E.heap.size E wr) (fun ci _ => x.nodes.length - (intOf ci).toNat)
  case atStart => exact ⟨0, Nat.zero_le _, rfl, fun j h => by omega, Below.refl _ _⟩
  case round =>
    obtain ⟨k, hk, rfl, hno, hbel⟩ := hrel
    obtain ⟨wi, rfl⟩ : ∃ wi : World, wi = wr := ⟨_, rfl⟩
    have HNO := Lib.hid hno
    clear hno
    have hwi := hB0.trans (hbel.mono hB0.size)
    have xx := bx.below hbel
    have ww := bw.below hbel
    have rr := br.below hbel
    have z0 := xx.cell 0 rfl
    have z1 := xx.cell 1 rfl
    have z2 := xx.cell 2 rfl
    have z3 := xx.cell 3 rfl
    by_cases hlt : k < x.nodes.length
    · have RW := Lib.hid (rewrite_x wi (hv.below hwi) hf hlt)
      go_wp2_with fail
      refine RW.out.mono ?_
      rintro e W2 ⟨v', rfl, hv2, hown, hb2⟩
      obtain ⟨s1, d1, s2, d2, s3, d3, rfl, u1, u2, u3⟩ := hv2
      have HOWN := Lib.hid hown
      clear hown
      clear u1 u2 u3 RW z0 z1 z2 z3
      obtain ⟨Q, hQ⟩ : ∃ Q, Q = afterP x (k : Int) (ruleP x (k : Int)) := ⟨_, rfl⟩
      rw [← hQ] at HOWN ⊢
      obtain ⟨V, hV⟩ : ∃ V, V = W2.alloc (.cells #[.int .i64 Q.inputs, .slice s1 Q.tables.length d1, .slice s2 Q.nodes.length d2, .slice s3 Q.outputs.length d3] 28) := ⟨_, rfl⟩
      have d2' : Below W2.heap.size W2 V := by rw [hV]; exact (Below.refl _ _).alloc (Nat.le_refl _) _
      have bo : Box V W2.heap.size [.int .i64 Q.inputs, .slice s1 Q.tables.length d1, .slice s2 Q.nodes.length d2, .slice s3 Q.outputs.length d3] 28 := by rw [hV]; exact Box.newAt W2 _ _ rfl
      have hw2 := hwi.trans (hb2.mono hwi.size)
      have hwV := hw2.trans (d2'.mono hw2.size)
      have hbV := hbel.trans ((hb2.trans (d2'.mono hb2.size)).mono hbel.size)
      have xV := (xx.below hb2).below d2'
      have wV := (ww.below hb2).below d2'
      have rV := (rr.below hb2).below d2'
      have HV := Lib.hid hV
      have HQ := Lib.hid hQ
      have HVO : Hid (ruleP x (k : Int) ≠ 0 → ∃ L1 L, OwnP wi.heap.size V (.slice s1 Q.tables.length d1) (.slice s2 Q.nodes.length d2) (.slice s3 Q.outputs.length d3) Q.tables Q.nodes Q.outputs L1 L) := fun h => by
        obtain ⟨v1, v2, v3, L1, L, e, ho⟩ := HOWN.out h
        simp only [Value.agg.injEq, Array.mk.injEq, List.cons.injEq, and_true, true_and] at e
        obtain ⟨rfl, rfl, rfl⟩ := e
        exact ⟨L1, L, ho.below d2'⟩
      clear hV hQ HOWN d2'
      go_upto_region 5 with fail
      rw [← HV.out]
      by_cases hz : ruleP x (k : Int) = 0
      · have q : (ruleP x (k : Int) != 0) = false := by rw [bne_eq_false_iff_eq]; exact hz
        have HZ := Lib.hid hz
        clear hz
        go_wp2_with fail
        go_roundw
        case rel => exact ⟨k + 1, by omega, by go_num, fun j hj => by
          rcases Nat.lt_or_ge j k with h | h
          · exact HNO.out j h
          · obtain rfl : j = k := by omega
            exact HZ.out, hbV⟩
        case measure => simp [intOf] <;> omega
      · have q : (ruleP x (k : Int) != 0) = true := by rw [bne_iff_ne]; exact hz
        obtain ⟨e1, e2, e3, e4⟩ := HS.out (k : Int) (fst_some hz fun j hj hjk => by
          obtain ⟨h0, -⟩ := need_rng j hj
          obtain ⟨m, rfl⟩ := Int.eq_ofNat_of_zero_le h0
          exact HNO.out m (by omega))
        rw [← HQ.out] at e4
        subst e4
        subst e3
        subst e1 e2
        have HZ := Lib.hid hz
        clear hz HS HN
        have o0 := bo.cell 0 rfl
        have o1 := bo.cell 1 rfl
        have o2 := bo.cell 2 rfl
        have o3 := bo.cell 3 rfl
        have a0 := wV.frozen 0
        have a1 := wV.frozen 1
        have i0 := wV.cell 0 rfl
        have i1 := wV.cell 1 rfl
        have b0 := rV.frozen 0
        have b1 := rV.frozen 1
        have b2 := rV.frozen 2
        have b3 := rV.frozen 3
        have k0 := rV.cell 0 rfl
        have k1 := rV.cell 1 rfl
        have k2 := rV.cell 2 rfl
        have k3 := rV.cell 3 rfl
        have n1 : g + 1 < W2.heap.size := (ww.below hb2).lt
        have n2 : g + 1 + 1 < W2.heap.size := (rr.below hb2).lt
        have n3 : W2.heap.size ≠ g + 1 := by omega
        have n4 : W2.heap.size ≠ g + 1 + 1 := by omega
        have n5 : g + 1 ≠ W2.heap.size := by omega
        have n6 : g + 1 + 1 ≠ W2.heap.size := by omega
        go_upto_region 6 with fail
        obtain ⟨Va, hVa, qa, qb, qc, qd⟩ := put_next (a := .int .i64 (ruleP x (k : Int))) (b := .int .i64 (k : Int)) (c0 := .int .i64 P.inputs) (c1 := .slice s1 P.tables.length d1) (c2 := .slice s2 P.nodes.length d2) (c3 := .slice s3 P.outputs.length d3) wV rV (by omega) hwV hg1 hg2
        obtain ⟨Vb, hVb, ua, ub, uc, ud⟩ := put_next' (a := .int .i64 (ruleP x (k : Int))) (b := .int .i64 (k : Int)) (c0 := .int .i64 P.inputs) (c1 := .slice s1 P.tables.length d1) (c2 := .slice s2 P.nodes.length d2) (c3 := .slice s3 P.outputs.length d3) wV rV (by omega) hwV hg1 hg2
        obtain ⟨L1, L, ho⟩ := HVO.out HZ.out
        have hgi : g + 1 + 1 < wi.heap.size := rr.lt
        have FA : Hid (RetX w x (.returned (.tuple #[.agg #[.int .i64 (ruleP x (k : Int)), .int .i64 (k : Int)], .agg #[.int .i64 P.inputs, .slice s1 P.tables.length d1, .slice s2 P.nodes.length d2, .slice s3 P.outputs.length d3], .bool true])) Va) :=
          RX.out _ _ (((ho.keep fun b hb1 _ _ => qd b (by omega) (by omega)).patch P.inputs).1.rd) qc fun _ => ⟨_, _, _, L1, L, rfl, (ho.keep fun b hb1 _ _ => qd b (by omega) (by omega)).mono hwi.size⟩
        have FB : Hid (RetX w x (.returned (.tuple #[.agg #[.int .i64 (ruleP x (k : Int)), .int .i64 (k : Int)], .agg #[.int .i64 P.inputs, .slice s1 P.tables.length d1, .slice s2 P.nodes.length d2, .slice s3 P.outputs.length d3], .bool true])) Vb) :=
          RX.out _ _ (((ho.keep fun b hb1 _ _ => ud b (by omega) (by omega)).patch P.inputs).1.rd) uc fun _ => ⟨_, _, _, L1, L, rfl, (ho.keep fun b hb1 _ _ => ud b (by omega) (by omega)).mono hwi.size⟩
        clear ho
        have fa0 := qa.cell 0 rfl
        have fa1 := qa.cell 1 rfl
        have fa2 := qb.cell 0 rfl
        have fa3 := qb.cell 1 rfl
        have fa4 := qb.cell 2 rfl
        have fa5 := qb.cell 3 rfl
        have fb0 := ua.cell 0 rfl
        have fb1 := ua.cell 1 rfl
        have fb2 := ub.cell 0 rfl
        have fb3 := ub.cell 1 rfl
        have fb4 := ub.cell 2 rfl
        have fb5 := ub.cell 3 rfl
        subst hVa hVb
        clear qa qb qc qd ua ub uc ud
        go_region
        all_goals
          (go_wp2_with fail
           refine bodyPost_ret (v := .tuple #[.agg #[.int .i64 (ruleP x (k : Int)), .int .i64 (k : Int)], .agg #[.int .i64 P.inputs, .slice s1 P.tables.length d1, .slice s2 P.nodes.length d2, .slice s3 P.outputs.length d3], .bool true]) (by simp [results, Tryz.results22, go_sem, *]) rfl ?_
           first | exact FA.out.drew | exact FB.out.drew)
    · obtain rfl : k = x.nodes.length := by omega
      obtain ⟨e1, e2, e3, e4⟩ := HN.out (fst_none fun j hj => by
        obtain ⟨h0, h1⟩ := need_rng j hj
        obtain ⟨m, rfl⟩ := Int.eq_ofNat_of_zero_le h0
        exact HNO.out m (by omega))
      subst e1 e2 e3 e4
      obtain ⟨Va, hVa, qa, qb, qc, qd⟩ := put_next (a := .int .i64 0) (b := .int .i64 0) (c0 := .int .i64 P.inputs) (c1 := .slice p1 P.tables.length c1) (c2 := .slice p2 P.nodes.length c2) (c3 := .slice p3 P.outputs.length c3) ww rr (by omega) hwi hg1 hg2
      obtain ⟨Vb, hVb, ua, ub, uc, ud⟩ := put_next' (a := .int .i64 0) (b := .int .i64 0) (c0 := .int .i64 P.inputs) (c1 := .slice p1 P.tables.length c1) (c2 := .slice p2 P.nodes.length c2) (c3 := .slice p3 P.outputs.length c3) ww rr (by omega) hwi hg1 hg2
      have FA : Hid (RetX w P (.returned (.tuple #[.agg #[.int .i64 0, .int .i64 0], .agg #[.int .i64 P.inputs, .slice p1 P.tables.length c1, .slice p2 P.nodes.length c2, .slice p3 P.outputs.length c3], .bool false])) Va) :=
        RX.out _ _ (hv.below qc) qc (by intro h; cases h)
      have FB : Hid (RetX w P (.returned (.tuple #[.agg #[.int .i64 0, .int .i64 0], .agg #[.int .i64 P.inputs, .slice p1 P.tables.length c1, .slice p2 P.nodes.length c2, .slice p3 P.outputs.length c3], .bool false])) Vb) :=
        RX.out _ _ (hv.below uc) uc (by intro h; cases h)
      have fa0 := qa.cell 0 rfl
      have fa1 := qa.cell 1 rfl
      have fa2 := qb.cell 0 rfl
      have fa3 := qb.cell 1 rfl
      have fa4 := qb.cell 2 rfl
      have fa5 := qb.cell 3 rfl
      have fb0 := ua.cell 0 rfl
      have fb1 := ua.cell 1 rfl
      have fb2 := ub.cell 0 rfl
      have fb3 := ub.cell 1 rfl
      have fb4 := ub.cell 2 rfl
      have fb5 := ub.cell 3 rfl
      have a0 := ww.frozen 0
      have a1 := ww.frozen 1
      have i0 := ww.cell 0 rfl
      have i1 := ww.cell 1 rfl
      have b0 := rr.frozen 0
      have b1 := rr.frozen 1
      have b2 := rr.frozen 2
      have b3 := rr.frozen 3
      have k0 := rr.cell 0 rfl
      have k1 := rr.cell 1 rfl
      have k2 := rr.cell 2 rfl
      have k3 := rr.cell 3 rfl
      subst hVa hVb
      clear qa qb qc qd ua ub uc ud HNO HS
      go_upto_region 8 with fail
      go_region
      all_goals
        (go_wp2_with fail
         refine bodyPost_ret (v := .tuple #[.agg #[.int .i64 0, .int .i64 0], .agg #[.int .i64 P.inputs, .slice p1 P.tables.length c1, .slice p2 P.nodes.length c2, .slice p3 P.outputs.length c3], .bool false]) (by simp [results, Tryz.results22, go_sem, *]) rfl ?_
         first | exact FA.out.drew | exact FB.out.drew)
end Go.Proofs.YtcfhcmgmkhfjjaaGreat
