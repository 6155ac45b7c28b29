/-
  Nodes: validity; contracts of both sides.
-/
import Derived.Test.YtdcacmmglkcliaaGreatDoorTyNode
import Derived.Test.YtdcacmmglkcliaaGreatDoorKindFns
namespace Go.Proofs.YtdcacmmglkcliaaGreatDoor
open Go.ChangeShapes Go.WideShapes Go.ChangeAt Go.RowKit
set_option linter.unusedVariables false

/-- A and B of a node of kind i + 1 are valid -/
def abB (i : Nat) (a b : Int) : Bool := (if kLo i ≤ kHi i then inB a (kLo i) (kHi i) else a == 0) && (if kBb i then inB b 1 16 else b == 0)
/-- a valid node, for a number of tables -/
def nodeB (x : NodeD) (tables : Int) : Bool :=
  inB x.kind 1 17 && abB (x.kind - 1).toNat x.a x.b && x.src.all (fun f => inB f 0 23) && decide ((x.src.length : Int) = kAr (x.kind - 1).toNat) && (x.kind != 13 || decide (x.a < tables))

theorem hasA_any (nm : ByteArray) (a lo hi : Int) (l b : Bool) (w : World) :
    Calls Tryz.prog 72 #[.agg #[.string nm, .int .i64 a, .int .i64 lo, .int .i64 hi, .bool l, .bool b]] w fun e w' => e = .returned (.bool (decide (lo ≤ hi))) ∧ Below w.heap.size w w' := by
  go_enter Tryz.func72, Tryz.ntmps72
  go_wp2
  go_ret
  exact ⟨rfl, (Below.refl _ _).alloc (Nat.le_refl _) _⟩
theorem l00Min_any (a b : Int) (w : World) :
    Calls Tryz.prog 102 #[.int .i64 a, .int .i64 b] w fun e w' => e = .returned (.int .i64 (min a b)) ∧ w = w' := by
  by_cases h : a < b
  · have e : min a b = a := by omega
    rw [e]; clear e
    go_enter Tryz.func102, Tryz.ntmps102
    go_wp2
    go_ret
    exact ⟨rfl, rfl⟩
  · have e : min a b = b := by omega
    rw [e]; clear e
    go_enter Tryz.func102, Tryz.ntmps102
    go_wp2
    go_ret
    exact ⟨rfl, rfl⟩
theorem l00Max_any (a b : Int) (w : World) :
    Calls Tryz.prog 86 #[.int .i64 a, .int .i64 b] w fun e w' => e = .returned (.int .i64 (max a b)) ∧ w = w' := by
  by_cases h : b < a
  · have e : max a b = a := by omega
    rw [e]; clear e
    go_enter Tryz.func86, Tryz.ntmps86
    go_wp2
    go_ret
    exact ⟨rfl, rfl⟩
  · have e : max a b = b := by omega
    rw [e]; clear e
    go_enter Tryz.func86, Tryz.ntmps86
    go_wp2
    go_ret
    exact ⟨rfl, rfl⟩
theorem kinds_ex (w : World) :
    Calls Tryz.prog 42 #[] w fun e w' => ∃ g, e = .returned (.slice (some ⟨g, 0, none⟩) 17 17) ∧ KindCells w' g ∧ w.heap.size ≤ g ∧ Below w.heap.size w w' :=
  (kinds_any w).mono fun _ _ h => ⟨_, h.1, h.2.1, Nat.le_refl _, h.2.2⟩
set_option maxHeartbeats 16000000 in
set_option maxRecDepth 100000 in
theorem isNode_in {p : Option Addr} {c : Nat} {src : List Int} (i : Nat) (hi : i < 17) (a b t : Int) (w : World) (r : RdI w p src) :
    Calls Tryz.prog 31 #[.agg #[.int .i64 ((i : Int) + 1), .int .i64 a, .int .i64 b, .slice p src.length c], .int .i64 t] w fun e w' => e = .returned (.bool (nodeB ⟨(i : Int) + 1, a, b, src⟩ t)) ∧ Below w.heap.size w w' := by
  have hl := r.len
  have hl0 := r.len
  unfold maxLen at hl
  have hk : inB ((i : Int) + 1) 1 17 = true := inB_true (by omega)
  have hN : Hid (nodeB ⟨(i : Int) + 1, a, b, src⟩ t = (abB i a b && src.all (fun f => inB f 0 23) && decide ((src.length : Int) = kAr i) && (((i : Int) + 1) != 13 || decide (a < t)))) := by
    have e : ((i : Int) + 1 - 1).toNat = i := by omega
    unfold Hid nodeB
    simp only [hk, e, Bool.true_and]
  obtain ⟨E0, hE0⟩ : ∃ E, E = w.alloc (.cells #[.int .i64 ((i : Int) + 1), .int .i64 a, .int .i64 b, .slice p src.length c] 26) := ⟨_, rfl⟩
  have hB0 : Below w.heap.size w E0 := by rw [hE0]; exact (Below.refl _ _).alloc (Nat.le_refl _) _
  have ba0 : Box E0 w.heap.size [.int .i64 ((i : Int) + 1), .int .i64 a, .int .i64 b, .slice p src.length c] 26 := by rw [hE0]; exact Box.newAt w [.int .i64 ((i : Int) + 1), .int .i64 a, .int .i64 b, .slice p src.length c] _ rfl
  have HE0 := Lib.hid hE0
  clear hE0
  go_enter Tryz.func31, Tryz.ntmps31
  go_upto_region 3 with (go_at_call 41; refine (isKind_any _ _).mono ?_; rintro e w' ⟨rfl, rfl⟩)
  rw [← HE0.out]
  go_cut [5] (fun v wr => ∃ g, v = .pointer (some ⟨g, 0, none⟩) ∧ Box wr g [.string (kNm i), .int .i64 (kAr i), .int .i64 (kLo i), .int .i64 (kHi i), .bool (kLi i), .bool (kBb i)] 75 ∧ Below E0.heap.size E0 wr)
  case first =>
    have z0 := ba0.cell 0 rfl
    have w1 : IntKind.i64.wrap ((i : Int) + 1 - 1) = (i : Int) := by rw [IntWalk.i64_in _ (by omega)]; omega
    have w5 : IntKind.i64.wrap (i : Int) = (i : Int) := IntWalk.i64_in _ (by omega)
    have w2 : (0 : Int) ≤ (i : Int) := by omega
    have w3 : (i : Int) < 17 := by omega
    have w4 : ((i : Int)).toNat = i := by omega
    have hwl0 := ba0.lt
    go_region_with (first | (go_at_call 42; refine (kinds_ex E0.drew).mono ?_; rintro e F1 ⟨g, rfl, hc, hg, hb⟩; have hb0 : Below E0.heap.size E0 F1 := below_drew' hb; have ba1 := ba0.below hb0; have y0 := ba1.cell 0 rfl; have hwl := ba1.lt; have hq := hc i hi; obtain ⟨k0, k1, k2, k3, k4, k5⟩ := hq; have hgl : g < F1.heap.size := World.block_lt_of_cell? _ _ k0; clear hc) | (go_at_call 42; refine (kinds_ex _).mono ?_; rintro e F1 ⟨g, rfl, hc, hg, hb⟩; have hb0 : Below E0.heap.size E0 F1 := ((Below.refl _ _).alloc (Nat.le_refl _) _).trans ((below_drew' hb).mono (by simp)); have bz := (Box.newAt E0 [.string ⟨#[]⟩, .int .i64 0, .int .i64 0, .int .i64 0, .bool false, .bool false] 75 rfl).below (below_drew' hb); have ba1 := (ba0.alloc (.cells #[.string ⟨#[]⟩, .int .i64 0, .int .i64 0, .int .i64 0, .bool false, .bool false] 75)).below (below_drew' hb); have u0 := bz.cell 0 rfl; have u1 := bz.cell 1 rfl; have u2 := bz.cell 2 rfl; have u3 := bz.cell 3 rfl; have u4 := bz.cell 4 rfl; have u5 := bz.cell 5 rfl; have hgz : g ≠ E0.heap.size := (by simp at hg; omega); have hzl := bz.lt; have fz := bz.frozen; have y0 := ba1.cell 0 rfl; have hwl := ba1.lt; have hq := hc i hi; obtain ⟨k0, k1, k2, k3, k4, k5⟩ := hq; have hgl : g < F1.heap.size := World.block_lt_of_cell? _ _ k0; clear hc))
    all_goals (go_wp2_with fail)
    all_goals go_meet
    all_goals refine ⟨_, rfl, ?_, ?_⟩
    all_goals clear HE0 hN
    all_goals first
      | (with_reducible exact Box.newAt F1 [.string (kNm i), .int .i64 (kAr i), .int .i64 (kLo i), .int .i64 (kHi i), .bool (kLi i), .bool (kBb i)] _ rfl)
      | (with_reducible exact hb0.alloc hb0.size _)
      | exact ((((((bz.set 0 (.string (kNm i))).set 1 (.int .i64 (kAr i))).set 2 (.int .i64 (kLo i))).set 3 (.int .i64 (kHi i))).set 4 (.bool (kLi i))).set 5 (.bool (kBb i)))
      | (with_reducible exact (((((hb0.setCell (Nat.le_refl _) _).setCell (Nat.le_refl _) _).setCell (Nat.le_refl _) _).setCell (Nat.le_refl _) _).setCell (Nat.le_refl _) _).setCell (Nat.le_refl _) _)
  case rest =>
    obtain ⟨g, rfl, bk, hb⟩ := hcut
    obtain ⟨E1, rfl⟩ : ∃ E, E = wc := ⟨_, rfl⟩
    have ba1 := ba0.below hb
    have hB1 := hB0.trans (hb.mono hB0.size)
    clear hb ba0 hB0
    go_upto_region 4 with fail
    go_cut [59] (fun v wr => v = .bool (!abB i a b) ∧ Below E1.heap.size E1 wr)
    case first =>
      have bk0 := bk
      have hbR := Below.refl E1.heap.size E1

      have bn0 := ba1
      clear ba1 bk
      by_cases hA : kLo i ≤ kHi i
      case pos =>
        have hAd : decide (kLo i ≤ kHi i) = true := decide_eq_true hA
        cases cA : inB a (kLo i) (kHi i)
        case false =>
          have hv : (!abB i a b) = true := by unfold abB; rw [if_pos hA]; simp [cA]
          have HV := Lib.hid hv
          clear hv
          have k0_0 := bk0.cell 0 rfl
          have k0_1 := bk0.cell 1 rfl
          have k0_2 := bk0.cell 2 rfl
          have k0_3 := bk0.cell 3 rfl
          have k0_4 := bk0.cell 4 rfl
          have k0_5 := bk0.cell 5 rfl
          have n0_0 := bn0.cell 0 rfl
          have n0_1 := bn0.cell 1 rfl
          have n0_2 := bn0.cell 2 rfl
          have n0_3 := bn0.cell 3 rfl
          go_wp2_with fail
          refine (hasA_any _ _ _ _ _ _ _).mono ?_
          rintro e F1 ⟨rfl, hb1⟩
          have bk1 := bk0.below hb1
          have bn1 := bn0.below hb1
          have hR1 := hbR.trans hb1
          clear k0_0 k0_1 k0_2 k0_3 k0_4 k0_5 n0_0 n0_1 n0_2 n0_3 hb1
          have k1_0 := bk1.cell 0 rfl
          have k1_1 := bk1.cell 1 rfl
          have k1_2 := bk1.cell 2 rfl
          have k1_3 := bk1.cell 3 rfl
          have k1_4 := bk1.cell 4 rfl
          have k1_5 := bk1.cell 5 rfl
          have n1_0 := bn1.cell 0 rfl
          have n1_1 := bn1.cell 1 rfl
          have n1_2 := bn1.cell 2 rfl
          have n1_3 := bn1.cell 3 rfl
          go_wp2_with (go_at_call 73; refine (within_any _ _ _ _).mono ?_; rintro e w' ⟨rfl, rfl⟩)
          go_meet
          exact ⟨by rw [HV.out], hR1⟩
        cases hBb : kBb i
        case true =>
          cases cB : inB b 1 16
          case false =>
            have hv : (!abB i a b) = true := by unfold abB; rw [if_pos hA]; simp [cA, hBb, cB]
            have HV := Lib.hid hv
            clear hv
            have k0_0 := bk0.cell 0 rfl
            have k0_1 := bk0.cell 1 rfl
            have k0_2 := bk0.cell 2 rfl
            have k0_3 := bk0.cell 3 rfl
            have k0_4 := bk0.cell 4 rfl
            have k0_5 := bk0.cell 5 rfl
            have n0_0 := bn0.cell 0 rfl
            have n0_1 := bn0.cell 1 rfl
            have n0_2 := bn0.cell 2 rfl
            have n0_3 := bn0.cell 3 rfl
            go_wp2_with fail
            refine (hasA_any _ _ _ _ _ _ _).mono ?_
            rintro e F1 ⟨rfl, hb1⟩
            have bk1 := bk0.below hb1
            have bn1 := bn0.below hb1
            have hR1 := hbR.trans hb1
            clear k0_0 k0_1 k0_2 k0_3 k0_4 k0_5 n0_0 n0_1 n0_2 n0_3 hb1
            have k1_0 := bk1.cell 0 rfl
            have k1_1 := bk1.cell 1 rfl
            have k1_2 := bk1.cell 2 rfl
            have k1_3 := bk1.cell 3 rfl
            have k1_4 := bk1.cell 4 rfl
            have k1_5 := bk1.cell 5 rfl
            have n1_0 := bn1.cell 0 rfl
            have n1_1 := bn1.cell 1 rfl
            have n1_2 := bn1.cell 2 rfl
            have n1_3 := bn1.cell 3 rfl
            go_wp2_with (go_at_call 73; refine (within_any _ _ _ _).mono ?_; rintro e w' ⟨rfl, rfl⟩)
            refine (hasA_any _ _ _ _ _ _ _).mono ?_
            rintro e F2 ⟨rfl, hb2⟩
            have bk2 := bk1.below hb2
            have bn2 := bn1.below hb2
            have hR2 := hR1.trans (hb2.mono hR1.size)
            clear k1_0 k1_1 k1_2 k1_3 k1_4 k1_5 n1_0 n1_1 n1_2 n1_3 hb2
            have k2_0 := bk2.cell 0 rfl
            have k2_1 := bk2.cell 1 rfl
            have k2_2 := bk2.cell 2 rfl
            have k2_3 := bk2.cell 3 rfl
            have k2_4 := bk2.cell 4 rfl
            have k2_5 := bk2.cell 5 rfl
            have n2_0 := bn2.cell 0 rfl
            have n2_1 := bn2.cell 1 rfl
            have n2_2 := bn2.cell 2 rfl
            have n2_3 := bn2.cell 3 rfl
            go_wp2_with (go_at_call 73; refine (within_any _ _ _ _).mono ?_; rintro e w' ⟨rfl, rfl⟩)
            go_meet
            exact ⟨by rw [HV.out], hR2⟩
          have hv : (!abB i a b) = false := by unfold abB; rw [if_pos hA]; simp [cA, hBb, cB]
          have HV := Lib.hid hv
          clear hv
          have k0_0 := bk0.cell 0 rfl
          have k0_1 := bk0.cell 1 rfl
          have k0_2 := bk0.cell 2 rfl
          have k0_3 := bk0.cell 3 rfl
          have k0_4 := bk0.cell 4 rfl
          have k0_5 := bk0.cell 5 rfl
          have n0_0 := bn0.cell 0 rfl
          have n0_1 := bn0.cell 1 rfl
          have n0_2 := bn0.cell 2 rfl
          have n0_3 := bn0.cell 3 rfl
          go_wp2_with fail
          refine (hasA_any _ _ _ _ _ _ _).mono ?_
          rintro e F1 ⟨rfl, hb1⟩
          have bk1 := bk0.below hb1
          have bn1 := bn0.below hb1
          have hR1 := hbR.trans hb1
          clear k0_0 k0_1 k0_2 k0_3 k0_4 k0_5 n0_0 n0_1 n0_2 n0_3 hb1
          have k1_0 := bk1.cell 0 rfl
          have k1_1 := bk1.cell 1 rfl
          have k1_2 := bk1.cell 2 rfl
          have k1_3 := bk1.cell 3 rfl
          have k1_4 := bk1.cell 4 rfl
          have k1_5 := bk1.cell 5 rfl
          have n1_0 := bn1.cell 0 rfl
          have n1_1 := bn1.cell 1 rfl
          have n1_2 := bn1.cell 2 rfl
          have n1_3 := bn1.cell 3 rfl
          go_wp2_with (go_at_call 73; refine (within_any _ _ _ _).mono ?_; rintro e w' ⟨rfl, rfl⟩)
          refine (hasA_any _ _ _ _ _ _ _).mono ?_
          rintro e F2 ⟨rfl, hb2⟩
          have bk2 := bk1.below hb2
          have bn2 := bn1.below hb2
          have hR2 := hR1.trans (hb2.mono hR1.size)
          clear k1_0 k1_1 k1_2 k1_3 k1_4 k1_5 n1_0 n1_1 n1_2 n1_3 hb2
          have k2_0 := bk2.cell 0 rfl
          have k2_1 := bk2.cell 1 rfl
          have k2_2 := bk2.cell 2 rfl
          have k2_3 := bk2.cell 3 rfl
          have k2_4 := bk2.cell 4 rfl
          have k2_5 := bk2.cell 5 rfl
          have n2_0 := bn2.cell 0 rfl
          have n2_1 := bn2.cell 1 rfl
          have n2_2 := bn2.cell 2 rfl
          have n2_3 := bn2.cell 3 rfl
          go_wp2_with (go_at_call 73; refine (within_any _ _ _ _).mono ?_; rintro e w' ⟨rfl, rfl⟩)
          go_meet
          exact ⟨by rw [HV.out], hR2⟩
        cases cB : (b == 0)
        case false =>
          have cB' : (b != 0) = true := by rw [bne, cB]; rfl
          have hv : (!abB i a b) = true := by unfold abB; rw [if_pos hA]; simp [cA, hBb, cB]
          have HV := Lib.hid hv
          clear hv
          have k0_0 := bk0.cell 0 rfl
          have k0_1 := bk0.cell 1 rfl
          have k0_2 := bk0.cell 2 rfl
          have k0_3 := bk0.cell 3 rfl
          have k0_4 := bk0.cell 4 rfl
          have k0_5 := bk0.cell 5 rfl
          have n0_0 := bn0.cell 0 rfl
          have n0_1 := bn0.cell 1 rfl
          have n0_2 := bn0.cell 2 rfl
          have n0_3 := bn0.cell 3 rfl
          go_wp2_with fail
          refine (hasA_any _ _ _ _ _ _ _).mono ?_
          rintro e F1 ⟨rfl, hb1⟩
          have bk1 := bk0.below hb1
          have bn1 := bn0.below hb1
          have hR1 := hbR.trans hb1
          clear k0_0 k0_1 k0_2 k0_3 k0_4 k0_5 n0_0 n0_1 n0_2 n0_3 hb1
          have k1_0 := bk1.cell 0 rfl
          have k1_1 := bk1.cell 1 rfl
          have k1_2 := bk1.cell 2 rfl
          have k1_3 := bk1.cell 3 rfl
          have k1_4 := bk1.cell 4 rfl
          have k1_5 := bk1.cell 5 rfl
          have n1_0 := bn1.cell 0 rfl
          have n1_1 := bn1.cell 1 rfl
          have n1_2 := bn1.cell 2 rfl
          have n1_3 := bn1.cell 3 rfl
          go_wp2_with (go_at_call 73; refine (within_any _ _ _ _).mono ?_; rintro e w' ⟨rfl, rfl⟩)
          refine (hasA_any _ _ _ _ _ _ _).mono ?_
          rintro e F2 ⟨rfl, hb2⟩
          have bk2 := bk1.below hb2
          have bn2 := bn1.below hb2
          have hR2 := hR1.trans (hb2.mono hR1.size)
          clear k1_0 k1_1 k1_2 k1_3 k1_4 k1_5 n1_0 n1_1 n1_2 n1_3 hb2
          have k2_0 := bk2.cell 0 rfl
          have k2_1 := bk2.cell 1 rfl
          have k2_2 := bk2.cell 2 rfl
          have k2_3 := bk2.cell 3 rfl
          have k2_4 := bk2.cell 4 rfl
          have k2_5 := bk2.cell 5 rfl
          have n2_0 := bn2.cell 0 rfl
          have n2_1 := bn2.cell 1 rfl
          have n2_2 := bn2.cell 2 rfl
          have n2_3 := bn2.cell 3 rfl
          go_wp2_with (go_at_call 73; refine (within_any _ _ _ _).mono ?_; rintro e w' ⟨rfl, rfl⟩)
          go_meet
          exact ⟨by rw [HV.out], hR2⟩
        have cB' : (b != 0) = false := by rw [bne, cB]; rfl
        have hv : (!abB i a b) = false := by unfold abB; rw [if_pos hA]; simp [cA, hBb, cB]
        have HV := Lib.hid hv
        clear hv
        have k0_0 := bk0.cell 0 rfl
        have k0_1 := bk0.cell 1 rfl
        have k0_2 := bk0.cell 2 rfl
        have k0_3 := bk0.cell 3 rfl
        have k0_4 := bk0.cell 4 rfl
        have k0_5 := bk0.cell 5 rfl
        have n0_0 := bn0.cell 0 rfl
        have n0_1 := bn0.cell 1 rfl
        have n0_2 := bn0.cell 2 rfl
        have n0_3 := bn0.cell 3 rfl
        go_wp2_with fail
        refine (hasA_any _ _ _ _ _ _ _).mono ?_
        rintro e F1 ⟨rfl, hb1⟩
        have bk1 := bk0.below hb1
        have bn1 := bn0.below hb1
        have hR1 := hbR.trans hb1
        clear k0_0 k0_1 k0_2 k0_3 k0_4 k0_5 n0_0 n0_1 n0_2 n0_3 hb1
        have k1_0 := bk1.cell 0 rfl
        have k1_1 := bk1.cell 1 rfl
        have k1_2 := bk1.cell 2 rfl
        have k1_3 := bk1.cell 3 rfl
        have k1_4 := bk1.cell 4 rfl
        have k1_5 := bk1.cell 5 rfl
        have n1_0 := bn1.cell 0 rfl
        have n1_1 := bn1.cell 1 rfl
        have n1_2 := bn1.cell 2 rfl
        have n1_3 := bn1.cell 3 rfl
        go_wp2_with (go_at_call 73; refine (within_any _ _ _ _).mono ?_; rintro e w' ⟨rfl, rfl⟩)
        refine (hasA_any _ _ _ _ _ _ _).mono ?_
        rintro e F2 ⟨rfl, hb2⟩
        have bk2 := bk1.below hb2
        have bn2 := bn1.below hb2
        have hR2 := hR1.trans (hb2.mono hR1.size)
        clear k1_0 k1_1 k1_2 k1_3 k1_4 k1_5 n1_0 n1_1 n1_2 n1_3 hb2
        have k2_0 := bk2.cell 0 rfl
        have k2_1 := bk2.cell 1 rfl
        have k2_2 := bk2.cell 2 rfl
        have k2_3 := bk2.cell 3 rfl
        have k2_4 := bk2.cell 4 rfl
        have k2_5 := bk2.cell 5 rfl
        have n2_0 := bn2.cell 0 rfl
        have n2_1 := bn2.cell 1 rfl
        have n2_2 := bn2.cell 2 rfl
        have n2_3 := bn2.cell 3 rfl
        go_wp2_with (go_at_call 73; refine (within_any _ _ _ _).mono ?_; rintro e w' ⟨rfl, rfl⟩)
        go_meet
        exact ⟨by rw [HV.out], hR2⟩
      have hAd : decide (kLo i ≤ kHi i) = false := decide_eq_false hA
      cases cA : (a == 0)
      case false =>
        have cA' : (a != 0) = true := by rw [bne, cA]; rfl
        have hv : (!abB i a b) = true := by unfold abB; rw [if_neg hA]; simp [cA]
        have HV := Lib.hid hv
        clear hv
        have k0_0 := bk0.cell 0 rfl
        have k0_1 := bk0.cell 1 rfl
        have k0_2 := bk0.cell 2 rfl
        have k0_3 := bk0.cell 3 rfl
        have k0_4 := bk0.cell 4 rfl
        have k0_5 := bk0.cell 5 rfl
        have n0_0 := bn0.cell 0 rfl
        have n0_1 := bn0.cell 1 rfl
        have n0_2 := bn0.cell 2 rfl
        have n0_3 := bn0.cell 3 rfl
        go_wp2_with fail
        refine (hasA_any _ _ _ _ _ _ _).mono ?_
        rintro e F1 ⟨rfl, hb1⟩
        have bk1 := bk0.below hb1
        have bn1 := bn0.below hb1
        have hR1 := hbR.trans hb1
        clear k0_0 k0_1 k0_2 k0_3 k0_4 k0_5 n0_0 n0_1 n0_2 n0_3 hb1
        have k1_0 := bk1.cell 0 rfl
        have k1_1 := bk1.cell 1 rfl
        have k1_2 := bk1.cell 2 rfl
        have k1_3 := bk1.cell 3 rfl
        have k1_4 := bk1.cell 4 rfl
        have k1_5 := bk1.cell 5 rfl
        have n1_0 := bn1.cell 0 rfl
        have n1_1 := bn1.cell 1 rfl
        have n1_2 := bn1.cell 2 rfl
        have n1_3 := bn1.cell 3 rfl
        go_wp2_with (go_at_call 73; refine (within_any _ _ _ _).mono ?_; rintro e w' ⟨rfl, rfl⟩)
        refine (hasA_any _ _ _ _ _ _ _).mono ?_
        rintro e F2 ⟨rfl, hb2⟩
        have bk2 := bk1.below hb2
        have bn2 := bn1.below hb2
        have hR2 := hR1.trans (hb2.mono hR1.size)
        clear k1_0 k1_1 k1_2 k1_3 k1_4 k1_5 n1_0 n1_1 n1_2 n1_3 hb2
        have k2_0 := bk2.cell 0 rfl
        have k2_1 := bk2.cell 1 rfl
        have k2_2 := bk2.cell 2 rfl
        have k2_3 := bk2.cell 3 rfl
        have k2_4 := bk2.cell 4 rfl
        have k2_5 := bk2.cell 5 rfl
        have n2_0 := bn2.cell 0 rfl
        have n2_1 := bn2.cell 1 rfl
        have n2_2 := bn2.cell 2 rfl
        have n2_3 := bn2.cell 3 rfl
        go_wp2_with (go_at_call 73; refine (within_any _ _ _ _).mono ?_; rintro e w' ⟨rfl, rfl⟩)
        go_meet
        exact ⟨by rw [HV.out], hR2⟩
      have cA' : (a != 0) = false := by rw [bne, cA]; rfl
      cases hBb : kBb i
      case true =>
        cases cB : inB b 1 16
        case false =>
          have hv : (!abB i a b) = true := by unfold abB; rw [if_neg hA]; simp [cA, hBb, cB]
          have HV := Lib.hid hv
          clear hv
          have k0_0 := bk0.cell 0 rfl
          have k0_1 := bk0.cell 1 rfl
          have k0_2 := bk0.cell 2 rfl
          have k0_3 := bk0.cell 3 rfl
          have k0_4 := bk0.cell 4 rfl
          have k0_5 := bk0.cell 5 rfl
          have n0_0 := bn0.cell 0 rfl
          have n0_1 := bn0.cell 1 rfl
          have n0_2 := bn0.cell 2 rfl
          have n0_3 := bn0.cell 3 rfl
          go_wp2_with fail
          refine (hasA_any _ _ _ _ _ _ _).mono ?_
          rintro e F1 ⟨rfl, hb1⟩
          have bk1 := bk0.below hb1
          have bn1 := bn0.below hb1
          have hR1 := hbR.trans hb1
          clear k0_0 k0_1 k0_2 k0_3 k0_4 k0_5 n0_0 n0_1 n0_2 n0_3 hb1
          have k1_0 := bk1.cell 0 rfl
          have k1_1 := bk1.cell 1 rfl
          have k1_2 := bk1.cell 2 rfl
          have k1_3 := bk1.cell 3 rfl
          have k1_4 := bk1.cell 4 rfl
          have k1_5 := bk1.cell 5 rfl
          have n1_0 := bn1.cell 0 rfl
          have n1_1 := bn1.cell 1 rfl
          have n1_2 := bn1.cell 2 rfl
          have n1_3 := bn1.cell 3 rfl
          go_wp2_with (go_at_call 73; refine (within_any _ _ _ _).mono ?_; rintro e w' ⟨rfl, rfl⟩)
          refine (hasA_any _ _ _ _ _ _ _).mono ?_
          rintro e F2 ⟨rfl, hb2⟩
          have bk2 := bk1.below hb2
          have bn2 := bn1.below hb2
          have hR2 := hR1.trans (hb2.mono hR1.size)
          clear k1_0 k1_1 k1_2 k1_3 k1_4 k1_5 n1_0 n1_1 n1_2 n1_3 hb2
          have k2_0 := bk2.cell 0 rfl
          have k2_1 := bk2.cell 1 rfl
          have k2_2 := bk2.cell 2 rfl
          have k2_3 := bk2.cell 3 rfl
          have k2_4 := bk2.cell 4 rfl
          have k2_5 := bk2.cell 5 rfl
          have n2_0 := bn2.cell 0 rfl
          have n2_1 := bn2.cell 1 rfl
          have n2_2 := bn2.cell 2 rfl
          have n2_3 := bn2.cell 3 rfl
          go_wp2_with (go_at_call 73; refine (within_any _ _ _ _).mono ?_; rintro e w' ⟨rfl, rfl⟩)
          go_meet
          exact ⟨by rw [HV.out], hR2⟩
        have hv : (!abB i a b) = false := by unfold abB; rw [if_neg hA]; simp [cA, hBb, cB]
        have HV := Lib.hid hv
        clear hv
        have k0_0 := bk0.cell 0 rfl
        have k0_1 := bk0.cell 1 rfl
        have k0_2 := bk0.cell 2 rfl
        have k0_3 := bk0.cell 3 rfl
        have k0_4 := bk0.cell 4 rfl
        have k0_5 := bk0.cell 5 rfl
        have n0_0 := bn0.cell 0 rfl
        have n0_1 := bn0.cell 1 rfl
        have n0_2 := bn0.cell 2 rfl
        have n0_3 := bn0.cell 3 rfl
        go_wp2_with fail
        refine (hasA_any _ _ _ _ _ _ _).mono ?_
        rintro e F1 ⟨rfl, hb1⟩
        have bk1 := bk0.below hb1
        have bn1 := bn0.below hb1
        have hR1 := hbR.trans hb1
        clear k0_0 k0_1 k0_2 k0_3 k0_4 k0_5 n0_0 n0_1 n0_2 n0_3 hb1
        have k1_0 := bk1.cell 0 rfl
        have k1_1 := bk1.cell 1 rfl
        have k1_2 := bk1.cell 2 rfl
        have k1_3 := bk1.cell 3 rfl
        have k1_4 := bk1.cell 4 rfl
        have k1_5 := bk1.cell 5 rfl
        have n1_0 := bn1.cell 0 rfl
        have n1_1 := bn1.cell 1 rfl
        have n1_2 := bn1.cell 2 rfl
        have n1_3 := bn1.cell 3 rfl
        go_wp2_with (go_at_call 73; refine (within_any _ _ _ _).mono ?_; rintro e w' ⟨rfl, rfl⟩)
        refine (hasA_any _ _ _ _ _ _ _).mono ?_
        rintro e F2 ⟨rfl, hb2⟩
        have bk2 := bk1.below hb2
        have bn2 := bn1.below hb2
        have hR2 := hR1.trans (hb2.mono hR1.size)
        clear k1_0 k1_1 k1_2 k1_3 k1_4 k1_5 n1_0 n1_1 n1_2 n1_3 hb2
        have k2_0 := bk2.cell 0 rfl
        have k2_1 := bk2.cell 1 rfl
        have k2_2 := bk2.cell 2 rfl
        have k2_3 := bk2.cell 3 rfl
        have k2_4 := bk2.cell 4 rfl
        have k2_5 := bk2.cell 5 rfl
        have n2_0 := bn2.cell 0 rfl
        have n2_1 := bn2.cell 1 rfl
        have n2_2 := bn2.cell 2 rfl
        have n2_3 := bn2.cell 3 rfl
        go_wp2_with (go_at_call 73; refine (within_any _ _ _ _).mono ?_; rintro e w' ⟨rfl, rfl⟩)
        go_meet
        exact ⟨by rw [HV.out], hR2⟩
      cases cB : (b == 0)
      case false =>
        have cB' : (b != 0) = true := by rw [bne, cB]; rfl
        have hv : (!abB i a b) = true := by unfold abB; rw [if_neg hA]; simp [cA, hBb, cB]
        have HV := Lib.hid hv
        clear hv
        have k0_0 := bk0.cell 0 rfl
        have k0_1 := bk0.cell 1 rfl
        have k0_2 := bk0.cell 2 rfl
        have k0_3 := bk0.cell 3 rfl
        have k0_4 := bk0.cell 4 rfl
        have k0_5 := bk0.cell 5 rfl
        have n0_0 := bn0.cell 0 rfl
        have n0_1 := bn0.cell 1 rfl
        have n0_2 := bn0.cell 2 rfl
        have n0_3 := bn0.cell 3 rfl
        go_wp2_with fail
        refine (hasA_any _ _ _ _ _ _ _).mono ?_
        rintro e F1 ⟨rfl, hb1⟩
        have bk1 := bk0.below hb1
        have bn1 := bn0.below hb1
        have hR1 := hbR.trans hb1
        clear k0_0 k0_1 k0_2 k0_3 k0_4 k0_5 n0_0 n0_1 n0_2 n0_3 hb1
        have k1_0 := bk1.cell 0 rfl
        have k1_1 := bk1.cell 1 rfl
        have k1_2 := bk1.cell 2 rfl
        have k1_3 := bk1.cell 3 rfl
        have k1_4 := bk1.cell 4 rfl
        have k1_5 := bk1.cell 5 rfl
        have n1_0 := bn1.cell 0 rfl
        have n1_1 := bn1.cell 1 rfl
        have n1_2 := bn1.cell 2 rfl
        have n1_3 := bn1.cell 3 rfl
        go_wp2_with (go_at_call 73; refine (within_any _ _ _ _).mono ?_; rintro e w' ⟨rfl, rfl⟩)
        refine (hasA_any _ _ _ _ _ _ _).mono ?_
        rintro e F2 ⟨rfl, hb2⟩
        have bk2 := bk1.below hb2
        have bn2 := bn1.below hb2
        have hR2 := hR1.trans (hb2.mono hR1.size)
        clear k1_0 k1_1 k1_2 k1_3 k1_4 k1_5 n1_0 n1_1 n1_2 n1_3 hb2
        have k2_0 := bk2.cell 0 rfl
        have k2_1 := bk2.cell 1 rfl
        have k2_2 := bk2.cell 2 rfl
        have k2_3 := bk2.cell 3 rfl
        have k2_4 := bk2.cell 4 rfl
        have k2_5 := bk2.cell 5 rfl
        have n2_0 := bn2.cell 0 rfl
        have n2_1 := bn2.cell 1 rfl
        have n2_2 := bn2.cell 2 rfl
        have n2_3 := bn2.cell 3 rfl
        go_wp2_with (go_at_call 73; refine (within_any _ _ _ _).mono ?_; rintro e w' ⟨rfl, rfl⟩)
        go_meet
        exact ⟨by rw [HV.out], hR2⟩
      have cB' : (b != 0) = false := by rw [bne, cB]; rfl
      have hv : (!abB i a b) = false := by unfold abB; rw [if_neg hA]; simp [cA, hBb, cB]
      have HV := Lib.hid hv
      clear hv
      have k0_0 := bk0.cell 0 rfl
      have k0_1 := bk0.cell 1 rfl
      have k0_2 := bk0.cell 2 rfl
      have k0_3 := bk0.cell 3 rfl
      have k0_4 := bk0.cell 4 rfl
      have k0_5 := bk0.cell 5 rfl
      have n0_0 := bn0.cell 0 rfl
      have n0_1 := bn0.cell 1 rfl
      have n0_2 := bn0.cell 2 rfl
      have n0_3 := bn0.cell 3 rfl
      go_wp2_with fail
      refine (hasA_any _ _ _ _ _ _ _).mono ?_
      rintro e F1 ⟨rfl, hb1⟩
      have bk1 := bk0.below hb1
      have bn1 := bn0.below hb1
      have hR1 := hbR.trans hb1
      clear k0_0 k0_1 k0_2 k0_3 k0_4 k0_5 n0_0 n0_1 n0_2 n0_3 hb1
      have k1_0 := bk1.cell 0 rfl
      have k1_1 := bk1.cell 1 rfl
      have k1_2 := bk1.cell 2 rfl
      have k1_3 := bk1.cell 3 rfl
      have k1_4 := bk1.cell 4 rfl
      have k1_5 := bk1.cell 5 rfl
      have n1_0 := bn1.cell 0 rfl
      have n1_1 := bn1.cell 1 rfl
      have n1_2 := bn1.cell 2 rfl
      have n1_3 := bn1.cell 3 rfl
      go_wp2_with (go_at_call 73; refine (within_any _ _ _ _).mono ?_; rintro e w' ⟨rfl, rfl⟩)
      refine (hasA_any _ _ _ _ _ _ _).mono ?_
      rintro e F2 ⟨rfl, hb2⟩
      have bk2 := bk1.below hb2
      have bn2 := bn1.below hb2
      have hR2 := hR1.trans (hb2.mono hR1.size)
      clear k1_0 k1_1 k1_2 k1_3 k1_4 k1_5 n1_0 n1_1 n1_2 n1_3 hb2
      have k2_0 := bk2.cell 0 rfl
      have k2_1 := bk2.cell 1 rfl
      have k2_2 := bk2.cell 2 rfl
      have k2_3 := bk2.cell 3 rfl
      have k2_4 := bk2.cell 4 rfl
      have k2_5 := bk2.cell 5 rfl
      have n2_0 := bn2.cell 0 rfl
      have n2_1 := bn2.cell 1 rfl
      have n2_2 := bn2.cell 2 rfl
      have n2_3 := bn2.cell 3 rfl
      go_wp2_with (go_at_call 73; refine (within_any _ _ _ _).mono ?_; rintro e w' ⟨rfl, rfl⟩)
      go_meet
      exact ⟨by rw [HV.out], hR2⟩
    case rest =>
      obtain ⟨rfl, hb⟩ := hcut
      obtain ⟨E2, rfl⟩ : ∃ E, E = wc := ⟨_, rfl⟩
      have ba2 := ba1.below hb
      have bk2 := bk.below hb
      have hB2 := hB1.trans (hb.mono hB1.size)
      have r2 := r.below hB2
      clear hb ba1 bk hB1 r
      cases hab' : (!abB i a b)
      case true =>
        have hab : abB i a b = false := by simpa using hab'
        go_wp2_with fail
        go_ret
        exact ⟨ret_bool (by rw [hN.out, hab]; simp), hB2⟩
      have hab : abB i a b = true := by simpa using hab'
      clear hab'
      have z3 := ba2.cell 3 rfl
      go_wp2_with fail
      clear z3
      go_loop [63] (fun j => ∃ k : Nat, k ≤ src.length ∧ j = .int .i64 k ∧ (src.take k).all (fun f => inB f 0 23) = true) (fun j => src.length - (intOf j).toNat)
      case atStart => exact ⟨0, Nat.zero_le _, rfl, by simp⟩
      case round =>
        obtain ⟨k, hk2, rfl, hall⟩ := hrel
        have HA := Lib.hid hall; clear hall
        by_cases hlt : k < src.length
        · obtain ⟨b1, o1, rfl, hb1, hc1⟩ := r2.pos hlt
          have hck := hc1 k hlt
          clear hc1
          generalize hx : src[k] = f at hck
          have HX := Lib.hid hx; clear hx
          cases hs : inB f 0 23
          · go_wp2_with (go_at_call 73; refine (within_any _ _ _ _).mono ?_; rintro e w' ⟨rfl, rfl⟩)
            go_ret
            exact ⟨ret_bool (by rw [hN.out, all_false hlt (by rw [HX.out]; exact hs)]; simp), hB2⟩
          · go_wp2_with (go_at_call 73; refine (within_any _ _ _ _).mono ?_; rintro e w' ⟨rfl, rfl⟩)
            go_round
            case rel => exact ⟨k + 1, by omega, by go_num, all_step hlt HA.out (by rw [HX.out]; exact hs)⟩
            case measure => simp [intOf] <;> omega
        · obtain rfl : k = src.length := by omega
          have hd := all_done HA.out
          have z0 := ba2.cell 0 rfl
          have z1 := ba2.cell 1 rfl
          have z3 := ba2.cell 3 rfl
          have q1 := bk2.cell 1 rfl
          have S1 : Hid (∀ m, Calls Tryz.prog 33 #[.slice p src.length c] (E2.drewN m) fun e w' => e = .returned (.int .i64 src.length) ∧ w' = E2.drewN m) := fun m => (sizeI_any _ _ _ _ hl0).mono fun e w' h => ⟨h.1, h.2.symm⟩
          by_cases c1 : (src.length : Int) = kAr i
          · have d1 : ((src.length : Int) == kAr i) = true := by rw [beq_iff_eq]; exact c1
            by_cases c2 : ((i : Int) + 1) = 13
            · have d2 : (((i : Int) + 1) != 13) = false := by rw [bne_eq_false_iff_eq]; exact c2
              have HR : Hid (nodeB ⟨(i : Int) + 1, a, b, src⟩ t = decide (a < t)) := by rw [hN.out, hab, hd, decide_eq_true c1, d2]; simp [Hid]
              clear c1 c2 hd hab
              go_wp2_with fail
              go_quiet ((go_at_call 33; exact Calls.quiet_of_same (S1.out _)))
              go_wp2_with fail
              go_ret
              exact ⟨ret_bool HR.out.symm, below_drewN hB2 _⟩
            · have d2 : (((i : Int) + 1) != 13) = true := by rw [bne_iff_ne]; exact c2
              have HR : Hid (nodeB ⟨(i : Int) + 1, a, b, src⟩ t = true) := by rw [hN.out, hab, hd, decide_eq_true c1, d2]; simp [Hid]
              clear c1 c2 hd hab
              go_wp2_with fail
              go_quiet ((go_at_call 33; exact Calls.quiet_of_same (S1.out _)))
              go_wp2_with fail
              go_ret
              exact ⟨ret_bool HR.out.symm, below_drewN hB2 _⟩
          · have d1 : ((src.length : Int) == kAr i) = false := by rw [beq_eq_false_iff_ne]; exact c1
            have HR : Hid (nodeB ⟨(i : Int) + 1, a, b, src⟩ t = false) := by rw [hN.out, decide_eq_false c1]; simp [Hid]
            clear c1 hd hab
            go_wp2_with fail
            go_quiet ((go_at_call 33; exact Calls.quiet_of_same (S1.out _)))
            go_wp2_with fail
            go_ret
            exact ⟨ret_bool HR.out.symm, below_drewN hB2 _⟩

end Go.Proofs.YtdcacmmglkcliaaGreatDoor
