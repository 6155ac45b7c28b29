/-
  Equality and validity of linear systems: contracts.
-/
import Derived.Test.YtlfhdocgemiogaaTyLinear
namespace Go.Proofs.Ytlfhdocgemiogaa
open Go.ChangeShapes Go.WideShapes Go.ChangeAt Go.RowKit
set_option linter.unusedVariables false

def sameLinB (x y : LinearD) : Bool := decide (x.inputs = y.inputs) && decide (x.A = y.A) && decide (x.B = y.B) && decide (x.C = y.C) && decide (x.D = y.D)
def okLinB (x : LinearD) : Bool := decide ((x.A.length : Int) ≤ 24) && inB x.inputs 0 4 && decide ((x.C.length : Int) ≤ 4) && tabB x.A x.A.length x.A.length && tabB x.B x.A.length x.inputs && tabB x.C x.C.length x.A.length && tabB x.D x.C.length x.inputs

set_option maxHeartbeats 1600000 in
theorem implSameLinear_v {v v' : Value} {x y : LinearD} (w : World) (h : VLinear w v x) (h' : VLinear w v' y) :
    Calls Try.prog 19 #[v, v'] w fun e w' => e = .returned (.bool (sameLinB x y)) ∧ Below w.heap.size w w' := by
  obtain ⟨p1, c1, p2, c2, p3, c3, p4, c4, rfl, r1, r2, r3, r4⟩ := h
  obtain ⟨q1, d1, q2, d2, q3, d3, q4, d4, rfl, s1, s2, s3, s4⟩ := h'
  have hB0 : Below w.heap.size w ((w.alloc (.cells #[.int .i64 x.inputs, .slice p1 x.A.length c1, .slice p2 x.B.length c2, .slice p3 x.C.length c3, .slice p4 x.D.length c4] 31)).alloc (.cells #[.int .i64 y.inputs, .slice q1 y.A.length d1, .slice q2 y.B.length d2, .slice q3 y.C.length d3, .slice q4 y.D.length d4] 31)) := ((Below.refl _ _).alloc (Nat.le_refl _) _).alloc (by simp) _
  have ba0 : Box ((w.alloc (.cells #[.int .i64 x.inputs, .slice p1 x.A.length c1, .slice p2 x.B.length c2, .slice p3 x.C.length c3, .slice p4 x.D.length c4] 31)).alloc (.cells #[.int .i64 y.inputs, .slice q1 y.A.length d1, .slice q2 y.B.length d2, .slice q3 y.C.length d3, .slice q4 y.D.length d4] 31)) w.heap.size [.int .i64 x.inputs, .slice p1 x.A.length c1, .slice p2 x.B.length c2, .slice p3 x.C.length c3, .slice p4 x.D.length c4] 31 := (Box.newAt w [.int .i64 x.inputs, .slice p1 x.A.length c1, .slice p2 x.B.length c2, .slice p3 x.C.length c3, .slice p4 x.D.length c4] _ rfl).alloc _
  have bb0 : Box ((w.alloc (.cells #[.int .i64 x.inputs, .slice p1 x.A.length c1, .slice p2 x.B.length c2, .slice p3 x.C.length c3, .slice p4 x.D.length c4] 31)).alloc (.cells #[.int .i64 y.inputs, .slice q1 y.A.length d1, .slice q2 y.B.length d2, .slice q3 y.C.length d3, .slice q4 y.D.length d4] 31)) (w.heap.size + 1) [.int .i64 y.inputs, .slice q1 y.A.length d1, .slice q2 y.B.length d2, .slice q3 y.C.length d3, .slice q4 y.D.length d4] 31 := Box.newAt (w.alloc _) [.int .i64 y.inputs, .slice q1 y.A.length d1, .slice q2 y.B.length d2, .slice q3 y.C.length d3, .slice q4 y.D.length d4] _ (by simp)
  by_cases e0 : x.inputs = y.inputs
  case neg =>
    have t0 : (x.inputs == y.inputs) = false := by simp [e0]
    have HR : Hid (sameLinB x y = false) := by unfold sameLinB Hid; rw [decide_eq_false e0]; simp
    clear e0
    go_enter Try.func19, Try.ntmps19
    go_wp2_with fail
    go_ret
    exact ⟨ret_bool HR.out.symm, hB0⟩
  by_cases e1 : x.A = y.A
  case neg =>
    have t1 : decide (x.A = y.A) = false := by simp [e1]
    have HR : Hid (sameLinB x y = false) := by unfold sameLinB Hid; rw [decide_eq_false e1]; simp
    have t0 : (x.inputs == y.inputs) = true := by simp [e0]
    clear e0 e1
    go_enter Try.func19, Try.ntmps19
    go_wp2_with fail
    refine (sameAll_any _ (r1.below hB0) (s1.below hB0)).mono ?_
    rintro e F ⟨rfl, rfl⟩
    have hB1 := hB0
    go_wp2_with fail
    go_ret
    exact ⟨ret_bool HR.out.symm, hB1⟩
  by_cases e2 : x.B = y.B
  case neg =>
    have t2 : decide (x.B = y.B) = false := by simp [e2]
    have HR : Hid (sameLinB x y = false) := by unfold sameLinB Hid; rw [decide_eq_false e2]; simp
    have t0 : (x.inputs == y.inputs) = true := by simp [e0]
    have t1 : decide (x.A = y.A) = true := by simp [e1]
    clear e0 e1 e2
    go_enter Try.func19, Try.ntmps19
    go_wp2_with fail
    refine (sameAll_any _ (r1.below hB0) (s1.below hB0)).mono ?_
    rintro e F ⟨rfl, rfl⟩
    have hB1 := hB0
    go_wp2_with fail
    refine (sameAll_any _ (r2.below hB1) (s2.below hB1)).mono ?_
    rintro e F ⟨rfl, rfl⟩
    have hB2 := hB1
    go_wp2_with fail
    go_ret
    exact ⟨ret_bool HR.out.symm, hB2⟩
  by_cases e3 : x.C = y.C
  case neg =>
    have t3 : decide (x.C = y.C) = false := by simp [e3]
    have HR : Hid (sameLinB x y = false) := by unfold sameLinB Hid; rw [decide_eq_false e3]; simp
    have t0 : (x.inputs == y.inputs) = true := by simp [e0]
    have t1 : decide (x.A = y.A) = true := by simp [e1]
    have t2 : decide (x.B = y.B) = true := by simp [e2]
    clear e0 e1 e2 e3
    go_enter Try.func19, Try.ntmps19
    go_wp2_with fail
    refine (sameAll_any _ (r1.below hB0) (s1.below hB0)).mono ?_
    rintro e F ⟨rfl, rfl⟩
    have hB1 := hB0
    go_wp2_with fail
    refine (sameAll_any _ (r2.below hB1) (s2.below hB1)).mono ?_
    rintro e F ⟨rfl, rfl⟩
    have hB2 := hB1
    go_wp2_with fail
    refine (sameAll_any _ (r3.below hB2) (s3.below hB2)).mono ?_
    rintro e F ⟨rfl, rfl⟩
    have hB3 := hB2
    go_wp2_with fail
    go_ret
    exact ⟨ret_bool HR.out.symm, hB3⟩
  by_cases e4 : x.D = y.D
  case neg =>
    have t4 : decide (x.D = y.D) = false := by simp [e4]
    have HR : Hid (sameLinB x y = false) := by unfold sameLinB Hid; rw [decide_eq_false e4]; simp
    have t0 : (x.inputs == y.inputs) = true := by simp [e0]
    have t1 : decide (x.A = y.A) = true := by simp [e1]
    have t2 : decide (x.B = y.B) = true := by simp [e2]
    have t3 : decide (x.C = y.C) = true := by simp [e3]
    clear e0 e1 e2 e3 e4
    go_enter Try.func19, Try.ntmps19
    go_wp2_with fail
    refine (sameAll_any _ (r1.below hB0) (s1.below hB0)).mono ?_
    rintro e F ⟨rfl, rfl⟩
    have hB1 := hB0
    go_wp2_with fail
    refine (sameAll_any _ (r2.below hB1) (s2.below hB1)).mono ?_
    rintro e F ⟨rfl, rfl⟩
    have hB2 := hB1
    go_wp2_with fail
    refine (sameAll_any _ (r3.below hB2) (s3.below hB2)).mono ?_
    rintro e F ⟨rfl, rfl⟩
    have hB3 := hB2
    go_wp2_with fail
    refine (sameAll_any _ (r4.below hB3) (s4.below hB3)).mono ?_
    rintro e F ⟨rfl, rfl⟩
    have hB4 := hB3
    go_wp2_with fail
    go_ret
    exact ⟨ret_bool HR.out.symm, hB4⟩
  have HR : Hid (sameLinB x y = true) := by unfold sameLinB Hid; rw [decide_eq_true e0, decide_eq_true e1, decide_eq_true e2, decide_eq_true e3, decide_eq_true e4]; rfl
  have t0 : (x.inputs == y.inputs) = true := by simp [e0]
  have t1 : decide (x.A = y.A) = true := by simp [e1]
  have t2 : decide (x.B = y.B) = true := by simp [e2]
  have t3 : decide (x.C = y.C) = true := by simp [e3]
  have t4 : decide (x.D = y.D) = true := by simp [e4]
  clear e0 e1 e2 e3 e4
  go_enter Try.func19, Try.ntmps19
  go_wp2_with fail
  refine (sameAll_any _ (r1.below hB0) (s1.below hB0)).mono ?_
  rintro e F ⟨rfl, rfl⟩
  have hB1 := hB0
  go_wp2_with fail
  refine (sameAll_any _ (r2.below hB1) (s2.below hB1)).mono ?_
  rintro e F ⟨rfl, rfl⟩
  have hB2 := hB1
  go_wp2_with fail
  refine (sameAll_any _ (r3.below hB2) (s3.below hB2)).mono ?_
  rintro e F ⟨rfl, rfl⟩
  have hB3 := hB2
  go_wp2_with fail
  refine (sameAll_any _ (r4.below hB3) (s4.below hB3)).mono ?_
  rintro e F ⟨rfl, rfl⟩
  have hB4 := hB3
  go_wp2_with fail
  go_ret
  exact ⟨ret_bool HR.out.symm, hB4⟩
set_option maxHeartbeats 1600000 in
theorem specSameLinear_v {v v' : Value} {x y : LinearD} (w : World) (h : VLinear w v x) (h' : VLinear w v' y) :
    Calls Try.prog 17 #[v, v'] w fun e w' => e = .returned (.bool (sameLinB x y)) ∧ Below w.heap.size w w' := by
  obtain ⟨p1, c1, p2, c2, p3, c3, p4, c4, rfl, r1, r2, r3, r4⟩ := h
  obtain ⟨q1, d1, q2, d2, q3, d3, q4, d4, rfl, s1, s2, s3, s4⟩ := h'
  have hB0 : Below w.heap.size w ((w.alloc (.cells #[.int .i64 x.inputs, .slice p1 x.A.length c1, .slice p2 x.B.length c2, .slice p3 x.C.length c3, .slice p4 x.D.length c4] 31)).alloc (.cells #[.int .i64 y.inputs, .slice q1 y.A.length d1, .slice q2 y.B.length d2, .slice q3 y.C.length d3, .slice q4 y.D.length d4] 31)) := ((Below.refl _ _).alloc (Nat.le_refl _) _).alloc (by simp) _
  have ba0 : Box ((w.alloc (.cells #[.int .i64 x.inputs, .slice p1 x.A.length c1, .slice p2 x.B.length c2, .slice p3 x.C.length c3, .slice p4 x.D.length c4] 31)).alloc (.cells #[.int .i64 y.inputs, .slice q1 y.A.length d1, .slice q2 y.B.length d2, .slice q3 y.C.length d3, .slice q4 y.D.length d4] 31)) w.heap.size [.int .i64 x.inputs, .slice p1 x.A.length c1, .slice p2 x.B.length c2, .slice p3 x.C.length c3, .slice p4 x.D.length c4] 31 := (Box.newAt w [.int .i64 x.inputs, .slice p1 x.A.length c1, .slice p2 x.B.length c2, .slice p3 x.C.length c3, .slice p4 x.D.length c4] _ rfl).alloc _
  have bb0 : Box ((w.alloc (.cells #[.int .i64 x.inputs, .slice p1 x.A.length c1, .slice p2 x.B.length c2, .slice p3 x.C.length c3, .slice p4 x.D.length c4] 31)).alloc (.cells #[.int .i64 y.inputs, .slice q1 y.A.length d1, .slice q2 y.B.length d2, .slice q3 y.C.length d3, .slice q4 y.D.length d4] 31)) (w.heap.size + 1) [.int .i64 y.inputs, .slice q1 y.A.length d1, .slice q2 y.B.length d2, .slice q3 y.C.length d3, .slice q4 y.D.length d4] 31 := Box.newAt (w.alloc _) [.int .i64 y.inputs, .slice q1 y.A.length d1, .slice q2 y.B.length d2, .slice q3 y.C.length d3, .slice q4 y.D.length d4] _ (by simp)
  by_cases e0 : x.inputs = y.inputs
  case neg =>
    have t0 : (x.inputs == y.inputs) = false := by simp [e0]
    have HR : Hid (sameLinB x y = false) := by unfold sameLinB Hid; rw [decide_eq_false e0]; simp
    clear e0
    go_enter Try.func17, Try.ntmps17
    go_wp2_with fail
    go_ret
    exact ⟨ret_bool HR.out.symm, hB0⟩
  by_cases e1 : x.A = y.A
  case neg =>
    have t1 : decide (x.A = y.A) = false := by simp [e1]
    have HR : Hid (sameLinB x y = false) := by unfold sameLinB Hid; rw [decide_eq_false e1]; simp
    have t0 : (x.inputs == y.inputs) = true := by simp [e0]
    clear e0 e1
    go_enter Try.func17, Try.ntmps17
    go_wp2_with fail
    refine (l09Same_any _ (r1.below hB0) (s1.below hB0)).mono ?_
    rintro e F1 ⟨rfl, hd1⟩
    have hb1 := hd1.below ((w.alloc (.cells #[.int .i64 x.inputs, .slice p1 x.A.length c1, .slice p2 x.B.length c2, .slice p3 x.C.length c3, .slice p4 x.D.length c4] 31)).alloc (.cells #[.int .i64 y.inputs, .slice q1 y.A.length d1, .slice q2 y.B.length d2, .slice q3 y.C.length d3, .slice q4 y.D.length d4] 31)).heap.size
    clear hd1
    have hB1 := hB0.trans (hb1.mono hB0.size)
    go_wp2_with fail
    go_ret
    exact ⟨ret_bool HR.out.symm, hB1⟩
  by_cases e2 : x.B = y.B
  case neg =>
    have t2 : decide (x.B = y.B) = false := by simp [e2]
    have HR : Hid (sameLinB x y = false) := by unfold sameLinB Hid; rw [decide_eq_false e2]; simp
    have t0 : (x.inputs == y.inputs) = true := by simp [e0]
    have t1 : decide (x.A = y.A) = true := by simp [e1]
    clear e0 e1 e2
    go_enter Try.func17, Try.ntmps17
    go_wp2_with fail
    refine (l09Same_any _ (r1.below hB0) (s1.below hB0)).mono ?_
    rintro e F1 ⟨rfl, hd1⟩
    have hb1 := hd1.below ((w.alloc (.cells #[.int .i64 x.inputs, .slice p1 x.A.length c1, .slice p2 x.B.length c2, .slice p3 x.C.length c3, .slice p4 x.D.length c4] 31)).alloc (.cells #[.int .i64 y.inputs, .slice q1 y.A.length d1, .slice q2 y.B.length d2, .slice q3 y.C.length d3, .slice q4 y.D.length d4] 31)).heap.size
    clear hd1
    have hB1 := hB0.trans (hb1.mono hB0.size)
    have ba1 := ba0.below hb1
    have bb1 := bb0.below hb1
    have za1 := ba1.cell 2 rfl
    have zb1 := bb1.cell 2 rfl
    go_wp2_with fail
    refine (l09Same_any _ (r2.below hB1) (s2.below hB1)).mono ?_
    rintro e F2 ⟨rfl, hd2⟩
    have hb2 := hd2.below F1.heap.size
    clear hd2
    have hB2 := hB1.trans (hb2.mono hB1.size)
    go_wp2_with fail
    go_ret
    exact ⟨ret_bool HR.out.symm, hB2⟩
  by_cases e3 : x.C = y.C
  case neg =>
    have t3 : decide (x.C = y.C) = false := by simp [e3]
    have HR : Hid (sameLinB x y = false) := by unfold sameLinB Hid; rw [decide_eq_false e3]; simp
    have t0 : (x.inputs == y.inputs) = true := by simp [e0]
    have t1 : decide (x.A = y.A) = true := by simp [e1]
    have t2 : decide (x.B = y.B) = true := by simp [e2]
    clear e0 e1 e2 e3
    go_enter Try.func17, Try.ntmps17
    go_wp2_with fail
    refine (l09Same_any _ (r1.below hB0) (s1.below hB0)).mono ?_
    rintro e F1 ⟨rfl, hd1⟩
    have hb1 := hd1.below ((w.alloc (.cells #[.int .i64 x.inputs, .slice p1 x.A.length c1, .slice p2 x.B.length c2, .slice p3 x.C.length c3, .slice p4 x.D.length c4] 31)).alloc (.cells #[.int .i64 y.inputs, .slice q1 y.A.length d1, .slice q2 y.B.length d2, .slice q3 y.C.length d3, .slice q4 y.D.length d4] 31)).heap.size
    clear hd1
    have hB1 := hB0.trans (hb1.mono hB0.size)
    have ba1 := ba0.below hb1
    have bb1 := bb0.below hb1
    have za1 := ba1.cell 2 rfl
    have zb1 := bb1.cell 2 rfl
    go_wp2_with fail
    refine (l09Same_any _ (r2.below hB1) (s2.below hB1)).mono ?_
    rintro e F2 ⟨rfl, hd2⟩
    have hb2 := hd2.below F1.heap.size
    clear hd2
    have hB2 := hB1.trans (hb2.mono hB1.size)
    have ba2 := ba1.below hb2
    have bb2 := bb1.below hb2
    have za2 := ba2.cell 3 rfl
    have zb2 := bb2.cell 3 rfl
    go_wp2_with fail
    refine (l09Same_any _ (r3.below hB2) (s3.below hB2)).mono ?_
    rintro e F3 ⟨rfl, hd3⟩
    have hb3 := hd3.below F2.heap.size
    clear hd3
    have hB3 := hB2.trans (hb3.mono hB2.size)
    go_wp2_with fail
    go_ret
    exact ⟨ret_bool HR.out.symm, hB3⟩
  by_cases e4 : x.D = y.D
  case neg =>
    have t4 : decide (x.D = y.D) = false := by simp [e4]
    have HR : Hid (sameLinB x y = false) := by unfold sameLinB Hid; rw [decide_eq_false e4]; simp
    have t0 : (x.inputs == y.inputs) = true := by simp [e0]
    have t1 : decide (x.A = y.A) = true := by simp [e1]
    have t2 : decide (x.B = y.B) = true := by simp [e2]
    have t3 : decide (x.C = y.C) = true := by simp [e3]
    clear e0 e1 e2 e3 e4
    go_enter Try.func17, Try.ntmps17
    go_wp2_with fail
    refine (l09Same_any _ (r1.below hB0) (s1.below hB0)).mono ?_
    rintro e F1 ⟨rfl, hd1⟩
    have hb1 := hd1.below ((w.alloc (.cells #[.int .i64 x.inputs, .slice p1 x.A.length c1, .slice p2 x.B.length c2, .slice p3 x.C.length c3, .slice p4 x.D.length c4] 31)).alloc (.cells #[.int .i64 y.inputs, .slice q1 y.A.length d1, .slice q2 y.B.length d2, .slice q3 y.C.length d3, .slice q4 y.D.length d4] 31)).heap.size
    clear hd1
    have hB1 := hB0.trans (hb1.mono hB0.size)
    have ba1 := ba0.below hb1
    have bb1 := bb0.below hb1
    have za1 := ba1.cell 2 rfl
    have zb1 := bb1.cell 2 rfl
    go_wp2_with fail
    refine (l09Same_any _ (r2.below hB1) (s2.below hB1)).mono ?_
    rintro e F2 ⟨rfl, hd2⟩
    have hb2 := hd2.below F1.heap.size
    clear hd2
    have hB2 := hB1.trans (hb2.mono hB1.size)
    have ba2 := ba1.below hb2
    have bb2 := bb1.below hb2
    have za2 := ba2.cell 3 rfl
    have zb2 := bb2.cell 3 rfl
    go_wp2_with fail
    refine (l09Same_any _ (r3.below hB2) (s3.below hB2)).mono ?_
    rintro e F3 ⟨rfl, hd3⟩
    have hb3 := hd3.below F2.heap.size
    clear hd3
    have hB3 := hB2.trans (hb3.mono hB2.size)
    have ba3 := ba2.below hb3
    have bb3 := bb2.below hb3
    have za3 := ba3.cell 4 rfl
    have zb3 := bb3.cell 4 rfl
    go_wp2_with fail
    refine (l09Same_any _ (r4.below hB3) (s4.below hB3)).mono ?_
    rintro e F4 ⟨rfl, hd4⟩
    have hb4 := hd4.below F3.heap.size
    clear hd4
    have hB4 := hB3.trans (hb4.mono hB3.size)
    go_wp2_with fail
    go_ret
    exact ⟨ret_bool HR.out.symm, hB4⟩
  have HR : Hid (sameLinB x y = true) := by unfold sameLinB Hid; rw [decide_eq_true e0, decide_eq_true e1, decide_eq_true e2, decide_eq_true e3, decide_eq_true e4]; rfl
  have t0 : (x.inputs == y.inputs) = true := by simp [e0]
  have t1 : decide (x.A = y.A) = true := by simp [e1]
  have t2 : decide (x.B = y.B) = true := by simp [e2]
  have t3 : decide (x.C = y.C) = true := by simp [e3]
  have t4 : decide (x.D = y.D) = true := by simp [e4]
  clear e0 e1 e2 e3 e4
  go_enter Try.func17, Try.ntmps17
  go_wp2_with fail
  refine (l09Same_any _ (r1.below hB0) (s1.below hB0)).mono ?_
  rintro e F1 ⟨rfl, hd1⟩
  have hb1 := hd1.below ((w.alloc (.cells #[.int .i64 x.inputs, .slice p1 x.A.length c1, .slice p2 x.B.length c2, .slice p3 x.C.length c3, .slice p4 x.D.length c4] 31)).alloc (.cells #[.int .i64 y.inputs, .slice q1 y.A.length d1, .slice q2 y.B.length d2, .slice q3 y.C.length d3, .slice q4 y.D.length d4] 31)).heap.size
  clear hd1
  have hB1 := hB0.trans (hb1.mono hB0.size)
  have ba1 := ba0.below hb1
  have bb1 := bb0.below hb1
  have za1 := ba1.cell 2 rfl
  have zb1 := bb1.cell 2 rfl
  go_wp2_with fail
  refine (l09Same_any _ (r2.below hB1) (s2.below hB1)).mono ?_
  rintro e F2 ⟨rfl, hd2⟩
  have hb2 := hd2.below F1.heap.size
  clear hd2
  have hB2 := hB1.trans (hb2.mono hB1.size)
  have ba2 := ba1.below hb2
  have bb2 := bb1.below hb2
  have za2 := ba2.cell 3 rfl
  have zb2 := bb2.cell 3 rfl
  go_wp2_with fail
  refine (l09Same_any _ (r3.below hB2) (s3.below hB2)).mono ?_
  rintro e F3 ⟨rfl, hd3⟩
  have hb3 := hd3.below F2.heap.size
  clear hd3
  have hB3 := hB2.trans (hb3.mono hB2.size)
  have ba3 := ba2.below hb3
  have bb3 := bb2.below hb3
  have za3 := ba3.cell 4 rfl
  have zb3 := bb3.cell 4 rfl
  go_wp2_with fail
  refine (l09Same_any _ (r4.below hB3) (s4.below hB3)).mono ?_
  rintro e F4 ⟨rfl, hd4⟩
  have hb4 := hd4.below F3.heap.size
  clear hd4
  have hB4 := hB3.trans (hb4.mono hB3.size)
  go_wp2_with fail
  go_ret
  exact ⟨ret_bool HR.out.symm, hB4⟩
theorem okLinB_parts (x : LinearD) : okLinB x = (((((((decide ((x.A.length : Int) ≤ 24)) && inB x.inputs 0 4) && decide ((x.C.length : Int) ≤ 4)) && tabB x.A x.A.length x.A.length) && tabB x.B x.A.length x.inputs) && tabB x.C x.C.length x.A.length) && tabB x.D x.C.length x.inputs) := rfl
set_option maxHeartbeats 3200000 in
theorem l09Ok_v {g : Nat} {x : LinearD} {p1 p2 p3 p4 : Option Addr} {c1 c2 c3 c4 : Nat} (w : World) (ba : Box w g [.int .i64 x.inputs, .slice p1 x.A.length c1, .slice p2 x.B.length c2, .slice p3 x.C.length c3, .slice p4 x.D.length c4] 31) (r1 : RdII w p1 x.A) (r2 : RdII w p2 x.B) (r3 : RdII w p3 x.C) (r4 : RdII w p4 x.D) :
    Calls Try.prog 47 #[.pointer (some ⟨g, 0, none⟩)] w fun e w' => e = .returned (.bool (okLinB x)) ∧ Drawn w w' := by
  have z0 := ba.cell 0 rfl
  have z1 := ba.cell 1 rfl
  have z2 := ba.cell 2 rfl
  have z3 := ba.cell 3 rfl
  have z4 := ba.cell 4 rfl
  have l1 := r1.len
  have l2 := r3.len
  unfold maxLen at l1 l2
  have H1 : ∀ (m : Nat) (b : Bool), inB x.inputs 0 4 = b → Calls Try.prog 72 #[.int .i64 x.inputs, .int .i64 0, .int .i64 4] (w.drewN m) fun e w' => e = .returned (.bool b) ∧ w' = w.drewN m := fun m b hb => (l00In_any _ _ _ _).mono fun e w' h => ⟨by rw [h.1, hb], h.2.symm⟩
  have HA : ∀ (m : Nat) (b : Bool), tabB x.A x.A.length x.A.length = b → Calls Try.prog 69 #[.slice p1 x.A.length c1, .int .i64 x.A.length, .int .i64 x.A.length] (w.drewN m) fun e w' => e = .returned (.bool b) ∧ w' = w.drewN m := fun m b hb => (l09Rows_any _ _ _ (r1.drewN m)).mono fun e w' h => ⟨by rw [h.1, hb], h.2.symm⟩
  have HB : ∀ (m : Nat) (b : Bool), tabB x.B x.A.length x.inputs = b → Calls Try.prog 69 #[.slice p2 x.B.length c2, .int .i64 x.A.length, .int .i64 x.inputs] (w.drewN m) fun e w' => e = .returned (.bool b) ∧ w' = w.drewN m := fun m b hb => (l09Rows_any _ _ _ (r2.drewN m)).mono fun e w' h => ⟨by rw [h.1, hb], h.2.symm⟩
  have HC : ∀ (m : Nat) (b : Bool), tabB x.C x.C.length x.A.length = b → Calls Try.prog 69 #[.slice p3 x.C.length c3, .int .i64 x.C.length, .int .i64 x.A.length] (w.drewN m) fun e w' => e = .returned (.bool b) ∧ w' = w.drewN m := fun m b hb => (l09Rows_any _ _ _ (r3.drewN m)).mono fun e w' h => ⟨by rw [h.1, hb], h.2.symm⟩
  have HD : ∀ (m : Nat) (b : Bool), tabB x.D x.C.length x.inputs = b → Calls Try.prog 69 #[.slice p4 x.D.length c4, .int .i64 x.C.length, .int .i64 x.inputs] (w.drewN m) fun e w' => e = .returned (.bool b) ∧ w' = w.drewN m := fun m b hb => (l09Rows_any _ _ _ (r4.drewN m)).mono fun e w' h => ⟨by rw [h.1, hb], h.2.symm⟩
  have G1 := Lib.hid H1
  have GA := Lib.hid HA
  have GB := Lib.hid HB
  have GC := Lib.hid HC
  have GD := Lib.hid HD
  clear H1 HA HB HC HD
  clear r1 r2 r3 r4 ba
  rw [okLinB_parts]
  cases k0 : decide ((x.A.length : Int) ≤ 24)
  case false =>
    simp only [Bool.false_and, Bool.true_and, Bool.and_false]
    have kk := of_decide_eq_false k0
    go_enter Try.func47, Try.ntmps47
    go_wp2_with fail
    go_quiet (fail)
    go_wp2_with fail
    go_ret
    exact ⟨rfl, _, rfl⟩
  have kk0 := of_decide_eq_true k0
  cases k1 : inB x.inputs 0 4
  case false =>
    simp only [Bool.false_and, Bool.true_and, Bool.and_false]
    have Q1 : Hid (∀ m, Calls Try.prog 72 #[.int .i64 x.inputs, .int .i64 0, .int .i64 4] (w.drewN m) fun e w' => e = .returned (.bool false) ∧ w' = w.drewN m) := fun m => G1.out m _ k1
    go_enter Try.func47, Try.ntmps47
    go_wp2_with fail
    go_quiet ((first | (go_at_call 72; exact Calls.quiet_of_same (Q1.out _))))
    go_wp2_with fail
    go_ret
    exact ⟨rfl, _, rfl⟩
  cases k2 : decide ((x.C.length : Int) ≤ 4)
  case false =>
    simp only [Bool.false_and, Bool.true_and, Bool.and_false]
    have kk := of_decide_eq_false k2
    have Q1 : Hid (∀ m, Calls Try.prog 72 #[.int .i64 x.inputs, .int .i64 0, .int .i64 4] (w.drewN m) fun e w' => e = .returned (.bool true) ∧ w' = w.drewN m) := fun m => G1.out m _ k1
    go_enter Try.func47, Try.ntmps47
    go_wp2_with fail
    go_quiet ((first | (go_at_call 72; exact Calls.quiet_of_same (Q1.out _))))
    go_wp2_with fail
    go_ret
    exact ⟨rfl, _, rfl⟩
  have kk2 := of_decide_eq_true k2
  cases k3 : tabB x.A x.A.length x.A.length
  case false =>
    simp only [Bool.false_and, Bool.true_and, Bool.and_false]
    have Q1 : Hid (∀ m, Calls Try.prog 72 #[.int .i64 x.inputs, .int .i64 0, .int .i64 4] (w.drewN m) fun e w' => e = .returned (.bool true) ∧ w' = w.drewN m) := fun m => G1.out m _ k1
    have QA : Hid (∀ m, Calls Try.prog 69 #[.slice p1 x.A.length c1, .int .i64 x.A.length, .int .i64 x.A.length] (w.drewN m) fun e w' => e = .returned (.bool false) ∧ w' = w.drewN m) := fun m => GA.out m _ k3
    go_enter Try.func47, Try.ntmps47
    go_wp2_with fail
    go_quiet ((first | (go_at_call 72; exact Calls.quiet_of_same (Q1.out _)) | (go_at_call_of 69 (Value.slice p1 x.A.length c1); exact Calls.quiet_of_same (QA.out _))))
    go_wp2_with fail
    go_ret
    exact ⟨rfl, _, rfl⟩
  cases k4 : tabB x.B x.A.length x.inputs
  case false =>
    simp only [Bool.false_and, Bool.true_and, Bool.and_false]
    have Q1 : Hid (∀ m, Calls Try.prog 72 #[.int .i64 x.inputs, .int .i64 0, .int .i64 4] (w.drewN m) fun e w' => e = .returned (.bool true) ∧ w' = w.drewN m) := fun m => G1.out m _ k1
    have QA : Hid (∀ m, Calls Try.prog 69 #[.slice p1 x.A.length c1, .int .i64 x.A.length, .int .i64 x.A.length] (w.drewN m) fun e w' => e = .returned (.bool true) ∧ w' = w.drewN m) := fun m => GA.out m _ k3
    have QB : Hid (∀ m, Calls Try.prog 69 #[.slice p2 x.B.length c2, .int .i64 x.A.length, .int .i64 x.inputs] (w.drewN m) fun e w' => e = .returned (.bool false) ∧ w' = w.drewN m) := fun m => GB.out m _ k4
    go_enter Try.func47, Try.ntmps47
    go_wp2_with fail
    go_quiet ((first | (go_at_call 72; exact Calls.quiet_of_same (Q1.out _)) | (go_at_call_of 69 (Value.slice p1 x.A.length c1); exact Calls.quiet_of_same (QA.out _)) | (go_at_call_of 69 (Value.slice p2 x.B.length c2); exact Calls.quiet_of_same (QB.out _))))
    go_wp2_with fail
    go_ret
    exact ⟨rfl, _, rfl⟩
  cases k5 : tabB x.C x.C.length x.A.length
  case false =>
    simp only [Bool.false_and, Bool.true_and, Bool.and_false]
    have Q1 : Hid (∀ m, Calls Try.prog 72 #[.int .i64 x.inputs, .int .i64 0, .int .i64 4] (w.drewN m) fun e w' => e = .returned (.bool true) ∧ w' = w.drewN m) := fun m => G1.out m _ k1
    have QA : Hid (∀ m, Calls Try.prog 69 #[.slice p1 x.A.length c1, .int .i64 x.A.length, .int .i64 x.A.length] (w.drewN m) fun e w' => e = .returned (.bool true) ∧ w' = w.drewN m) := fun m => GA.out m _ k3
    have QB : Hid (∀ m, Calls Try.prog 69 #[.slice p2 x.B.length c2, .int .i64 x.A.length, .int .i64 x.inputs] (w.drewN m) fun e w' => e = .returned (.bool true) ∧ w' = w.drewN m) := fun m => GB.out m _ k4
    have QC : Hid (∀ m, Calls Try.prog 69 #[.slice p3 x.C.length c3, .int .i64 x.C.length, .int .i64 x.A.length] (w.drewN m) fun e w' => e = .returned (.bool false) ∧ w' = w.drewN m) := fun m => GC.out m _ k5
    go_enter Try.func47, Try.ntmps47
    go_wp2_with fail
    go_quiet ((first | (go_at_call 72; exact Calls.quiet_of_same (Q1.out _)) | (go_at_call_of 69 (Value.slice p1 x.A.length c1); exact Calls.quiet_of_same (QA.out _)) | (go_at_call_of 69 (Value.slice p2 x.B.length c2); exact Calls.quiet_of_same (QB.out _)) | (go_at_call_of 69 (Value.slice p3 x.C.length c3); exact Calls.quiet_of_same (QC.out _))))
    go_wp2_with fail
    go_ret
    exact ⟨rfl, _, rfl⟩
  cases k6 : tabB x.D x.C.length x.inputs
  case false =>
    simp only [Bool.false_and, Bool.true_and, Bool.and_false]
    have Q1 : Hid (∀ m, Calls Try.prog 72 #[.int .i64 x.inputs, .int .i64 0, .int .i64 4] (w.drewN m) fun e w' => e = .returned (.bool true) ∧ w' = w.drewN m) := fun m => G1.out m _ k1
    have QA : Hid (∀ m, Calls Try.prog 69 #[.slice p1 x.A.length c1, .int .i64 x.A.length, .int .i64 x.A.length] (w.drewN m) fun e w' => e = .returned (.bool true) ∧ w' = w.drewN m) := fun m => GA.out m _ k3
    have QB : Hid (∀ m, Calls Try.prog 69 #[.slice p2 x.B.length c2, .int .i64 x.A.length, .int .i64 x.inputs] (w.drewN m) fun e w' => e = .returned (.bool true) ∧ w' = w.drewN m) := fun m => GB.out m _ k4
    have QC : Hid (∀ m, Calls Try.prog 69 #[.slice p3 x.C.length c3, .int .i64 x.C.length, .int .i64 x.A.length] (w.drewN m) fun e w' => e = .returned (.bool true) ∧ w' = w.drewN m) := fun m => GC.out m _ k5
    have QD : Hid (∀ m, Calls Try.prog 69 #[.slice p4 x.D.length c4, .int .i64 x.C.length, .int .i64 x.inputs] (w.drewN m) fun e w' => e = .returned (.bool false) ∧ w' = w.drewN m) := fun m => GD.out m _ k6
    go_enter Try.func47, Try.ntmps47
    go_wp2_with fail
    go_quiet ((first | (go_at_call 72; exact Calls.quiet_of_same (Q1.out _)) | (go_at_call_of 69 (Value.slice p1 x.A.length c1); exact Calls.quiet_of_same (QA.out _)) | (go_at_call_of 69 (Value.slice p2 x.B.length c2); exact Calls.quiet_of_same (QB.out _)) | (go_at_call_of 69 (Value.slice p3 x.C.length c3); exact Calls.quiet_of_same (QC.out _)) | (go_at_call_of 69 (Value.slice p4 x.D.length c4); exact Calls.quiet_of_same (QD.out _))))
    go_wp2_with fail
    go_ret
    exact ⟨rfl, _, rfl⟩
  simp only [Bool.true_and]
  have Q1 : Hid (∀ m, Calls Try.prog 72 #[.int .i64 x.inputs, .int .i64 0, .int .i64 4] (w.drewN m) fun e w' => e = .returned (.bool true) ∧ w' = w.drewN m) := fun m => G1.out m _ k1
  have QA : Hid (∀ m, Calls Try.prog 69 #[.slice p1 x.A.length c1, .int .i64 x.A.length, .int .i64 x.A.length] (w.drewN m) fun e w' => e = .returned (.bool true) ∧ w' = w.drewN m) := fun m => GA.out m _ k3
  have QB : Hid (∀ m, Calls Try.prog 69 #[.slice p2 x.B.length c2, .int .i64 x.A.length, .int .i64 x.inputs] (w.drewN m) fun e w' => e = .returned (.bool true) ∧ w' = w.drewN m) := fun m => GB.out m _ k4
  have QC : Hid (∀ m, Calls Try.prog 69 #[.slice p3 x.C.length c3, .int .i64 x.C.length, .int .i64 x.A.length] (w.drewN m) fun e w' => e = .returned (.bool true) ∧ w' = w.drewN m) := fun m => GC.out m _ k5
  have QD : Hid (∀ m, Calls Try.prog 69 #[.slice p4 x.D.length c4, .int .i64 x.C.length, .int .i64 x.inputs] (w.drewN m) fun e w' => e = .returned (.bool true) ∧ w' = w.drewN m) := fun m => GD.out m _ k6
  go_enter Try.func47, Try.ntmps47
  go_wp2_with fail
  go_quiet ((first | (go_at_call 72; exact Calls.quiet_of_same (Q1.out _)) | (go_at_call_of 69 (Value.slice p1 x.A.length c1); exact Calls.quiet_of_same (QA.out _)) | (go_at_call_of 69 (Value.slice p2 x.B.length c2); exact Calls.quiet_of_same (QB.out _)) | (go_at_call_of 69 (Value.slice p3 x.C.length c3); exact Calls.quiet_of_same (QC.out _)) | (go_at_call_of 69 (Value.slice p4 x.D.length c4); exact Calls.quiet_of_same (QD.out _))))
  go_wp2_with fail
  go_ret
  exact ⟨rfl, _, rfl⟩
set_option maxHeartbeats 800000 in
theorem specValidLinear_v {v : Value} {x : LinearD} (w : World) (h : VLinear w v x) :
    Calls Try.prog 21 #[v] w fun e w' => e = .returned (.bool (okLinB x)) ∧ Below w.heap.size w w' := by
  obtain ⟨p1, c1, p2, c2, p3, c3, p4, c4, rfl, r1, r2, r3, r4⟩ := h
  have hB0 : Below w.heap.size w (w.alloc (.cells #[.int .i64 x.inputs, .slice p1 x.A.length c1, .slice p2 x.B.length c2, .slice p3 x.C.length c3, .slice p4 x.D.length c4] 31)) := (Below.refl _ _).alloc (Nat.le_refl _) _
  have ba0 := Box.new w [.int .i64 x.inputs, .slice p1 x.A.length c1, .slice p2 x.B.length c2, .slice p3 x.C.length c3, .slice p4 x.D.length c4] 31
  go_enter Try.func21, Try.ntmps21
  go_wp2_with fail
  refine (l09Ok_v _ ba0 (r1.below hB0) (r2.below hB0) (r3.below hB0) (r4.below hB0)).mono ?_
  rintro e F1 ⟨rfl, hd⟩
  have hb1 := hB0.trans (hd.below _)
  clear hd
  go_wp2_with fail
  go_ret
  exact ⟨rfl, hb1⟩
set_option maxHeartbeats 3200000 in
theorem implValidLinear_v {v : Value} {x : LinearD} (w : World) (h : VLinear w v x) :
    Calls Try.prog 22 #[v] w fun e w' => e = .returned (.bool (okLinB x)) ∧ Below w.heap.size w w' := by
  obtain ⟨p1, c1, p2, c2, p3, c3, p4, c4, rfl, r1, r2, r3, r4⟩ := h
  obtain ⟨E0, hE0⟩ : ∃ E, E = w.alloc (.cells #[.int .i64 x.inputs, .slice p1 x.A.length c1, .slice p2 x.B.length c2, .slice p3 x.C.length c3, .slice p4 x.D.length c4] 31) := ⟨_, rfl⟩
  have hB0 : Below w.heap.size w E0 := by rw [hE0]; exact (Below.refl _ _).alloc (Nat.le_refl _) _
  have ba0 : Box E0 w.heap.size [.int .i64 x.inputs, .slice p1 x.A.length c1, .slice p2 x.B.length c2, .slice p3 x.C.length c3, .slice p4 x.D.length c4] 31 := by rw [hE0]; exact Box.new w [.int .i64 x.inputs, .slice p1 x.A.length c1, .slice p2 x.B.length c2, .slice p3 x.C.length c3, .slice p4 x.D.length c4] 31
  have HE := Lib.hid hE0
  clear hE0
  have z0 := ba0.cell 0 rfl
  have z1 := ba0.cell 1 rfl
  have z2 := ba0.cell 2 rfl
  have z3 := ba0.cell 3 rfl
  have z4 := ba0.cell 4 rfl
  have l1 := r1.len
  have l2 := r3.len
  have S1 : Hid (∀ m, Calls Try.prog 48 #[.slice p1 x.A.length c1] (E0.drewN m) fun e w' => e = .returned (.int .i64 x.A.length) ∧ w' = E0.drewN m) := fun m => (sizeII_any _ _ _ _ l1).mono fun e w' h => ⟨h.1, h.2.symm⟩
  have S3 : Hid (∀ m, Calls Try.prog 48 #[.slice p3 x.C.length c3] (E0.drewN m) fun e w' => e = .returned (.int .i64 x.C.length) ∧ w' = E0.drewN m) := fun m => (sizeII_any _ _ _ _ l2).mono fun e w' h => ⟨h.1, h.2.symm⟩
  unfold maxLen at l1 l2
  have R1 : Hid (∀ m, RdII (E0.drewN m) p1 x.A) := fun m => (r1.below hB0).drewN m
  have R2 : Hid (∀ m, RdII (E0.drewN m) p2 x.B) := fun m => (r2.below hB0).drewN m
  have R3 : Hid (∀ m, RdII (E0.drewN m) p3 x.C) := fun m => (r3.below hB0).drewN m
  have R4 : Hid (∀ m, RdII (E0.drewN m) p4 x.D) := fun m => (r4.below hB0).drewN m
  clear r1 r2 r3 r4 ba0
  rw [okLinB_parts]
  cases k0 : decide ((x.A.length : Int) ≤ 24)
  case false =>
    simp only [Bool.false_and, Bool.true_and, Bool.and_false]
    have kk := of_decide_eq_false k0
    go_enter Try.func22, Try.ntmps22
    go_wp2_with fail
    rw [← HE.out]
    go_quiet ((first | (go_at_call_of 48 (Value.slice p1 x.A.length c1); exact Calls.quiet_of_same (S1.out _)) | (go_at_call_of 48 (Value.slice p3 x.C.length c3); exact Calls.quiet_of_same (S3.out _))))
    go_wp2_with (first | (go_at_call 49; refine (within_any _ _ _ _).mono ?_; rintro e w' ⟨rfl, rfl⟩) | (go_at_call_of 50 (Value.slice p1 x.A.length c1); refine (isTable_any _ _ _ (R1.out _)).mono ?_; rintro e w' ⟨rfl, rfl⟩) | (go_at_call_of 50 (Value.slice p2 x.B.length c2); refine (isTable_any _ _ _ (R2.out _)).mono ?_; rintro e w' ⟨rfl, rfl⟩) | (go_at_call_of 50 (Value.slice p3 x.C.length c3); refine (isTable_any _ _ _ (R3.out _)).mono ?_; rintro e w' ⟨rfl, rfl⟩) | (go_at_call_of 50 (Value.slice p4 x.D.length c4); refine (isTable_any _ _ _ (R4.out _)).mono ?_; rintro e w' ⟨rfl, rfl⟩))
    go_ret
    exact ⟨rfl, below_drewN hB0 _⟩
  have kk0 := of_decide_eq_true k0
  cases k1 : inB x.inputs 0 4
  case false =>
    simp only [Bool.false_and, Bool.true_and, Bool.and_false]
    go_enter Try.func22, Try.ntmps22
    go_wp2_with fail
    rw [← HE.out]
    go_quiet ((first | (go_at_call_of 48 (Value.slice p1 x.A.length c1); exact Calls.quiet_of_same (S1.out _)) | (go_at_call_of 48 (Value.slice p3 x.C.length c3); exact Calls.quiet_of_same (S3.out _))))
    go_wp2_with (first | (go_at_call 49; refine (within_any _ _ _ _).mono ?_; rintro e w' ⟨rfl, rfl⟩) | (go_at_call_of 50 (Value.slice p1 x.A.length c1); refine (isTable_any _ _ _ (R1.out _)).mono ?_; rintro e w' ⟨rfl, rfl⟩) | (go_at_call_of 50 (Value.slice p2 x.B.length c2); refine (isTable_any _ _ _ (R2.out _)).mono ?_; rintro e w' ⟨rfl, rfl⟩) | (go_at_call_of 50 (Value.slice p3 x.C.length c3); refine (isTable_any _ _ _ (R3.out _)).mono ?_; rintro e w' ⟨rfl, rfl⟩) | (go_at_call_of 50 (Value.slice p4 x.D.length c4); refine (isTable_any _ _ _ (R4.out _)).mono ?_; rintro e w' ⟨rfl, rfl⟩))
    go_ret
    exact ⟨rfl, below_drewN hB0 _⟩
  cases k2 : decide ((x.C.length : Int) ≤ 4)
  case false =>
    simp only [Bool.false_and, Bool.true_and, Bool.and_false]
    have kk := of_decide_eq_false k2
    go_enter Try.func22, Try.ntmps22
    go_wp2_with fail
    rw [← HE.out]
    go_quiet ((first | (go_at_call_of 48 (Value.slice p1 x.A.length c1); exact Calls.quiet_of_same (S1.out _)) | (go_at_call_of 48 (Value.slice p3 x.C.length c3); exact Calls.quiet_of_same (S3.out _))))
    go_wp2_with (first | (go_at_call 49; refine (within_any _ _ _ _).mono ?_; rintro e w' ⟨rfl, rfl⟩) | (go_at_call_of 50 (Value.slice p1 x.A.length c1); refine (isTable_any _ _ _ (R1.out _)).mono ?_; rintro e w' ⟨rfl, rfl⟩) | (go_at_call_of 50 (Value.slice p2 x.B.length c2); refine (isTable_any _ _ _ (R2.out _)).mono ?_; rintro e w' ⟨rfl, rfl⟩) | (go_at_call_of 50 (Value.slice p3 x.C.length c3); refine (isTable_any _ _ _ (R3.out _)).mono ?_; rintro e w' ⟨rfl, rfl⟩) | (go_at_call_of 50 (Value.slice p4 x.D.length c4); refine (isTable_any _ _ _ (R4.out _)).mono ?_; rintro e w' ⟨rfl, rfl⟩))
    go_ret
    exact ⟨rfl, below_drewN hB0 _⟩
  have kk2 := of_decide_eq_true k2
  cases k3 : tabB x.A x.A.length x.A.length
  case false =>
    simp only [Bool.false_and, Bool.true_and, Bool.and_false]
    go_enter Try.func22, Try.ntmps22
    go_wp2_with fail
    rw [← HE.out]
    go_quiet ((first | (go_at_call_of 48 (Value.slice p1 x.A.length c1); exact Calls.quiet_of_same (S1.out _)) | (go_at_call_of 48 (Value.slice p3 x.C.length c3); exact Calls.quiet_of_same (S3.out _))))
    go_wp2_with (first | (go_at_call 49; refine (within_any _ _ _ _).mono ?_; rintro e w' ⟨rfl, rfl⟩) | (go_at_call_of 50 (Value.slice p1 x.A.length c1); refine (isTable_any _ _ _ (R1.out _)).mono ?_; rintro e w' ⟨rfl, rfl⟩) | (go_at_call_of 50 (Value.slice p2 x.B.length c2); refine (isTable_any _ _ _ (R2.out _)).mono ?_; rintro e w' ⟨rfl, rfl⟩) | (go_at_call_of 50 (Value.slice p3 x.C.length c3); refine (isTable_any _ _ _ (R3.out _)).mono ?_; rintro e w' ⟨rfl, rfl⟩) | (go_at_call_of 50 (Value.slice p4 x.D.length c4); refine (isTable_any _ _ _ (R4.out _)).mono ?_; rintro e w' ⟨rfl, rfl⟩))
    go_ret
    exact ⟨rfl, below_drewN hB0 _⟩
  cases k4 : tabB x.B x.A.length x.inputs
  case false =>
    simp only [Bool.false_and, Bool.true_and, Bool.and_false]
    go_enter Try.func22, Try.ntmps22
    go_wp2_with fail
    rw [← HE.out]
    go_quiet ((first | (go_at_call_of 48 (Value.slice p1 x.A.length c1); exact Calls.quiet_of_same (S1.out _)) | (go_at_call_of 48 (Value.slice p3 x.C.length c3); exact Calls.quiet_of_same (S3.out _))))
    go_wp2_with (first | (go_at_call 49; refine (within_any _ _ _ _).mono ?_; rintro e w' ⟨rfl, rfl⟩) | (go_at_call_of 50 (Value.slice p1 x.A.length c1); refine (isTable_any _ _ _ (R1.out _)).mono ?_; rintro e w' ⟨rfl, rfl⟩) | (go_at_call_of 50 (Value.slice p2 x.B.length c2); refine (isTable_any _ _ _ (R2.out _)).mono ?_; rintro e w' ⟨rfl, rfl⟩) | (go_at_call_of 50 (Value.slice p3 x.C.length c3); refine (isTable_any _ _ _ (R3.out _)).mono ?_; rintro e w' ⟨rfl, rfl⟩) | (go_at_call_of 50 (Value.slice p4 x.D.length c4); refine (isTable_any _ _ _ (R4.out _)).mono ?_; rintro e w' ⟨rfl, rfl⟩))
    go_ret
    exact ⟨rfl, below_drewN hB0 _⟩
  cases k5 : tabB x.C x.C.length x.A.length
  case false =>
    simp only [Bool.false_and, Bool.true_and, Bool.and_false]
    go_enter Try.func22, Try.ntmps22
    go_wp2_with fail
    rw [← HE.out]
    go_quiet ((first | (go_at_call_of 48 (Value.slice p1 x.A.length c1); exact Calls.quiet_of_same (S1.out _)) | (go_at_call_of 48 (Value.slice p3 x.C.length c3); exact Calls.quiet_of_same (S3.out _))))
    go_wp2_with (first | (go_at_call 49; refine (within_any _ _ _ _).mono ?_; rintro e w' ⟨rfl, rfl⟩) | (go_at_call_of 50 (Value.slice p1 x.A.length c1); refine (isTable_any _ _ _ (R1.out _)).mono ?_; rintro e w' ⟨rfl, rfl⟩) | (go_at_call_of 50 (Value.slice p2 x.B.length c2); refine (isTable_any _ _ _ (R2.out _)).mono ?_; rintro e w' ⟨rfl, rfl⟩) | (go_at_call_of 50 (Value.slice p3 x.C.length c3); refine (isTable_any _ _ _ (R3.out _)).mono ?_; rintro e w' ⟨rfl, rfl⟩) | (go_at_call_of 50 (Value.slice p4 x.D.length c4); refine (isTable_any _ _ _ (R4.out _)).mono ?_; rintro e w' ⟨rfl, rfl⟩))
    go_ret
    exact ⟨rfl, below_drewN hB0 _⟩
  cases k6 : tabB x.D x.C.length x.inputs
  case false =>
    simp only [Bool.false_and, Bool.true_and, Bool.and_false]
    go_enter Try.func22, Try.ntmps22
    go_wp2_with fail
    rw [← HE.out]
    go_quiet ((first | (go_at_call_of 48 (Value.slice p1 x.A.length c1); exact Calls.quiet_of_same (S1.out _)) | (go_at_call_of 48 (Value.slice p3 x.C.length c3); exact Calls.quiet_of_same (S3.out _))))
    go_wp2_with (first | (go_at_call 49; refine (within_any _ _ _ _).mono ?_; rintro e w' ⟨rfl, rfl⟩) | (go_at_call_of 50 (Value.slice p1 x.A.length c1); refine (isTable_any _ _ _ (R1.out _)).mono ?_; rintro e w' ⟨rfl, rfl⟩) | (go_at_call_of 50 (Value.slice p2 x.B.length c2); refine (isTable_any _ _ _ (R2.out _)).mono ?_; rintro e w' ⟨rfl, rfl⟩) | (go_at_call_of 50 (Value.slice p3 x.C.length c3); refine (isTable_any _ _ _ (R3.out _)).mono ?_; rintro e w' ⟨rfl, rfl⟩) | (go_at_call_of 50 (Value.slice p4 x.D.length c4); refine (isTable_any _ _ _ (R4.out _)).mono ?_; rintro e w' ⟨rfl, rfl⟩))
    go_ret
    exact ⟨rfl, below_drewN hB0 _⟩
  simp only [Bool.true_and]
  go_enter Try.func22, Try.ntmps22
  go_wp2_with fail
  rw [← HE.out]
  go_quiet ((first | (go_at_call_of 48 (Value.slice p1 x.A.length c1); exact Calls.quiet_of_same (S1.out _)) | (go_at_call_of 48 (Value.slice p3 x.C.length c3); exact Calls.quiet_of_same (S3.out _))))
  go_wp2_with (first | (go_at_call 49; refine (within_any _ _ _ _).mono ?_; rintro e w' ⟨rfl, rfl⟩) | (go_at_call_of 50 (Value.slice p1 x.A.length c1); refine (isTable_any _ _ _ (R1.out _)).mono ?_; rintro e w' ⟨rfl, rfl⟩) | (go_at_call_of 50 (Value.slice p2 x.B.length c2); refine (isTable_any _ _ _ (R2.out _)).mono ?_; rintro e w' ⟨rfl, rfl⟩) | (go_at_call_of 50 (Value.slice p3 x.C.length c3); refine (isTable_any _ _ _ (R3.out _)).mono ?_; rintro e w' ⟨rfl, rfl⟩) | (go_at_call_of 50 (Value.slice p4 x.D.length c4); refine (isTable_any _ _ _ (R4.out _)).mono ?_; rintro e w' ⟨rfl, rfl⟩))
  go_ret
  exact ⟨rfl, below_drewN hB0 _⟩
end Go.Proofs.Ytlfhdocgemiogaa
