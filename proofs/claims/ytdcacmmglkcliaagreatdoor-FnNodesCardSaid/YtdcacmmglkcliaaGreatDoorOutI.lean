/-
  The program's output of a node, kind by kind.
-/
import Derived.Test.YtdcacmmglkcliaaGreatDoorOutA
namespace Go.Proofs.YtdcacmmglkcliaaGreatDoor
open Go.ChangeShapes Go.WideShapes Go.ChangeAt Go.RowKit Go.Sort
set_option linter.unusedVariables false

set_option maxHeartbeats 4000000 in
theorem output_1 {pn : Option Addr} {nn cn : Nat} {A B : Int} {vt : Value} {ba oa na ca : Nat} {x0 : Int} (w : World) (hx0 : w.cell? ⟨ba, oa, none⟩ = some (.int .i64 x0)) (la : 1 ≤ na) :
    Calls Tryz.prog 79 #[.agg #[.int .i64 1, .int .i64 A, .int .i64 B, .slice pn nn cn], vt, .slice (some ⟨ba, oa, none⟩) na ca] w fun e w' => e = .returned (.int .i64 (x0)) ∧ Below w.heap.size w w' := by
  obtain ⟨E0, hE0⟩ : ∃ E, E = w.alloc (.cells #[.int .i64 1, .int .i64 A, .int .i64 B, .slice pn nn cn] 26) := ⟨_, rfl⟩
  have hB0 : Below w.heap.size w E0 := by rw [hE0]; exact (Below.refl _ _).alloc (Nat.le_refl _) _
  have bx : Box E0 w.heap.size [.int .i64 1, .int .i64 A, .int .i64 B, .slice pn nn cn] 26 := by rw [hE0]; exact Box.newAt w _ _ rfl
  replace hx0 := (hB0.cell (p := ⟨ba, oa, none⟩) (World.block_lt_of_cell? w _ hx0)).trans hx0
  have z0 := bx.cell 0 rfl
  have z1 := bx.cell 1 rfl
  have HE := Lib.hid hE0
  clear hE0
  go_enter Tryz.func79, Tryz.ntmps79
  go_upto_region 1 with fail
  rw [← HE.out]
  go_wp2_with fail
  go_ret
  exact ⟨rfl, hB0⟩
set_option maxHeartbeats 4000000 in
theorem output_2 {pn : Option Addr} {nn cn : Nat} {A B : Int} {vt va : Value} (w : World)  :
    Calls Tryz.prog 79 #[.agg #[.int .i64 2, .int .i64 A, .int .i64 B, .slice pn nn cn], vt, va] w fun e w' => e = .returned (.int .i64 (A)) ∧ Below w.heap.size w w' := by
  obtain ⟨E0, hE0⟩ : ∃ E, E = w.alloc (.cells #[.int .i64 2, .int .i64 A, .int .i64 B, .slice pn nn cn] 26) := ⟨_, rfl⟩
  have hB0 : Below w.heap.size w E0 := by rw [hE0]; exact (Below.refl _ _).alloc (Nat.le_refl _) _
  have bx : Box E0 w.heap.size [.int .i64 2, .int .i64 A, .int .i64 B, .slice pn nn cn] 26 := by rw [hE0]; exact Box.newAt w _ _ rfl
  have z0 := bx.cell 0 rfl
  have z1 := bx.cell 1 rfl
  have HE := Lib.hid hE0
  clear hE0
  go_enter Tryz.func79, Tryz.ntmps79
  go_upto_region 1 with fail
  rw [← HE.out]
  go_wp2_with fail
  go_ret
  exact ⟨rfl, hB0⟩
set_option maxHeartbeats 4000000 in
theorem output_3 {pn : Option Addr} {nn cn : Nat} {A B : Int} {vt : Value} {ba oa na ca : Nat} {x0 x1 : Int} (w : World) (hx0 : w.cell? ⟨ba, oa, none⟩ = some (.int .i64 x0)) (hx1 : w.cell? ⟨ba, oa + 1, none⟩ = some (.int .i64 x1)) (la : 2 ≤ na) :
    Calls Tryz.prog 79 #[.agg #[.int .i64 3, .int .i64 A, .int .i64 B, .slice pn nn cn], vt, .slice (some ⟨ba, oa, none⟩) na ca] w fun e w' => e = .returned (.int .i64 (smp (x0 + x1))) ∧ Below w.heap.size w w' := by
  obtain ⟨E0, hE0⟩ : ∃ E, E = w.alloc (.cells #[.int .i64 3, .int .i64 A, .int .i64 B, .slice pn nn cn] 26) := ⟨_, rfl⟩
  have hB0 : Below w.heap.size w E0 := by rw [hE0]; exact (Below.refl _ _).alloc (Nat.le_refl _) _
  have bx : Box E0 w.heap.size [.int .i64 3, .int .i64 A, .int .i64 B, .slice pn nn cn] 26 := by rw [hE0]; exact Box.newAt w _ _ rfl
  replace hx0 := (hB0.cell (p := ⟨ba, oa, none⟩) (World.block_lt_of_cell? w _ hx0)).trans hx0
  replace hx1 := (hB0.cell (p := ⟨ba, oa + 1, none⟩) (World.block_lt_of_cell? w _ hx1)).trans hx1
  have z0 := bx.cell 0 rfl
  have z1 := bx.cell 1 rfl
  have HE := Lib.hid hE0
  clear hE0
  go_enter Tryz.func79, Tryz.ntmps79
  go_upto_region 1 with fail
  rw [← HE.out]
  go_wp2_with fail
  go_quiet (((go_at_call 77; exact Calls.quiet_of_same (Calls.turn (implWrap_any _ _)))))
  go_wp2_with fail
  go_ret
  exact ⟨by first | rfl | exact ret_int (smp_wrap64 _), below_drewN hB0 _⟩
set_option maxHeartbeats 4000000 in
theorem output_4 {pn : Option Addr} {nn cn : Nat} {A B : Int} {vt : Value} {ba oa na ca : Nat} {x0 x1 : Int} (w : World) (hx0 : w.cell? ⟨ba, oa, none⟩ = some (.int .i64 x0)) (hx1 : w.cell? ⟨ba, oa + 1, none⟩ = some (.int .i64 x1)) (la : 2 ≤ na) :
    Calls Tryz.prog 79 #[.agg #[.int .i64 4, .int .i64 A, .int .i64 B, .slice pn nn cn], vt, .slice (some ⟨ba, oa, none⟩) na ca] w fun e w' => e = .returned (.int .i64 (smp (x0 - x1))) ∧ Below w.heap.size w w' := by
  obtain ⟨E0, hE0⟩ : ∃ E, E = w.alloc (.cells #[.int .i64 4, .int .i64 A, .int .i64 B, .slice pn nn cn] 26) := ⟨_, rfl⟩
  have hB0 : Below w.heap.size w E0 := by rw [hE0]; exact (Below.refl _ _).alloc (Nat.le_refl _) _
  have bx : Box E0 w.heap.size [.int .i64 4, .int .i64 A, .int .i64 B, .slice pn nn cn] 26 := by rw [hE0]; exact Box.newAt w _ _ rfl
  replace hx0 := (hB0.cell (p := ⟨ba, oa, none⟩) (World.block_lt_of_cell? w _ hx0)).trans hx0
  replace hx1 := (hB0.cell (p := ⟨ba, oa + 1, none⟩) (World.block_lt_of_cell? w _ hx1)).trans hx1
  have z0 := bx.cell 0 rfl
  have z1 := bx.cell 1 rfl
  have HE := Lib.hid hE0
  clear hE0
  go_enter Tryz.func79, Tryz.ntmps79
  go_upto_region 1 with fail
  rw [← HE.out]
  go_wp2_with fail
  go_quiet (((go_at_call 77; exact Calls.quiet_of_same (Calls.turn (implWrap_any _ _)))))
  go_wp2_with fail
  go_ret
  exact ⟨by first | rfl | exact ret_int (smp_wrap64 _), below_drewN hB0 _⟩
set_option maxHeartbeats 4000000 in
theorem output_5 {pn : Option Addr} {nn cn : Nat} {A B : Int} {vt : Value} {ba oa na ca : Nat} {x0 : Int} (w : World) (hx0 : w.cell? ⟨ba, oa, none⟩ = some (.int .i64 x0)) (la : 1 ≤ na) :
    Calls Tryz.prog 79 #[.agg #[.int .i64 5, .int .i64 A, .int .i64 B, .slice pn nn cn], vt, .slice (some ⟨ba, oa, none⟩) na ca] w fun e w' => e = .returned (.int .i64 (smp (A * x0))) ∧ Below w.heap.size w w' := by
  obtain ⟨E0, hE0⟩ : ∃ E, E = w.alloc (.cells #[.int .i64 5, .int .i64 A, .int .i64 B, .slice pn nn cn] 26) := ⟨_, rfl⟩
  have hB0 : Below w.heap.size w E0 := by rw [hE0]; exact (Below.refl _ _).alloc (Nat.le_refl _) _
  have bx : Box E0 w.heap.size [.int .i64 5, .int .i64 A, .int .i64 B, .slice pn nn cn] 26 := by rw [hE0]; exact Box.newAt w _ _ rfl
  replace hx0 := (hB0.cell (p := ⟨ba, oa, none⟩) (World.block_lt_of_cell? w _ hx0)).trans hx0
  have z0 := bx.cell 0 rfl
  have z1 := bx.cell 1 rfl
  have HE := Lib.hid hE0
  clear hE0
  go_enter Tryz.func79, Tryz.ntmps79
  go_upto_region 1 with fail
  rw [← HE.out]
  go_wp2_with fail
  go_quiet (((go_at_call 77; exact Calls.quiet_of_same (Calls.turn (implWrap_any _ _)))))
  go_wp2_with fail
  go_ret
  exact ⟨by first | rfl | exact ret_int (smp_wrap64 _), below_drewN hB0 _⟩
set_option maxHeartbeats 4000000 in
theorem output_9 {pn : Option Addr} {nn cn : Nat} {A B : Int} {vt : Value} {ba oa na ca : Nat} {x0 x1 : Int} (w : World) (hx0 : w.cell? ⟨ba, oa, none⟩ = some (.int .i64 x0)) (hx1 : w.cell? ⟨ba, oa + 1, none⟩ = some (.int .i64 x1)) (la : 2 ≤ na) :
    Calls Tryz.prog 79 #[.agg #[.int .i64 9, .int .i64 A, .int .i64 B, .slice pn nn cn], vt, .slice (some ⟨ba, oa, none⟩) na ca] w fun e w' => e = .returned (.int .i64 (smp (x0 * x1))) ∧ Below w.heap.size w w' := by
  obtain ⟨E0, hE0⟩ : ∃ E, E = w.alloc (.cells #[.int .i64 9, .int .i64 A, .int .i64 B, .slice pn nn cn] 26) := ⟨_, rfl⟩
  have hB0 : Below w.heap.size w E0 := by rw [hE0]; exact (Below.refl _ _).alloc (Nat.le_refl _) _
  have bx : Box E0 w.heap.size [.int .i64 9, .int .i64 A, .int .i64 B, .slice pn nn cn] 26 := by rw [hE0]; exact Box.newAt w _ _ rfl
  replace hx0 := (hB0.cell (p := ⟨ba, oa, none⟩) (World.block_lt_of_cell? w _ hx0)).trans hx0
  replace hx1 := (hB0.cell (p := ⟨ba, oa + 1, none⟩) (World.block_lt_of_cell? w _ hx1)).trans hx1
  have z0 := bx.cell 0 rfl
  have z1 := bx.cell 1 rfl
  have HE := Lib.hid hE0
  clear hE0
  go_enter Tryz.func79, Tryz.ntmps79
  go_upto_region 1 with fail
  rw [← HE.out]
  go_wp2_with fail
  go_quiet (((go_at_call 77; exact Calls.quiet_of_same (Calls.turn (implWrap_any _ _)))))
  go_wp2_with fail
  go_ret
  exact ⟨by first | rfl | exact ret_int (smp_wrap64 _), below_drewN hB0 _⟩
set_option maxHeartbeats 4000000 in
theorem output_10 {pn : Option Addr} {nn cn : Nat} {A B : Int} {vt : Value} {ba oa na ca : Nat} {x0 : Int} (w : World) (hx0 : w.cell? ⟨ba, oa, none⟩ = some (.int .i64 x0)) (la : 1 ≤ na) (hA : 0 ≤ A ∧ A ≤ 31) (i0 : -2147483648 ≤ x0 ∧ x0 ≤ 2147483647) :
    Calls Tryz.prog 79 #[.agg #[.int .i64 10, .int .i64 A, .int .i64 B, .slice pn nn cn], vt, .slice (some ⟨ba, oa, none⟩) na ca] w fun e w' => e = .returned (.int .i64 (x0 / 2 ^ A.toNat)) ∧ Below w.heap.size w w' := by
  obtain ⟨E0, hE0⟩ : ∃ E, E = w.alloc (.cells #[.int .i64 10, .int .i64 A, .int .i64 B, .slice pn nn cn] 26) := ⟨_, rfl⟩
  have hB0 : Below w.heap.size w E0 := by rw [hE0]; exact (Below.refl _ _).alloc (Nat.le_refl _) _
  have bx : Box E0 w.heap.size [.int .i64 10, .int .i64 A, .int .i64 B, .slice pn nn cn] 26 := by rw [hE0]; exact Box.newAt w _ _ rfl
  replace hx0 := (hB0.cell (p := ⟨ba, oa, none⟩) (World.block_lt_of_cell? w _ hx0)).trans hx0
  have z0 := bx.cell 0 rfl
  have z1 := bx.cell 1 rfl
  have HE := Lib.hid hE0
  clear hE0
  go_enter Tryz.func79, Tryz.ntmps79
  go_upto_region 1 with fail
  rw [← HE.out]
  go_wp2_with fail
  go_quiet (fail)
  go_wp2_with fail
  go_ret
  exact ⟨by first | rfl | exact ret_int (smp_wrap64 _), below_drewN hB0 _⟩
set_option maxHeartbeats 4000000 in
theorem output_11_h1 {pn : Option Addr} {nn cn : Nat} {A B : Int} {vt : Value} {ba oa na ca : Nat} {x0 : Int} (w : World) (hx0 : w.cell? ⟨ba, oa, none⟩ = some (.int .i64 x0)) (la : 1 ≤ na) (hA : 0 ≤ A ∧ A ≤ 2147483647) (hx : A < x0) (f1 : ¬ x0 < A) (f2 : -A < A) :
    Calls Tryz.prog 79 #[.agg #[.int .i64 11, .int .i64 A, .int .i64 B, .slice pn nn cn], vt, .slice (some ⟨ba, oa, none⟩) na ca] w fun e w' => e = .returned (.int .i64 (A)) ∧ Below w.heap.size w w' := by
  obtain ⟨E0, hE0⟩ : ∃ E, E = w.alloc (.cells #[.int .i64 11, .int .i64 A, .int .i64 B, .slice pn nn cn] 26) := ⟨_, rfl⟩
  have hB0 : Below w.heap.size w E0 := by rw [hE0]; exact (Below.refl _ _).alloc (Nat.le_refl _) _
  have bx : Box E0 w.heap.size [.int .i64 11, .int .i64 A, .int .i64 B, .slice pn nn cn] 26 := by rw [hE0]; exact Box.newAt w _ _ rfl
  replace hx0 := (hB0.cell (p := ⟨ba, oa, none⟩) (World.block_lt_of_cell? w _ hx0)).trans hx0
  have hw : IntKind.i64.wrap (-A) = -A := IntWalk.i64_in _ (by omega)
  have z0 := bx.cell 0 rfl
  have z1 := bx.cell 1 rfl
  have HE := Lib.hid hE0
  clear hE0
  go_enter Tryz.func79, Tryz.ntmps79
  go_upto_region 1 with fail
  rw [← HE.out]
  go_wp2_with fail
  go_quiet (fail)
  go_wp2_with fail
  go_ret
  exact ⟨by first | rfl | exact ret_int (by omega) | exact ret_int (smp_wrap64 _), below_drewN hB0 _⟩
set_option maxHeartbeats 4000000 in
theorem output_11_h2 {pn : Option Addr} {nn cn : Nat} {A B : Int} {vt : Value} {ba oa na ca : Nat} {x0 : Int} (w : World) (hx0 : w.cell? ⟨ba, oa, none⟩ = some (.int .i64 x0)) (la : 1 ≤ na) (hA : 0 ≤ A ∧ A ≤ 2147483647) (hx : A < x0) (f1 : ¬ x0 < A) (f2 : ¬ -A < A) :
    Calls Tryz.prog 79 #[.agg #[.int .i64 11, .int .i64 A, .int .i64 B, .slice pn nn cn], vt, .slice (some ⟨ba, oa, none⟩) na ca] w fun e w' => e = .returned (.int .i64 (A)) ∧ Below w.heap.size w w' := by
  obtain ⟨E0, hE0⟩ : ∃ E, E = w.alloc (.cells #[.int .i64 11, .int .i64 A, .int .i64 B, .slice pn nn cn] 26) := ⟨_, rfl⟩
  have hB0 : Below w.heap.size w E0 := by rw [hE0]; exact (Below.refl _ _).alloc (Nat.le_refl _) _
  have bx : Box E0 w.heap.size [.int .i64 11, .int .i64 A, .int .i64 B, .slice pn nn cn] 26 := by rw [hE0]; exact Box.newAt w _ _ rfl
  replace hx0 := (hB0.cell (p := ⟨ba, oa, none⟩) (World.block_lt_of_cell? w _ hx0)).trans hx0
  have hw : IntKind.i64.wrap (-A) = -A := IntWalk.i64_in _ (by omega)
  have z0 := bx.cell 0 rfl
  have z1 := bx.cell 1 rfl
  have HE := Lib.hid hE0
  clear hE0
  go_enter Tryz.func79, Tryz.ntmps79
  go_upto_region 1 with fail
  rw [← HE.out]
  go_wp2_with fail
  go_quiet (fail)
  go_wp2_with fail
  go_ret
  exact ⟨by first | rfl | exact ret_int (by omega) | exact ret_int (smp_wrap64 _), below_drewN hB0 _⟩
set_option maxHeartbeats 4000000 in
theorem output_11_i1 {pn : Option Addr} {nn cn : Nat} {A B : Int} {vt : Value} {ba oa na ca : Nat} {x0 : Int} (w : World) (hx0 : w.cell? ⟨ba, oa, none⟩ = some (.int .i64 x0)) (la : 1 ≤ na) (hA : 0 ≤ A ∧ A ≤ 2147483647) (hx : -A ≤ x0 ∧ x0 ≤ A) (f1 : x0 < A) (f2 : -A < x0) (f3 : ¬ A < x0) :
    Calls Tryz.prog 79 #[.agg #[.int .i64 11, .int .i64 A, .int .i64 B, .slice pn nn cn], vt, .slice (some ⟨ba, oa, none⟩) na ca] w fun e w' => e = .returned (.int .i64 (x0)) ∧ Below w.heap.size w w' := by
  obtain ⟨E0, hE0⟩ : ∃ E, E = w.alloc (.cells #[.int .i64 11, .int .i64 A, .int .i64 B, .slice pn nn cn] 26) := ⟨_, rfl⟩
  have hB0 : Below w.heap.size w E0 := by rw [hE0]; exact (Below.refl _ _).alloc (Nat.le_refl _) _
  have bx : Box E0 w.heap.size [.int .i64 11, .int .i64 A, .int .i64 B, .slice pn nn cn] 26 := by rw [hE0]; exact Box.newAt w _ _ rfl
  replace hx0 := (hB0.cell (p := ⟨ba, oa, none⟩) (World.block_lt_of_cell? w _ hx0)).trans hx0
  have hw : IntKind.i64.wrap (-A) = -A := IntWalk.i64_in _ (by omega)
  have z0 := bx.cell 0 rfl
  have z1 := bx.cell 1 rfl
  have HE := Lib.hid hE0
  clear hE0
  go_enter Tryz.func79, Tryz.ntmps79
  go_upto_region 1 with fail
  rw [← HE.out]
  go_wp2_with fail
  go_quiet (fail)
  go_wp2_with fail
  go_ret
  exact ⟨by first | rfl | exact ret_int (by omega) | exact ret_int (smp_wrap64 _), below_drewN hB0 _⟩
set_option maxHeartbeats 4000000 in
theorem output_11_i2 {pn : Option Addr} {nn cn : Nat} {A B : Int} {vt : Value} {ba oa na ca : Nat} {x0 : Int} (w : World) (hx0 : w.cell? ⟨ba, oa, none⟩ = some (.int .i64 x0)) (la : 1 ≤ na) (hA : 0 ≤ A ∧ A ≤ 2147483647) (hx : -A ≤ x0 ∧ x0 ≤ A) (f1 : x0 < A) (f2 : ¬ -A < x0) (f3 : ¬ A < x0) :
    Calls Tryz.prog 79 #[.agg #[.int .i64 11, .int .i64 A, .int .i64 B, .slice pn nn cn], vt, .slice (some ⟨ba, oa, none⟩) na ca] w fun e w' => e = .returned (.int .i64 (x0)) ∧ Below w.heap.size w w' := by
  obtain ⟨E0, hE0⟩ : ∃ E, E = w.alloc (.cells #[.int .i64 11, .int .i64 A, .int .i64 B, .slice pn nn cn] 26) := ⟨_, rfl⟩
  have hB0 : Below w.heap.size w E0 := by rw [hE0]; exact (Below.refl _ _).alloc (Nat.le_refl _) _
  have bx : Box E0 w.heap.size [.int .i64 11, .int .i64 A, .int .i64 B, .slice pn nn cn] 26 := by rw [hE0]; exact Box.newAt w _ _ rfl
  replace hx0 := (hB0.cell (p := ⟨ba, oa, none⟩) (World.block_lt_of_cell? w _ hx0)).trans hx0
  have hw : IntKind.i64.wrap (-A) = -A := IntWalk.i64_in _ (by omega)
  have z0 := bx.cell 0 rfl
  have z1 := bx.cell 1 rfl
  have HE := Lib.hid hE0
  clear hE0
  go_enter Tryz.func79, Tryz.ntmps79
  go_upto_region 1 with fail
  rw [← HE.out]
  go_wp2_with fail
  go_quiet (fail)
  go_wp2_with fail
  go_ret
  exact ⟨by first | rfl | exact ret_int (by omega) | exact ret_int (smp_wrap64 _), below_drewN hB0 _⟩
set_option maxHeartbeats 4000000 in
theorem output_11_i3 {pn : Option Addr} {nn cn : Nat} {A B : Int} {vt : Value} {ba oa na ca : Nat} {x0 : Int} (w : World) (hx0 : w.cell? ⟨ba, oa, none⟩ = some (.int .i64 x0)) (la : 1 ≤ na) (hA : 0 ≤ A ∧ A ≤ 2147483647) (hx : -A ≤ x0 ∧ x0 ≤ A) (f1 : ¬ x0 < A) (f2 : -A < A) (f3 : ¬ A < x0) :
    Calls Tryz.prog 79 #[.agg #[.int .i64 11, .int .i64 A, .int .i64 B, .slice pn nn cn], vt, .slice (some ⟨ba, oa, none⟩) na ca] w fun e w' => e = .returned (.int .i64 (x0)) ∧ Below w.heap.size w w' := by
  obtain ⟨E0, hE0⟩ : ∃ E, E = w.alloc (.cells #[.int .i64 11, .int .i64 A, .int .i64 B, .slice pn nn cn] 26) := ⟨_, rfl⟩
  have hB0 : Below w.heap.size w E0 := by rw [hE0]; exact (Below.refl _ _).alloc (Nat.le_refl _) _
  have bx : Box E0 w.heap.size [.int .i64 11, .int .i64 A, .int .i64 B, .slice pn nn cn] 26 := by rw [hE0]; exact Box.newAt w _ _ rfl
  replace hx0 := (hB0.cell (p := ⟨ba, oa, none⟩) (World.block_lt_of_cell? w _ hx0)).trans hx0
  have hw : IntKind.i64.wrap (-A) = -A := IntWalk.i64_in _ (by omega)
  have z0 := bx.cell 0 rfl
  have z1 := bx.cell 1 rfl
  have HE := Lib.hid hE0
  clear hE0
  go_enter Tryz.func79, Tryz.ntmps79
  go_upto_region 1 with fail
  rw [← HE.out]
  go_wp2_with fail
  go_quiet (fail)
  go_wp2_with fail
  go_ret
  exact ⟨by first | rfl | exact ret_int (by omega) | exact ret_int (smp_wrap64 _), below_drewN hB0 _⟩
set_option maxHeartbeats 4000000 in
theorem output_11_i4 {pn : Option Addr} {nn cn : Nat} {A B : Int} {vt : Value} {ba oa na ca : Nat} {x0 : Int} (w : World) (hx0 : w.cell? ⟨ba, oa, none⟩ = some (.int .i64 x0)) (la : 1 ≤ na) (hA : 0 ≤ A ∧ A ≤ 2147483647) (hx : -A ≤ x0 ∧ x0 ≤ A) (f1 : ¬ x0 < A) (f2 : ¬ -A < A) (f3 : ¬ A < x0) :
    Calls Tryz.prog 79 #[.agg #[.int .i64 11, .int .i64 A, .int .i64 B, .slice pn nn cn], vt, .slice (some ⟨ba, oa, none⟩) na ca] w fun e w' => e = .returned (.int .i64 (x0)) ∧ Below w.heap.size w w' := by
  obtain ⟨E0, hE0⟩ : ∃ E, E = w.alloc (.cells #[.int .i64 11, .int .i64 A, .int .i64 B, .slice pn nn cn] 26) := ⟨_, rfl⟩
  have hB0 : Below w.heap.size w E0 := by rw [hE0]; exact (Below.refl _ _).alloc (Nat.le_refl _) _
  have bx : Box E0 w.heap.size [.int .i64 11, .int .i64 A, .int .i64 B, .slice pn nn cn] 26 := by rw [hE0]; exact Box.newAt w _ _ rfl
  replace hx0 := (hB0.cell (p := ⟨ba, oa, none⟩) (World.block_lt_of_cell? w _ hx0)).trans hx0
  have hw : IntKind.i64.wrap (-A) = -A := IntWalk.i64_in _ (by omega)
  have z0 := bx.cell 0 rfl
  have z1 := bx.cell 1 rfl
  have HE := Lib.hid hE0
  clear hE0
  go_enter Tryz.func79, Tryz.ntmps79
  go_upto_region 1 with fail
  rw [← HE.out]
  go_wp2_with fail
  go_quiet (fail)
  go_wp2_with fail
  go_ret
  exact ⟨by first | rfl | exact ret_int (by omega) | exact ret_int (smp_wrap64 _), below_drewN hB0 _⟩
set_option maxHeartbeats 4000000 in
theorem output_11_lo {pn : Option Addr} {nn cn : Nat} {A B : Int} {vt : Value} {ba oa na ca : Nat} {x0 : Int} (w : World) (hx0 : w.cell? ⟨ba, oa, none⟩ = some (.int .i64 x0)) (la : 1 ≤ na) (hA : 0 ≤ A ∧ A ≤ 2147483647) (hx : x0 < -A) (f1 : x0 < A) (f2 : ¬ -A < x0) (f3 : ¬ A < x0) :
    Calls Tryz.prog 79 #[.agg #[.int .i64 11, .int .i64 A, .int .i64 B, .slice pn nn cn], vt, .slice (some ⟨ba, oa, none⟩) na ca] w fun e w' => e = .returned (.int .i64 (-A)) ∧ Below w.heap.size w w' := by
  obtain ⟨E0, hE0⟩ : ∃ E, E = w.alloc (.cells #[.int .i64 11, .int .i64 A, .int .i64 B, .slice pn nn cn] 26) := ⟨_, rfl⟩
  have hB0 : Below w.heap.size w E0 := by rw [hE0]; exact (Below.refl _ _).alloc (Nat.le_refl _) _
  have bx : Box E0 w.heap.size [.int .i64 11, .int .i64 A, .int .i64 B, .slice pn nn cn] 26 := by rw [hE0]; exact Box.newAt w _ _ rfl
  replace hx0 := (hB0.cell (p := ⟨ba, oa, none⟩) (World.block_lt_of_cell? w _ hx0)).trans hx0
  have hw : IntKind.i64.wrap (-A) = -A := IntWalk.i64_in _ (by omega)
  have z0 := bx.cell 0 rfl
  have z1 := bx.cell 1 rfl
  have HE := Lib.hid hE0
  clear hE0
  go_enter Tryz.func79, Tryz.ntmps79
  go_upto_region 1 with fail
  rw [← HE.out]
  go_wp2_with fail
  go_quiet (fail)
  go_wp2_with fail
  go_ret
  exact ⟨by first | rfl | exact ret_int (by omega) | exact ret_int (smp_wrap64 _), below_drewN hB0 _⟩
set_option maxHeartbeats 4000000 in
theorem output_15_pos {pn : Option Addr} {nn cn : Nat} {A B : Int} {vt : Value} {ba oa na ca : Nat} {x0 x1 : Int} (w : World) (hx0 : w.cell? ⟨ba, oa, none⟩ = some (.int .i64 x0)) (hx1 : w.cell? ⟨ba, oa + 1, none⟩ = some (.int .i64 x1)) (la : 2 ≤ na) (hx : 0 ≤ x0) :
    Calls Tryz.prog 79 #[.agg #[.int .i64 15, .int .i64 A, .int .i64 B, .slice pn nn cn], vt, .slice (some ⟨ba, oa, none⟩) na ca] w fun e w' => e = .returned (.int .i64 (x1)) ∧ Below w.heap.size w w' := by
  obtain ⟨E0, hE0⟩ : ∃ E, E = w.alloc (.cells #[.int .i64 15, .int .i64 A, .int .i64 B, .slice pn nn cn] 26) := ⟨_, rfl⟩
  have hB0 : Below w.heap.size w E0 := by rw [hE0]; exact (Below.refl _ _).alloc (Nat.le_refl _) _
  have bx : Box E0 w.heap.size [.int .i64 15, .int .i64 A, .int .i64 B, .slice pn nn cn] 26 := by rw [hE0]; exact Box.newAt w _ _ rfl
  replace hx0 := (hB0.cell (p := ⟨ba, oa, none⟩) (World.block_lt_of_cell? w _ hx0)).trans hx0
  replace hx1 := (hB0.cell (p := ⟨ba, oa + 1, none⟩) (World.block_lt_of_cell? w _ hx1)).trans hx1
  have z0 := bx.cell 0 rfl
  have z1 := bx.cell 1 rfl
  have HE := Lib.hid hE0
  clear hE0
  go_enter Tryz.func79, Tryz.ntmps79
  go_upto_region 1 with fail
  rw [← HE.out]
  go_wp2_with fail
  go_ret
  exact ⟨rfl, hB0⟩
set_option maxHeartbeats 4000000 in
theorem output_15_neg {pn : Option Addr} {nn cn : Nat} {A B : Int} {vt : Value} {ba oa na ca : Nat} {x0 x1 x2 : Int} (w : World) (hx0 : w.cell? ⟨ba, oa, none⟩ = some (.int .i64 x0)) (hx1 : w.cell? ⟨ba, oa + 1, none⟩ = some (.int .i64 x1)) (hx2 : w.cell? ⟨ba, oa + 2, none⟩ = some (.int .i64 x2)) (la : 3 ≤ na) (hx : ¬ 0 ≤ x0) :
    Calls Tryz.prog 79 #[.agg #[.int .i64 15, .int .i64 A, .int .i64 B, .slice pn nn cn], vt, .slice (some ⟨ba, oa, none⟩) na ca] w fun e w' => e = .returned (.int .i64 (x2)) ∧ Below w.heap.size w w' := by
  obtain ⟨E0, hE0⟩ : ∃ E, E = w.alloc (.cells #[.int .i64 15, .int .i64 A, .int .i64 B, .slice pn nn cn] 26) := ⟨_, rfl⟩
  have hB0 : Below w.heap.size w E0 := by rw [hE0]; exact (Below.refl _ _).alloc (Nat.le_refl _) _
  have bx : Box E0 w.heap.size [.int .i64 15, .int .i64 A, .int .i64 B, .slice pn nn cn] 26 := by rw [hE0]; exact Box.newAt w _ _ rfl
  replace hx0 := (hB0.cell (p := ⟨ba, oa, none⟩) (World.block_lt_of_cell? w _ hx0)).trans hx0
  replace hx1 := (hB0.cell (p := ⟨ba, oa + 1, none⟩) (World.block_lt_of_cell? w _ hx1)).trans hx1
  replace hx2 := (hB0.cell (p := ⟨ba, oa + 2, none⟩) (World.block_lt_of_cell? w _ hx2)).trans hx2
  have z0 := bx.cell 0 rfl
  have z1 := bx.cell 1 rfl
  have HE := Lib.hid hE0
  clear hE0
  go_enter Tryz.func79, Tryz.ntmps79
  go_upto_region 1 with fail
  rw [← HE.out]
  go_wp2_with fail
  go_ret
  exact ⟨rfl, hB0⟩
set_option maxHeartbeats 4000000 in
theorem output_13 {pn : Option Addr} {nn cn : Nat} {B : Int} {ba oa na ca bt ot nt ct j : Nat} {q : Option Addr} {c : Nat} {t : List Int} {x0 : Int} (w : World)
    (hx0 : w.cell? ⟨ba, oa, none⟩ = some (.int .i64 x0)) (la : 1 ≤ na) (hj : j < nt) (ht : w.cell? ⟨bt, ot + j, none⟩ = some (.slice q t.length c)) (hr : RdI w q t) (h1 : 1 ≤ t.length) (h2 : t.length ≤ 16) :
    Calls Tryz.prog 79 #[.agg #[.int .i64 13, .int .i64 (j : Int), .int .i64 B, .slice pn nn cn], .slice (some ⟨bt, ot, none⟩) nt ct, .slice (some ⟨ba, oa, none⟩) na ca] w fun e w' => e = .returned (.int .i64 (lookP t x0)) ∧ Below w.heap.size w w' := by
  obtain ⟨E0, hE0⟩ : ∃ E, E = w.alloc (.cells #[.int .i64 13, .int .i64 (j : Int), .int .i64 B, .slice pn nn cn] 26) := ⟨_, rfl⟩
  have hB0 : Below w.heap.size w E0 := by rw [hE0]; exact (Below.refl _ _).alloc (Nat.le_refl _) _
  have bx : Box E0 w.heap.size [.int .i64 13, .int .i64 (j : Int), .int .i64 B, .slice pn nn cn] 26 := by rw [hE0]; exact Box.newAt w _ _ rfl
  replace hx0 := (hB0.cell (p := ⟨ba, oa, none⟩) (World.block_lt_of_cell? w _ hx0)).trans hx0
  replace ht := (hB0.cell (p := ⟨bt, ot + j, none⟩) (World.block_lt_of_cell? w _ ht)).trans ht
  replace hr := hr.below hB0
  have z0 := bx.cell 0 rfl
  have z1 := bx.cell 1 rfl
  have HE := Lib.hid hE0
  clear hE0
  obtain ⟨b, o, rfl, hb, hc⟩ := hr.at0 h1
  have hi := lookI_in (x := x0) h1
  have hrr : 0 ≤ x0 % 4294967296 ∧ x0 % 4294967296 ≤ 4294967295 := by omega
  obtain ⟨i, hii⟩ := Int.eq_ofNat_of_zero_le hi.1
  have hz := hc i (by omega)
  have HL : Hid (lookP t x0 = t.getD i 0) := by
    unfold Hid lookP
    rw [show ((t.length : Int) * (x0 % 4294967296)) / 4294967296 = lookI t.length x0 from rfl, hii]; rfl
  generalize lookP t x0 = R at HL ⊢
  have HJ : Hid (((t.length : Int) * (x0 % 4294967296)) / 4294967296 = (i : Int)) := hii
  have hj2 : i < t.length := by omega
  have hp : 0 ≤ (t.length : Int) * (x0 % 4294967296) ∧ (t.length : Int) * (x0 % 4294967296) ≤ 68719476720 := by
    refine ⟨Int.mul_nonneg (by omega) hrr.1, ?_⟩
    have := Int.mul_le_mul (show (t.length : Int) ≤ 16 by omega) hrr.2 hrr.1 (by omega)
    omega
  generalize t.getD i 0 = y at hz HL
  have hmx : t.length ≤ maxLen := by unfold maxLen; omega
  generalize t.length = n at *
  clear hc hi hii hr
  have HU : Hid (∀ W, Calls Tryz.prog 104 #[.int .i64 x0] W fun e w' => e = .returned (.int .i64 (x0 % 4294967296)) ∧ W = w') := fun W => unsigned_any x0 W
  generalize x0 % 4294967296 = u at *
  have hw : IntKind.i64.wrap ((n : Int) * u) = (n : Int) * u := IntWalk.i64_in _ (by omega)
  generalize hm : (n : Int) * u = m at *
  have hw2 : m / 4294967296 = (i : Int) := HJ.out
  clear HJ
  go_enter Tryz.func79, Tryz.ntmps79
  go_upto_region 1 with fail
  rw [← HE.out]
  go_wp2_with fail
  go_quiet ((first | (go_at_call 33; exact Calls.quiet_of_same (Calls.turn (sizeI_any _ _ _ _ hmx))) | (go_at_call 104; exact Calls.quiet_of_same (Calls.turn (HU.out _)))))
  go_wp2_with fail
  go_ret
  obtain rfl := HL.out
  exact ⟨rfl, below_drewN hB0 _⟩
theorem output_v {v : Value} {x : NodeD} {tb : List (List Int)} {xs : List Int} {pt px : Option Addr} {ct cx : Nat} (w : World) (h : VNode w v x) (ht : RdII w pt tb) (hx : RdI w px xs) (ss : List Int) (ok : OutOk x tb xs ss)
    (hk0 : x.kind ≠ 6 ∧ x.kind ≠ 7 ∧ x.kind ≠ 8 ∧ x.kind ≠ 12 ∧ x.kind ≠ 14 ∧ x.kind ≠ 16 ∧ x.kind ≠ 17) :
    Calls Tryz.prog 79 #[v, .slice pt tb.length ct, .slice px xs.length cx] w fun e w' => e = .returned (.int .i64 (outP x tb xs ss)) ∧ Below w.heap.size w w' := by
  obtain ⟨k, A, B, src⟩ := x
  obtain ⟨p, c, rfl, -⟩ := h
  obtain ⟨hk, hn, hst, hsm, hcl, hsh, htb⟩ := ok
  unfold outP
  simp only at *
  rcases kinds_of hk with rfl | rfl | rfl | rfl | rfl | rfl | rfl | rfl | rfl | rfl | rfl | rfl | rfl | rfl | rfl | rfl | rfl
  · have l : xs.length = 1 := by have : inN ⟨1, A, B, src⟩ = 1 := rfl; omega
    obtain ⟨ba, oa, rfl, -, ha⟩ := hx.at0 (by omega)
    exact output_1 w (ha 0 (by omega)) (by omega)
  · exact output_2 w
  · have l : xs.length = 2 := by have : inN ⟨3, A, B, src⟩ = 2 := rfl; omega
    obtain ⟨ba, oa, rfl, -, ha⟩ := hx.at0 (by omega)
    exact output_3 w (ha 0 (by omega)) (ha 1 (by omega)) (by omega)
  · have l : xs.length = 2 := by have : inN ⟨4, A, B, src⟩ = 2 := rfl; omega
    obtain ⟨ba, oa, rfl, -, ha⟩ := hx.at0 (by omega)
    exact output_4 w (ha 0 (by omega)) (ha 1 (by omega)) (by omega)
  · have l : xs.length = 1 := by have : inN ⟨5, A, B, src⟩ = 1 := rfl; omega
    obtain ⟨ba, oa, rfl, -, ha⟩ := hx.at0 (by omega)
    exact output_5 w (ha 0 (by omega)) (by omega)
  · exact absurd rfl hk0.1
  · exact absurd rfl hk0.2.1
  · exact absurd rfl hk0.2.2.1
  · have l : xs.length = 2 := by have : inN ⟨9, A, B, src⟩ = 2 := rfl; omega
    obtain ⟨ba, oa, rfl, -, ha⟩ := hx.at0 (by omega)
    exact output_9 w (ha 0 (by omega)) (ha 1 (by omega)) (by omega)
  · have l : xs.length = 1 := by have : inN ⟨10, A, B, src⟩ = 1 := rfl; omega
    obtain ⟨ba, oa, rfl, -, ha⟩ := hx.at0 (by omega)
    exact output_10 w (ha 0 (by omega)) (by omega) (hsh rfl) (hsm _ (getD_mem (by omega)))
  · have l : xs.length = 1 := by have : inN ⟨11, A, B, src⟩ = 1 := rfl; omega
    obtain ⟨ba, oa, rfl, -, ha⟩ := hx.at0 (by omega)
    have hA := hcl rfl
    by_cases h1 : A < xs.getD 0 0
    · rw [show outK (11 : Int).toNat A tb xs ss = A by show max (-A) (min (xs.getD 0 0) A) = A; omega]
      by_cases h3 : -A < A
      · exact output_11_h1 w (ha 0 (by omega)) (by omega) hA h1 (by omega) h3
      · exact output_11_h2 w (ha 0 (by omega)) (by omega) hA h1 (by omega) h3
    · by_cases h2 : xs.getD 0 0 < -A
      · rw [show outK (11 : Int).toNat A tb xs ss = -A by show max (-A) (min (xs.getD 0 0) A) = -A; omega]
        exact output_11_lo w (ha 0 (by omega)) (by omega) hA h2 (by omega) (by omega) (by omega)
      · rw [show outK (11 : Int).toNat A tb xs ss = xs.getD 0 0 by show max (-A) (min (xs.getD 0 0) A) = xs.getD 0 0; omega]
        by_cases h3 : xs.getD 0 0 < A
        · by_cases h4 : -A < xs.getD 0 0
          · exact output_11_i1 w (ha 0 (by omega)) (by omega) hA (by omega) h3 h4 (by omega)
          · exact output_11_i2 w (ha 0 (by omega)) (by omega) hA (by omega) h3 h4 (by omega)
        · by_cases h4 : -A < A
          · exact output_11_i3 w (ha 0 (by omega)) (by omega) hA (by omega) h3 h4 (by omega)
          · exact output_11_i4 w (ha 0 (by omega)) (by omega) hA (by omega) h3 h4 (by omega)
  · exact absurd rfl hk0.2.2.2.1
  · have l : xs.length = 1 := by have : inN ⟨13, A, B, src⟩ = 1 := rfl; omega
    obtain ⟨ba, oa, rfl, -, ha⟩ := hx.at0 (by omega)
    obtain ⟨a0, a1, at_⟩ := htb rfl
    obtain ⟨j, rfl⟩ := Int.eq_ofNat_of_zero_le a0
    obtain ⟨bt, ot, q, c, rfl, -, hc, hr⟩ := ht.at0 (k := j) (by omega)
    have hm : tb.getD j [] ∈ tb := by
      rw [List.getD_eq_getElem?_getD, List.getElem?_eq_getElem (by omega)]
      exact List.getElem_mem _
    obtain ⟨t1, t2⟩ := at_ _ hm
    exact output_13 w (ha 0 (by omega)) (by omega) (by omega) hc hr t1 t2
  · exact absurd rfl hk0.2.2.2.2.1
  · have l : xs.length = 3 := by have : inN ⟨15, A, B, src⟩ = 3 := rfl; omega
    obtain ⟨ba, oa, rfl, -, ha⟩ := hx.at0 (by omega)
    by_cases hp : 0 ≤ xs.getD 0 0
    · have e : outK (15 : Int).toNat A tb xs ss = xs.getD 1 0 := if_pos hp
      rw [e]
      exact output_15_pos w (ha 0 (by omega)) (ha 1 (by omega)) (by omega) hp
    · have e : outK (15 : Int).toNat A tb xs ss = xs.getD 2 0 := if_neg hp
      rw [e]
      exact output_15_neg w (ha 0 (by omega)) (ha 1 (by omega)) (ha 2 (by omega)) (by omega) hp
  · exact absurd rfl hk0.2.2.2.2.2.1
  · exact absurd rfl hk0.2.2.2.2.2.2
end Go.Proofs.YtdcacmmglkcliaaGreatDoor
