/-
  The program's step of a node, kind by kind; all kinds.
-/
import Derived.Test.YtdcacmmglkcliaaGreatDoorOutI
import Derived.Test.YtdcacmmglkcliaaGreatDoorStepJ
namespace Go.Proofs.YtdcacmmglkcliaaGreatDoor
open Go.ChangeShapes Go.WideShapes Go.ChangeAt Go.RowKit Go.Sort
set_option linter.unusedVariables false

theorem smp_wrap_mul (x a s : Int) : smp (wrap64 (x + wrap64 (a * s))) = smp (x + smp (a * s)) := by
  rw [smp_wrap64]
  obtain ⟨k, hk⟩ := smp_mod (a * s)
  rw [hk]
  refine smp_eq ?_
  unfold wrap64
  omega
/-- a fresh list of one number behind the node's box -/
theorem lit_done {w E0 W : World} (hB0 : Below w.heap.size w E0) (h : Below E0.heap.size E0 W) (y z : Int) (hy : y = z) :
    OwnI w.heap.size (W.alloc (.cells #[.int .i64 y] 2)) (.slice (some ⟨W.heap.size, 0, none⟩) 1 1) [z] ∧ Below w.heap.size w (W.alloc (.cells #[.int .i64 y] 2)) := by
  subst hy
  have h1 := hB0.trans (h.mono hB0.size)
  exact ⟨OwnI.lit (B := w.heap.size) W [y] h1.size (by simp [maxLen]), h1.alloc h1.size _⟩
theorem lit_done_d {w E0 W : World} (hB0 : Below w.heap.size w E0) (h : Below E0.heap.size E0 W) (y z : Int) (hy : y = z) :
    OwnI w.heap.size (W.alloc (.cells #[.int .i64 y] 2)).drew (.slice (some ⟨W.heap.size, 0, none⟩) 1 1) [z] ∧ Below w.heap.size w (W.alloc (.cells #[.int .i64 y] 2)).drew :=
  ⟨(lit_done hB0 h y z hy).1.drew, Below.drewR (lit_done hB0 h y z hy).2⟩
theorem smp_wrapI (n : Int) : smp (IntKind.i64.wrap n) = smp n := by rw [IntWalk.i64_left]; exact smp_wrap64 n
theorem tup_eq {a b : Int} {u : Value} (h : a = b) : Ending.returned (.tuple #[.int .i64 a, u]) = Ending.returned (.tuple #[.int .i64 b, u]) := by rw [h]
set_option maxHeartbeats 4000000 in
set_option maxRecDepth 100000 in
theorem step_7 {pn : Option Addr} {nn cn : Nat} {A B : Int} {vt : Value} {ba oa na ca : Nat} {x0 : Int} {bs os ns cs : Nat} {s0 : Int} (w : World) (hx0 : w.cell? ⟨ba, oa, none⟩ = some (.int .i64 x0)) (la : 1 ≤ na) (hs0 : w.cell? ⟨bs, os, none⟩ = some (.int .i64 s0)) (ls : 1 ≤ ns)  :
    Calls Tryz.prog 36 #[.agg #[.int .i64 7, .int .i64 A, .int .i64 B, .slice pn nn cn], vt, .slice (some ⟨ba, oa, none⟩) na ca, .slice (some ⟨bs, os, none⟩) ns cs] w fun e w' => ∃ u, e = .returned (.tuple #[.int .i64 (smp (s0 + x0)), u]) ∧ OwnI w.heap.size w' u (smp (s0 + x0) :: []) ∧ Below w.heap.size w w' := by
  obtain ⟨E0, hE0⟩ : ∃ E, E = w.alloc (.cells #[.int .i64 7, .int .i64 A, .int .i64 B, .slice pn nn cn] 26) := ⟨_, rfl⟩
  have hB0 : Below w.heap.size w E0 := by rw [hE0]; exact (Below.refl _ _).alloc (Nat.le_refl _) _
  have bx : Box E0 w.heap.size [.int .i64 7, .int .i64 A, .int .i64 B, .slice pn nn cn] 26 := by rw [hE0]; exact Box.newAt w _ _ rfl
  replace hx0 := (hB0.cell (p := ⟨ba, oa, none⟩) (World.block_lt_of_cell? w _ hx0)).trans hx0
  have lt0 := World.block_lt_of_cell? E0 _ hx0
  have g0_0 : 0 < na := by omega
  have hs0w := hs0
  have ltw := World.block_lt_of_cell? w _ hs0
  replace hs0 := (hB0.cell (p := ⟨bs, os, none⟩) (World.block_lt_of_cell? w _ hs0)).trans hs0
  have lts := World.block_lt_of_cell? E0 _ hs0
  have g2 : 0 < ns := ls
  have z0 := bx.cell 0 rfl
  have z1 := bx.cell 1 rfl
  have HE := Lib.hid hE0
  clear hE0
  go_enter Tryz.func36, Tryz.ntmps36
  go_upto_region 1 with fail
  rw [← HE.out]
  go_wp2_with fail
  go_quiet ((go_at_call 77; exact Calls.quiet_of_same (Calls.turn (implWrap_any _ _))))
  have hdr := below_drewN (Below.refl E0.heap.size E0) nq
  go_wp2_with fail
  go_ret2
  (first | exact ⟨_, (by first | rfl | exact tup_eq (smp_wrap64 _) | exact tup_eq (smp_wrapI _)), (lit_done hB0 (by repeat (first | exact Below.refl _ _ | assumption | refine Below.alloc ?_ (by first | exact Nat.le_refl _ | omega | (simp; done)) _ | refine Below.drewR ?_)) _ (smp (s0 + x0)) (by first | rfl | exact smp_wrap64 _ | exact smp_wrapI _)).1, (lit_done hB0 (by repeat (first | exact Below.refl _ _ | assumption | refine Below.alloc ?_ (by first | exact Nat.le_refl _ | omega | (simp; done)) _ | refine Below.drewR ?_)) _ (smp (s0 + x0)) (by first | rfl | exact smp_wrap64 _ | exact smp_wrapI _)).2⟩ | exact ⟨_, (by first | rfl | exact tup_eq (smp_wrap64 _) | exact tup_eq (smp_wrapI _)), (lit_done_d hB0 (by repeat (first | exact Below.refl _ _ | assumption | refine Below.alloc ?_ (by first | exact Nat.le_refl _ | omega | (simp; done)) _ | refine Below.drewR ?_)) _ (smp (s0 + x0)) (by first | rfl | exact smp_wrap64 _ | exact smp_wrapI _)).1, (lit_done_d hB0 (by repeat (first | exact Below.refl _ _ | assumption | refine Below.alloc ?_ (by first | exact Nat.le_refl _ | omega | (simp; done)) _ | refine Below.drewR ?_)) _ (smp (s0 + x0)) (by first | rfl | exact smp_wrap64 _ | exact smp_wrapI _)).2⟩)
set_option maxHeartbeats 4000000 in
set_option maxRecDepth 100000 in
theorem step_8 {pn : Option Addr} {nn cn : Nat} {A B : Int} {vt : Value} {ba oa na ca : Nat} {x0 : Int} {bs os ns cs : Nat} {s0 : Int} (w : World) (hx0 : w.cell? ⟨ba, oa, none⟩ = some (.int .i64 x0)) (la : 1 ≤ na) (hs0 : w.cell? ⟨bs, os, none⟩ = some (.int .i64 s0)) (ls : 1 ≤ ns)  :
    Calls Tryz.prog 36 #[.agg #[.int .i64 8, .int .i64 A, .int .i64 B, .slice pn nn cn], vt, .slice (some ⟨ba, oa, none⟩) na ca, .slice (some ⟨bs, os, none⟩) ns cs] w fun e w' => ∃ u, e = .returned (.tuple #[.int .i64 (smp (x0 - s0)), u]) ∧ OwnI w.heap.size w' u ([x0]) ∧ Below w.heap.size w w' := by
  obtain ⟨E0, hE0⟩ : ∃ E, E = w.alloc (.cells #[.int .i64 8, .int .i64 A, .int .i64 B, .slice pn nn cn] 26) := ⟨_, rfl⟩
  have hB0 : Below w.heap.size w E0 := by rw [hE0]; exact (Below.refl _ _).alloc (Nat.le_refl _) _
  have bx : Box E0 w.heap.size [.int .i64 8, .int .i64 A, .int .i64 B, .slice pn nn cn] 26 := by rw [hE0]; exact Box.newAt w _ _ rfl
  replace hx0 := (hB0.cell (p := ⟨ba, oa, none⟩) (World.block_lt_of_cell? w _ hx0)).trans hx0
  have lt0 := World.block_lt_of_cell? E0 _ hx0
  have g0_0 : 0 < na := by omega
  have hs0w := hs0
  have ltw := World.block_lt_of_cell? w _ hs0
  replace hs0 := (hB0.cell (p := ⟨bs, os, none⟩) (World.block_lt_of_cell? w _ hs0)).trans hs0
  have lts := World.block_lt_of_cell? E0 _ hs0
  have g2 : 0 < ns := ls
  have z0 := bx.cell 0 rfl
  have z1 := bx.cell 1 rfl
  have HE := Lib.hid hE0
  clear hE0
  go_enter Tryz.func36, Tryz.ntmps36
  go_upto_region 1 with fail
  rw [← HE.out]
  go_wp2_with fail
  go_region_law (first | (go_simp; go_at_call 77; refine (implWrap_any _ _).mono ?_; rintro e w' ⟨rfl, rfl⟩) | fail)
  all_goals (go_wp2_with fail; go_ret2; (first | exact ⟨_, (by first | rfl | exact tup_eq (smp_wrap64 _) | exact tup_eq (smp_wrapI _)), (lit_done hB0 (by repeat (first | exact Below.refl _ _ | assumption | refine Below.alloc ?_ (by first | exact Nat.le_refl _ | omega | (simp; done)) _ | refine Below.drewR ?_)) _ (x0) (by first | rfl | exact smp_wrap64 _ | exact smp_wrapI _)).1, (lit_done hB0 (by repeat (first | exact Below.refl _ _ | assumption | refine Below.alloc ?_ (by first | exact Nat.le_refl _ | omega | (simp; done)) _ | refine Below.drewR ?_)) _ (x0) (by first | rfl | exact smp_wrap64 _ | exact smp_wrapI _)).2⟩ | exact ⟨_, (by first | rfl | exact tup_eq (smp_wrap64 _) | exact tup_eq (smp_wrapI _)), (lit_done_d hB0 (by repeat (first | exact Below.refl _ _ | assumption | refine Below.alloc ?_ (by first | exact Nat.le_refl _ | omega | (simp; done)) _ | refine Below.drewR ?_)) _ (x0) (by first | rfl | exact smp_wrap64 _ | exact smp_wrapI _)).1, (lit_done_d hB0 (by repeat (first | exact Below.refl _ _ | assumption | refine Below.alloc ?_ (by first | exact Nat.le_refl _ | omega | (simp; done)) _ | refine Below.drewR ?_)) _ (x0) (by first | rfl | exact smp_wrap64 _ | exact smp_wrapI _)).2⟩))
set_option maxHeartbeats 4000000 in
set_option maxRecDepth 100000 in
theorem step_12 {pn : Option Addr} {nn cn : Nat} {A B : Int} {vt : Value} {ba oa na ca : Nat} {x0 : Int} {bs os ns cs : Nat} {s0 : Int} (w : World) (hx0 : w.cell? ⟨ba, oa, none⟩ = some (.int .i64 x0)) (la : 1 ≤ na) (hs0 : w.cell? ⟨bs, os, none⟩ = some (.int .i64 s0)) (ls : 1 ≤ ns)  :
    Calls Tryz.prog 36 #[.agg #[.int .i64 12, .int .i64 A, .int .i64 B, .slice pn nn cn], vt, .slice (some ⟨ba, oa, none⟩) na ca, .slice (some ⟨bs, os, none⟩) ns cs] w fun e w' => ∃ u, e = .returned (.tuple #[.int .i64 (s0), u]) ∧ OwnI w.heap.size w' u ([smp (s0 + x0)]) ∧ Below w.heap.size w w' := by
  obtain ⟨E0, hE0⟩ : ∃ E, E = w.alloc (.cells #[.int .i64 12, .int .i64 A, .int .i64 B, .slice pn nn cn] 26) := ⟨_, rfl⟩
  have hB0 : Below w.heap.size w E0 := by rw [hE0]; exact (Below.refl _ _).alloc (Nat.le_refl _) _
  have bx : Box E0 w.heap.size [.int .i64 12, .int .i64 A, .int .i64 B, .slice pn nn cn] 26 := by rw [hE0]; exact Box.newAt w _ _ rfl
  replace hx0 := (hB0.cell (p := ⟨ba, oa, none⟩) (World.block_lt_of_cell? w _ hx0)).trans hx0
  have lt0 := World.block_lt_of_cell? E0 _ hx0
  have g0_0 : 0 < na := by omega
  have hs0w := hs0
  have ltw := World.block_lt_of_cell? w _ hs0
  replace hs0 := (hB0.cell (p := ⟨bs, os, none⟩) (World.block_lt_of_cell? w _ hs0)).trans hs0
  have lts := World.block_lt_of_cell? E0 _ hs0
  have g2 : 0 < ns := ls
  have z0 := bx.cell 0 rfl
  have z1 := bx.cell 1 rfl
  have HE := Lib.hid hE0
  clear hE0
  go_enter Tryz.func36, Tryz.ntmps36
  go_upto_region 1 with fail
  rw [← HE.out]
  go_wp2_with fail
  go_region_law (first | (go_simp; go_at_call 77; refine (implWrap_any _ _).mono ?_; rintro e w' ⟨rfl, rfl⟩) | fail)
  all_goals (go_wp2_with fail; go_ret2; (first | exact ⟨_, (by first | rfl | exact tup_eq (smp_wrap64 _) | exact tup_eq (smp_wrapI _)), (lit_done hB0 (by repeat (first | exact Below.refl _ _ | assumption | refine Below.alloc ?_ (by first | exact Nat.le_refl _ | omega | (simp; done)) _ | refine Below.drewR ?_)) _ (smp (s0 + x0)) (by first | rfl | exact smp_wrap64 _ | exact smp_wrapI _)).1, (lit_done hB0 (by repeat (first | exact Below.refl _ _ | assumption | refine Below.alloc ?_ (by first | exact Nat.le_refl _ | omega | (simp; done)) _ | refine Below.drewR ?_)) _ (smp (s0 + x0)) (by first | rfl | exact smp_wrap64 _ | exact smp_wrapI _)).2⟩ | exact ⟨_, (by first | rfl | exact tup_eq (smp_wrap64 _) | exact tup_eq (smp_wrapI _)), (lit_done_d hB0 (by repeat (first | exact Below.refl _ _ | assumption | refine Below.alloc ?_ (by first | exact Nat.le_refl _ | omega | (simp; done)) _ | refine Below.drewR ?_)) _ (smp (s0 + x0)) (by first | rfl | exact smp_wrap64 _ | exact smp_wrapI _)).1, (lit_done_d hB0 (by repeat (first | exact Below.refl _ _ | assumption | refine Below.alloc ?_ (by first | exact Nat.le_refl _ | omega | (simp; done)) _ | refine Below.drewR ?_)) _ (smp (s0 + x0)) (by first | rfl | exact smp_wrap64 _ | exact smp_wrapI _)).2⟩))
set_option maxHeartbeats 4000000 in
set_option maxRecDepth 100000 in
theorem step_14 {pn : Option Addr} {nn cn : Nat} {A B : Int} {vt : Value} {va : Value} {bs os ns cs : Nat} {s0 : Int} (w : World) (hs0 : w.cell? ⟨bs, os, none⟩ = some (.int .i64 s0)) (ls : 1 ≤ ns)  :
    Calls Tryz.prog 36 #[.agg #[.int .i64 14, .int .i64 A, .int .i64 B, .slice pn nn cn], vt, va, .slice (some ⟨bs, os, none⟩) ns cs] w fun e w' => ∃ u, e = .returned (.tuple #[.int .i64 (s0), u]) ∧ OwnI w.heap.size w' u ([noiseP s0]) ∧ Below w.heap.size w w' := by
  obtain ⟨E0, hE0⟩ : ∃ E, E = w.alloc (.cells #[.int .i64 14, .int .i64 A, .int .i64 B, .slice pn nn cn] 26) := ⟨_, rfl⟩
  have hB0 : Below w.heap.size w E0 := by rw [hE0]; exact (Below.refl _ _).alloc (Nat.le_refl _) _
  have bx : Box E0 w.heap.size [.int .i64 14, .int .i64 A, .int .i64 B, .slice pn nn cn] 26 := by rw [hE0]; exact Box.newAt w _ _ rfl
  have hs0w := hs0
  have ltw := World.block_lt_of_cell? w _ hs0
  replace hs0 := (hB0.cell (p := ⟨bs, os, none⟩) (World.block_lt_of_cell? w _ hs0)).trans hs0
  have lts := World.block_lt_of_cell? E0 _ hs0
  have g2 : 0 < ns := ls
  have z0 := bx.cell 0 rfl
  have z1 := bx.cell 1 rfl
  have HE := Lib.hid hE0
  clear hE0
  go_enter Tryz.func36, Tryz.ntmps36
  go_upto_region 1 with fail
  rw [← HE.out]
  go_wp2_with fail
  go_region_law (first | (go_simp; go_at_call 78; refine (noise_any _ _).mono ?_; rintro e w' ⟨rfl, rfl⟩) | fail)
  all_goals (go_wp2_with fail; go_ret2; (first | exact ⟨_, (by first | rfl | exact tup_eq (smp_wrap64 _) | exact tup_eq (smp_wrapI _)), (lit_done hB0 (by repeat (first | exact Below.refl _ _ | assumption | refine Below.alloc ?_ (by first | exact Nat.le_refl _ | omega | (simp; done)) _ | refine Below.drewR ?_)) _ (noiseP s0) (by first | rfl | exact smp_wrap64 _ | exact smp_wrapI _)).1, (lit_done hB0 (by repeat (first | exact Below.refl _ _ | assumption | refine Below.alloc ?_ (by first | exact Nat.le_refl _ | omega | (simp; done)) _ | refine Below.drewR ?_)) _ (noiseP s0) (by first | rfl | exact smp_wrap64 _ | exact smp_wrapI _)).2⟩ | exact ⟨_, (by first | rfl | exact tup_eq (smp_wrap64 _) | exact tup_eq (smp_wrapI _)), (lit_done_d hB0 (by repeat (first | exact Below.refl _ _ | assumption | refine Below.alloc ?_ (by first | exact Nat.le_refl _ | omega | (simp; done)) _ | refine Below.drewR ?_)) _ (noiseP s0) (by first | rfl | exact smp_wrap64 _ | exact smp_wrapI _)).1, (lit_done_d hB0 (by repeat (first | exact Below.refl _ _ | assumption | refine Below.alloc ?_ (by first | exact Nat.le_refl _ | omega | (simp; done)) _ | refine Below.drewR ?_)) _ (noiseP s0) (by first | rfl | exact smp_wrap64 _ | exact smp_wrapI _)).2⟩))
set_option maxHeartbeats 4000000 in
set_option maxRecDepth 100000 in
theorem step_16_pos {pn : Option Addr} {nn cn : Nat} {A B : Int} {vt : Value} {ba oa na ca : Nat} {x0 x1 : Int} {bs os ns cs : Nat} {s0 : Int} (w : World) (hx0 : w.cell? ⟨ba, oa, none⟩ = some (.int .i64 x0)) (hx1 : w.cell? ⟨ba, oa + 1, none⟩ = some (.int .i64 x1)) (la : 2 ≤ na) (hs0 : w.cell? ⟨bs, os, none⟩ = some (.int .i64 s0)) (ls : 1 ≤ ns) (hx : 0 < x1) :
    Calls Tryz.prog 36 #[.agg #[.int .i64 16, .int .i64 A, .int .i64 B, .slice pn nn cn], vt, .slice (some ⟨ba, oa, none⟩) na ca, .slice (some ⟨bs, os, none⟩) ns cs] w fun e w' => ∃ u, e = .returned (.tuple #[.int .i64 (x0), u]) ∧ OwnI w.heap.size w' u ([x0]) ∧ Below w.heap.size w w' := by
  obtain ⟨E0, hE0⟩ : ∃ E, E = w.alloc (.cells #[.int .i64 16, .int .i64 A, .int .i64 B, .slice pn nn cn] 26) := ⟨_, rfl⟩
  have hB0 : Below w.heap.size w E0 := by rw [hE0]; exact (Below.refl _ _).alloc (Nat.le_refl _) _
  have bx : Box E0 w.heap.size [.int .i64 16, .int .i64 A, .int .i64 B, .slice pn nn cn] 26 := by rw [hE0]; exact Box.newAt w _ _ rfl
  replace hx0 := (hB0.cell (p := ⟨ba, oa, none⟩) (World.block_lt_of_cell? w _ hx0)).trans hx0
  replace hx1 := (hB0.cell (p := ⟨ba, oa + 1, none⟩) (World.block_lt_of_cell? w _ hx1)).trans hx1
  have lt0 := World.block_lt_of_cell? E0 _ hx0
  have g0_0 : 0 < na := by omega
  have g0_1 : 1 < na := by omega
  have hs0w := hs0
  have ltw := World.block_lt_of_cell? w _ hs0
  replace hs0 := (hB0.cell (p := ⟨bs, os, none⟩) (World.block_lt_of_cell? w _ hs0)).trans hs0
  have lts := World.block_lt_of_cell? E0 _ hs0
  have g2 : 0 < ns := ls
  have z0 := bx.cell 0 rfl
  have z1 := bx.cell 1 rfl
  have HE := Lib.hid hE0
  clear hE0
  go_enter Tryz.func36, Tryz.ntmps36
  go_upto_region 1 with fail
  rw [← HE.out]
  go_wp2_with fail
  go_ret2
  (first | exact ⟨_, (by first | rfl | exact tup_eq (smp_wrap64 _) | exact tup_eq (smp_wrapI _)), (lit_done hB0 (by repeat (first | exact Below.refl _ _ | assumption | refine Below.alloc ?_ (by first | exact Nat.le_refl _ | omega | (simp; done)) _ | refine Below.drewR ?_)) _ (x0) (by first | rfl | exact smp_wrap64 _ | exact smp_wrapI _)).1, (lit_done hB0 (by repeat (first | exact Below.refl _ _ | assumption | refine Below.alloc ?_ (by first | exact Nat.le_refl _ | omega | (simp; done)) _ | refine Below.drewR ?_)) _ (x0) (by first | rfl | exact smp_wrap64 _ | exact smp_wrapI _)).2⟩ | exact ⟨_, (by first | rfl | exact tup_eq (smp_wrap64 _) | exact tup_eq (smp_wrapI _)), (lit_done_d hB0 (by repeat (first | exact Below.refl _ _ | assumption | refine Below.alloc ?_ (by first | exact Nat.le_refl _ | omega | (simp; done)) _ | refine Below.drewR ?_)) _ (x0) (by first | rfl | exact smp_wrap64 _ | exact smp_wrapI _)).1, (lit_done_d hB0 (by repeat (first | exact Below.refl _ _ | assumption | refine Below.alloc ?_ (by first | exact Nat.le_refl _ | omega | (simp; done)) _ | refine Below.drewR ?_)) _ (x0) (by first | rfl | exact smp_wrap64 _ | exact smp_wrapI _)).2⟩)
set_option maxHeartbeats 4000000 in
set_option maxRecDepth 100000 in
theorem step_16_neg {pn : Option Addr} {nn cn : Nat} {A B : Int} {vt : Value} {ba oa na ca : Nat} {x0 x1 : Int} {bs os ns cs : Nat} {s0 : Int} (w : World) (hx0 : w.cell? ⟨ba, oa, none⟩ = some (.int .i64 x0)) (hx1 : w.cell? ⟨ba, oa + 1, none⟩ = some (.int .i64 x1)) (la : 2 ≤ na) (hs0 : w.cell? ⟨bs, os, none⟩ = some (.int .i64 s0)) (ls : 1 ≤ ns) (hx : ¬ 0 < x1) :
    Calls Tryz.prog 36 #[.agg #[.int .i64 16, .int .i64 A, .int .i64 B, .slice pn nn cn], vt, .slice (some ⟨ba, oa, none⟩) na ca, .slice (some ⟨bs, os, none⟩) ns cs] w fun e w' => ∃ u, e = .returned (.tuple #[.int .i64 (s0), u]) ∧ OwnI w.heap.size w' u ([s0]) ∧ Below w.heap.size w w' := by
  obtain ⟨E0, hE0⟩ : ∃ E, E = w.alloc (.cells #[.int .i64 16, .int .i64 A, .int .i64 B, .slice pn nn cn] 26) := ⟨_, rfl⟩
  have hB0 : Below w.heap.size w E0 := by rw [hE0]; exact (Below.refl _ _).alloc (Nat.le_refl _) _
  have bx : Box E0 w.heap.size [.int .i64 16, .int .i64 A, .int .i64 B, .slice pn nn cn] 26 := by rw [hE0]; exact Box.newAt w _ _ rfl
  replace hx0 := (hB0.cell (p := ⟨ba, oa, none⟩) (World.block_lt_of_cell? w _ hx0)).trans hx0
  replace hx1 := (hB0.cell (p := ⟨ba, oa + 1, none⟩) (World.block_lt_of_cell? w _ hx1)).trans hx1
  have lt0 := World.block_lt_of_cell? E0 _ hx0
  have g0_0 : 0 < na := by omega
  have g0_1 : 1 < na := by omega
  have hs0w := hs0
  have ltw := World.block_lt_of_cell? w _ hs0
  replace hs0 := (hB0.cell (p := ⟨bs, os, none⟩) (World.block_lt_of_cell? w _ hs0)).trans hs0
  have lts := World.block_lt_of_cell? E0 _ hs0
  have g2 : 0 < ns := ls
  have z0 := bx.cell 0 rfl
  have z1 := bx.cell 1 rfl
  have HE := Lib.hid hE0
  clear hE0
  go_enter Tryz.func36, Tryz.ntmps36
  go_upto_region 1 with fail
  rw [← HE.out]
  go_wp2_with fail
  go_ret2
  (first | exact ⟨_, (by first | rfl | exact tup_eq (smp_wrap64 _) | exact tup_eq (smp_wrapI _)), (lit_done hB0 (by repeat (first | exact Below.refl _ _ | assumption | refine Below.alloc ?_ (by first | exact Nat.le_refl _ | omega | (simp; done)) _ | refine Below.drewR ?_)) _ (s0) (by first | rfl | exact smp_wrap64 _ | exact smp_wrapI _)).1, (lit_done hB0 (by repeat (first | exact Below.refl _ _ | assumption | refine Below.alloc ?_ (by first | exact Nat.le_refl _ | omega | (simp; done)) _ | refine Below.drewR ?_)) _ (s0) (by first | rfl | exact smp_wrap64 _ | exact smp_wrapI _)).2⟩ | exact ⟨_, (by first | rfl | exact tup_eq (smp_wrap64 _) | exact tup_eq (smp_wrapI _)), (lit_done_d hB0 (by repeat (first | exact Below.refl _ _ | assumption | refine Below.alloc ?_ (by first | exact Nat.le_refl _ | omega | (simp; done)) _ | refine Below.drewR ?_)) _ (s0) (by first | rfl | exact smp_wrap64 _ | exact smp_wrapI _)).1, (lit_done_d hB0 (by repeat (first | exact Below.refl _ _ | assumption | refine Below.alloc ?_ (by first | exact Nat.le_refl _ | omega | (simp; done)) _ | refine Below.drewR ?_)) _ (s0) (by first | rfl | exact smp_wrap64 _ | exact smp_wrapI _)).2⟩)
set_option maxHeartbeats 4000000 in
set_option maxRecDepth 100000 in
theorem step_plain {v : Value} {x : NodeD} {tb : List (List Int)} {xs ss : List Int} {pt px : Option Addr} {ct cx : Nat} {vs : Value} (w : World) (h : VNode w v x) (ht : RdII w pt tb) (hx : RdI w px xs) (ok : OutOk x tb xs ss)
    (hk0 : x.kind ≠ 6 ∧ x.kind ≠ 7 ∧ x.kind ≠ 8 ∧ x.kind ≠ 12 ∧ x.kind ≠ 14 ∧ x.kind ≠ 16 ∧ x.kind ≠ 17) :
    Calls Tryz.prog 36 #[v, .slice pt tb.length ct, .slice px xs.length cx, vs] w fun e w' => ∃ u, e = .returned (.tuple #[.int .i64 (outP x tb xs ss), u]) ∧ OwnI w.heap.size w' u [] ∧ Below w.heap.size w w' := by
  obtain ⟨pn, cn, rfl, hr⟩ := h
  obtain ⟨E0, hE0⟩ : ∃ E, E = w.alloc (.cells #[.int .i64 x.kind, .int .i64 x.a, .int .i64 x.b, .slice pn x.src.length cn] 26) := ⟨_, rfl⟩
  have hB0 : Below w.heap.size w E0 := by rw [hE0]; exact (Below.refl _ _).alloc (Nat.le_refl _) _
  have bx : Box E0 w.heap.size [.int .i64 x.kind, .int .i64 x.a, .int .i64 x.b, .slice pn x.src.length cn] 26 := by rw [hE0]; exact Box.newAt w _ _ rfl
  have hv : VNode E0 (.agg #[.int .i64 x.kind, .int .i64 x.a, .int .i64 x.b, .slice pn x.src.length cn]) x := ⟨_, _, rfl, hr.below hB0⟩
  have OUT := Lib.hid (output_v (ct := ct) (cx := cx) E0 hv (ht.below hB0) (hx.below hB0) ss ok hk0)
  generalize outP x tb xs ss = R at OUT ⊢
  have q6 : (x.kind == 6) = false := by rw [beq_eq_false_iff_ne]; omega
  have q7 : (x.kind == 7) = false := by rw [beq_eq_false_iff_ne]; omega
  have q8 : (x.kind == 8) = false := by rw [beq_eq_false_iff_ne]; omega
  have q12 : (x.kind == 12) = false := by rw [beq_eq_false_iff_ne]; omega
  have q14 : (x.kind == 14) = false := by rw [beq_eq_false_iff_ne]; omega
  have q16 : (x.kind == 16) = false := by rw [beq_eq_false_iff_ne]; omega
  have q17 : (x.kind == 17) = false := by rw [beq_eq_false_iff_ne]; omega
  have z0 := bx.cell 0 rfl
  have z1 := bx.cell 1 rfl
  have z2 := bx.cell 2 rfl
  have z3 := bx.cell 3 rfl
  have HE := Lib.hid hE0
  clear hE0 hk0 ok hr hv ht hx
  go_enter Tryz.func36, Tryz.ntmps36
  go_upto_region 1 with fail
  rw [← HE.out]
  go_wp2_with (first | (go_at_call 79; refine OUT.out.mono ?_; rintro e W1 ⟨rfl, hb1⟩) | (go_at_call 74; refine (zerosI_any 0 _ (by omega) (by omega)).mono ?_; rintro e W2 ⟨u, rfl, hu, hb2⟩) | fail)
  go_ret2
  have hb3 := hB0.trans (hb1.mono hB0.size)
  exact ⟨_, rfl, hu.mono hb3.size, hb3.trans (hb2.mono hb3.size)⟩
theorem step_v {v : Value} {x : NodeD} {tb : List (List Int)} {xs ss : List Int} {pt px ps : Option Addr} {ct cx cs : Nat} (w : World) (h : VNode w v x) (ht : RdII w pt tb) (hx : RdI w px xs) (hs : RdI w ps ss) (hcs : ss.length ≤ cs) (hs16 : ss.length ≤ 16) (ok : OutOk x tb xs ss) :
    Calls Tryz.prog 36 #[v, .slice pt tb.length ct, .slice px xs.length cx, .slice ps ss.length cs] w fun e w' => ∃ u, e = .returned (.tuple #[.int .i64 (outP x tb xs ss), u]) ∧ OwnI w.heap.size w' u (nextP x xs ss (outP x tb xs ss)) ∧ Below w.heap.size w w' := by
  by_cases hk0 : x.kind ≠ 6 ∧ x.kind ≠ 7 ∧ x.kind ≠ 8 ∧ x.kind ≠ 12 ∧ x.kind ≠ 14 ∧ x.kind ≠ 16 ∧ x.kind ≠ 17
  · have e : nextP x xs ss (outP x tb xs ss) = [] := by
      have hk := ok.k
      unfold nextP
      generalize x.kind = k at hk hk0 ⊢
      rcases kinds_of hk with rfl | rfl | rfl | rfl | rfl | rfl | rfl | rfl | rfl | rfl | rfl | rfl | rfl | rfl | rfl | rfl | rfl
      all_goals first | rfl | (exfalso; omega)
    rw [e]
    exact step_plain w h ht hx ok hk0
  obtain ⟨k, A, B, src⟩ := x
  obtain ⟨pn, cn, rfl, -⟩ := h
  obtain ⟨hk, hn, hst, hsm, hcl, hsh, htb⟩ := ok
  unfold nextP outP
  simp only at *
  have hk7 : k = 6 ∨ k = 7 ∨ k = 8 ∨ k = 12 ∨ k = 14 ∨ k = 16 ∨ k = 17 := by omega
  clear hk0 hk
  have l2 := hst hk7
  obtain ⟨bs, os, rfl, -, h2⟩ := hs.at0 l2
  rcases hk7 with rfl | rfl | rfl | rfl | rfl | rfl | rfl
  · have l : xs.length = 1 := by have : inN ⟨6, A, B, src⟩ = 1 := rfl; omega
    obtain ⟨ba, oa, rfl, -, ha⟩ := hx.at0 (by omega)
    obtain ⟨m, hm⟩ : ∃ m, ss.length = m + 1 := ⟨ss.length - 1, by omega⟩
    rw [hm]
    have hcs' : cs = 1 ∨ ∃ q, cs = q + 1 + 1 := (Nat.lt_or_ge cs 2).elim (fun h => .inl (by omega)) (fun h => .inr ⟨cs - 2, by omega⟩)
    rcases hcs' with rfl | ⟨q, rfl⟩
    · exact step_6_1 w (ha 0 (by omega)) (by omega) (h2 0 (by omega)) (show RdI w _ (ss.drop 1) from by rw [show ss.drop 1 = [] from List.eq_nil_of_length_eq_zero (by rw [List.length_drop]; omega)]; exact RdI.nil _ _) (by rw [List.length_drop]; omega) (by omega)
    · exact step_6_2 w (ha 0 (by omega)) (by omega) (h2 0 (by omega)) hs.tail (by rw [List.length_drop]; omega) (by omega)
  · have l : xs.length = 1 := by have : inN ⟨7, A, B, src⟩ = 1 := rfl; omega
    obtain ⟨ba, oa, rfl, -, ha⟩ := hx.at0 (by omega)
    exact step_7 w (ha 0 (by omega)) (by omega) (h2 0 (by omega)) (by omega)
  · have l : xs.length = 1 := by have : inN ⟨8, A, B, src⟩ = 1 := rfl; omega
    obtain ⟨ba, oa, rfl, -, ha⟩ := hx.at0 (by omega)
    exact step_8 w (ha 0 (by omega)) (by omega) (h2 0 (by omega)) (by omega)
  · have l : xs.length = 1 := by have : inN ⟨12, A, B, src⟩ = 1 := rfl; omega
    obtain ⟨ba, oa, rfl, -, ha⟩ := hx.at0 (by omega)
    exact step_12 w (ha 0 (by omega)) (by omega) (h2 0 (by omega)) (by omega)
  · exact step_14 w (h2 0 (by omega)) (by omega)
  · have l : xs.length = 2 := by have : inN ⟨16, A, B, src⟩ = 2 := rfl; omega
    obtain ⟨ba, oa, rfl, -, ha⟩ := hx.at0 (by omega)
    by_cases hp : 0 < xs.getD 1 0
    · have e : outK (16 : Int).toNat A tb xs ss = xs.getD 0 0 := if_pos hp
      rw [e]
      exact step_16_pos w (ha 0 (by omega)) (ha 1 (by omega)) (by omega) (h2 0 (by omega)) (by omega) hp
    · have e : outK (16 : Int).toNat A tb xs ss = ss.getD 0 0 := if_neg hp
      rw [e]
      exact step_16_neg w (ha 0 (by omega)) (ha 1 (by omega)) (by omega) (h2 0 (by omega)) (by omega) hp
  · have l : xs.length = 1 := by have : inN ⟨17, A, B, src⟩ = 1 := rfl; omega
    obtain ⟨ba, oa, rfl, -, ha⟩ := hx.at0 (by omega)
    obtain ⟨m, hm⟩ : ∃ m, ss.length = m + 1 := ⟨ss.length - 1, by omega⟩
    rw [hm]
    have hcs' : cs = 1 ∨ ∃ q, cs = q + 1 + 1 := (Nat.lt_or_ge cs 2).elim (fun h => .inl (by omega)) (fun h => .inr ⟨cs - 2, by omega⟩)
    rcases hcs' with rfl | ⟨q, rfl⟩
    · exact step_17_1 w (ha 0 (by omega)) (by omega) (h2 0 (by omega)) (show RdI w _ (ss.drop 1) from by rw [show ss.drop 1 = [] from List.eq_nil_of_length_eq_zero (by rw [List.length_drop]; omega)]; exact RdI.nil _ _) (by rw [List.length_drop]; omega) (by omega)
    · exact step_17_2 w (ha 0 (by omega)) (by omega) (h2 0 (by omega)) hs.tail (by rw [List.length_drop]; omega) (by omega)
end Go.Proofs.YtdcacmmglkcliaaGreatDoor
