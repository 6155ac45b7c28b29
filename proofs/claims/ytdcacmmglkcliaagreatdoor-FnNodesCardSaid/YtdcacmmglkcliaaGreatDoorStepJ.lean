/-
  The program's step of a node, kind by kind; all kinds.
-/
import Derived.Test.YtdcacmmglkcliaaGreatDoorOutI
import Derived.Test.YtdcacmmglkcliaaGreatDoorNext
namespace Go.Proofs.YtdcacmmglkcliaaGreatDoor
open Go.ChangeShapes Go.WideShapes Go.ChangeAt Go.RowKit Go.Sort
set_option linter.unusedVariables false

theorem smp_wrap_mul6 (x a s : Int) : smp (wrap64 (x + wrap64 (a * s))) = smp (x + smp (a * s)) := by
  rw [smp_wrap64]
  obtain ⟨k, hk⟩ := smp_mod (a * s)
  rw [hk]
  refine smp_eq ?_
  unfold wrap64
  omega
/-- a fresh list of one number behind the node's box -/
theorem lit6_done {w E0 W : World} (hB0 : Below w.heap.size w E0) (h : Below E0.heap.size E0 W) (y z : Int) (hy : y = z) :
    OwnI w.heap.size (W.alloc (.cells #[.int .i64 y] 2)) (.slice (some ⟨W.heap.size, 0, none⟩) 1 1) [z] ∧ Below w.heap.size w (W.alloc (.cells #[.int .i64 y] 2)) := by
  subst hy
  have h1 := hB0.trans (h.mono hB0.size)
  exact ⟨OwnI.lit (B := w.heap.size) W [y] h1.size (by simp [maxLen]), h1.alloc h1.size _⟩
theorem lit6_done_d {w E0 W : World} (hB0 : Below w.heap.size w E0) (h : Below E0.heap.size E0 W) (y z : Int) (hy : y = z) :
    OwnI w.heap.size (W.alloc (.cells #[.int .i64 y] 2)).drew (.slice (some ⟨W.heap.size, 0, none⟩) 1 1) [z] ∧ Below w.heap.size w (W.alloc (.cells #[.int .i64 y] 2)).drew :=
  ⟨(lit6_done hB0 h y z hy).1.drew, Below.drewR (lit6_done hB0 h y z hy).2⟩
theorem tup6_eq {a b : Int} {u : Value} (h : a = b) : Ending.returned (.tuple #[.int .i64 a, u]) = Ending.returned (.tuple #[.int .i64 b, u]) := by rw [h]
set_option maxHeartbeats 4000000 in
set_option maxRecDepth 100000 in
theorem step_6_1 {pn : Option Addr} {nn cn : Nat} {A B : Int} {vt : Value} {ba oa na ca : Nat} {x0 : Int} {bs os m : Nat} {tl : List Int} {s0 : Int} (w : World) (hx0 : w.cell? ⟨ba, oa, none⟩ = some (.int .i64 x0)) (la : 1 ≤ na) (hs0 : w.cell? ⟨bs, os, none⟩ = some (.int .i64 s0)) (hr : RdI w (some ⟨bs, os, none⟩) tl) (hm : tl.length = m) (hl : m ≤ 16)  :
    Calls Tryz.prog 36 #[.agg #[.int .i64 6, .int .i64 A, .int .i64 B, .slice pn nn cn], vt, .slice (some ⟨ba, oa, none⟩) na ca, .slice (some ⟨bs, os, none⟩) (m + 1) (1)] w fun e w' => ∃ u, e = .returned (.tuple #[.int .i64 (s0), u]) ∧ OwnI w.heap.size w' u (tl ++ [x0]) ∧ Below w.heap.size w w' := by
  obtain ⟨E0, hE0⟩ : ∃ E, E = w.alloc (.cells #[.int .i64 6, .int .i64 A, .int .i64 B, .slice pn nn cn] 26) := ⟨_, rfl⟩
  have hB0 : Below w.heap.size w E0 := by rw [hE0]; exact (Below.refl _ _).alloc (Nat.le_refl _) _
  have bx : Box E0 w.heap.size [.int .i64 6, .int .i64 A, .int .i64 B, .slice pn nn cn] 26 := by rw [hE0]; exact Box.newAt w _ _ rfl
  replace hx0 := (hB0.cell (p := ⟨ba, oa, none⟩) (World.block_lt_of_cell? w _ hx0)).trans hx0
  have lt0 := World.block_lt_of_cell? E0 _ hx0
  have g0_0 : 0 < na := by omega
  have hs0w := hs0
  have ltw := World.block_lt_of_cell? w _ hs0
  replace hs0 := (hB0.cell (p := ⟨bs, os, none⟩) (World.block_lt_of_cell? w _ hs0)).trans hs0
  have lts := World.block_lt_of_cell? E0 _ hs0
  replace hr := hr.below hB0
  have K : Hid (∀ W, Below E0.heap.size E0 W → Calls Tryz.prog 76 #[.slice (some ⟨bs, os, none⟩) m (0)] W fun e w' => ∃ v, e = .returned v ∧ OwnI w.heap.size w' v tl ∧ Below W.heap.size W w' ∧ Below E0.heap.size E0 w') := fun W hW => by
    have h := clone_any (c := 0) W (hr.below hW) (by omega)
    rw [hm] at h
    exact h.mono fun e w' ⟨v, h1, h2, h3⟩ => ⟨v, h1, h2.mono (Nat.le_trans hB0.size hW.size), h3, hW.trans (h3.mono hW.size)⟩
  have hlen : tl.length < 17592186044415 := by omega
  clear hr hm
  have g1 : (1 : Int) ≤ (m : Int) + 1 := by omega
  have z0 := bx.cell 0 rfl
  have z1 := bx.cell 1 rfl
  have HE := Lib.hid hE0
  clear hE0
  go_enter Tryz.func36, Tryz.ntmps36
  go_upto_region 1 with fail
  rw [← HE.out]
  go_wp2_with fail
  go_region_law (first | (go_simp; go_at_call 76; refine (K.out _ (by repeat (first | exact Below.refl _ _ | assumption | refine Below.alloc ?_ (by first | exact Nat.le_refl _ | omega | (simp; done)) _ | refine Below.drewR ?_))).mono ?_; rintro e W2 ⟨u, rfl, hu, hb2, hb3⟩; obtain ⟨sp, sc, rfl, -⟩ := hu.rd; (first | (have hlit : RdI W2 (some ⟨E0.heap.size, 0, none⟩) [x0] := (rdI_one E0 x0).below hb2) | (have hlit : RdI W2 (some ⟨E0.heap.size, 0, none⟩) [x0] := (rdI_one E0 x0).below (below_drew' hb2)) | skip); have hx0 := (hb3.cell (p := ⟨ba, oa, none⟩) lt0).trans hx0; have hs0 := (hb3.cell (p := ⟨bs, os, none⟩) lts).trans hs0; have lt2 := Nat.lt_of_lt_of_le lts hb3.size; have lt3 := Nat.lt_of_lt_of_le lt0 hb3.size; have hb4 := hB0.trans (hb3.mono hB0.size); have hsz := hb4.size) | (refine step_append_one rfl _ _ rfl rfl hu rfl hlen hsz ?_; intro q2 k2 w2 ho2 o1 o2 o3 hs2 hk2; have hb5 := below_step hb4 hu o1 o2 o3 hs2 hk2; have hs0 := (hb5.cell (p := ⟨bs, os, none⟩) ltw).trans hs0w) | (refine step_append_rd rfl _ _ rfl rfl hu hlit rfl hlen hsz ?_; intro q2 k2 w2 ho2 o1 o2 o3 hs2 hk2; have hb5 := below_step hb4 hu o1 o2 o3 hs2 hk2; have hs0 := (hb5.cell (p := ⟨bs, os, none⟩) ltw).trans hs0w) | fail)
  all_goals (go_wp2_with fail; go_ret2; exact ⟨_, rfl, ho2, hb5⟩)
set_option maxHeartbeats 4000000 in
set_option maxRecDepth 100000 in
theorem step_17_1 {pn : Option Addr} {nn cn : Nat} {A B : Int} {vt : Value} {ba oa na ca : Nat} {x0 : Int} {bs os m : Nat} {tl : List Int} {s0 : Int} (w : World) (hx0 : w.cell? ⟨ba, oa, none⟩ = some (.int .i64 x0)) (la : 1 ≤ na) (hs0 : w.cell? ⟨bs, os, none⟩ = some (.int .i64 s0)) (hr : RdI w (some ⟨bs, os, none⟩) tl) (hm : tl.length = m) (hl : m ≤ 16)  :
    Calls Tryz.prog 36 #[.agg #[.int .i64 17, .int .i64 A, .int .i64 B, .slice pn nn cn], vt, .slice (some ⟨ba, oa, none⟩) na ca, .slice (some ⟨bs, os, none⟩) (m + 1) (1)] w fun e w' => ∃ u, e = .returned (.tuple #[.int .i64 (smp (x0 + smp (A * s0))), u]) ∧ OwnI w.heap.size w' u (tl ++ [smp (x0 + smp (A * s0))]) ∧ Below w.heap.size w w' := by
  obtain ⟨E0, hE0⟩ : ∃ E, E = w.alloc (.cells #[.int .i64 17, .int .i64 A, .int .i64 B, .slice pn nn cn] 26) := ⟨_, rfl⟩
  have hB0 : Below w.heap.size w E0 := by rw [hE0]; exact (Below.refl _ _).alloc (Nat.le_refl _) _
  have bx : Box E0 w.heap.size [.int .i64 17, .int .i64 A, .int .i64 B, .slice pn nn cn] 26 := by rw [hE0]; exact Box.newAt w _ _ rfl
  replace hx0 := (hB0.cell (p := ⟨ba, oa, none⟩) (World.block_lt_of_cell? w _ hx0)).trans hx0
  have lt0 := World.block_lt_of_cell? E0 _ hx0
  have g0_0 : 0 < na := by omega
  have hs0w := hs0
  have ltw := World.block_lt_of_cell? w _ hs0
  replace hs0 := (hB0.cell (p := ⟨bs, os, none⟩) (World.block_lt_of_cell? w _ hs0)).trans hs0
  have lts := World.block_lt_of_cell? E0 _ hs0
  replace hr := hr.below hB0
  have K : Hid (∀ W, Below E0.heap.size E0 W → Calls Tryz.prog 76 #[.slice (some ⟨bs, os, none⟩) m (0)] W fun e w' => ∃ v, e = .returned v ∧ OwnI w.heap.size w' v tl ∧ Below W.heap.size W w' ∧ Below E0.heap.size E0 w') := fun W hW => by
    have h := clone_any (c := 0) W (hr.below hW) (by omega)
    rw [hm] at h
    exact h.mono fun e w' ⟨v, h1, h2, h3⟩ => ⟨v, h1, h2.mono (Nat.le_trans hB0.size hW.size), h3, hW.trans (h3.mono hW.size)⟩
  have hlen : tl.length < 17592186044415 := by omega
  clear hr hm
  have g1 : (1 : Int) ≤ (m : Int) + 1 := by omega
  have z0 := bx.cell 0 rfl
  have z1 := bx.cell 1 rfl
  have HE := Lib.hid hE0
  clear hE0
  go_enter Tryz.func36, Tryz.ntmps36
  go_upto_region 1 with fail
  rw [← HE.out]
  go_wp2_with fail
  go_quiet ((go_at_call 77; exact Calls.quiet_of_same (Calls.turn (implWrap_any _ _))))
  have K1 := Lib.hid (K.out (E0.drewN nq) (below_drewN (Below.refl _ _) nq))
  go_wp2_with (first | (go_at_call 76; refine K1.out.mono ?_; rintro e W2 ⟨u, rfl, hu, hb2, hb3⟩; have hb4 := hB0.trans (hb3.mono hB0.size); have hsz := hb4.size) | (at_builtin; refine wpList_append_one rfl _ _ rfl rfl hu rfl hb4 hlen hsz (Nat.le_refl _) ?_; intro v' w1 hown1 hbel1 _ _) | fail)
  go_ret2
  rw [smp_wrap_mul6] at *
  exact ⟨_, rfl, hown1, hbel1⟩
set_option maxHeartbeats 4000000 in
set_option maxRecDepth 100000 in
theorem step_6_2 {pn : Option Addr} {nn cn : Nat} {A B : Int} {vt : Value} {ba oa na ca : Nat} {x0 : Int} {bs os m k : Nat} {tl : List Int} {s0 : Int} (w : World) (hx0 : w.cell? ⟨ba, oa, none⟩ = some (.int .i64 x0)) (la : 1 ≤ na) (hs0 : w.cell? ⟨bs, os, none⟩ = some (.int .i64 s0)) (hr : RdI w (some ⟨bs, os + 1, none⟩) tl) (hm : tl.length = m) (hl : m ≤ 16)  :
    Calls Tryz.prog 36 #[.agg #[.int .i64 6, .int .i64 A, .int .i64 B, .slice pn nn cn], vt, .slice (some ⟨ba, oa, none⟩) na ca, .slice (some ⟨bs, os, none⟩) (m + 1) (k + 1 + 1)] w fun e w' => ∃ u, e = .returned (.tuple #[.int .i64 (s0), u]) ∧ OwnI w.heap.size w' u (tl ++ [x0]) ∧ Below w.heap.size w w' := by
  obtain ⟨E0, hE0⟩ : ∃ E, E = w.alloc (.cells #[.int .i64 6, .int .i64 A, .int .i64 B, .slice pn nn cn] 26) := ⟨_, rfl⟩
  have hB0 : Below w.heap.size w E0 := by rw [hE0]; exact (Below.refl _ _).alloc (Nat.le_refl _) _
  have bx : Box E0 w.heap.size [.int .i64 6, .int .i64 A, .int .i64 B, .slice pn nn cn] 26 := by rw [hE0]; exact Box.newAt w _ _ rfl
  replace hx0 := (hB0.cell (p := ⟨ba, oa, none⟩) (World.block_lt_of_cell? w _ hx0)).trans hx0
  have lt0 := World.block_lt_of_cell? E0 _ hx0
  have g0_0 : 0 < na := by omega
  have hs0w := hs0
  have ltw := World.block_lt_of_cell? w _ hs0
  replace hs0 := (hB0.cell (p := ⟨bs, os, none⟩) (World.block_lt_of_cell? w _ hs0)).trans hs0
  have lts := World.block_lt_of_cell? E0 _ hs0
  replace hr := hr.below hB0
  have K : Hid (∀ W, Below E0.heap.size E0 W → Calls Tryz.prog 76 #[.slice (some ⟨bs, os + 1, none⟩) m (k + 1)] W fun e w' => ∃ v, e = .returned v ∧ OwnI w.heap.size w' v tl ∧ Below W.heap.size W w' ∧ Below E0.heap.size E0 w') := fun W hW => by
    have h := clone_any (c := k + 1) W (hr.below hW) (by omega)
    rw [hm] at h
    exact h.mono fun e w' ⟨v, h1, h2, h3⟩ => ⟨v, h1, h2.mono (Nat.le_trans hB0.size hW.size), h3, hW.trans (h3.mono hW.size)⟩
  have hlen : tl.length < 17592186044415 := by omega
  clear hr hm
  have g1 : (1 : Int) ≤ (m : Int) + 1 := by omega
  have z0 := bx.cell 0 rfl
  have z1 := bx.cell 1 rfl
  have HE := Lib.hid hE0
  clear hE0
  go_enter Tryz.func36, Tryz.ntmps36
  go_upto_region 1 with fail
  rw [← HE.out]
  go_wp2_with fail
  go_region_law (first | (go_simp; go_at_call 76; refine (K.out _ (by repeat (first | exact Below.refl _ _ | assumption | refine Below.alloc ?_ (by first | exact Nat.le_refl _ | omega | (simp; done)) _ | refine Below.drewR ?_))).mono ?_; rintro e W2 ⟨u, rfl, hu, hb2, hb3⟩; obtain ⟨sp, sc, rfl, -⟩ := hu.rd; (first | (have hlit : RdI W2 (some ⟨E0.heap.size, 0, none⟩) [x0] := (rdI_one E0 x0).below hb2) | (have hlit : RdI W2 (some ⟨E0.heap.size, 0, none⟩) [x0] := (rdI_one E0 x0).below (below_drew' hb2)) | skip); have hx0 := (hb3.cell (p := ⟨ba, oa, none⟩) lt0).trans hx0; have hs0 := (hb3.cell (p := ⟨bs, os, none⟩) lts).trans hs0; have lt2 := Nat.lt_of_lt_of_le lts hb3.size; have lt3 := Nat.lt_of_lt_of_le lt0 hb3.size; have hb4 := hB0.trans (hb3.mono hB0.size); have hsz := hb4.size) | (refine step_append_one rfl _ _ rfl rfl hu rfl hlen hsz ?_; intro q2 k2 w2 ho2 o1 o2 o3 hs2 hk2; have hb5 := below_step hb4 hu o1 o2 o3 hs2 hk2; have hs0 := (hb5.cell (p := ⟨bs, os, none⟩) ltw).trans hs0w) | (refine step_append_rd rfl _ _ rfl rfl hu hlit rfl hlen hsz ?_; intro q2 k2 w2 ho2 o1 o2 o3 hs2 hk2; have hb5 := below_step hb4 hu o1 o2 o3 hs2 hk2; have hs0 := (hb5.cell (p := ⟨bs, os, none⟩) ltw).trans hs0w) | fail)
  all_goals (go_wp2_with fail; go_ret2; exact ⟨_, rfl, ho2, hb5⟩)
set_option maxHeartbeats 4000000 in
set_option maxRecDepth 100000 in
theorem step_17_2 {pn : Option Addr} {nn cn : Nat} {A B : Int} {vt : Value} {ba oa na ca : Nat} {x0 : Int} {bs os m k : Nat} {tl : List Int} {s0 : Int} (w : World) (hx0 : w.cell? ⟨ba, oa, none⟩ = some (.int .i64 x0)) (la : 1 ≤ na) (hs0 : w.cell? ⟨bs, os, none⟩ = some (.int .i64 s0)) (hr : RdI w (some ⟨bs, os + 1, none⟩) tl) (hm : tl.length = m) (hl : m ≤ 16)  :
    Calls Tryz.prog 36 #[.agg #[.int .i64 17, .int .i64 A, .int .i64 B, .slice pn nn cn], vt, .slice (some ⟨ba, oa, none⟩) na ca, .slice (some ⟨bs, os, none⟩) (m + 1) (k + 1 + 1)] w fun e w' => ∃ u, e = .returned (.tuple #[.int .i64 (smp (x0 + smp (A * s0))), u]) ∧ OwnI w.heap.size w' u (tl ++ [smp (x0 + smp (A * s0))]) ∧ Below w.heap.size w w' := by
  obtain ⟨E0, hE0⟩ : ∃ E, E = w.alloc (.cells #[.int .i64 17, .int .i64 A, .int .i64 B, .slice pn nn cn] 26) := ⟨_, rfl⟩
  have hB0 : Below w.heap.size w E0 := by rw [hE0]; exact (Below.refl _ _).alloc (Nat.le_refl _) _
  have bx : Box E0 w.heap.size [.int .i64 17, .int .i64 A, .int .i64 B, .slice pn nn cn] 26 := by rw [hE0]; exact Box.newAt w _ _ rfl
  replace hx0 := (hB0.cell (p := ⟨ba, oa, none⟩) (World.block_lt_of_cell? w _ hx0)).trans hx0
  have lt0 := World.block_lt_of_cell? E0 _ hx0
  have g0_0 : 0 < na := by omega
  have hs0w := hs0
  have ltw := World.block_lt_of_cell? w _ hs0
  replace hs0 := (hB0.cell (p := ⟨bs, os, none⟩) (World.block_lt_of_cell? w _ hs0)).trans hs0
  have lts := World.block_lt_of_cell? E0 _ hs0
  replace hr := hr.below hB0
  have K : Hid (∀ W, Below E0.heap.size E0 W → Calls Tryz.prog 76 #[.slice (some ⟨bs, os + 1, none⟩) m (k + 1)] W fun e w' => ∃ v, e = .returned v ∧ OwnI w.heap.size w' v tl ∧ Below W.heap.size W w' ∧ Below E0.heap.size E0 w') := fun W hW => by
    have h := clone_any (c := k + 1) W (hr.below hW) (by omega)
    rw [hm] at h
    exact h.mono fun e w' ⟨v, h1, h2, h3⟩ => ⟨v, h1, h2.mono (Nat.le_trans hB0.size hW.size), h3, hW.trans (h3.mono hW.size)⟩
  have hlen : tl.length < 17592186044415 := by omega
  clear hr hm
  have g1 : (1 : Int) ≤ (m : Int) + 1 := by omega
  have z0 := bx.cell 0 rfl
  have z1 := bx.cell 1 rfl
  have HE := Lib.hid hE0
  clear hE0
  go_enter Tryz.func36, Tryz.ntmps36
  go_upto_region 1 with fail
  rw [← HE.out]
  go_wp2_with fail
  go_quiet ((go_at_call 77; exact Calls.quiet_of_same (Calls.turn (implWrap_any _ _))))
  have K1 := Lib.hid (K.out (E0.drewN nq) (below_drewN (Below.refl _ _) nq))
  go_wp2_with (first | (go_at_call 76; refine K1.out.mono ?_; rintro e W2 ⟨u, rfl, hu, hb2, hb3⟩; have hb4 := hB0.trans (hb3.mono hB0.size); have hsz := hb4.size) | (at_builtin; refine wpList_append_one rfl _ _ rfl rfl hu rfl hb4 hlen hsz (Nat.le_refl _) ?_; intro v' w1 hown1 hbel1 _ _) | fail)
  go_ret2
  rw [smp_wrap_mul6] at *
  exact ⟨_, rfl, hown1, hbel1⟩
end Go.Proofs.YtdcacmmglkcliaaGreatDoor
