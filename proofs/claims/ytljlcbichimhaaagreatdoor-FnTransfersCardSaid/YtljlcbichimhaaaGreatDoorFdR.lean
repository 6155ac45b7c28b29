/-
  Responses of transfer functions by the program.
-/
import Derived.Test.YtljlcbichimhaaaGreatDoorFdC
import Derived.Test.YtljlcbichimhaaaGreatDoorTrM
namespace Go.Proofs.YtljlcbichimhaaaGreatDoor
open Go.ChangeShapes Go.WideShapes Go.ChangeAt Go.RowKit
set_option linter.unusedVariables false
set_option linter.unusedSimpArgs false

theorem isCount_true (n : Nat) (w : World) (hn : n ≤ 4000) :
    Calls Tryz.prog 35 #[.int .i64 (n : Int)] w fun e w' => e = .returned (.bool true) ∧ w = w' := by
  have WI : Hid (∀ W, Calls Tryz.prog 58 #[.int .i64 (n : Int), .int .i64 0, .int .i64 4000] W fun e w' => e = .returned (.bool true) ∧ W = w') := fun W => by
    have := within_any (n : Int) 0 4000 W
    rwa [inB_true (by omega)] at this
  go_enter Tryz.func35, Tryz.ntmps35
  go_wp2_with (go_at_call 58; refine (WI.out _).mono ?_; rintro e w' ⟨rfl, rfl⟩)
  go_ret
  exact ⟨rfl, rfl⟩
set_option maxHeartbeats 1000000 in
theorem responseOf_any {B : Nat} {x : Value} {ys zs : List Int} (n : Nat) (w : World) (h : OwnT B w x ys zs) (hy : ys.length ≤ 65) (hz : zs.length ≤ 65) (hn : n ≤ 256) :
    Calls Tryz.prog 13 #[x, .int .i64 (n : Int)] w fun e w' => ∃ u, e = .returned (.tuple #[u, .int .i64 0]) ∧ OwnI w.heap.size w' u (respL ys zs n) ∧ Below w.heap.size w w' := by
  obtain ⟨u1, u2, rfl, ho1, ho2, ha1, ha2, hc1, hc2, h1⟩ := h
  obtain ⟨p1, c1, rfl, hr1⟩ := ho1.rd
  obtain ⟨p2, c2, rfl, hr2⟩ := ho2.rd
  have hcap1 := ho1.cap
  have hcap2 := ho2.cap
  obtain ⟨E, hE⟩ : ∃ E, E = w.alloc (.cells #[.slice p1 ys.length c1, .slice p2 zs.length c2] 26) := ⟨_, rfl⟩
  obtain ⟨s, hs⟩ : ∃ s, s = w.heap.size := ⟨_, rfl⟩
  have hb0 : Below w.heap.size w E := by rw [hE]; exact (Below.refl _ _).alloc (Nat.le_refl _) _
  have bx0 : Box E s [.slice p1 ys.length c1, .slice p2 zs.length c2] 26 := by rw [hE]; exact Box.newAt w _ _ hs
  have IT := Lib.hid (isTransfer_true E (hr1.below hb0) (hr2.below hb0) hcap1 hcap2 ⟨hc1, ha1, hy⟩ ⟨hc2, ha2, hz⟩ h1)
  have IC := Lib.hid (fun W => isCount_true n W (by omega))
  have b0 := bx0.cell 0 rfl
  have b1 := bx0.cell 1 rfl
  have HE := Lib.hid hE
  have HS := Lib.hid hs
  have hz0 := hb0.size
  clear hE hs ho1 ho2
  go_enter Tryz.func13, Tryz.ntmps13
  go_upto_region 1 with fail
  rw [← HE.out, ← HS.out]
  go_wp2_with (first | (go_at_call 28; refine IT.out.mono ?_; rintro e w1 ⟨rfl, hb1⟩; have d0 := (bx0.below hb1).cell 0 rfl; have d1 := (bx0.below hb1).cell 1 rfl) | (go_at_call 35; refine (IC.out _).mono ?_; rintro e w' ⟨rfl, rfl⟩))
  have hbw : Below w.heap.size w w1 := hb0.trans (hb1.mono hz0)
  refine (quotient_any (c := c1) (d := c2) n w1 (hr1.below hbw) (hr2.below hbw) hn hc2.1 (by omega) (by omega)).mono ?_
  rintro e w2 ⟨v, rfl, ho, hb⟩
  go_wp2_with fail
  refine bodyPost_ret (v := .tuple #[v, .int .i64 0]) (by simp [results, Tryz.results13, go_sem, *]) rfl ⟨_, rfl, ho.mono hbw.size, hbw.trans (hb.mono hbw.size)⟩
end Go.Proofs.YtljlcbichimhaaaGreatDoor
