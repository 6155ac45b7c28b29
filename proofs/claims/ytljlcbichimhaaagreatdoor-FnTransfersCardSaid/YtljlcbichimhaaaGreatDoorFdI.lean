/-
  Cascades and loops of transfer functions by the program.
-/
import Derived.Test.YtljlcbichimhaaaGreatDoorPolyE
import Derived.Test.YtljlcbichimhaaaGreatDoorFilN
import Derived.Test.YtljlcbichimhaaaGreatDoorFdM
namespace Go.Proofs.YtljlcbichimhaaaGreatDoor
open Go.ChangeShapes Go.WideShapes Go.ChangeAt Go.RowKit
set_option linter.unusedVariables false
set_option linter.unusedSimpArgs false

set_option maxHeartbeats 1000000 in
theorem areTransfers_two {p1 p2 p3 p4 : Option Addr} {n1 c1 n2 c2 n3 c3 n4 c4 g : Nat} (w : World) (hb : Box w g [.slice p1 n1 c1, .slice p2 n2 c2, .slice p3 n3 c3, .slice p4 n4 c4] 26)
    (h1 : ∀ W, Below w.heap.size w W → Calls Tryz.prog 28 #[.agg #[.slice p1 n1 c1, .slice p2 n2 c2]] W fun e w' => e = .returned (.bool true) ∧ Below W.heap.size W w')
    (h2 : ∀ W, Below w.heap.size w W → Calls Tryz.prog 28 #[.agg #[.slice p3 n3 c3, .slice p4 n4 c4]] W fun e w' => e = .returned (.bool true) ∧ Below W.heap.size W w') :
    Calls Tryz.prog 22 #[.slice (some ⟨g, 0, none⟩) 2 2] w fun e w' => e = .returned (.bool true) ∧ Below w.heap.size w w' := by
  have H1 := Lib.hid h1
  have H2 := Lib.hid h2
  clear h1 h2
  go_enter Tryz.func22, Tryz.ntmps22
  go_wp2_with fail
  go_loopw [7] (fun i wr => ∃ k : Nat, k ≤ 2 ∧ i = .int .i64 (k : Int) ∧ Below w.heap.size w wr) (fun i _ => 2 - (intOf i).toNat)
  case atStart => exact ⟨0, by omega, rfl, Below.refl _ _⟩
  case round =>
    obtain ⟨k, hk, rfl, hbe⟩ := hrel
    have bw := hb.below hbe
    have z0 := bw.cell 0 rfl
    have z1 := bw.cell 1 rfl
    have z2 := bw.cell 2 rfl
    have z3 := bw.cell 3 rfl
    obtain ⟨wi, rfl⟩ : ∃ W : World, W = wr := ⟨_, rfl⟩
    have hsz := hbe.size
    rcases (show k = 0 ∨ k = 1 ∨ k = 2 by omega) with rfl | rfl | rfl
    · have I1 := Lib.hid (fun W (hW : Below w.heap.size wi W) => H1.out W (hbe.trans hW))
      go_wp2_with (go_at_call 28; refine (I1.out _ (by (repeat (first | exact Below.refl _ _ | assumption | refine Below.setCell ?_ (by first | exact Nat.le_refl _ | omega | (simp; done) | (simp; omega)) _ | refine Below.alloc ?_ (by first | exact Nat.le_refl _ | omega | (simp; done) | (simp; omega)) _ | refine below_drewN ?_ _)))).mono ?_; rintro e w2 ⟨rfl, hb2⟩)
      go_roundw
      case rel => exact ⟨1, by omega, by go_num, (hbe.alloc hsz _).trans (hb2.mono (by simp; omega))⟩
      case measure => simp [intOf]
    · have I1 := Lib.hid (fun W (hW : Below w.heap.size wi W) => H2.out W (hbe.trans hW))
      go_wp2_with (go_at_call 28; refine (I1.out _ (by (repeat (first | exact Below.refl _ _ | assumption | refine Below.setCell ?_ (by first | exact Nat.le_refl _ | omega | (simp; done) | (simp; omega)) _ | refine Below.alloc ?_ (by first | exact Nat.le_refl _ | omega | (simp; done) | (simp; omega)) _ | refine below_drewN ?_ _)))).mono ?_; rintro e w2 ⟨rfl, hb2⟩)
      go_roundw
      case rel => exact ⟨2, by omega, by go_num, (hbe.alloc hsz _).trans (hb2.mono (by simp; omega))⟩
      case measure => simp [intOf]
    · go_wp2_with fail
      go_ret
      exact ⟨rfl, hbe⟩
set_option maxHeartbeats 1000000 in
theorem toldTransfer_any {p q : Option Addr} {n c m d : Nat} (w : World) (hn : n ≤ 65) (hm : m ≤ 65) :
    Calls Tryz.prog 23 #[.slice p n c, .slice q m d] w fun e w' => e = .returned (.tuple #[.agg #[.slice p n c, .slice q m d], .int .i64 0]) ∧ Below w.heap.size w w' := by
  obtain ⟨E, hE⟩ : ∃ E, E = w.alloc (.cells zT.toArray 26) := ⟨_, rfl⟩
  obtain ⟨r, hr⟩ : ∃ r, r = w.heap.size := ⟨_, rfl⟩
  have hb0 : Below w.heap.size w E := by rw [hE]; exact (Below.refl _ _).alloc (Nat.le_refl _) _
  have bx0 : Box E r zT 26 := by rw [hE]; exact Box.newAt w _ _ hr
  unfold zT at hE bx0
  have d0 := bx0.cell 0 rfl
  have d1 := bx0.cell 1 rfl
  have df0 := bx0.frozen 0
  have df1 := bx0.frozen 1
  have HE := Lib.hid hE
  have HR := Lib.hid hr
  clear hE hr
  go_enter Tryz.func23, Tryz.ntmps23
  go_upto_region 1 with fail
  rw [← HE.out, ← HR.out]
  go_wp2_with fail
  have hrE : w.heap.size ≤ r := by rw [HR.out]; exact Nat.le_refl _
  have bxW := (bx0.set 0 (.slice p n c)).set 1 (.slice q m d)
  have hbW := (hb0.setCell (p := ⟨r, 0, none⟩) hrE (.slice p n c)).setCell (p := ⟨r, 1, none⟩) hrE (.slice q m d)
  generalize (E.setCell ⟨r, 0, none⟩ (.slice p n c)).setCell ⟨r, 1, none⟩ (.slice q m d) = W at *
  clear d0 d1 df0 df1
  have e0 := bxW.cell 0 rfl
  have e1 := bxW.cell 1 rfl
  refine bodyPost_ret (v := .tuple #[.agg #[.slice p n c, .slice q m d], .int .i64 0]) (by simp [results, Tryz.results23, go_sem, *]) rfl ⟨rfl, hbW⟩
end Go.Proofs.YtljlcbichimhaaaGreatDoor
