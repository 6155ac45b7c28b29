/-
  The walks of exact laws on patches.
-/
import Derived.Test.YtdcacmmglkcliaaGreatDoorRpJ
namespace Go.Proofs.YtdcacmmglkcliaaGreatDoor
open Go.ChangeShapes Go.WideShapes Go.ChangeAt Go.RowKit
set_option linter.unusedVariables false
set_option linter.unusedSimpArgs false

set_option maxHeartbeats 8000000 in
set_option maxRecDepth 100000 in
theorem fnExactReadPatch_walk (w : World) (x0 : ByteArray) (w0 : x0.size ≤ maxLen) (hT : TxtT w) (hE : TxtE w) (hC : TxtC w) :
    Calls Tryz.prog 4 #[.string x0] w fun e w' => e = .returned (.bool true) ∧ Below w.heap.size w w' := by
  have HT := Lib.hid hT
  have HEE := Lib.hid hE
  have HC := Lib.hid hC
  clear hT hE hC
  unfold maxLen at w0
  have HB0 := Below.refl w.heap.size w
  by_cases n0 : (1048576 : Int) < (x0.size : Int)
  case pos =>
    go_enter Tryz.func4, Tryz.ntmps4
    go_wp2_with fail
    go_ret
    exact ⟨rfl, HB0⟩
  go_enter Tryz.func4, Tryz.ntmps4
  go_wp2_with fail
  refine (specReadPatch_v _ (by omega)).mono ?_
  rintro e E1 ⟨u1_0, L1_0, rfl, o1_0, D1, hb⟩
  have HBW_o1_0 : Hid (w.heap.size ≤ w.heap.size) := HB0.size
  have HR_o1_0 : Hid (∀ b, Blk L1_0 b → w.heap.size ≤ b ∧ b < E1.heap.size) := fun b hbk => o1_0.blk hbk
  have hz1 : w.heap.size ≤ E1.heap.size := hb.size
  have hB1 := HB0.trans (hb.mono HB0.size)
  clear hb 
  have hv := o1_0.rd
  obtain ⟨b100p1, b100c1, b100p2, b100c2, b100p3, b100c3, rfl, -, -, -⟩ := hv
  go_wp2_with fail
  obtain ⟨E2, hE⟩ : ∃ E, E = E1.alloc (.cells #[.int .i64 (patchRd x0).inputs, .slice b100p1 (patchRd x0).tables.length b100c1, .slice b100p2 (patchRd x0).nodes.length b100c2, .slice b100p3 (patchRd x0).outputs.length b100c3] 46) := ⟨_, rfl⟩
  have hb : Below E1.heap.size E1 E2 := by rw [hE]; exact (Below.refl _ _).alloc (Nat.le_refl _) _
  have bx2 : Box E2 E1.heap.size [.int .i64 (patchRd x0).inputs, .slice b100p1 (patchRd x0).tables.length b100c1, .slice b100p2 (patchRd x0).nodes.length b100c2, .slice b100p3 (patchRd x0).outputs.length b100c3] 46 := by rw [hE]; exact Box.newAt _ [.int .i64 (patchRd x0).inputs, .slice b100p1 (patchRd x0).tables.length b100c1, .slice b100p2 (patchRd x0).nodes.length b100c2, .slice b100p3 (patchRd x0).outputs.length b100c3] _ rfl
  rw [← hE]
  clear hE
  have hz2 : E1.heap.size ≤ E2.heap.size := hb.size
  have hB2 := hB1.trans (hb.mono hB1.size)
  have o1_0_2 := o1_0.below hb
  clear hb hB1 o1_0
  refine (implReadPatch_v _ (by omega) (HT.out.below hB2) (HEE.out.below hB2) (HC.out.below hB2)).mono ?_
  rintro e E3 ⟨u3_0, L3_0, rfl, o3_0, D3, hb⟩
  have HBW_o3_0 : Hid (w.heap.size ≤ E2.heap.size) := hB2.size
  have HR_o3_0 : Hid (∀ b, Blk L3_0 b → E2.heap.size ≤ b ∧ b < E3.heap.size) := fun b hbk => o3_0.blk hbk
  have hz3 : E2.heap.size ≤ E3.heap.size := hb.size
  have hB3 := hB2.trans (hb.mono hB2.size)
  have bx2_3 := bx2.below hb
  have o1_0_3 := o1_0_2.below hb
  clear hb hB2 bx2 o1_0_2
  have hv := o3_0.rd
  obtain ⟨b300p1, b300c1, b300p2, b300c2, b300p3, b300c3, rfl, -, -, -⟩ := hv
  have z_bx2_0 := (bx2_3.alloc (.cells #[.int .i64 (patchRd x0).inputs, .slice b300p1 (patchRd x0).tables.length b300c1, .slice b300p2 (patchRd x0).nodes.length b300c2, .slice b300p3 (patchRd x0).outputs.length b300c3] 46)).cell 0 rfl
  have z_bx2_1 := (bx2_3.alloc (.cells #[.int .i64 (patchRd x0).inputs, .slice b300p1 (patchRd x0).tables.length b300c1, .slice b300p2 (patchRd x0).nodes.length b300c2, .slice b300p3 (patchRd x0).outputs.length b300c3] 46)).cell 1 rfl
  have z_bx2_2 := (bx2_3.alloc (.cells #[.int .i64 (patchRd x0).inputs, .slice b300p1 (patchRd x0).tables.length b300c1, .slice b300p2 (patchRd x0).nodes.length b300c2, .slice b300p3 (patchRd x0).outputs.length b300c3] 46)).cell 2 rfl
  have z_bx2_3 := (bx2_3.alloc (.cells #[.int .i64 (patchRd x0).inputs, .slice b300p1 (patchRd x0).tables.length b300c1, .slice b300p2 (patchRd x0).nodes.length b300c2, .slice b300p3 (patchRd x0).outputs.length b300c3] 46)).cell 3 rfl
  go_wp2_with fail
  clear z_bx2_0 z_bx2_1 z_bx2_2 z_bx2_3
  obtain ⟨E4, hE⟩ : ∃ E, E = E3.alloc (.cells #[.int .i64 (patchRd x0).inputs, .slice b300p1 (patchRd x0).tables.length b300c1, .slice b300p2 (patchRd x0).nodes.length b300c2, .slice b300p3 (patchRd x0).outputs.length b300c3] 46) := ⟨_, rfl⟩
  have hb : Below E3.heap.size E3 E4 := by rw [hE]; exact (Below.refl _ _).alloc (Nat.le_refl _) _
  have bx4 : Box E4 E3.heap.size [.int .i64 (patchRd x0).inputs, .slice b300p1 (patchRd x0).tables.length b300c1, .slice b300p2 (patchRd x0).nodes.length b300c2, .slice b300p3 (patchRd x0).outputs.length b300c3] 46 := by rw [hE]; exact Box.newAt _ [.int .i64 (patchRd x0).inputs, .slice b300p1 (patchRd x0).tables.length b300c1, .slice b300p2 (patchRd x0).nodes.length b300c2, .slice b300p3 (patchRd x0).outputs.length b300c3] _ rfl
  rw [← hE]
  clear hE
  have hz4 : E3.heap.size ≤ E4.heap.size := hb.size
  have hB4 := hB3.trans (hb.mono hB3.size)
  have bx2_4 := bx2_3.below hb
  have o1_0_4 := o1_0_3.below hb
  have o3_0_4 := o3_0.below hb
  clear hb hB3 bx2_3 o1_0_3 o3_0
  refine (eqPatch_v _ o3_0_4.rd o1_0_4.rd).mono ?_
  rintro e E5 ⟨rfl, hb⟩
  have hz5 : E4.heap.size ≤ E5.heap.size := hb.size
  have hB5 := hB4.trans (hb.mono hB4.size)
  have bx2_5 := bx2_4.below hb
  have bx4_5 := bx4.below hb
  have o1_0_5 := o1_0_4.below hb
  have o3_0_5 := o3_0_4.below hb
  clear hb hB4 bx2_4 bx4 o1_0_4 o3_0_4
  have z_bx4_0 := bx4_5.cell 0 rfl
  have z_bx4_1 := bx4_5.cell 1 rfl
  have z_bx4_2 := bx4_5.cell 2 rfl
  have z_bx4_3 := bx4_5.cell 3 rfl
  go_wp2_with fail
  clear z_bx4_0 z_bx4_1 z_bx4_2 z_bx4_3
  have hc_o3_0 := patchRd_small x0
  refine (markPatch_v _ _ o3_0_5 D3 (by omega) (by omega)).mono ?_
  rintro e E6 ⟨rfl, om6, hf⟩
  have hz6 : E5.heap.size ≤ E6.heap.size := hf.size
  have hB6 := hB5.trans (hf.below (fun b hbk => by have h1 := (HR_o3_0.out b hbk).1; have h2 := HBW_o3_0.out; omega) hB5.size)
  (first | (have bx2_6 := bx2_5.offBlk (by decide) o3_0_5.ints hf) | (have bx2_6 := bx2_5.off hf (fun hbk => by have h1 := HR_o3_0.out _ hbk; omega)))
  (first | (have bx4_6 := bx4_5.offBlk (by decide) o3_0_5.ints hf) | (have bx4_6 := bx4_5.off hf (fun hbk => by have h1 := HR_o3_0.out _ hbk; omega)))
  have o1_0_6 := o1_0_5.offBlk o3_0_5.ints (apart (fun x h => (HR_o1_0.out x h).2) (fun x h => (HR_o3_0.out x h).1) (by omega)) hf
  clear hf hB5 bx2_5 bx4_5 o1_0_5 o3_0_5
  have z_bx4_0 := bx4_6.cell 0 rfl
  have z_bx4_1 := bx4_6.cell 1 rfl
  have z_bx4_2 := bx4_6.cell 2 rfl
  have z_bx4_3 := bx4_6.cell 3 rfl
  go_wp2_with fail
  clear z_bx4_0 z_bx4_1 z_bx4_2 z_bx4_3
  refine (heldPatch_v (x := (patchRd x0)) _ _ om6.rd (by omega) (by omega)).mono ?_
  rintro e E7 ⟨rfl, hb⟩
  have hz7 : E6.heap.size ≤ E7.heap.size := hb.size
  have hB7 := hB6.trans (hb.mono hB6.size)
  have bx2_7 := bx2_6.below hb
  have bx4_7 := bx4_6.below hb
  have o1_0_7 := o1_0_6.below hb
  have o3_0_7 := om6.below hb
  clear hb hB6 bx2_6 bx4_6 o1_0_6 om6
  go_wp2_with fail
  refine (implReadPatch_v _ (by omega) (HT.out.below hB7) (HEE.out.below hB7) (HC.out.below hB7)).mono ?_
  rintro e E8 ⟨u8_0, L8_0, rfl, o8_0, D8, hb⟩
  have HBW_o8_0 : Hid (w.heap.size ≤ E7.heap.size) := hB7.size
  have HR_o8_0 : Hid (∀ b, Blk L8_0 b → E7.heap.size ≤ b ∧ b < E8.heap.size) := fun b hbk => o8_0.blk hbk
  have hz8 : E7.heap.size ≤ E8.heap.size := hb.size
  have hB8 := hB7.trans (hb.mono hB7.size)
  have bx2_8 := bx2_7.below hb
  have bx4_8 := bx4_7.below hb
  have o1_0_8 := o1_0_7.below hb
  have o3_0_8 := o3_0_7.below hb
  clear hb hB7 bx2_7 bx4_7 o1_0_7 o3_0_7
  have hv := o8_0.rd
  obtain ⟨b800p1, b800c1, b800p2, b800c2, b800p3, b800c3, rfl, -, -, -⟩ := hv
  have z_bx2_0 := (bx2_8.alloc (.cells #[.int .i64 (patchRd x0).inputs, .slice b800p1 (patchRd x0).tables.length b800c1, .slice b800p2 (patchRd x0).nodes.length b800c2, .slice b800p3 (patchRd x0).outputs.length b800c3] 46)).cell 0 rfl
  have z_bx2_1 := (bx2_8.alloc (.cells #[.int .i64 (patchRd x0).inputs, .slice b800p1 (patchRd x0).tables.length b800c1, .slice b800p2 (patchRd x0).nodes.length b800c2, .slice b800p3 (patchRd x0).outputs.length b800c3] 46)).cell 1 rfl
  have z_bx2_2 := (bx2_8.alloc (.cells #[.int .i64 (patchRd x0).inputs, .slice b800p1 (patchRd x0).tables.length b800c1, .slice b800p2 (patchRd x0).nodes.length b800c2, .slice b800p3 (patchRd x0).outputs.length b800c3] 46)).cell 2 rfl
  have z_bx2_3 := (bx2_8.alloc (.cells #[.int .i64 (patchRd x0).inputs, .slice b800p1 (patchRd x0).tables.length b800c1, .slice b800p2 (patchRd x0).nodes.length b800c2, .slice b800p3 (patchRd x0).outputs.length b800c3] 46)).cell 3 rfl
  go_wp2_with fail
  clear z_bx2_0 z_bx2_1 z_bx2_2 z_bx2_3
  obtain ⟨E9, hE⟩ : ∃ E, E = E8.alloc (.cells #[.int .i64 (patchRd x0).inputs, .slice b800p1 (patchRd x0).tables.length b800c1, .slice b800p2 (patchRd x0).nodes.length b800c2, .slice b800p3 (patchRd x0).outputs.length b800c3] 46) := ⟨_, rfl⟩
  have hb : Below E8.heap.size E8 E9 := by rw [hE]; exact (Below.refl _ _).alloc (Nat.le_refl _) _
  have bx9 : Box E9 E8.heap.size [.int .i64 (patchRd x0).inputs, .slice b800p1 (patchRd x0).tables.length b800c1, .slice b800p2 (patchRd x0).nodes.length b800c2, .slice b800p3 (patchRd x0).outputs.length b800c3] 46 := by rw [hE]; exact Box.newAt _ [.int .i64 (patchRd x0).inputs, .slice b800p1 (patchRd x0).tables.length b800c1, .slice b800p2 (patchRd x0).nodes.length b800c2, .slice b800p3 (patchRd x0).outputs.length b800c3] _ rfl
  rw [← hE]
  clear hE
  have hz9 : E8.heap.size ≤ E9.heap.size := hb.size
  have hB9 := hB8.trans (hb.mono hB8.size)
  have bx2_9 := bx2_8.below hb
  have bx4_9 := bx4_8.below hb
  have o1_0_9 := o1_0_8.below hb
  have o3_0_9 := o3_0_8.below hb
  have o8_0_9 := o8_0.below hb
  clear hb hB8 bx2_8 bx4_8 o1_0_8 o3_0_8 o8_0
  refine (eqPatch_v _ o8_0_9.rd o1_0_9.rd).mono ?_
  rintro e E10 ⟨rfl, hb⟩
  have hz10 : E9.heap.size ≤ E10.heap.size := hb.size
  have hB10 := hB9.trans (hb.mono hB9.size)
  have bx2_10 := bx2_9.below hb
  have bx4_10 := bx4_9.below hb
  have bx9_10 := bx9.below hb
  have o1_0_10 := o1_0_9.below hb
  have o3_0_10 := o3_0_9.below hb
  have o8_0_10 := o8_0_9.below hb
  clear hb hB9 bx2_9 bx4_9 bx9 o1_0_9 o3_0_9 o8_0_9
  have z_bx4_0 := bx4_10.cell 0 rfl
  have z_bx4_1 := bx4_10.cell 1 rfl
  have z_bx4_2 := bx4_10.cell 2 rfl
  have z_bx4_3 := bx4_10.cell 3 rfl
  go_wp2_with fail
  clear z_bx4_0 z_bx4_1 z_bx4_2 z_bx4_3
  refine (heldPatch_v (x := (patchRd x0)) _ _ o3_0_10.rd (by omega) (by omega)).mono ?_
  rintro e E11 ⟨rfl, hb⟩
  have hz11 : E10.heap.size ≤ E11.heap.size := hb.size
  have hB11 := hB10.trans (hb.mono hB10.size)
  have bx2_11 := bx2_10.below hb
  have bx4_11 := bx4_10.below hb
  have bx9_11 := bx9_10.below hb
  have o1_0_11 := o1_0_10.below hb
  have o3_0_11 := o3_0_10.below hb
  have o8_0_11 := o8_0_10.below hb
  clear hb hB10 bx2_10 bx4_10 bx9_10 o1_0_10 o3_0_10 o8_0_10
  go_wp2_with fail
  go_ret
  exact ⟨rfl, hB11⟩

end Go.Proofs.YtdcacmmglkcliaaGreatDoor
