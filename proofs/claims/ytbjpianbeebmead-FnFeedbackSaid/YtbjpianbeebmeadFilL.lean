/-
  The filter that delays.
-/
import Derived.Test.YtbjpianbeebmeadFilJ
namespace Go.Proofs.Ytbjpianbeebmead
open Go.ChangeShapes Go.WideShapes Go.ChangeAt Go.RowKit
set_option linter.unusedVariables false
set_option linter.unusedSimpArgs false

set_option maxHeartbeats 1000000 in
theorem lagTransfer_any (n : Nat) (w : World) (hn : n ≤ 64) :
    Calls Try.prog 6 #[.int .i64 (n : Int)] w fun e w' => ∃ x, e = .returned (.tuple #[x, .int .i64 0]) ∧ OwnT w.heap.size w' x (List.replicate n 0 ++ [1]) [1] ∧ Below w.heap.size w w' := by
  obtain ⟨E, hE⟩ : ∃ E, E = w.alloc (.cells zT.toArray 26) := ⟨_, rfl⟩
  obtain ⟨r, hr⟩ : ∃ r, r = w.heap.size := ⟨_, rfl⟩
  have hb0 : Below w.heap.size w E := by rw [hE]; exact (Below.refl _ _).alloc (Nat.le_refl _) _
  have bx0 : Box E r zT 26 := by rw [hE]; exact Box.newAt w _ _ hr
  have hz0 : r < E.heap.size := bx0.lt
  have hzE0 := hb0.size
  have ZE := Lib.hid (zerosG_any n E (by omega))
  have WI : Hid (∀ W, Calls Try.prog 16 #[.int .i64 (n : Int), .int .i64 0, .int .i64 64] W fun e w' => e = .returned (.bool true) ∧ W = w') := fun W => by
    have := within_any (n : Int) 0 64 W
    rwa [inB_true (by omega)] at this
  unfold zT at hE bx0
  have HE := Lib.hid hE
  have HR := Lib.hid hr
  clear hE hr
  go_enter Try.func6, Try.ntmps6
  go_upto_region 1 with fail
  rw [← HE.out, ← HR.out]
  go_wp2_with (first | (go_at_call 16; refine (WI.out _).mono ?_; rintro e w' ⟨rfl, rfl⟩) | (go_at_call 17; refine ZE.out.mono ?_; rintro e w1 ⟨rfl, ho1, hb1⟩) | (at_builtin; refine wpList_append_one rfl _ _ rfl rfl ho1 rfl hb1 (by rw [List.length_replicate]; omega) hb1.size (Nat.le_refl _) ?_; intro v' w2 ho2 hb2 hz2 hk2; obtain ⟨p2, c2, rfl, -⟩ := ho2.rd; have br2 := bx0.below hb2; have hz3 := hb2.size; have d0 := (br2.alloc (.cells #[.int .i64 1] 2)).cell 0 rfl; have d1 := (br2.alloc (.cells #[.int .i64 1] 2)).cell 1 rfl; have df0 := (br2.alloc (.cells #[.int .i64 1] 2)).frozen 0; have df1 := (br2.alloc (.cells #[.int .i64 1] 2)).frozen 1))
  have hlen : (List.replicate n (0 : Int) ++ [1]).length = n + 1 := by simp
  rw [hlen] at ho2
  have hrE : w.heap.size ≤ r := by rw [HR.out]; exact Nat.le_refl _
  have ho3 := ho2.alloc (.cells #[.int .i64 1] 2)
  have hl3 := OwnI.lit (B := E.heap.size) w2 [1] hz3 (by simp [maxLen])
  have hb3 : Below w.heap.size w (w2.alloc (.cells #[.int .i64 1] 2)) := (hb0.trans (hb2.mono hzE0)).alloc (by omega) _
  have br3 := br2.alloc (.cells #[.int .i64 1] 2)
  simp only [List.map_cons, List.map_nil, List.length_cons, List.length_nil] at hl3
  generalize hF : w2.alloc (.cells #[.int .i64 1] 2) = F at *
  clear d0 d1 df0 df1 hF hk2
  have bxW := (br3.set 0 (.slice p2 (n + 1) c2)).set 1 (.slice (some ⟨w2.heap.size, 0, none⟩) 1 1)
  have hu5 := ho3.keep (w' := (F.setCell ⟨r, 0, none⟩ (.slice p2 (n + 1) c2)).setCell ⟨r, 1, none⟩ (.slice (some ⟨w2.heap.size, 0, none⟩) 1 1)) fun b hb => by
    have := (ho3.lt hb).1
    rw [Below.heap_setCell _ _ _ _ (show b ≠ r by omega), Below.heap_setCell _ _ _ _ (show b ≠ r by omega)]
  have hv5 := hl3.keep (w' := (F.setCell ⟨r, 0, none⟩ (.slice p2 (n + 1) c2)).setCell ⟨r, 1, none⟩ (.slice (some ⟨w2.heap.size, 0, none⟩) 1 1)) fun b hb => by
    have := (hl3.lt hb).1
    rw [Below.heap_setCell _ _ _ _ (show b ≠ r by omega), Below.heap_setCell _ _ _ _ (show b ≠ r by omega)]
  have hbW := (hb3.setCell (p := ⟨r, 0, none⟩) hrE (.slice p2 (n + 1) c2)).setCell (p := ⟨r, 1, none⟩) hrE (.slice (some ⟨w2.heap.size, 0, none⟩) 1 1)
  generalize (F.setCell ⟨r, 0, none⟩ (.slice p2 (n + 1) c2)).setCell ⟨r, 1, none⟩ (.slice (some ⟨w2.heap.size, 0, none⟩) 1 1) = W at *
  have e0 := bxW.cell 0 rfl
  have e1 := bxW.cell 1 rfl
  refine bodyPost_ret (v := .tuple #[.agg #[.slice p2 (n + 1) c2, .slice (some ⟨w2.heap.size, 0, none⟩) 1 1], .int .i64 0]) (by simp [results, Try.results6, go_sem, *]) rfl ?_
  refine ⟨_, rfl, ⟨_, _, rfl, hu5.mono hzE0, hv5.mono hzE0, ?_, ?_, ?_, ?_, rfl⟩, hbW⟩
  · intro x hx
    rcases List.mem_append.1 hx with hx | hx
    · obtain ⟨-, rfl⟩ := List.mem_replicate.1 hx; rfl
    · obtain rfl := List.mem_singleton.1 hx; rfl
  · intro x hx
    obtain rfl := List.mem_singleton.1 hx; rfl
  · refine ⟨by simp, .inr ?_⟩
    rw [hlen, List.getD_eq_getElem?_getD, List.getElem?_append_right (by simp)]
    simp
  · exact ⟨by simp, .inl rfl⟩
end Go.Proofs.Ytbjpianbeebmead
