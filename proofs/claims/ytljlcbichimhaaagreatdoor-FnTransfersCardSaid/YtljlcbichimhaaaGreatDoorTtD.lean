/-
  Products of polynomials by the reference.
-/
import Derived.Test.YtljlcbichimhaaaGreatDoorDivP
import Derived.StillTailTactics
namespace Go.Proofs.YtljlcbichimhaaaGreatDoor
open Go.ChangeShapes Go.WideShapes Go.ChangeAt Go.RowKit
set_option linter.unusedVariables false
set_option linter.unusedSimpArgs false

theorem mulL_alt {a b : List Int} (ha : 1 ≤ a.length) (hb : 1 ≤ b.length) : trimL (mpL a b (a.length + b.length - 1) a.length 0) = mulL a b := by
  refine canon_ext (trimL_canon _) (trimL_canon _) fun j => ?_
  rw [trimL_get, mulL_get]
  by_cases h : j < a.length + b.length - 1
  · rw [mpL_get a b h, mp_cv]
  · rw [getD_nil' _ (by rw [mpL_length]; exact h)]
    have : cv (fun i => a.getD i 0) (fun i => b.getD i 0) j = 0 := sumN_zero _ fun i hi => by
      show a.getD i 0 * b.getD (j - i) 0 = 0
      by_cases h1 : i < a.length
      · rw [getD_nil' b (by omega), Int.mul_zero]
      · rw [getD_nil' a h1, Int.zero_mul]
    rw [this]; rfl
set_option maxHeartbeats 3200000 in
set_option maxRecDepth 100000 in
theorem l04Mul_any {p q : Option Addr} {c d : Nat} {a b : List Int} (w : World) (h : RdI w p a) (h' : RdI w q b) (ha : 1 ≤ a.length) (hb : 1 ≤ b.length) (hal : a.length ≤ 65) (hbl : b.length ≤ 65) :
    Calls Tryz.prog 59 #[.slice p a.length c, .slice q b.length d] w fun e w' => ∃ v, e = .returned v ∧ OwnI w.heap.size w' v (mulL a b) ∧ Below w.heap.size w w' := by
  obtain ⟨n, hn⟩ : ∃ n, n + 1 = a.length + b.length := ⟨a.length + b.length - 1, by omega⟩
  have HMU : Hid (trimL (mpL a b n a.length 0) = mulL a b) := by
    unfold Hid; rw [← mulL_alt ha hb, show a.length + b.length - 1 = n by omega]
  generalize mulL a b = ML at HMU ⊢
  have hn130 : n ≤ 129 := by omega
  have hmk := fun W => run_make_row' (P := Tryz.prog) 24 2 (.int .i64 0) 8 Tryz.underlying24 infoI rfl .i64 .i64 n (by omega) (by omega) W
  have hown0 := OwnI.made (B := w.heap.size) w n (Nat.le_refl _) (by unfold maxLen; omega)
  have hbel0 : Below w.heap.size w (w.alloc (.cells (madeCells #[.int .i64 0] n) 2)) := (Below.refl _ _).alloc (Nat.le_refl _) _
  have hra := Lib.hid h
  have hrb := Lib.hid h'
  have q1 : (((a.length : Int)) == 0) = false := by rw [beq_eq_false_iff_ne]; omega
  have q2 : (((b.length : Int)) == 0) = false := by rw [beq_eq_false_iff_ne]; omega
  have q3 : ((a.length : Int) + (b.length : Int) - 1) = (n : Int) := by omega
  have HN := Lib.hid hn
  clear h h' hn
  obtain ⟨g, hgg⟩ : ∃ g, g = w.heap.size := ⟨_, rfl⟩
  rw [← hgg] at hown0 hbel0
  have HGG := Lib.hid hgg
  clear hgg
  go_enter Tryz.func59, Tryz.ntmps59
  go_wp2_with fail
  rw [← HGG.out]
  go_loopw [6] (fun i wr => ∃ k : Nat, k ≤ a.length ∧ i = .int .i64 (k : Int) ∧ OwnI g wr (.slice (some ⟨g, 0, none⟩) n n) (mpL a b n k 0) ∧ Below g w wr) (fun i _ => a.length - (intOf i).toNat)
  case atStart => exact ⟨0, Nat.zero_le _, rfl, by rw [mpL_zero]; exact hown0, hbel0⟩
  case round =>
    obtain ⟨i, hi, rfl, hown, hbel⟩ := hrel
    clear hown0 hbel0
    obtain ⟨wi, rfl⟩ : ∃ wi : World, wi = wr := ⟨_, rfl⟩
    by_cases hlt : i < a.length
    · have HX : Hid (a.getD i 0 = a[i]) := getD_at hlt
      go_wp2_with fail
      go_loopw [7] (fun k wr => ∃ j : Nat, j ≤ b.length ∧ k = .int .i64 (j : Int) ∧ OwnI g wr (.slice (some ⟨g, 0, none⟩) n n) (mpL a b n i j) ∧ Below g w wr) (fun k _ => b.length - (intOf k).toNat)
      case atStart => exact ⟨0, Nat.zero_le _, rfl, hown, hbel⟩
      case round =>
        obtain ⟨j, hj, rfl, hown2, hbel2⟩ := hrel
        clear hown hbel
        obtain ⟨wj, rfl⟩ : ∃ wj : World, wj = wr := ⟨_, rfl⟩
        by_cases hlt2 : j < b.length
        · have hbelB : Below w.heap.size w wj := by rw [← HGG.out]; exact hbel2
          obtain ⟨b1, o1, e1, hbk1, hc1⟩ := (hra.out.below hbelB).pos hlt
          cases e1
          have z1 := hc1 i hlt
          obtain ⟨b2, o2, e2, hbk2, hc2⟩ := (hrb.out.below hbelB).pos hlt2
          cases e2
          have z2 := hc2 j hlt2
          have hij : i + j < n := by have := HN.out; omega
          have HST := Lib.hid (mpL_set a b hij)
          have HL : Hid (i + j < (mpL a b n i j).length) := by unfold Hid; rw [mpL_length]; exact hij
          generalize mpL a b n i j = out at hown2 HST HL
          rw [HX.out, getD_at hlt2, getD_at HL.out] at HST
          obtain ⟨-, -, hgl, hz, hfr, hset⟩ := hown2.storing (k := i + j) HL.out
          generalize out[i + j]'HL.out = z at hz HST
          generalize b[j] = y at z2 HST
          generalize a[i] = xx at z1 HST
          have HSET := Lib.hid hset
          clear hc1 hc2 hbelB HX hset hown2
          have eij : ((i : Int) + (j : Int)).toNat = i + j := by omega
          have lij : (i : Int) + (j : Int) < (n : Int) := by omega
          have wij : IntKind.i64.wrap ((i : Int) + (j : Int)) = (i : Int) + (j : Int) := IntWalk.i64_in _ (by omega)
          have pij : (0 : Int) ≤ (i : Int) + (j : Int) := by omega
          go_wp2_with fail
          refine wp_region_still_tail 20 (by kernel_rfl) (by kernel_rfl) ?_
          simp only [List.take_succ_cons, List.take_zero, List.drop_succ_cons, List.drop_zero]
          change wpStill _ _ (World.drew _) _ _ _
          repeat (first | still_step | (refine wpStill_step (fun K hK => ?_); go_simp; refine ⟨_, (by first | exact Calls.turn (l01Mul_any _ _ _) | exact Calls.turn (l01Add_any _ _ _)), hK _ ?_⟩; clear hK K))
          refine wpStill_nil ?_
          change wpList _ _ _ _ _ (World.drew _)
          go_wp2_with fail
          go_roundw
          case rel => exact ⟨j + 1, by omega, by go_num, by rw [HST.out]; simp only [smp_right]; exact HSET.out _, hbel2.trans ⟨rfl, rfl, rfl, by simp [World.setCell, World.drew], fun k hk => Below.heap_setCell _ _ _ _ (show k ≠ g by omega)⟩⟩
          case measure => simp [intOf] <;> omega
        · obtain rfl : j = b.length := by omega
          go_wp2_with fail
          go_roundw
          case rel => exact ⟨i + 1, by omega, by go_num, by rw [← mpL_row]; exact hown2, hbel2⟩
          case measure => simp [intOf] <;> omega
    · obtain rfl : i = a.length := by omega
      obtain ⟨-, hro⟩ := hown.rdAt
      have hl : (mpL a b n a.length 0).length = n := mpL_length _ _ _ _ _
      have TR := Lib.hid (l04Trim_any (c := n) wi hro (by rw [hl]; omega) (by rw [hl]; exact Nat.le_refl _))
      rw [hl] at TR
      have hbelA : Below w.heap.size w wi := by rw [← HGG.out]; exact hbel
      rw [HMU.out] at TR
      clear hro hl hown
      go_wp2_with (go_at_call 65; refine TR.out.mono ?_; rintro e w2 ⟨v, rfl, ho2, hb2⟩)
      go_ret
      exact ⟨_, rfl, ho2.mono hbelA.size, hbelA.trans (hb2.mono hbelA.size)⟩
end Go.Proofs.YtljlcbichimhaaaGreatDoor
