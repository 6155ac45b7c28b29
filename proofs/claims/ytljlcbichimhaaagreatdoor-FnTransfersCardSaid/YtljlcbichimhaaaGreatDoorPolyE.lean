/-
  The product of polynomials on the program's side: the walk.
-/
import Derived.Test.YtljlcbichimhaaaGreatDoorPolyL
namespace Go.Proofs.YtljlcbichimhaaaGreatDoor
open Go.ChangeShapes Go.WideShapes Go.ChangeAt Go.RowKit
set_option linter.unusedVariables false
set_option linter.unusedSimpArgs false

set_option maxHeartbeats 2000000 in
set_option maxRecDepth 100000 in
theorem mulPolyI_any {p q : Option Addr} {c d : Nat} {a b : List Int} (w : World) (h : RdI w p a) (h' : RdI w q b) (hal : a.length ≤ 65) (hbl : b.length ≤ 65) :
    Calls Tryz.prog 24 #[.slice p a.length c, .slice q b.length d] w fun e w' => ∃ v, e = .returned v ∧ OwnI w.heap.size w' v (mulL a b) ∧ Below w.heap.size w w' := by
  unfold mulL
  have SA := Lib.hid (sizeI_any p a.length c w h.len)
  have SB := Lib.hid (sizeI_any q b.length d w h'.len)
  have ZE := Lib.hid (zerosG_any (a.length + b.length) w (by omega))
  have hra := Lib.hid h
  have hrb := Lib.hid h'
  have hcast : ((a.length + b.length : Nat) : Int) = (a.length : Int) + (b.length : Int) := by omega
  rw [hcast] at ZE
  clear h h'
  obtain ⟨n, hn⟩ : ∃ n, n = a.length + b.length := ⟨_, rfl⟩
  rw [← hn] at ZE ⊢
  have HN := Lib.hid hn
  have hn130 : n ≤ 130 := by omega
  clear hn hcast
  go_enter Tryz.func24, Tryz.ntmps24
  go_wp2_with (first | (go_at_call_of 32 (Value.slice p a.length c); refine SA.out.mono ?_; rintro e w' ⟨rfl, rfl⟩) | (go_at_call_of 32 (Value.slice q b.length d); refine SB.out.mono ?_; rintro e w' ⟨rfl, rfl⟩) | (go_at_call 46; refine ZE.out.mono ?_; rintro e w1 ⟨rfl, hown0, hbel0⟩))
  clear ZE SA SB
  obtain ⟨g, hgg⟩ : ∃ g, g = w.heap.size := ⟨_, rfl⟩
  rw [← hgg] at hown0 hbel0 ⊢
  have HGG := Lib.hid hgg
  clear hgg
  go_loopw [18] (fun i wr => ∃ k : Nat, k ≤ a.length ∧ i = .int .i64 (k : Int) ∧ OwnI g wr (.slice (some ⟨g, 0, none⟩) n n) (mpL a b n k 0) ∧ Below g w wr) (fun i _ => a.length - (intOf i).toNat)
  case atStart => exact ⟨0, Nat.zero_le _, rfl, by rw [mpL_zero]; exact hown0, hbel0⟩
  case round =>
    obtain ⟨i, hi, rfl, hown, hbel⟩ := hrel
    clear hown0 hbel0
    obtain ⟨wi, rfl⟩ : ∃ wi : World, wi = wr := ⟨_, rfl⟩
    by_cases hlt : i < a.length
    · have hbelA : Below w.heap.size w wi := by rw [← HGG.out]; exact hbel
      obtain ⟨b1, o1, e1, hbk1, hc1⟩ := (hra.out.below hbelA).pos hlt
      cases e1
      have z1 := hc1 i hlt
      have HX : Hid (a.getD i 0 = a[i]) := getD_at hlt
      generalize a[i] = x at z1 HX
      clear hc1 hbelA
      go_wp2_with fail
      go_loopw [25] (fun k wr => ∃ j : Nat, j ≤ b.length ∧ k = .int .i64 (j : Int) ∧ OwnI g wr (.slice (some ⟨g, 0, none⟩) n n) (mpL a b n i j) ∧ Below g w wr) (fun k _ => b.length - (intOf k).toNat)
      case atStart => exact ⟨0, Nat.zero_le _, rfl, hown, hbel⟩
      case round =>
        obtain ⟨j, hj, rfl, hown2, hbel2⟩ := hrel
        clear hown hbel
        obtain ⟨wj, rfl⟩ : ∃ wj : World, wj = wr := ⟨_, rfl⟩
        by_cases hlt2 : j < b.length
        · have hbelB : Below w.heap.size w wj := by rw [← HGG.out]; exact hbel2
          obtain ⟨b2, o2, e2, hbk2, hc2⟩ := (hrb.out.below hbelB).pos hlt2
          cases e2
          have z2 := hc2 j hlt2
          have hij : i + j < n := by have := HN.out; omega
          have HST := Lib.hid (mpL_set a b hij)
          have HL : Hid (i + j < (mpL a b n i j).length) := by unfold Hid; rw [mpL_length]; exact hij
          generalize mpL a b n i j = out at hown2 HST HL
          rw [HX.out, getD_at hlt2, getD_at HL.out] at HST
          obtain ⟨-, -, hgl, hz, hfr, hset⟩ := hown2.storing (k := i + j) HL.out
          generalize out[i + j]'HL.out = z at hz HST
          generalize b[j] = y at z2 HST
          clear hc2 hbelB
          have eij : ((i : Int) + (j : Int)).toNat = i + j := by omega
          have lij : (i : Int) + (j : Int) < (n : Int) := by omega
          go_wp2_with (go_at_call 47; refine (implWrap_any _ _).mono ?_; rintro e w' ⟨rfl, rfl⟩)
          go_roundw
          case rel => exact ⟨j + 1, by omega, by go_num, by rw [HST.out]; simp only [smp_wrap64, smp_add_wr]; exact hset _, hbel2.setCell (Nat.le_refl _) _⟩
          case measure => simp [intOf] <;> omega
        · obtain rfl : j = b.length := by omega
          go_wp2_with fail
          go_roundw
          case rel => exact ⟨i + 1, by omega, by go_num, by rw [← mpL_row]; exact hown2, hbel2⟩
          case measure => simp [intOf] <;> omega
    · obtain rfl : i = a.length := by omega
      obtain ⟨-, hro⟩ := hown.rdAt
      have hl : (mpL a b n a.length 0).length = n := mpL_length _ _ _ _ _
      have TR := Lib.hid (trim_any (c := n) wi hro (by rw [hl]; omega) (by rw [hl]; exact Nat.le_refl _))
      rw [hl] at TR
      go_wp2_with (go_at_call 25; refine TR.out.mono ?_; rintro e w2 ⟨v, rfl, ho2, hb2⟩)
      go_ret
      have hbelA : Below w.heap.size w wi := by rw [← HGG.out]; exact hbel
      exact ⟨_, rfl, ho2.mono hbelA.size, hbelA.trans (hb2.mono hbelA.size)⟩
end Go.Proofs.YtljlcbichimhaaaGreatDoor
