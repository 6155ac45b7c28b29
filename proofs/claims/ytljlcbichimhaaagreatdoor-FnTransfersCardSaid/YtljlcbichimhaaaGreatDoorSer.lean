/-
  Series: what is drawn, quotients: contracts.
-/
import Derived.Test.YtljlcbichimhaaaGreatDoorPoly
import Derived.Test.YtljlcbichimhaaaGreatDoorSeq
import Derived.BigQuiet
namespace Go.Proofs.YtljlcbichimhaaaGreatDoor
open Go.ChangeShapes Go.WideShapes Go.ChangeAt Go.RowKit
set_option linter.unusedVariables false
set_option linter.unusedSimpArgs false

theorem OwnI.off {B g : Nat} {w w' : World} {v : Value} {xs : List Int} (h : OwnI B w v xs) (ho : Off (· = g) w w') (hg : g < B) : OwnI B w' v xs :=
  h.keep fun k hk => ho.block k (h.lt hk).2 (by have := (h.lt hk).1; show ¬ k = g; omega)
theorem Off.after {S : Nat → Prop} {w a b : World} (h : Off S w a) (hb : Below w.heap.size a b) : Off S w b :=
  ⟨hb.os.trans h.os, hb.tape.trans h.tape, hb.output.trans h.output, Nat.le_trans h.size hb.size, fun k hk hs => (hb.block k hk).trans (h.block k hk hs)⟩
theorem AllS.snoc {xs : List Int} (h : AllS xs) {x : Int} (hx : isSmp x = true) : AllS (xs ++ [x]) := by
  intro y hy
  rcases List.mem_append.1 hy with h1 | h1
  · exact h y h1
  · rw [List.mem_singleton.1 h1]; exact hx
/-- a polynomial of its own, drawn -/
def DrewP (n g m : Nat) (w : World) (e : Ending) (w' : World) : Prop := ∃ v ys, e = .returned v ∧ Canon ys ∧ AllS ys ∧ ys.length ≤ n + 1 ∧ OwnI w.heap.size w' v ys ∧ SrcAt w' g m ∧ Off (· = g) w w'
set_option maxHeartbeats 4000000 in
theorem l04Draw_any {g m : Nat} (n : Nat) (w : World) (h : SrcAt w g m) (hn : n ≤ 100) (hm : m + 2000 ≤ 1099511627776) :
    Calls Tryz.prog 42 #[.pointer (some ⟨g, 0, none⟩), .int .i64 (n : Int)] w (DrewP n g (m + 1500) w) := by
  have hg := h.lt
  have h0 := OwnI.lit (B := w.heap.size) w [] (Nat.le_refl _) (by simp [maxLen])
  have hb := (Below.refl w.heap.size w).alloc (Nat.le_refl _) (.cells #[] 2)
  have hs := h.below hb
  go_enter Tryz.func42, Tryz.ntmps42
  go_wp2_with fail
  refine (pick_any ((n : Int) + 1) _ hs (by omega) (by omega)).mono ?_
  rintro e w1 ⟨x, hx, rfl, hs1, ho1⟩
  have hx1 := (pickP_pos hx (by omega)).1
  have hx2 := (pickP_pos hx (by omega)).2
  have hown1 := h0.off ho1 hg
  have HO1 := Lib.hid ((Off.of_below (· = g) hb).trans ho1)
  clear hx h h0 hb hs ho1
  have HS1 := Lib.hid hs1
  clear hs1
  go_wp2_with fail
  go_loopw [5, 6] (fun v k wr => ∃ (j : Int) (xs : List Int), k = .int .i64 j ∧ -1 ≤ j ∧ j ≤ x ∧ OwnI w.heap.size wr v xs ∧ AllS xs ∧ ((xs.length : Int) = x - j) ∧ SrcAt wr g (m + 2 + 12 * xs.length) ∧ Off (· = g) w wr) (fun _ k _ => (intOf k + 1).toNat)
  case atStart => exact ⟨x, [], rfl, by omega, by omega, hown1, by intro y hy; simp at hy, by simp, HS1.out.mono (by simp), HO1.out⟩
  case round =>
    obtain ⟨j, xs, rfl, hj1, hj2, hown, hal, hlen, hs, ho⟩ := hrel
    have HAL := Lib.hid hal
    have HO := Lib.hid ho
    have hB : w.heap.size ≤ wr.heap.size := ho.size
    clear hown1 HS1 HO1 hal ho
    obtain ⟨wi, rfl⟩ : ∃ wi : World, wi = wr := ⟨_, rfl⟩
    by_cases hj : 0 ≤ j
    · go_wp2_with fail
      refine (l01Draw_any wi hs (by omega)).mono ?_
      rintro e w2 ⟨y, hy, rfl, hs2, ho2⟩
      have hown2 := hown.off ho2 hg
      have HO2 := Lib.hid (HO.out.trans ho2)
      have HY := Lib.hid hy
      clear hown hs ho2 hy
      go_wp2_with fail
      refine (one_any 3 w2 hs2 (by omega) (by omega)).mono ?_
      rintro e w3 ⟨b, rfl, hs3, ho3⟩
      have hown3 := hown2.off ho3 hg
      have HO3 := Lib.hid (HO2.out.trans ho3)
      clear hown2 hs2 ho3
      cases b with
      | false =>
        have hB3 : w.heap.size ≤ w3.heap.size := HO3.out.size
        go_wp2_with (at_builtin; refine wpList_append_one rfl _ _ rfl rfl hown3 rfl (Below.refl w.heap.size w3) (by omega) hB3 (Nat.le_refl _) ?_; intro v' w4 hown4 hb4 hz4 hk4)
        have HS4 := hs3.stay hg (fun k h1 _ => hb4.block k h1)
        have HO4 := HO3.out.after hb4
        go_roundw
        case rel => exact ⟨j - 1, xs ++ [y], rfl, by omega, by omega, hown4, HAL.out.snoc HY.out, by simp; omega, HS4.mono (by simp; omega), HO4⟩
        case measure => simp [intOf] <;> omega
      | true =>
        go_wp2_with fail
        refine (pick_any 7 w3 hs3 (by omega) (by omega)).mono ?_
        rintro e w5 ⟨z, hz, rfl, hs5, ho5⟩
        have hz1 := (pickP_pos hz (by omega)).1
        have hz2 := (pickP_pos hz (by omega)).2
        have hown5 := hown3.off ho5 hg
        have HO5 := Lib.hid (HO3.out.trans ho5)
        clear hz ho5 hs3 hown3
        have hB3 : w.heap.size ≤ w5.heap.size := HO5.out.size
        go_wp2_with (at_builtin; refine wpList_append_one rfl _ _ rfl rfl hown5 rfl (Below.refl w.heap.size w5) (by omega) hB3 (Nat.le_refl _) ?_; intro v' w4 hown4 hb4 hz4 hk4)
        have HS4 := hs5.stay hg (fun k h1 _ => hb4.block k h1)
        have HO4 := HO5.out.after hb4
        go_roundw
        case rel => exact ⟨j - 1, xs ++ [z - 3], rfl, by omega, by omega, hown4, HAL.out.snoc (isSmp_iff.2 (by omega)), by simp; omega, HS4.mono (by simp; omega), HO4⟩
        case measure => simp [intOf] <;> omega
    · have hc := hown.rd
      obtain ⟨p, c, rfl, hr⟩ := hc
      have hcap := hown.cap
      go_wp2_with (go_at_call 65; refine (l04Trim_any wi hr (by omega) hcap).mono ?_; rintro e w2 ⟨v, rfl, ho2, hb2⟩)
      go_ret
      exact ⟨_, _, rfl, trimL_canon _, trimL_smp HAL.out, by have := trimL_le xs; omega, ho2.mono hB, (hs.below hb2).mono (by omega), HO.out.trans (Off.of_below _ hb2)⟩
theorem v8Long_any (p q : Option Addr) (n m c d : Nat) (w : World) (hn : n ≤ maxLen) (hm : m ≤ maxLen) :
    Calls Tryz.prog 4 #[.slice p n c, .slice q m d] w fun e w' => e = .returned (.bool (decide ((1048576 : Int) < (n : Int)) || decide ((1048576 : Int) < (m : Int)))) ∧ w = w' := by
  unfold maxLen at hn hm
  by_cases h : (1048576 : Int) < (n : Int)
  · rw [decide_eq_true h]
    go_enter Tryz.func4, Tryz.ntmps4
    go_wp2
    go_ret
    exact ⟨rfl, rfl⟩
  · rw [decide_eq_false h]
    by_cases h2 : (1048576 : Int) < (m : Int)
    · rw [decide_eq_true h2]
      go_enter Tryz.func4, Tryz.ntmps4
      go_wp2
      go_ret
      exact ⟨rfl, rfl⟩
    · rw [decide_eq_false h2]
      go_enter Tryz.func4, Tryz.ntmps4
      go_wp2
      go_ret
      exact ⟨rfl, rfl⟩
theorem smp_sub_w64 (a b : Int) : smp (a - wrap64 b) = smp (a - b) := by unfold smp wrap64; omega
set_option maxHeartbeats 1000000 in
theorem inverse_any (x : Int) (w : World) :
    Calls Tryz.prog 53 #[.int .i64 x] w fun e w' => e = .returned (.int .i64 (invN x 5)) ∧ w = w' := by
  go_enter Tryz.func53, Tryz.ntmps53
  go_wp2_with fail
  go_loop [3, 5] (fun y i => ∃ k : Nat, k ≤ 5 ∧ i = .int .i64 (k : Int) ∧ y = .int .i64 (invN x k)) (fun _ i => 5 - (intOf i).toNat)
  case atStart => exact ⟨0, by omega, rfl, rfl⟩
  case round =>
    obtain ⟨k, hk, rfl, rfl⟩ := hrel
    by_cases hlt : k < 5
    · have HN : Hid (invN x (k + 1) = smp (invN x k * smp (2 - x * invN x k))) := rfl
      generalize invN x k = y at HN ⊢
      go_wp2_with (go_at_call 47; refine (implWrap_any _ _).mono ?_; rintro e w' ⟨rfl, rfl⟩)
      go_round
      case rel => exact ⟨k + 1, by omega, by go_num, by rw [HN.out]; simp only [smp_wrap64, smp_sub_w64]⟩
      case measure => simp [intOf] <;> omega
    · obtain rfl : k = 5 := by omega
      go_wp2_with fail
      go_ret
      exact ⟨rfl, rfl⟩
theorem zerosG_any (n : Nat) (w : World) (hn : n ≤ 1048576) :
    Calls Tryz.prog 46 #[.int .i64 n] w fun e w' => e = .returned (.slice (some ⟨w.heap.size, 0, none⟩) n n) ∧ OwnI w.heap.size w' (.slice (some ⟨w.heap.size, 0, none⟩) n n) (List.replicate n 0) ∧ Below w.heap.size w w' := by
  have hmk := fun w => run_make_row' (P := Tryz.prog) 24 2 (.int .i64 0) 8 Tryz.underlying24 infoI rfl .i64 .i64 n (by omega) (by omega) w
  have h0 := OwnI.made (B := w.heap.size) w n (Nat.le_refl _) (by unfold maxLen; omega)
  go_enter Tryz.func46, Tryz.ntmps46
  go_wp2_with fail
  go_ret
  exact ⟨rfl, h0, (Below.refl _ _).alloc (Nat.le_refl _) _⟩
theorem at_any {p : Option Addr} {c : Nat} {xs : List Int} (i : Nat) (w : World) (h : RdI w p xs) (hi : i ≤ 1048576) :
    Calls Tryz.prog 49 #[.slice p xs.length c, .int .i64 (i : Int)] w fun e w' => e = .returned (.int .i64 (xs.getD i 0)) ∧ w = w' := by
  have hl := h.len
  unfold maxLen at hl
  have SZ := Lib.hid (sizeI_any p xs.length c w h.len)
  by_cases h1 : i < xs.length
  · obtain ⟨b, o, rfl, hb, hc⟩ := h.pos h1
    have hck := hc i h1
    have HG : Hid (xs.getD i 0 = xs[i]) := by unfold Hid; rw [List.getD_eq_getElem?_getD, List.getElem?_eq_getElem h1]; rfl
    rw [HG.out]
    generalize xs[i] = x at hck
    clear hc
    go_enter Tryz.func49, Tryz.ntmps49
    go_wp2_with (go_at_call 32; refine SZ.out.mono ?_; rintro e w' ⟨rfl, rfl⟩)
    go_ret
    exact ⟨rfl, rfl⟩
  · have HG : Hid (xs.getD i 0 = 0) := by unfold Hid; rw [List.getD_eq_getElem?_getD, List.getElem?_eq_none (by omega)]; rfl
    rw [HG.out]
    go_enter Tryz.func49, Tryz.ntmps49
    go_wp2_with (go_at_call 32; refine SZ.out.mono ?_; rintro e w' ⟨rfl, rfl⟩)
    go_ret
    exact ⟨rfl, rfl⟩
end Go.Proofs.YtljlcbichimhaaaGreatDoor
