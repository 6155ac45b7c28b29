/-
  A number put to its place among rising ones.
-/
import Derived.Test.YtonkdndpfnapjaaGreatCopy
import Derived.Test.YtonkdndpfnapjaaGreatNeedM
import Derived.Test.YtonkdndpfnapjaaGreatScal
namespace Go.Proofs.YtonkdndpfnapjaaGreat
open Go.ChangeShapes Go.WideShapes Go.ChangeAt Go.RowKit Go.Sort
set_option linter.unusedVariables false

theorem put_done {out xs : List Int} {n : Int} {k : Nat} (h : k < xs.length) (H : out ++ (if true = true then xs.drop k else putR (xs.drop k) n) = putR xs n) : (out ++ [xs[k]]) ++ (if true = true then xs.drop (k + 1) else putR (xs.drop (k + 1)) n) = putR xs n := by
  rw [if_pos rfl] at H ⊢
  rw [← H, List.append_assoc]
  congr 1
  exact (List.drop_eq_getElem_cons h).symm
theorem put_less {out xs : List Int} {n : Int} {k : Nat} (h : k < xs.length) (hx : xs[k] < n) (H : out ++ (if false = true then xs.drop k else putR (xs.drop k) n) = putR xs n) : (out ++ [xs[k]]) ++ (if false = true then xs.drop (k + 1) else putR (xs.drop (k + 1)) n) = putR xs n := by
  rw [if_neg (by simp)] at H ⊢
  rw [← H, List.append_assoc, List.drop_eq_getElem_cons h, putR, if_neg (by omega)]
  rfl
theorem put_eq {out xs : List Int} {n : Int} {k : Nat} (h : k < xs.length) (hx : xs[k] = n) (H : out ++ (if false = true then xs.drop k else putR (xs.drop k) n) = putR xs n) : (out ++ [xs[k]]) ++ (if true = true then xs.drop (k + 1) else putR (xs.drop (k + 1)) n) = putR xs n := by
  rw [if_neg (by simp)] at H
  rw [if_pos rfl]
  rw [← H, List.append_assoc, List.drop_eq_getElem_cons h, putR, if_pos (by omega), if_neg (by omega)]
  rfl
theorem put_more {out xs : List Int} {n : Int} {k : Nat} (h : k < xs.length) (hx : n < xs[k]) (H : out ++ (if false = true then xs.drop k else putR (xs.drop k) n) = putR xs n) : ((out ++ [n]) ++ [xs[k]]) ++ (if true = true then xs.drop (k + 1) else putR (xs.drop (k + 1)) n) = putR xs n := by
  rw [if_neg (by simp)] at H
  rw [if_pos rfl]
  rw [← H, List.append_assoc, List.append_assoc, List.drop_eq_getElem_cons h, putR, if_pos (by omega), if_pos (by omega)]
  rfl
set_option maxHeartbeats 1600000 in
theorem l00Put_any {p : Option Addr} {c : Nat} {xs : List Int} (n : Int) (w : World) (h : RdI w p xs) (hl : xs.length ≤ 1048576) :
    Calls Tryz.prog 68 #[.slice p xs.length c, .int .i64 n] w fun e w' => ∃ v, e = .returned v ∧ OwnI w.heap.size w' v (putR xs n) ∧ Below w.heap.size w w' := by
  have h0 := OwnI.lit (B := w.heap.size) w [] (Nat.le_refl _) (by simp [maxLen])
  have hb0 := (Below.refl w.heap.size w).alloc (Nat.le_refl _) (.cells #[] 2)
  go_enter Tryz.func68, Tryz.ntmps68
  go_wp2_with fail
  go_loopw [5, 6, 7] (fun ov dv iv wr => ∃ (k : Nat) (dn : Bool) (out : List Int), k ≤ xs.length ∧ iv = .int .i64 k ∧ dv = .bool dn ∧ Hid (out.length ≤ k + dn.toNat) ∧ OwnI w.heap.size wr ov out ∧ Below w.heap.size w wr ∧ Hid (out ++ (if dn = true then xs.drop k else putR (xs.drop k) n) = putR xs n)) (fun _ _ iv _ => xs.length - (intOf iv).toNat)
  case atStart => exact ⟨0, false, [], Nat.zero_le _, rfl, rfl, by unfold Hid; simp, h0, hb0, by unfold Hid; simp⟩
  case round =>
    obtain ⟨k, dn, out, hk, rfl, rfl, hol, hown, hbel, HH⟩ := hrel
    clear h0 hb0
    obtain ⟨wi, rfl⟩ : ∃ wi : World, wi = wr := ⟨_, rfl⟩
    have hsz := hbel.size
    have hlen : out.length < 17592186044415 := by have h1 := hol.out; cases dn <;> simp only [Bool.toNat_true, Bool.toNat_false] at h1 <;> omega
    have hlen1 : out.length + 1 < 17592186044415 := by have h1 := hol.out; cases dn <;> simp only [Bool.toNat_true, Bool.toNat_false] at h1 <;> omega
    by_cases hlt : k < xs.length
    · obtain ⟨b, o, rfl, hb, hc⟩ := h.pos hlt
      have hc0 := hc k hlt
      have hck := (hbel.cell (p := ⟨b, o + k, none⟩) hb).trans hc0
      cases dn
      case true =>
        have HN : Hid _ := put_done hlt HH.out
        generalize xs[k] = xk at hc0 hck HN
        clear hc HH
        go_wp2_with (at_builtin; refine wpList_append_one rfl _ _ rfl rfl hown rfl hbel hlen hsz (Nat.le_refl _) ?_; intro v' w4 hown4 hb4 hz4 hk4)
        go_roundw
        case rel => exact ⟨k + 1, true, out ++ [xk], by omega, by go_num, rfl, by unfold Hid; have h1 := hol.out; simp only [Bool.toNat_true] at h1 ⊢; rw [List.length_append, List.length_singleton]; omega, hown4, hb4, HN⟩
        case measure => simp [intOf] <;> omega
      case false =>
        rcases Int.lt_trichotomy xs[k] n with hx | hx | hx
        · have HN : Hid _ := put_less hlt hx HH.out
          generalize xs[k] = xk at hc0 hck HN hx
          clear hc HH
          go_wp2_with (at_builtin; refine wpList_append_one rfl _ _ rfl rfl hown rfl hbel hlen hsz (Nat.le_refl _) ?_; intro v' w4 hown4 hb4 hz4 hk4)
          go_roundw
          case rel => exact ⟨k + 1, false, out ++ [xk], by omega, by go_num, rfl, by unfold Hid; have h1 := hol.out; simp only [Bool.toNat_false] at h1 ⊢; rw [List.length_append, List.length_singleton]; omega, hown4, hb4, HN⟩
          case measure => simp [intOf] <;> omega
        · have HN : Hid _ := put_eq hlt hx HH.out
          have q : ¬ (n < xs[k]) := by omega
          have q2 : n ≤ xs[k] := by omega
          generalize xs[k] = xk at hc0 hck HN q q2
          clear hc HH hx
          go_wp2_with (at_builtin; refine wpList_append_one rfl _ _ rfl rfl hown rfl hbel hlen hsz (Nat.le_refl _) ?_; intro v' w4 hown4 hb4 hz4 hk4)
          go_roundw
          case rel => exact ⟨k + 1, true, out ++ [xk], by omega, by go_num, rfl, by unfold Hid; have h1 := hol.out; simp only [Bool.toNat_true, Bool.toNat_false] at h1 ⊢; rw [List.length_append, List.length_singleton]; omega, hown4, hb4, HN⟩
          case measure => simp [intOf] <;> omega
        · have HN : Hid _ := put_more hlt hx HH.out
          have q2 : n ≤ xs[k] := by omega
          generalize xs[k] = xk at hc0 hck HN hx q2
          clear hc HH
          go_wp2_with (at_builtin; refine wpList_append_one rfl _ _ rfl rfl hown rfl hbel (by first | exact hlen | (rw [List.length_append, List.length_singleton]; omega)) hsz (Nat.le_refl _) ?_; intro v' w4 hown hbel hsz4 hk4; have hsz := hbel.size; have hck := (hbel.cell (p := ⟨b, o + k, none⟩) hb).trans hc0)
          go_roundw
          case rel => exact ⟨k + 1, true, (out ++ [n]) ++ [xk], by omega, by go_num, rfl, by unfold Hid; have h1 := hol.out; simp only [Bool.toNat_true, Bool.toNat_false] at h1 ⊢; rw [List.length_append, List.length_append, List.length_singleton, List.length_singleton]; omega, hown, hbel, HN⟩
          case measure => simp [intOf] <;> omega
    · obtain rfl : k = xs.length := by omega
      cases dn
      case true =>
        have HF : Hid (out = putR xs n) := by have := HH.out; rw [if_pos rfl, List.drop_length, List.append_nil] at this; exact this
        clear HH
        go_wp2_with fail
        go_ret
        exact ⟨_, rfl, by rw [← HF.out]; exact hown, hbel⟩
      case false =>
        have HF : Hid (out ++ [n] = putR xs n) := by have := HH.out; rw [if_neg (by simp), List.drop_length] at this; exact this
        clear HH
        go_wp2_with (at_builtin; refine wpList_append_one rfl _ _ rfl rfl hown rfl hbel hlen hsz (Nat.le_refl _) ?_; intro v' w4 hown4 hb4 hz4 hk4)
        go_ret
        exact ⟨_, rfl, by rw [← HF.out]; exact hown4, hb4⟩
end Go.Proofs.YtonkdndpfnapjaaGreat
