/-
  Signals: what is drawn; the law's own functions; validity by the reference.
-/
import Derived.Test.YtlaleoljeijkcaaGreatDoorSgA
namespace Go.Proofs.YtlaleoljeijkcaaGreatDoor
open Go.ChangeShapes Go.WideShapes Go.ChangeAt Go.RowKit
set_option linter.unusedVariables false
set_option linter.unusedSimpArgs false

theorem wrap_in {x : Int} (h1 : -9223372036854775808 ≤ x) (h2 : x < 9223372036854775808) : IntKind.i64.wrap x = x := by
  have : IntKind.i64.wrap x = (x + 9223372036854775808) % 18446744073709551616 - 9223372036854775808 := by
    simp [IntKind.wrap, IntKind.bits, IntKind.signed]; omega
  omega
/-- a drawn list of its own -/
def DrewL (g m n : Nat) (w : World) (e : Ending) (w' : World) : Prop := ∃ v ys, e = .returned v ∧ ys.length ≤ n ∧ OwnI w.heap.size w' v ys ∧ SrcAt w' g m ∧ Off (· = g) w w'
set_option maxHeartbeats 4000000 in
theorem l03Draw_any {g m : Nat} (w : World) (h : SrcAt w g m) (hm : m + 4000 ≤ 1099511627776) :
    Calls Tryz.prog 32 #[.pointer (some ⟨g, 0, none⟩), .int .i64 12] w (DrewL g (m + 2000) 12 w) := by
  have hg := h.lt
  have h0 := OwnI.lit (B := w.heap.size) w [] (Nat.le_refl _) (by simp [maxLen])
  have hb := (Below.refl w.heap.size w).alloc (Nat.le_refl _) (.cells #[] 2)
  have hs := h.below hb
  go_enter Tryz.func32, Tryz.ntmps32
  go_wp2_with fail
  refine (pick_any 13 _ hs (by omega) (by omega)).mono ?_
  rintro e w1 ⟨k0, hk0, rfl, hs1, ho1⟩
  have hk0a := (pickP_pos hk0 (by omega)).1
  have hk0b := (pickP_pos hk0 (by omega)).2
  have hown1 := h0.off ho1 hg
  have HO1 := Lib.hid ((Off.of_below (· = g) hb).trans ho1)
  have HS1 := Lib.hid hs1
  clear h h0 hb hs ho1 hk0 hs1
  go_wp2_with fail
  go_loopw [5, 6] (fun v k wr => ∃ (j : Int) (xs : List Int), k = .int .i64 j ∧ 0 ≤ j ∧ j ≤ k0 ∧ OwnI w.heap.size wr v xs ∧ ((xs.length : Int) = k0 - j) ∧ SrcAt wr g (m + 30 + 22 * xs.length) ∧ Off (· = g) w wr) (fun _ k _ => (intOf k).toNat)
  case atStart => exact ⟨k0, [], rfl, by omega, by omega, hown1, by simp, HS1.out.mono (by simp), HO1.out⟩
  case round =>
    obtain ⟨j, xs, rfl, hj1, hj2, hown, hlen, hs, ho⟩ := hrel
    have HO := Lib.hid ho
    have hB : w.heap.size ≤ wr.heap.size := ho.size
    clear hown1 HS1 HO1 ho
    obtain ⟨wi, rfl⟩ : ∃ wi : World, wi = wr := ⟨_, rfl⟩
    by_cases hj : 0 < j
    · have hxl : xs.length ≤ 12 := by omega
      go_upto_region 5 with fail
      go_wp2_with (first
        | (go_at_call 45; refine (l01Draw_any _ hs (by omega)).mono ?_; rintro e w6 ⟨y, hy, rfl, hs6, ho6⟩; have hown6 := hown.off ho6 hg; have HO6 := HO.out.trans ho6; have hz6 := HO6.size; clear hs hown ho6 HO)
        | (at_builtin; refine wpList_append_one rfl _ _ rfl rfl hown6 rfl (Below.refl w.heap.size w6) (by omega) hz6 (Nat.le_refl _) ?_; intro v' w5 hown5 hb5 hz5 hk5; have hs5 := hs6.stay hg (fun k h1 _ => hb5.block k h1); have HO5 := Lib.hid (HO6.after hb5); clear hown6 hs6 HO6)
        | fail)
      go_roundw
      case rel => exact ⟨j - 1, xs ++ [y], by go_num, by omega, by omega, hown5, by simp; omega, hs5.mono (by simp; omega), HO5.out⟩
      case measure => simp [intOf] <;> omega
    · go_wp2_with fail
      go_ret
      exact ⟨_, _, rfl, by omega, hown, hs.mono (by omega), HO.out⟩
set_option maxHeartbeats 4000000 in
theorem l03Bent_any {g m : Nat} (w : World) (h : SrcAt w g m) (hm : m + 8000 ≤ 1099511627776) :
    Calls Tryz.prog 19 #[.pointer (some ⟨g, 0, none⟩)] w (DrewL g (m + 4000) 4001 w) := by
  have hg := h.lt
  go_enter Tryz.func19, Tryz.ntmps19
  go_wp2_with fail
  refine (l03Draw_any w h (by omega)).mono ?_
  rintro e w1 ⟨v, xs, rfl, hx, hown1, hs1, ho1⟩
  have hz1 := ho1.size
  have HO1 := Lib.hid ho1
  clear h ho1
  go_wp2_with fail
  refine (pick_any 24 w1 hs1 (by omega) (by omega)).mono ?_
  rintro e w2 ⟨x, hk, rfl, hs2, ho2⟩
  have HO2 := Lib.hid (HO1.out.trans ho2)
  have hown2 := hown1.off ho2 hg
  have hz2 := ho2.size
  clear hs1 ho2 hown1 HO1 hk
  by_cases x0 : x = 0
  · subst x0
    have A1 := Lib.hid (amongLit_any [2147483648, -2147483649, -9223372036854775808] w2 hs2 (by simp) (by simp) (by omega))
    go_wp2_with (first
      | (go_at_call 34; refine A1.out.mono ?_; rintro e w3 ⟨y, hy, rfl, hs3, ho3⟩; have hown3 := hown2.off ho3 hg; have HO3 := HO2.out.trans ho3; have hz3 := HO3.size; clear hs2 hown2 ho3 HO2 hy)
      | (at_builtin; refine wpList_append_one rfl _ _ rfl rfl hown3 rfl (Below.refl w.heap.size w3) (by omega) hz3 (Nat.le_refl _) ?_; intro v' w5 hown5 hb5 hz5 hk5; have hs5 := hs3.stay hg (fun k h1 _ => hb5.block k h1); have HO5 := Lib.hid (HO3.after hb5); clear hown3 hs3 HO3)
      | fail)
    go_ret
    exact ⟨_, _, rfl, by simp; omega, hown5, hs5.mono (by omega), HO5.out⟩
  have q0 : (x == 0) = false := by rw [beq_eq_false_iff_ne]; exact x0
  by_cases x1 : x = 1
  · subst x1
    go_wp2_with fail
    refine (pick_any 3 w2 hs2 (by omega) (by omega)).mono ?_
    rintro e w3 ⟨y, hy, rfl, hs3, ho3⟩
    have hy1 := (pickP_pos hy (by omega)).1
    have hy2 := (pickP_pos hy (by omega)).2
    obtain ⟨k, rfl⟩ : ∃ k : Nat, y = k := ⟨y.toNat, by omega⟩
    have ZE : Hid (Calls Tryz.prog 35 #[.int .i64 (3999 + (k : Int))] w3 fun e w' => ∃ v, e = .returned v ∧ OwnI w3.heap.size w' v (List.replicate (3999 + k) 0) ∧ Below w3.heap.size w3 w') := by
      have := l03Zeros_any (3999 + k) w3 (by omega)
      rw [Int.natCast_add] at this
      exact this
    have HO3 := Lib.hid (HO2.out.trans ho3)
    have hz3 := HO3.out.size
    have hw : IntKind.i64.wrap (3999 + (k : Int)) = 3999 + (k : Int) := wrap_in (by omega) (by omega)
    clear hy hs2 ho3 HO2 hown2
    go_wp2_with (first | (go_at_call 35; refine ZE.out.mono ?_; rintro e w4 ⟨v4, rfl, ho4, hb4⟩) | fail)
    go_ret
    exact ⟨_, _, rfl, by rw [List.length_replicate]; omega, ho4.mono hz3, (hs3.below hb4).mono (by omega), HO3.out.after (hb4.mono hz3)⟩
  have q1 : (x == 1) = false := by rw [beq_eq_false_iff_ne]; exact x1
  go_wp2_with fail
  go_ret
  exact ⟨_, _, rfl, by omega, hown2, hs2.mono (by omega), HO2.out⟩
/-- two lists of its own were drawn -/
def DrewTwo (w : World) (e : Ending) (w' : World) : Prop := ∃ u v a b, e = .returned (.tuple #[u, v]) ∧ a.length ≤ 4001 ∧ b.length ≤ 4001 ∧ OwnI w.heap.size w' u a ∧ OwnI w.heap.size w' v b ∧ Below w.heap.size w w'
set_option maxHeartbeats 2000000 in
theorem drawAddSignals_any {p : Option Addr} {c : Nat} {bs : List Int} (w : World) (hr : RdB w p bs) (hl : bs.length ≤ 1048576) :
    Calls Tryz.prog 5 #[.slice p bs.length c] w (DrewTwo w) := by
  go_enter Tryz.func5, Tryz.ntmps5
  go_wp2_with fail
  refine (l00From_any w hr hl).mono ?_
  rintro e w1 ⟨rfl, hs1, hb1⟩
  have hz1 : w.heap.size < w1.heap.size := hs1.lt
  go_wp2_with fail
  refine (l03Bent_any w1 hs1 (by omega)).mono ?_
  rintro e w2 ⟨u, a, rfl, hla, ha, hs2, ho2⟩
  have hz2 := ho2.size
  go_wp2_with fail
  refine (l03Bent_any w2 hs2 (by omega)).mono ?_
  rintro e w3 ⟨v, b, rfl, hlb, hb, hs3, ho3⟩
  have ha3 := ha.off ho3 hz1
  go_wp2_with fail
  go_ret2
  exact ⟨u, v, a, b, rfl, hla, hlb, ha3.mono (by omega), hb.mono (by omega), hb1.trans ((ho2.trans ho3).below (B := w.heap.size) (fun k hk => by have : k = w.heap.size := hk; omega) hb1.size)⟩
theorem specValidSignal_any {p : Option Addr} {c : Nat} {xs : List Int} (w : World) (h : RdI w p xs) :
    Calls Tryz.prog 7 #[.slice p xs.length c] w fun e w' => e = .returned (.bool (sigB xs)) ∧ w' = w := by
  have L := Lib.hid (l03Ok_any (c := c) w h)
  have e : (decide (xs.length ≤ 4000) && xs.all isSmp) = sigB xs := rfl
  rw [e] at L
  generalize sigB xs = b at *
  clear h e
  generalize xs.length = n at *
  go_enter Tryz.func7, Tryz.ntmps7
  go_wp2_with (go_at_call 22; refine L.out.mono ?_; rintro e w' ⟨rfl, rfl⟩)
  go_ret
  exact ⟨rfl, rfl⟩
theorem b10Long_any (p : Option Addr) (n c : Nat) (w : World) (hn : n ≤ maxLen) :
    Calls Tryz.prog 4 #[.slice p n c] w fun e w' => e = .returned (.bool (decide (1048576 < (n : Int)))) ∧ w' = w := by
  unfold maxLen at hn
  go_enter Tryz.func4, Tryz.ntmps4
  go_wp2
  go_ret
  exact ⟨rfl, rfl⟩
theorem b10At_any {v : Value} {bs : List Int} (k : Nat) (n : Int) (w : World) (h : VB w v bs) (hl : bs.length ≤ 1048576) (hk : k ≤ 100000) (hn : 1 ≤ n) (hn2 : n ≤ 100000) :
    Calls Tryz.prog 9 #[v, .int .i64 (k : Int), .int .i64 n] w fun e w' => ∃ r, 0 ≤ r ∧ r < n ∧ e = .returned (.int .i64 r) ∧ w = w' := by
  obtain ⟨p, c, rfl, hr⟩ := h
  by_cases h0 : n ≤ 1
  · go_enter Tryz.func9, Tryz.ntmps9
    go_wp2_with fail
    go_ret
    exact ⟨0, by omega, by omega, rfl, rfl⟩
  by_cases h1 : k < bs.length
  · obtain ⟨b, o, rfl, hb, hc⟩ := hr.pos h1
    have hk0 := hc k h1
    have hx := hr.bytes _ (List.getElem_mem h1)
    generalize bs[k] = x at hk0 hx
    have q1 : 0 ≤ x := hx.1
    have q2 : x ≤ 255 := hx.2
    clear hx hc
    have r1 : 0 ≤ x % n := Int.emod_nonneg _ (by omega)
    have r2 : x % n < n := Int.emod_lt_of_pos _ (by omega)
    go_enter Tryz.func9, Tryz.ntmps9
    go_wp2_with fail
    go_ret
    exact ⟨_, r1, r2, rfl, rfl⟩
  · have r1 : 0 ≤ ((k : Int) * 37 + 11) % n := Int.emod_nonneg _ (by omega)
    have r2 : ((k : Int) * 37 + 11) % n < n := Int.emod_lt_of_pos _ (by omega)
    go_enter Tryz.func9, Tryz.ntmps9
    go_wp2_with fail
    go_ret
    exact ⟨_, r1, r2, rfl, rfl⟩
set_option maxHeartbeats 2000000 in
theorem b10Nums_true {p q : Option Addr} {c d : Nat} {xs : List Int} (w : World) (h : RdI w p xs) (h' : RdI w q xs) (hl : xs.length ≤ 1048576) :
    Calls Tryz.prog 11 #[.slice p xs.length c, .slice q xs.length d] w fun e w' => e = .returned (.bool true) ∧ Below w.heap.size w w' := by
  go_enter Tryz.func11, Tryz.ntmps11
  go_wp2_with fail
  go_loopw [5] (fun i wr => ∃ k : Nat, k ≤ xs.length ∧ i = .int .i64 (k : Int) ∧ Drawn w wr) (fun i _ => xs.length - (intOf i).toNat)
  case atStart => exact ⟨0, Nat.zero_le _, rfl, Drawn.refl _⟩
  case round =>
    obtain ⟨k, hk, rfl, hdr⟩ := hrel
    by_cases hlt : k < xs.length
    · obtain ⟨b, o, rfl, hb, hc⟩ := (hdr.rdI h).pos hlt
      obtain ⟨b', o', rfl, hb', hc'⟩ := (hdr.rdI h').pos hlt
      have z1 := hc k hlt
      have z2 := hc' k hlt
      generalize xs[k] = x at z1 z2
      clear hc hc'
      go_wp2_with fail
      go_quiet (fail)
      go_wp2_with fail
      go_roundw
      case rel => exact ⟨k + 1, by omega, by go_num, hdr.on _⟩
      case measure => simp [intOf] <;> omega
    · obtain rfl : k = xs.length := by omega
      go_wp2_with fail
      go_ret
      obtain ⟨m, rfl⟩ := hdr
      exact ⟨rfl, below_drewN (Below.refl _ _) m⟩
set_option maxHeartbeats 1600000 in
theorem b10Cut_any {p : Option Addr} {c : Nat} {a : List Int} (n : Nat) (w : World) (h : RdI w p a) (hal : a.length ≤ 1000000) (hn : n ≤ 4000) :
    Calls Tryz.prog 12 #[.slice p a.length c, .int .i64 (n : Int)] w fun e w' => ∃ v, e = .returned v ∧ OwnI w.heap.size w' v (slL a 0 n) ∧ Below w.heap.size w w' := by
  have h0 := OwnI.lit (B := w.heap.size) w [] (Nat.le_refl _) (by simp [maxLen])
  have hb0 := (Below.refl w.heap.size w).alloc (Nat.le_refl _) (.cells #[] 2)
  have HSL : Hid (∀ k, slL a 0 (k + 1) = slL a 0 k ++ [a.getD k 0]) := fun k => by unfold slL; rw [List.range_succ, List.map_append]; simp
  go_enter Tryz.func12, Tryz.ntmps12
  go_wp2_with fail
  go_loopw [5, 6] (fun ov i wr => ∃ k : Nat, k ≤ n ∧ i = .int .i64 (k : Int) ∧ OwnI w.heap.size wr ov (slL a 0 k) ∧ Below w.heap.size w wr) (fun _ i _ => n - (intOf i).toNat)
  case atStart => exact ⟨0, Nat.zero_le _, rfl, by simpa [slL] using h0, hb0⟩
  case round =>
    obtain ⟨k, hk, rfl, hown, hbel⟩ := hrel
    clear h0 hb0
    obtain ⟨wi, rfl⟩ : ∃ wi : World, wi = wr := ⟨_, rfl⟩
    have hsz := hbel.size
    by_cases hlt : k < n
    · have HS := Lib.hid (HSL.out k)
      have hl2 : (slL a 0 k).length < 17592186044415 := by rw [slL_length]; omega
      by_cases hka : k < a.length
      · obtain ⟨b, o, rfl, hb, hc⟩ := (h.below hbel).pos hka
        have hck := hc k hka
        rw [getD_atA hka] at HS
        generalize a[k] = x at hck HS
        clear hc
        go_wp2_with (first | (at_builtin; refine wpList_append_one rfl _ _ rfl rfl hown rfl hbel hl2 hsz (Nat.le_refl _) ?_; intro v' w4 hown4 hb4 hz4 hk4) | fail)
        go_roundw
        case rel => exact ⟨k + 1, by omega, by go_num, by rw [HS.out]; exact hown4, hb4⟩
        case measure => simp [intOf] <;> omega
      · have hg0 : a.getD k 0 = 0 := by rw [List.getD_eq_getElem?_getD, List.getElem?_eq_none (by omega)]; rfl
        rw [hg0] at HS
        clear hg0
        go_wp2_with (first | (at_builtin; refine wpList_append_one rfl _ _ rfl rfl hown rfl hbel hl2 hsz (Nat.le_refl _) ?_; intro v' w4 hown4 hb4 hz4 hk4) | fail)
        go_roundw
        case rel => exact ⟨k + 1, by omega, by go_num, by rw [HS.out]; exact hown4, hb4⟩
        case measure => simp [intOf] <;> omega
    · obtain rfl : k = n := by omega
      go_wp2_with fail
      go_ret
      exact ⟨_, rfl, hown, hbel⟩
end Go.Proofs.YtlaleoljeijkcaaGreatDoor
