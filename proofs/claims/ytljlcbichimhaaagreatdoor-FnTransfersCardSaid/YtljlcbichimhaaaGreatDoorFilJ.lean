/-
  Sums and delays of signals by the reference, and the filter that delays.
-/
import Derived.Test.YtljlcbichimhaaaGreatDoorFilI
namespace Go.Proofs.YtljlcbichimhaaaGreatDoor
open Go.ChangeShapes Go.WideShapes Go.ChangeAt Go.RowKit
set_option linter.unusedVariables false
set_option linter.unusedSimpArgs false

theorem l03Ok_any {p : Option Addr} {c : Nat} {xs : List Int} (w : World) (h : RdI w p xs) :
    Calls Tryz.prog 33 #[.slice p xs.length c] w fun e w' => e = .returned (.bool (decide (xs.length ≤ 4000) && xs.all isSmp)) ∧ w = w' := by
  have hl := h.len
  unfold maxLen at hl
  by_cases h4 : xs.length ≤ 4000
  case neg =>
    have e : decide (xs.length ≤ 4000) = false := decide_eq_false h4
    rw [e]
    clear e
    go_enter Tryz.func33, Tryz.ntmps33
    go_wp2_with fail
    go_ret
    exact ⟨rfl, rfl⟩
  have e : decide (xs.length ≤ 4000) = true := decide_eq_true h4
  rw [e, Bool.true_and]
  clear e
  go_enter Tryz.func33, Tryz.ntmps33
  go_wp2_with fail
  go_loop [3] (fun i => ∃ k : Nat, k ≤ xs.length ∧ i = .int .i64 k ∧ (xs.take k).all isSmp = true) (fun i => xs.length - (intOf i).toNat)
  case atStart => exact ⟨0, Nat.zero_le _, rfl, by simp⟩
  case round =>
    obtain ⟨k, hk, rfl, hall⟩ := hrel
    have HA := Lib.hid hall; clear hall
    by_cases hlt : k < xs.length
    · obtain ⟨b, o, rfl, hb, hc⟩ := h.pos hlt
      have hck := hc k hlt
      clear hc
      generalize hx : xs[k] = f at hck
      have HX := Lib.hid hx; clear hx
      cases hs : isSmp f
      · go_wp2_with (go_at_call 54; refine (l01Sample_any _ _).mono ?_; rintro e w' ⟨rfl, rfl⟩)
        go_ret
        exact ⟨ret_bool (by rw [all_false hlt (by rw [HX.out]; exact hs)]), rfl⟩
      · go_wp2_with (go_at_call 54; refine (l01Sample_any _ _).mono ?_; rintro e w' ⟨rfl, rfl⟩)
        go_round
        case rel => exact ⟨k + 1, by omega, by go_num, all_step hlt HA.out (by rw [HX.out]; exact hs)⟩
        case measure => simp [intOf] <;> omega
    · obtain rfl : k = xs.length := by omega
      go_wp2_with fail
      go_ret
      exact ⟨ret_bool (all_done HA.out).symm, rfl⟩
theorem l03Ok_true {p : Option Addr} {c : Nat} {xs : List Int} (w : World) (h : RdI w p xs) (ha : AllS xs) (hl : xs.length ≤ 4000) :
    Calls Tryz.prog 33 #[.slice p xs.length c] w fun e w' => e = .returned (.bool true) ∧ w = w' := by
  have := l03Ok_any (c := c) w h
  rwa [decide_eq_true hl, (by rw [List.all_eq_true]; exact ha : xs.all isSmp = true)] at this
theorem l03At_any {p : Option Addr} {c : Nat} {xs : List Int} (i : Nat) (w : World) (h : RdI w p xs) (hi : i ≤ 1048576) :
    Calls Tryz.prog 56 #[.slice p xs.length c, .int .i64 (i : Int)] w fun e w' => e = .returned (.int .i64 (xs.getD i 0)) ∧ w = w' := by
  have hl := h.len
  unfold maxLen at hl
  have IN := Lib.hid (l00In_any (i : Int) 0 ((xs.length : Int) - 1) w)
  by_cases h1 : i < xs.length
  · obtain ⟨b, o, rfl, hb, hc⟩ := h.pos h1
    have hck := hc i h1
    rw [getD_at h1]
    rw [inB_true (by omega)] at IN
    generalize xs[i] = x at hck ⊢
    clear hc
    go_enter Tryz.func56, Tryz.ntmps56
    go_wp2_with (go_at_call 69; refine IN.out.mono ?_; rintro e w' ⟨rfl, rfl⟩)
    go_ret
    exact ⟨rfl, rfl⟩
  · rw [gd_behind xs (by omega)]
    rw [inB_false (by omega)] at IN
    go_enter Tryz.func56, Tryz.ntmps56
    go_wp2_with (go_at_call 69; refine IN.out.mono ?_; rintro e w' ⟨rfl, rfl⟩)
    go_ret
    exact ⟨rfl, rfl⟩
theorem l00MaxI_any (a b : Int) (w : World) :
    Calls Tryz.prog 55 #[.int .i64 a, .int .i64 b] w fun e w' => e = .returned (.int .i64 (max a b)) ∧ w = w' := by
  by_cases h : b < a
  · have e : max a b = a := by omega
    rw [e]; clear e
    go_enter Tryz.func55, Tryz.ntmps55
    go_wp2
    go_ret
    exact ⟨rfl, rfl⟩
  · have e : max a b = b := by omega
    rw [e]; clear e
    go_enter Tryz.func55, Tryz.ntmps55
    go_wp2
    go_ret
    exact ⟨rfl, rfl⟩
set_option maxHeartbeats 1600000 in
theorem l03Add_any {p q : Option Addr} {c d : Nat} {a b : List Int} (w : World) (h : RdI w p a) (h' : RdI w q b) (hl : b.length = a.length) (hal : a.length ≤ 4000) :
    Calls Tryz.prog 34 #[.slice p a.length c, .slice q b.length d, .int .i64 1] w fun e w' => ∃ v, e = .returned v ∧ OwnI w.heap.size w' v (adL a b a.length) ∧ Below w.heap.size w w' := by
  obtain ⟨n, hn⟩ : ∃ n, n = a.length := ⟨_, rfl⟩
  have hnb : b.length = n := by omega
  have HLA := Lib.hid hn
  rw [← hn]
  have HLB := Lib.hid hnb
  have MX : Hid (∀ W, Calls Tryz.prog 55 #[.int .i64 (n : Int), .int .i64 (n : Int)] W fun e w' => e = .returned (.int .i64 (n : Int)) ∧ W = w') := fun W => by
    have := l00MaxI_any (n : Int) (n : Int) W
    rwa [show max (n : Int) (n : Int) = (n : Int) by omega] at this
  have AT1 : Hid (∀ (W : World) (k : Nat), Below w.heap.size w W → k ≤ 1000000 → Calls Tryz.prog 56 #[.slice p n c, .int .i64 (k : Int)] W fun e w' => e = .returned (.int .i64 (a.getD k 0)) ∧ W = w') := fun W k hW hk => by have := l03At_any (c := c) k W (h.below hW) (by omega); rwa [← hn] at this
  have AT2 : Hid (∀ (W : World) (k : Nat), Below w.heap.size w W → k ≤ 1000000 → Calls Tryz.prog 56 #[.slice q n d, .int .i64 (k : Int)] W fun e w' => e = .returned (.int .i64 (b.getD k 0)) ∧ W = w') := fun W k hW hk => by have := l03At_any (c := d) k W (h'.below hW) (by omega); rwa [hnb] at this
  have h0 := OwnI.lit (B := w.heap.size) w [] (Nat.le_refl _) (by simp [maxLen])
  have hb0 := (Below.refl w.heap.size w).alloc (Nat.le_refl _) (.cells #[] 2)
  have hn4 : n ≤ 4000 := by omega
  have HSC := Lib.hid (fun k => tab_succ (fun i => a.getD i 0 + b.getD i 0) k)
  have HTL := Lib.hid (fun k => tab_length (fun i => a.getD i 0 + b.getD i 0) k)
  have HAD : Hid (∀ k, adL a b k = tab (fun i => a.getD i 0 + b.getD i 0) k) := fun k => rfl
  rw [hnb]
  rw [HAD.out]
  generalize (tab fun i => a.getD i 0 + b.getD i 0) = T at HSC HTL ⊢
  clear h h' hn hnb hl hal HAD
  go_enter Tryz.func34, Tryz.ntmps34
  go_wp2_with (go_at_call 55; refine (MX.out _).mono ?_; rintro e w' ⟨rfl, rfl⟩)
  go_loopw [7, 9] (fun ov i wr => ∃ k : Nat, k ≤ n ∧ i = .int .i64 (k : Int) ∧ OwnI w.heap.size wr ov (T k) ∧ Below w.heap.size w wr) (fun _ i _ => n - (intOf i).toNat)
  case atStart => exact ⟨0, Nat.zero_le _, rfl, by have := HTL.out 0; rw [List.eq_nil_of_length_eq_zero this]; exact h0, hb0⟩
  case round =>
    obtain ⟨k, hk, rfl, hown, hbel⟩ := hrel
    clear h0 hb0
    obtain ⟨wi, rfl⟩ : ∃ wi : World, wi = wr := ⟨_, rfl⟩
    by_cases hlt : k < n
    · have A1 := Lib.hid (AT1.out wi k hbel (by omega))
      have A2 := Lib.hid (AT2.out wi k hbel (by omega))
      have HSU := Lib.hid (HSC.out k)
      have hl2 : (T k).length < 17592186044415 := by rw [HTL.out]; omega
      generalize a.getD k 0 = x at A1 HSU
      generalize b.getD k 0 = y at A2 HSU
      have hsz := hbel.size
      go_wp2_with (first | (go_at_call_of 56 (Value.slice p n c); refine A1.out.mono ?_; rintro e w' ⟨rfl, rfl⟩) | (go_at_call_of 56 (Value.slice q n d); refine A2.out.mono ?_; rintro e w' ⟨rfl, rfl⟩) | (go_at_call 57; refine (l01Mul_any _ _ _).mono ?_; rintro e w' ⟨rfl, rfl⟩) | (go_at_call 45; refine (l01Add_any _ _ _).mono ?_; rintro e w' ⟨rfl, rfl⟩) | (at_builtin; refine wpList_append_one rfl _ _ rfl rfl hown rfl hbel hl2 hsz (Nat.le_refl _) ?_; intro v' w4 hown4 hb4 hz4 hk4))
      go_roundw
      case rel => exact ⟨k + 1, by omega, by go_num, by rw [HSU.out]; rw [smp_right] at hown4; exact hown4, hb4⟩
      case measure => simp [intOf] <;> omega
    · obtain rfl : k = n := by omega
      go_wp2_with fail
      go_ret
      exact ⟨_, rfl, hown, hbel⟩
theorem specAdd_any {u v : Value} {a b : List Int} (w : World) (h : RdP w u a) (h' : RdP w v b) (ha : AllS a) (hb : AllS b) (hl : b.length = a.length) (hal : a.length ≤ 4000) :
    Calls Tryz.prog 11 #[u, v] w fun e w' => ∃ x, e = .returned (.tuple #[x, .int .i64 0]) ∧ OwnI w.heap.size w' x (adL a b a.length) ∧ Below w.heap.size w w' := by
  obtain ⟨p, c, rfl, hr, hc⟩ := h
  obtain ⟨q, d, rfl, hr', hc'⟩ := h'
  have OA := Lib.hid (l03Ok_true (c := c) w hr ha hal)
  have OB := Lib.hid (l03Ok_true (c := d) w hr' hb (by omega))
  have AD := Lib.hid (l03Add_any (c := c) (d := d) w hr hr' hl hal)
  rw [hl] at OB AD ⊢
  clear hr hr' ha hb hc hc' hl
  go_enter Tryz.func11, Tryz.ntmps11
  go_wp2_with (first | (go_at_call_of 33 (Value.slice p a.length c); refine OA.out.mono ?_; rintro e w' ⟨rfl, rfl⟩) | (go_at_call_of 33 (Value.slice q a.length d); refine OB.out.mono ?_; rintro e w' ⟨rfl, rfl⟩))
  refine AD.out.mono ?_
  rintro e w2 ⟨x, rfl, ho, hb2⟩
  go_wp2_with fail
  refine bodyPost_ret (v := .tuple #[x, .int .i64 0]) (by simp [results, Tryz.results11, go_sem, *]) rfl ⟨_, rfl, ho, hb2⟩
end Go.Proofs.YtljlcbichimhaaaGreatDoor
