/-
  Polynomials on the program's side: cutting of zeros, sums, equality: contracts.
-/
import Derived.Test.YtljlcbichimhaaaGreatDoorSer2
namespace Go.Proofs.YtljlcbichimhaaaGreatDoor
open Go.ChangeShapes Go.WideShapes Go.ChangeAt Go.RowKit
set_option linter.unusedVariables false
set_option linter.unusedSimpArgs false

theorem getD_atA {xs : List Int} {k : Nat} (h : k < xs.length) : xs.getD k 0 = xs[k] := by
  rw [List.getD_eq_getElem?_getD, List.getElem?_eq_getElem h]; rfl

theorem tn_step {xs : List Int} {j : Nat} (h0 : xs.getD j 0 = 0) (hj : 1 ≤ j) : tn xs (j + 1) = tn xs j := by
  obtain ⟨m, rfl⟩ : ∃ m, j = m + 1 := ⟨j - 1, by omega⟩
  rw [tn, if_pos h0]
theorem tn_stop {xs : List Int} {j : Nat} (h0 : xs.getD j 0 ≠ 0) : tn xs (j + 1) = j + 1 := by
  cases j with
  | zero => rfl
  | succ m => rw [tn, if_neg h0]
set_option maxHeartbeats 2000000 in
theorem trim_any {p : Option Addr} {c : Nat} {xs : List Int} (w : World) (h : RdI w p xs) (hl : xs.length ≤ 1048576) (hcap : xs.length ≤ c) :
    Calls Tryz.prog 25 #[.slice p xs.length c] w fun e w' => ∃ v, e = .returned v ∧ OwnI w.heap.size w' v (trimL xs) ∧ Below w.heap.size w w' := by
  have HL := Lib.hid (OwnI.lit (B := w.heap.size) w [0] (Nat.le_refl _) (by simp [maxLen]))
  have H0 : Hid (xs.length = 0 → trimL xs = [0]) := fun h => by unfold trimL; rw [if_pos h]
  have HT : Hid (xs.length ≠ 0 → trimL xs = xs.take (tn xs xs.length)) := fun h => by unfold trimL; rw [if_neg h]
  generalize trimL xs = R at H0 HT ⊢
  go_enter Tryz.func25, Tryz.ntmps25
  go_wp2_with fail
  go_loop [3] (fun n => ∃ k : Nat, k ≤ xs.length ∧ n = .int .i64 (k : Int) ∧ Hid ((k = 0 → R = [0]) ∧ (1 ≤ k → R = xs.take (tn xs k)))) (fun n => (intOf n).toNat)
  case atStart => exact ⟨xs.length, Nat.le_refl _, rfl, H0.out, fun h => HT.out (by omega)⟩
  case round =>
    obtain ⟨k, hk, rfl, HI⟩ := hrel
    by_cases hk0 : k = 0
    · subst hk0
      have hR : R = [0] := HI.out.1 rfl
      subst hR
      go_wp2_with fail
      go_ret
      exact ⟨_, rfl, HL.out, (Below.refl _ _).alloc (Nat.le_refl _) _⟩
    · obtain ⟨j, rfl⟩ : ∃ j, k = j + 1 := ⟨k - 1, by omega⟩
      obtain ⟨b, o, rfl, hb1, hc⟩ := h.pos (k := j) (by omega)
      have hck := hc j (by omega)
      have HG : Hid (xs.getD j 0 = xs[j]'(by omega)) := getD_atA (by omega)
      generalize xs[j]'(by omega) = x at hck HG
      clear hc hk0
      have e2 : ((j : Int) + 1 - 1) = (j : Int) := by omega
      by_cases hx : x = 0
      · have q : (x == 0) = true := by rw [beq_iff_eq]; exact hx
        have HN : Hid ((j = 0 → R = [0]) ∧ (1 ≤ j → R = xs.take (tn xs j))) := by
          refine ⟨fun hj => ?_, fun hj => ?_⟩
          · subst hj
            rw [HI.out.2 (by omega), show tn xs (0 + 1) = 0 + 1 from rfl, List.take_succ_eq_append_getElem (show 0 < xs.length by omega)]
            have := HG.out
            rw [getD_atA (by omega), hx] at this
            rw [this]
            rfl
          · rw [HI.out.2 (by omega), tn_step (by rw [HG.out]; exact hx) hj]
        clear hx
        go_wp2_with fail
        go_round
        case rel => exact ⟨j, by omega, by first | rfl | go_num, HN⟩
        case measure => simp [intOf] <;> omega
      · have q : (x == 0) = false := by rw [beq_eq_false_iff_ne]; exact hx
        have qj : (((j : Int) + 1) == 0) = false := by rw [beq_eq_false_iff_ne]; omega
        have e3 : ((j : Int) + 1).toNat = j + 1 := by omega
        have HN : Hid (R = xs.take (j + 1)) := by unfold Hid; rw [HI.out.2 (by omega), tn_stop (by rw [HG.out]; exact hx)]
        have hr1 := h.take (j + 1)
        have e1 : (xs.take (j + 1)).length = j + 1 := by rw [List.length_take]; omega
        have OC : Hid (Calls Tryz.prog 48 #[.slice (some ⟨b, o, none⟩) (j + 1) c] w fun e w' => ∃ v, e = .returned v ∧ OwnI w.heap.size w' v R ∧ Below w.heap.size w w') := by
          have := clone_any (c := c) w hr1 (by omega)
          rw [e1] at this
          rw [HN.out]
          exact this
        clear hx e1
        go_wp2_with (go_at_call 48; refine OC.out.mono ?_; rintro e w1 ⟨v, rfl, ho, hb⟩)
        go_ret
        exact ⟨_, rfl, ho, hb⟩
set_option maxHeartbeats 2000000 in
theorem v8Same_true {p q : Option Addr} {c d : Nat} {xs : List Int} (w : World) (h : RdI w p xs) (h' : RdI w q xs) (hl : xs.length ≤ 1048576) :
    Calls Tryz.prog 12 #[.slice p xs.length c, .slice q xs.length d] w fun e w' => e = .returned (.bool true) ∧ Below w.heap.size w w' := by
  go_enter Tryz.func12, Tryz.ntmps12
  go_wp2_with fail
  go_loopw [5] (fun i wr => ∃ k : Nat, k ≤ xs.length ∧ i = .int .i64 (k : Int) ∧ Drawn w wr) (fun i _ => xs.length - (intOf i).toNat)
  case atStart => exact ⟨0, Nat.zero_le _, rfl, Drawn.refl _⟩
  case round =>
    obtain ⟨k, hk, rfl, hdr⟩ := hrel
    by_cases hlt : k < xs.length
    · obtain ⟨b, o, rfl, hb, hc⟩ := (hdr.rdI h).pos hlt
      obtain ⟨b', o', rfl, hb', hc'⟩ := (hdr.rdI h').pos hlt
      have z1 := hc k hlt
      have z2 := hc' k hlt
      generalize xs[k] = x at z1 z2
      clear hc hc'
      go_wp2_with fail
      go_quiet (fail)
      go_wp2_with fail
      go_roundw
      case rel => exact ⟨k + 1, by omega, by go_num, hdr.on _⟩
      case measure => simp [intOf] <;> omega
    · obtain rfl : k = xs.length := by omega
      go_wp2_with fail
      go_ret
      obtain ⟨m, rfl⟩ := hdr
      exact ⟨rfl, below_drewN (Below.refl _ _) m⟩
/-- the first n values of a + f*b -/
def atl (a b : List Int) (f : Int) (n : Nat) : List Int := (List.range n).map fun j => smp (a.getD j 0 + f * b.getD j 0)
theorem smp_add_wr (a b : Int) : smp (a + wrap64 b) = smp (a + b) := by unfold smp wrap64; omega
theorem atl_length (a b : List Int) (f : Int) (n : Nat) : (atl a b f n).length = n := by simp [atl]
theorem atl_get (a b : List Int) (f : Int) {n j : Nat} (h : max a.length b.length ≤ n) : (atl a b f n).getD j 0 = smp (a.getD j 0 + f * b.getD j 0) := by
  by_cases hj : j < n
  · rw [getD_atA (by rw [atl_length]; exact hj)]; simp [atl]
  · have h1 : a.getD j 0 = 0 := by rw [List.getD_eq_getElem?_getD, List.getElem?_eq_none (by omega)]; rfl
    have h2 : b.getD j 0 = 0 := by rw [List.getD_eq_getElem?_getD, List.getElem?_eq_none (by omega)]; rfl
    rw [h1, h2, List.getD_eq_getElem?_getD, List.getElem?_eq_none (by rw [atl_length]; omega), Int.mul_zero]; rfl
theorem atl_set (a b : List Int) (f : Int) {n k : Nat} (h : k < n) (out : List Int) (ho : atl a b f k ++ List.replicate (n - k) 0 = out) :
    atl a b f (k + 1) ++ List.replicate (n - (k + 1)) 0 = out.set k (smp (a.getD k 0 + f * b.getD k 0)) := by
  rw [← ho, List.set_append_right _ _ (by rw [atl_length]; exact Nat.le_refl _), atl_length, Nat.sub_self, show n - k = (n - (k + 1)) + 1 by omega, List.replicate_succ, List.set_cons_zero]
  unfold atl
  rw [List.range_succ, List.map_append, List.append_assoc]
  rfl
set_option maxHeartbeats 800000 in
set_option maxRecDepth 100000 in
theorem addTimesF_any {p q : Option Addr} {c d : Nat} {a b : List Int} (f : Int) (w : World) (h : RdI w p a) (h' : RdI w q b) (hal : a.length ≤ 1000000) (hbl : b.length ≤ 1000000) :
    Calls Tryz.prog 26 #[.slice p a.length c, .int .i64 f, .slice q b.length d] w fun e w' => ∃ v, e = .returned v ∧ OwnI w.heap.size w' v (atl a b f (max a.length b.length)) ∧ Below w.heap.size w w' := by
  have SA := Lib.hid (sizeI_any p a.length c w h.len)
  have SB := Lib.hid (sizeI_any q b.length d w h'.len)
  have ZE : Hid (∀ n : Nat, n ≤ 1000000 → Calls Tryz.prog 46 #[.int .i64 n] w fun e w' => e = .returned (.slice (some ⟨w.heap.size, 0, none⟩) n n) ∧ OwnI w.heap.size w' (.slice (some ⟨w.heap.size, 0, none⟩) n n) (List.replicate n 0) ∧ Below w.heap.size w w') := fun n hn => zerosG_any n w (by omega)
  have AT1 : Hid (∀ (W : World) (k : Nat), Below w.heap.size w W → k ≤ 1000000 → Calls Tryz.prog 49 #[.slice p a.length c, .int .i64 (k : Int)] W fun e w' => e = .returned (.int .i64 (a.getD k 0)) ∧ W = w') := fun W k hW hk => at_any (c := c) k W (h.below hW) (by omega)
  have AT2 : Hid (∀ (W : World) (k : Nat), Below w.heap.size w W → k ≤ 1000000 → Calls Tryz.prog 49 #[.slice q b.length d, .int .i64 (k : Int)] W fun e w' => e = .returned (.int .i64 (b.getD k 0)) ∧ W = w') := fun W k hW hk => at_any (c := d) k W (h'.below hW) (by omega)
  clear h h'
  generalize a.length = la at SA AT1 hal ⊢
  generalize b.length = lb at SB AT2 hbl ⊢
  go_enter Tryz.func26, Tryz.ntmps26
  go_wp2_with (first | (go_at_call 32; refine SA.out.mono ?_; rintro e w' ⟨rfl, rfl⟩) | (go_at_call 32; refine SB.out.mono ?_; rintro e w' ⟨rfl, rfl⟩))
  case inl =>
    have hn : max la lb = lb := by omega
    have HX := Lib.hid hn
    have HN : Hid (max la lb ≤ lb) := by unfold Hid; omega
    have hN : lb ≤ 1000000 := by omega
    clear hn
    refine (ZE.out lb hN).mono ?_
    rintro e w1 ⟨rfl, hown0, hbel0⟩
    clear ZE
    obtain ⟨g, hgg⟩ : ∃ g, g = w.heap.size := ⟨_, rfl⟩
    rw [← hgg] at hown0 hbel0 ⊢
    have HGG := Lib.hid hgg
    clear hgg
    go_wp2_with fail
    go_loopw [17] (fun i wr => ∃ k : Nat, k ≤ lb ∧ i = .int .i64 (k : Int) ∧ OwnI g wr (.slice (some ⟨g, 0, none⟩) lb lb) (atl a b f k ++ List.replicate (lb - k) 0) ∧ Below g w wr) (fun i _ => lb - (intOf i).toNat)
    case atStart => exact ⟨0, Nat.zero_le _, rfl, by simpa [atl] using hown0, hbel0⟩
    case round =>
      obtain ⟨k, hk, rfl, hown, hbel⟩ := hrel
      clear hown0 hbel0
      have hbel' : Below w.heap.size w wr := by rw [← HGG.out]; exact hbel
      obtain ⟨wi, rfl⟩ : ∃ wi : World, wi = wr := ⟨_, rfl⟩
      by_cases hlt : k < lb
      · have A1 := Lib.hid (AT1.out wi k hbel' (by omega))
        have A2 := Lib.hid (AT2.out wi k hbel' (by omega))
        generalize hout : atl a b f k ++ List.replicate (lb - k) 0 = out at hown
        have HST := Lib.hid (atl_set a b f hlt out hout)
        have HL : Hid (k < out.length) := by unfold Hid; rw [← hout, List.length_append, atl_length, List.length_replicate]; omega
        obtain ⟨-, -, hgl, hz, hfr, hset⟩ := hown.storing (k := k) HL.out
        generalize out[k]'HL.out = z at hz
        generalize a.getD k 0 = x at A1 HST
        generalize b.getD k 0 = y at A2 HST
        clear hout hbel' AT1 AT2
        go_wp2_with (first | (go_at_call_of 49 (Value.slice p la c); refine A1.out.mono ?_; rintro e w' ⟨rfl, rfl⟩) | (go_at_call_of 49 (Value.slice q lb d); refine A2.out.mono ?_; rintro e w' ⟨rfl, rfl⟩) | (go_at_call 47; refine (implWrap_any _ _).mono ?_; rintro e w' ⟨rfl, rfl⟩))
        go_roundw
        case rel => exact ⟨k + 1, by omega, by go_num, by rw [HST.out]; simp only [smp_wrap64, smp_add_wr]; exact hset _, hbel.setCell (Nat.le_refl _) _⟩
        case measure => simp [intOf] <;> omega
      · obtain rfl : k = lb := by omega
        go_wp2_with fail
        go_ret
        exact ⟨_, rfl, by rw [← HGG.out, HX.out]; simpa using hown, by rw [← HGG.out]; exact hbel⟩
  case inr =>
    have hn : max la lb = la := by omega
    have HX := Lib.hid hn
    have HN : Hid (max la lb ≤ la) := by unfold Hid; omega
    have hN : la ≤ 1000000 := by omega
    clear hn
    refine (ZE.out la hN).mono ?_
    rintro e w1 ⟨rfl, hown0, hbel0⟩
    clear ZE
    obtain ⟨g, hgg⟩ : ∃ g, g = w.heap.size := ⟨_, rfl⟩
    rw [← hgg] at hown0 hbel0 ⊢
    have HGG := Lib.hid hgg
    clear hgg
    go_wp2_with fail
    go_loopw [17] (fun i wr => ∃ k : Nat, k ≤ la ∧ i = .int .i64 (k : Int) ∧ OwnI g wr (.slice (some ⟨g, 0, none⟩) la la) (atl a b f k ++ List.replicate (la - k) 0) ∧ Below g w wr) (fun i _ => la - (intOf i).toNat)
    case atStart => exact ⟨0, Nat.zero_le _, rfl, by simpa [atl] using hown0, hbel0⟩
    case round =>
      obtain ⟨k, hk, rfl, hown, hbel⟩ := hrel
      clear hown0 hbel0
      have hbel' : Below w.heap.size w wr := by rw [← HGG.out]; exact hbel
      obtain ⟨wi, rfl⟩ : ∃ wi : World, wi = wr := ⟨_, rfl⟩
      by_cases hlt : k < la
      · have A1 := Lib.hid (AT1.out wi k hbel' (by omega))
        have A2 := Lib.hid (AT2.out wi k hbel' (by omega))
        generalize hout : atl a b f k ++ List.replicate (la - k) 0 = out at hown
        have HST := Lib.hid (atl_set a b f hlt out hout)
        have HL : Hid (k < out.length) := by unfold Hid; rw [← hout, List.length_append, atl_length, List.length_replicate]; omega
        obtain ⟨-, -, hgl, hz, hfr, hset⟩ := hown.storing (k := k) HL.out
        generalize out[k]'HL.out = z at hz
        generalize a.getD k 0 = x at A1 HST
        generalize b.getD k 0 = y at A2 HST
        clear hout hbel' AT1 AT2
        go_wp2_with (first | (go_at_call_of 49 (Value.slice p la c); refine A1.out.mono ?_; rintro e w' ⟨rfl, rfl⟩) | (go_at_call_of 49 (Value.slice q lb d); refine A2.out.mono ?_; rintro e w' ⟨rfl, rfl⟩) | (go_at_call 47; refine (implWrap_any _ _).mono ?_; rintro e w' ⟨rfl, rfl⟩))
        go_roundw
        case rel => exact ⟨k + 1, by omega, by go_num, by rw [HST.out]; simp only [smp_wrap64, smp_add_wr]; exact hset _, hbel.setCell (Nat.le_refl _) _⟩
        case measure => simp [intOf] <;> omega
      · obtain rfl : k = la := by omega
        go_wp2_with fail
        go_ret
        exact ⟨_, rfl, by rw [← HGG.out, HX.out]; simpa using hown, by rw [← HGG.out]; exact hbel⟩
theorem addTimes_any {p q : Option Addr} {c d : Nat} {a b : List Int} (f : Int) (w : World) (h : RdI w p a) (h' : RdI w q b) (hal : a.length ≤ 1000000) (hbl : b.length ≤ 1000000) (hf : f = 1 ∨ f = -1) (ha : AllS a) (hb : AllS b) :
    Calls Tryz.prog 26 #[.slice p a.length c, .int .i64 f, .slice q b.length d] w fun e w' => ∃ v, e = .returned v ∧ OwnI w.heap.size w' v (atl a b f (max a.length b.length)) ∧ Below w.heap.size w w' := addTimesF_any f w h h' hal hbl
end Go.Proofs.YtljlcbichimhaaaGreatDoor
