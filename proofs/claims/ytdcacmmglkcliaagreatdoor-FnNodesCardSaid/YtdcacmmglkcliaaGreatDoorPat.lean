/-
  Patches: small functions of both sides: tables, indices, what a node waits for.
-/
import Derived.Test.YtdcacmmglkcliaaGreatDoorPatM
import Derived.Test.YtdcacmmglkcliaaGreatDoorPatSame
import Derived.Test.YtdcacmmglkcliaaGreatDoorNode3
namespace Go.Proofs.YtdcacmmglkcliaaGreatDoor
open Go.ChangeShapes Go.WideShapes Go.ChangeAt Go.RowKit Go.Sort
set_option linter.unusedVariables false

theorem any_contains (xs : List Int) (n : Int) : xs.any (· == n) = xs.contains n := by
  rw [Bool.eq_iff_iff]
  simp
/-- a literal of integers, as a slice that reads it -/
theorem rdI_lit' (w : World) (xs : List Int) (hm : xs.length ≤ 1048576) : RdI (w.alloc (.cells (xs.map (Value.int .i64)).toArray 2)) (some ⟨w.heap.size, 0, none⟩) xs := by
  have ho := OwnI.lit (B := w.heap.size) w xs (Nat.le_refl _) (by unfold maxLen; omega)
  rcases ho.cases with ⟨h, _⟩ | ⟨g, cap, hv, _, _, _, hr⟩
  · simp at h
  · simp only [Value.slice.injEq, Option.some.injEq, Addr.mk.injEq, and_true] at hv
    obtain ⟨rfl, -, -⟩ := hv
    exact hr
theorem rdI_lit4 (w : World) : RdI (w.alloc (.cells (([2, 4, 8, 16] : List Int).map (Value.int .i64)).toArray 2)) (some ⟨w.heap.size, 0, none⟩) [2, 4, 8, 16] := rdI_lit' w _ (by simp)
theorem areIndices_any {p : Option Addr} {c : Nat} {xs : List Int} (n : Int) (w : World) (h : RdI w p xs) (h0 : 0 ≤ n) (hn : n ≤ 9223372036854775807) :
    Calls Tryz.prog 122 #[.slice p xs.length c, .int .i64 n] w fun e w' => e = .returned (.bool (xs.all fun f => inB f 0 (n - 1))) ∧ w = w' := by
  have hl := h.len
  unfold maxLen at hl
  go_enter Tryz.func122, Tryz.ntmps122
  go_wp2_with fail
  go_loop [9] (fun i => ∃ k : Nat, k ≤ xs.length ∧ i = .int .i64 k ∧ (xs.take k).all (fun f => inB f 0 (n - 1)) = true) (fun i => xs.length - (intOf i).toNat)
  case atStart => exact ⟨0, Nat.zero_le _, rfl, by simp⟩
  case round =>
    obtain ⟨k, hk, rfl, hall⟩ := hrel
    have HA := Lib.hid hall; clear hall
    by_cases hlt : k < xs.length
    · obtain ⟨b, o, rfl, hb, hc⟩ := h.pos hlt
      have hck := hc k hlt
      clear hc
      generalize hx : xs[k] = f at hck
      have HX := Lib.hid hx; clear hx
      cases hs : inB f 0 (n - 1)
      · go_wp2_with (go_at_call 73; refine (within_any _ _ _ _).mono ?_; rintro e w' ⟨rfl, rfl⟩)
        go_ret
        exact ⟨ret_bool (by rw [all_false hlt (by rw [HX.out]; exact hs)]), rfl⟩
      · go_wp2_with (go_at_call 73; refine (within_any _ _ _ _).mono ?_; rintro e w' ⟨rfl, rfl⟩)
        go_round
        case rel => exact ⟨k + 1, by omega, by go_num, all_step hlt HA.out (by rw [HX.out]; exact hs)⟩
        case measure => simp [intOf] <;> omega
    · obtain rfl : k = xs.length := by omega
      go_wp2_with fail
      go_ret
      exact ⟨ret_bool (all_done HA.out).symm, rfl⟩
theorem l03Ok_any {p : Option Addr} {c : Nat} {xs : List Int} (w : World) (h : RdI w p xs) :
    Calls Tryz.prog 43 #[.slice p xs.length c] w fun e w' => e = .returned (.bool (decide (xs.length ≤ 4000) && xs.all isSmp)) ∧ w = w' := by
  have hl := h.len
  unfold maxLen at hl
  by_cases h4 : xs.length ≤ 4000
  case neg =>
    have e : decide (xs.length ≤ 4000) = false := decide_eq_false h4
    rw [e]
    clear e
    go_enter Tryz.func43, Tryz.ntmps43
    go_wp2_with fail
    go_ret
    exact ⟨rfl, rfl⟩
  have e : decide (xs.length ≤ 4000) = true := decide_eq_true h4
  rw [e, Bool.true_and]
  clear e
  go_enter Tryz.func43, Tryz.ntmps43
  go_wp2_with fail
  go_loop [3] (fun i => ∃ k : Nat, k ≤ xs.length ∧ i = .int .i64 k ∧ (xs.take k).all isSmp = true) (fun i => xs.length - (intOf i).toNat)
  case atStart => exact ⟨0, Nat.zero_le _, rfl, by simp⟩
  case round =>
    obtain ⟨k, hk, rfl, hall⟩ := hrel
    have HA := Lib.hid hall; clear hall
    by_cases hlt : k < xs.length
    · obtain ⟨b, o, rfl, hb, hc⟩ := h.pos hlt
      have hck := hc k hlt
      clear hc
      generalize hx : xs[k] = f at hck
      have HX := Lib.hid hx; clear hx
      cases hs : isSmp f
      · go_wp2_with (go_at_call 85; refine (l01Sample_any _ _).mono ?_; rintro e w' ⟨rfl, rfl⟩)
        go_ret
        exact ⟨ret_bool (by rw [all_false hlt (by rw [HX.out]; exact hs)]), rfl⟩
      · go_wp2_with (go_at_call 85; refine (l01Sample_any _ _).mono ?_; rintro e w' ⟨rfl, rfl⟩)
        go_round
        case rel => exact ⟨k + 1, by omega, by go_num, all_step hlt HA.out (by rw [HX.out]; exact hs)⟩
        case measure => simp [intOf] <;> omega
    · obtain rfl : k = xs.length := by omega
      go_wp2_with fail
      go_ret
      exact ⟨ret_bool (all_done HA.out).symm, rfl⟩
theorem tblB_of {t : List Int} {n : Nat} (hn : t.length = n) (b : Bool) (hb : t.all isSmp = b) : tblB t = ((decide (n = 2) || (decide (n = 4) || (decide (n = 8) || decide (n = 16)))) && b) := by
  unfold tblB; rw [hn, hb]
set_option maxHeartbeats 1600000 in
theorem areTables_any {p : Option Addr} {c : Nat} {xss : List (List Int)} (w : World) (h : RdII w p xss) :
    Calls Tryz.prog 30 #[.slice p xss.length c] w fun e w' => e = .returned (.bool (tablesB xss)) ∧ w = w' := by
  have hl := h.len
  unfold maxLen at hl
  have HR : Hid (∀ b, xss.all tblB = b → tablesB xss = (b && decide (xss.length ≤ 4))) := fun b hb => by unfold tablesB; rw [hb]
  generalize tablesB xss = R at HR ⊢
  go_enter Tryz.func30, Tryz.ntmps30
  go_wp2_with fail
  go_loop [8] (fun i => ∃ k : Nat, k ≤ xss.length ∧ i = .int .i64 k ∧ (xss.take k).all tblB = true) (fun i => xss.length - (intOf i).toNat)
  case atStart => exact ⟨0, Nat.zero_le _, rfl, by simp⟩
  case round =>
    obtain ⟨k, hk, rfl, hall⟩ := hrel
    have HA := Lib.hid hall; clear hall
    by_cases hlt : k < xss.length
    · obtain ⟨b, o, rfl, hb, hc⟩ := h.pos hlt
      obtain ⟨q, d, hck, hr⟩ := hc k hlt
      have SA := Lib.hid (areSamples_any (c := d) w hr)
      have hrl := hr.len
      unfold maxLen at hrl
      clear hc hr
      generalize hx : xss[k] = t at hck SA hrl
      have HX := Lib.hid hx; clear hx
      by_cases hn : t.length = 2 ∨ t.length = 4 ∨ t.length = 8 ∨ t.length = 16
      · cases hs : t.all isSmp
        · rw [hs] at SA
          have ht : tblB t = false := by unfold tblB; rw [hs, Bool.and_false]
          obtain rfl := HR.out _ (all_false hlt (by rw [HX.out]; exact ht))
          clear ht hs
          rcases hn with e | e | e | e <;> rw [e] at hck SA
          all_goals
            clear e hrl
            go_wp2_with (go_at_call 35; refine SA.out.mono ?_; rintro e w' ⟨rfl, rfl⟩)
            go_ret
            exact ⟨rfl, rfl⟩
        · rw [hs] at SA
          have ht : tblB t = true := by unfold tblB; rw [hs, Bool.and_true]; rcases hn with e | e | e | e <;> rw [e] <;> rfl
          have HS := Lib.hid (all_step hlt HA.out (by rw [HX.out]; exact ht))
          clear ht hs
          rcases hn with e | e | e | e <;> rw [e] at hck SA
          all_goals
            clear e hrl
            go_wp2_with (go_at_call 35; refine SA.out.mono ?_; rintro e w' ⟨rfl, rfl⟩)
            go_round
            case rel => exact ⟨k + 1, by omega, by go_num, HS.out⟩
            case measure => simp [intOf] <;> omega
      · have ht : tblB t = false := by
          unfold tblB
          rw [decide_eq_false (by omega), decide_eq_false (by omega), decide_eq_false (by omega), decide_eq_false (by omega)]; rfl
        obtain rfl := HR.out _ (all_false hlt (by rw [HX.out]; exact ht))
        have q1 : ((t.length : Int) != 2) = true := by rw [bne_iff_ne]; omega
        have q2 : ((t.length : Int) != 4) = true := by rw [bne_iff_ne]; omega
        have q3 : ((t.length : Int) != 8) = true := by rw [bne_iff_ne]; omega
        have q4 : ((t.length : Int) != 16) = true := by rw [bne_iff_ne]; omega
        clear ht hn SA
        go_wp2_with fail
        go_ret
        exact ⟨rfl, rfl⟩
    · obtain rfl : k = xss.length := by omega
      obtain rfl := HR.out _ (all_done HA.out)
      go_wp2_with fail
      go_ret
      exact ⟨ret_bool (by simp only [decide_eq_decide]; omega), rfl⟩
set_option maxHeartbeats 1600000 in
theorem l06Tables_any {p : Option Addr} {c : Nat} {xss : List (List Int)} (w : World) (h : RdII w p xss) :
    Calls Tryz.prog 116 #[.slice p xss.length c] w fun e w' => e = .returned (.bool (tablesB xss)) ∧ Below w.heap.size w w' := by
  have hl := h.len
  unfold maxLen at hl
  have HR : Hid (∀ b, xss.all tblB = b → tablesB xss = (b && decide (xss.length ≤ 4))) := fun b hb => by unfold tablesB; rw [hb]
  generalize tablesB xss = R at HR ⊢
  go_enter Tryz.func116, Tryz.ntmps116
  go_wp2_with fail
  go_loopw [3] (fun i wr => ∃ k : Nat, k ≤ xss.length ∧ i = .int .i64 k ∧ (xss.take k).all tblB = true ∧ Below w.heap.size w wr) (fun i _ => xss.length - (intOf i).toNat)
  case atStart => exact ⟨0, Nat.zero_le _, rfl, by simp, Below.refl _ _⟩
  case round =>
    obtain ⟨k, hk, rfl, hall, hbel⟩ := hrel
    have HA := Lib.hid hall; clear hall
    obtain ⟨wi, rfl⟩ : ∃ wi : World, wi = wr := ⟨_, rfl⟩
    by_cases hlt : k < xss.length
    · obtain ⟨b, o, rfl, hb, hc⟩ := (h.below hbel).pos hlt
      obtain ⟨q, d, hck, hr⟩ := hc k hlt
      have hrl := hr.len
      unfold maxLen at hrl
      have hb1 : Below wi.heap.size wi (wi.alloc (.cells (([2, 4, 8, 16] : List Int).map (Value.int .i64)).toArray 2)) := (Below.refl _ _).alloc (Nat.le_refl _) _
      have hB1 := hbel.trans (hb1.mono hbel.size)
      have HS := Lib.hid (l00Has_any (c := 4) (xss[k].length : Int) _ (rdI_lit4 wi))
      have OK := Lib.hid (l03Ok_any (c := d) _ (hr.below hb1))
      clear hc hr
      generalize hx : xss[k] = t at hck OK hrl HS
      have HX := Lib.hid hx; clear hx
      have e4 : ([2, 4, 8, 16] : List Int).any (· == (t.length : Int)) = (decide (t.length = 2) || (decide (t.length = 4) || (decide (t.length = 8) || decide (t.length = 16)))) := by
        rw [Bool.eq_iff_iff]
        simp only [List.any_cons, List.any_nil, Bool.or_false, Bool.or_eq_true, beq_iff_eq, decide_eq_true_iff]
        omega
      rw [e4] at HS
      clear e4
      by_cases hn : t.length = 2 ∨ t.length = 4 ∨ t.length = 8 ∨ t.length = 16
      · have h4 : decide (t.length ≤ 4000) = true := decide_eq_true (by omega)
        have h5 : (decide (t.length = 2) || (decide (t.length = 4) || (decide (t.length = 8) || decide (t.length = 16)))) = true := by
          rcases hn with e | e | e | e <;> rw [e] <;> rfl
        rw [h4, Bool.true_and] at OK
        rw [h5] at HS
        cases hs : t.all isSmp
        · rw [hs] at OK
          have ht : tblB t = false := by unfold tblB; rw [hs, Bool.and_false]
          obtain rfl := HR.out _ (all_false hlt (by rw [HX.out]; exact ht))
          clear ht hs h4 h5 hn
          go_wp2_with (first | (go_at_call 117; refine HS.out.mono ?_; rintro e w' ⟨rfl, rfl⟩) | (go_at_call 43; refine OK.out.mono ?_; rintro e w' ⟨rfl, rfl⟩))
          go_ret
          exact ⟨rfl, hB1⟩
        · rw [hs] at OK
          have ht : tblB t = true := by unfold tblB; rw [hs, Bool.and_true]; exact h5
          have HSS := Lib.hid (all_step hlt HA.out (by rw [HX.out]; exact ht))
          clear ht hs h4 h5 hn
          go_wp2_with (first | (go_at_call 117; refine HS.out.mono ?_; rintro e w' ⟨rfl, rfl⟩) | (go_at_call 43; refine OK.out.mono ?_; rintro e w' ⟨rfl, rfl⟩))
          go_roundw
          case rel => exact ⟨k + 1, by omega, by go_num, HSS.out, hB1⟩
          case measure => simp [intOf] <;> omega
      · have h5 : (decide (t.length = 2) || (decide (t.length = 4) || (decide (t.length = 8) || decide (t.length = 16)))) = false := by
          rw [decide_eq_false (by omega), decide_eq_false (by omega), decide_eq_false (by omega), decide_eq_false (by omega)]; rfl
        have ht : tblB t = false := by unfold tblB; rw [h5]; rfl
        rw [h5] at HS
        obtain rfl := HR.out _ (all_false hlt (by rw [HX.out]; exact ht))
        clear ht hn h5 OK
        go_wp2_with (go_at_call 117; refine HS.out.mono ?_; rintro e w' ⟨rfl, rfl⟩)
        go_ret
        exact ⟨rfl, hB1⟩
    · obtain rfl : k = xss.length := by omega
      obtain rfl := HR.out _ (all_done HA.out)
      go_wp2_with fail
      go_ret
      exact ⟨ret_bool (by rw [Bool.true_and, decide_eq_decide]; omega), hbel⟩
theorem waitsFor_v {v : Value} {x : NodeD} (w : World) (h : VNode w v x) :
    Calls Tryz.prog 123 #[v] w fun e w' => ∃ u, e = .returned u ∧ VI w' u (waits x) ∧ Below w.heap.size w w' := by
  obtain ⟨p3, c3, rfl, r3⟩ := h
  have hB0 : Below w.heap.size w (w.alloc (.cells #[.int .i64 x.kind, .int .i64 x.a, .int .i64 x.b, .slice p3 x.src.length c3] 26)) := (Below.refl _ _).alloc (Nat.le_refl _) _
  have r4 := r3.below hB0
  by_cases hk : x.kind = 6
  · have e : (x.kind == 6) = true := by rw [beq_iff_eq]; exact hk
    have HW : Hid (waits x = []) := by unfold Hid waits; rw [if_pos hk]
    clear hk
    go_enter Tryz.func123, Tryz.ntmps123
    go_wp2_with fail
    go_ret
    exact ⟨_, rfl, by rw [HW.out]; exact ⟨none, 0, rfl, RdI.nil _ _⟩, hB0⟩
  · have e : (x.kind == 6) = false := by rw [beq_eq_false_iff_ne]; exact hk
    have HW : Hid (waits x = x.src) := by unfold Hid waits; rw [if_neg hk]
    clear hk
    go_enter Tryz.func123, Tryz.ntmps123
    go_wp2_with fail
    go_ret
    exact ⟨_, rfl, by rw [HW.out]; exact ⟨p3, c3, rfl, r4⟩, hB0⟩
theorem l07Waits_any {b o : Nat} {x : NodeD} (w : World) (h : PNode w b o x) :
    Calls Tryz.prog 119 #[.pointer (some ⟨b, o, none⟩)] w fun e w' => ∃ u, e = .returned u ∧ VI w' u (waits x) ∧ Below w.heap.size w w' := by
  obtain ⟨z0, z1, z2, q, d, z3, hr⟩ := h
  by_cases hk : x.kind = 6
  · have e : (x.kind == 6) = true := by rw [beq_iff_eq]; exact hk
    have HW : Hid (waits x = []) := by unfold Hid waits; rw [if_pos hk]
    clear hk
    have hB0 : Below w.heap.size w (w.alloc (.cells #[] 2)) := (Below.refl _ _).alloc (Nat.le_refl _) _
    go_enter Tryz.func119, Tryz.ntmps119
    go_wp2_with fail
    go_ret
    exact ⟨_, rfl, by rw [HW.out]; exact ⟨_, 0, rfl, RdI.nil _ _⟩, hB0⟩
  · have e : (x.kind == 6) = false := by rw [beq_eq_false_iff_ne]; exact hk
    have HW : Hid (waits x = x.src) := by unfold Hid waits; rw [if_neg hk]
    clear hk
    go_enter Tryz.func119, Tryz.ntmps119
    go_wp2_with fail
    go_ret
    exact ⟨_, rfl, by rw [HW.out]; exact ⟨q, d, rfl, hr⟩, Below.refl _ _⟩
theorem l07All_any {p q : Option Addr} {c d : Nat} {xs ys : List Int} (w : World) (h : RdI w p xs) (h' : RdI w q ys) :
    Calls Tryz.prog 118 #[.slice p xs.length c, .slice q ys.length d] w fun e w' => e = .returned (.bool (xs.all fun f => ys.contains f)) ∧ w = w' := by
  have hl := h.len
  unfold maxLen at hl
  generalize hRR : (xs.all fun f => ys.contains f) = R
  have HR := Lib.hid hRR
  clear hRR
  go_enter Tryz.func118, Tryz.ntmps118
  go_wp2_with fail
  go_loop [5] (fun i => ∃ k : Nat, k ≤ xs.length ∧ i = .int .i64 k ∧ (xs.take k).all (fun f => ys.contains f) = true) (fun i => xs.length - (intOf i).toNat)
  case atStart => exact ⟨0, Nat.zero_le _, rfl, by simp⟩
  case round =>
    obtain ⟨k, hk, rfl, hall⟩ := hrel
    have HA := Lib.hid hall; clear hall
    by_cases hlt : k < xs.length
    · obtain ⟨b, o, rfl, hb, hc⟩ := h.pos hlt
      have hck := hc k hlt
      clear hc
      generalize hx : xs[k] = f at hck
      have HX := Lib.hid hx; clear hx
      have HS := Lib.hid (l00Has_any (c := d) f w h')
      rw [any_contains] at HS
      cases hs : ys.contains f
      · rw [hs] at HS
        have hR : R = false := by rw [← HR.out]; exact all_false hlt (by rw [HX.out]; exact hs)
        subst hR
        clear hs
        go_wp2_with (go_at_call 117; refine HS.out.mono ?_; rintro e w' ⟨rfl, rfl⟩)
        go_ret
        exact ⟨rfl, rfl⟩
      · rw [hs] at HS
        have HSS := Lib.hid (all_step (f := fun f => ys.contains f) hlt HA.out (by rw [HX.out]; exact hs))
        clear hs
        go_wp2_with (go_at_call 117; refine HS.out.mono ?_; rintro e w' ⟨rfl, rfl⟩)
        go_round
        case rel => exact ⟨k + 1, by omega, by go_num, HSS.out⟩
        case measure => simp [intOf] <;> omega
    · obtain rfl : k = xs.length := by omega
      have hR : R = true := by rw [← HR.out]; exact all_done HA.out
      subst hR
      go_wp2_with fail
      go_ret
      exact ⟨rfl, rfl⟩
end Go.Proofs.YtdcacmmglkcliaaGreatDoor
