/-
  Several texts in one: Pat, StepN, StepN2, OwnP, Mapped, PB, PatF, StepA, CopyP, AppN.
-/
import Derived.Test.YtcfhcmgmkhfjjaaGreatPk3
import Derived.Test.YtcfhcmgmkhfjjaaGreatPk2
import Derived.Lib.QuietBelow
import Derived.Deep.RegionWith
import Derived.Test.YtcfhcmgmkhfjjaaGreatPk1
import Derived.Deep.RegionLaw
import Derived.Deep.RegionHeld3
import Derived.ArgAppend
import Derived.Deep.DeepAppendRoom
namespace Go.Proofs.YtcfhcmgmkhfjjaaGreat
open Go.ChangeShapes Go.WideShapes Go.ChangeAt Go.RowKit Go.Sort
set_option linter.unusedVariables false

theorem any_contains (xs : List Int) (n : Int) : xs.any (· == n) = xs.contains n := by
  rw [Bool.eq_iff_iff]
  simp
/-- a literal of integers, as a slice that reads it -/
theorem rdI_lit' (w : World) (xs : List Int) (hm : xs.length ≤ 1048576) : RdI (w.alloc (.cells (xs.map (Value.int .i64)).toArray 2)) (some ⟨w.heap.size, 0, none⟩) xs := by
  have ho := OwnI.lit (B := w.heap.size) w xs (Nat.le_refl _) (by unfold maxLen; omega)
  rcases ho.cases with ⟨h, _⟩ | ⟨g, cap, hv, _, _, _, hr⟩
  · simp at h
  · simp only [Value.slice.injEq, Option.some.injEq, Addr.mk.injEq, and_true] at hv
    obtain ⟨rfl, -, -⟩ := hv
    exact hr
theorem rdI_lit4 (w : World) : RdI (w.alloc (.cells (([2, 4, 8, 16] : List Int).map (Value.int .i64)).toArray 2)) (some ⟨w.heap.size, 0, none⟩) [2, 4, 8, 16] := rdI_lit' w _ (by simp)
theorem areIndices_any {p : Option Addr} {c : Nat} {xs : List Int} (n : Int) (w : World) (h : RdI w p xs) (h0 : 0 ≤ n) (hn : n ≤ 9223372036854775807) :
    Calls Tryz.prog 66 #[.slice p xs.length c, .int .i64 n] w fun e w' => e = .returned (.bool (xs.all fun f => inB f 0 (n - 1))) ∧ w = w' := by
  have hl := h.len
  unfold maxLen at hl
  go_enter Tryz.func66, Tryz.ntmps66
  go_wp2_with fail
  go_loop [9] (fun i => ∃ k : Nat, k ≤ xs.length ∧ i = .int .i64 k ∧ (xs.take k).all (fun f => inB f 0 (n - 1)) = true) (fun i => xs.length - (intOf i).toNat)
  case atStart => exact ⟨0, Nat.zero_le _, rfl, by simp⟩
  case round =>
    obtain ⟨k, hk, rfl, hall⟩ := hrel
    have HA := Lib.hid hall; clear hall
    by_cases hlt : k < xs.length
    · obtain ⟨b, o, rfl, hb, hc⟩ := h.pos hlt
      have hck := hc k hlt
      clear hc
      generalize hx : xs[k] = f at hck
      have HX := Lib.hid hx; clear hx
      cases hs : inB f 0 (n - 1)
      · go_wp2_with (go_at_call 30; refine (within_any _ _ _ _).mono ?_; rintro e w' ⟨rfl, rfl⟩)
        go_ret
        exact ⟨ret_bool (by rw [all_false hlt (by rw [HX.out]; exact hs)]), rfl⟩
      · go_wp2_with (go_at_call 30; refine (within_any _ _ _ _).mono ?_; rintro e w' ⟨rfl, rfl⟩)
        go_round
        case rel => exact ⟨k + 1, by omega, by go_num, all_step hlt HA.out (by rw [HX.out]; exact hs)⟩
        case measure => simp [intOf] <;> omega
    · obtain rfl : k = xs.length := by omega
      go_wp2_with fail
      go_ret
      exact ⟨ret_bool (all_done HA.out).symm, rfl⟩
theorem l03Ok_any {p : Option Addr} {c : Nat} {xs : List Int} (w : World) (h : RdI w p xs) :
    Calls Tryz.prog 44 #[.slice p xs.length c] w fun e w' => e = .returned (.bool (decide (xs.length ≤ 4000) && xs.all isSmp)) ∧ w = w' := by
  have hl := h.len
  unfold maxLen at hl
  by_cases h4 : xs.length ≤ 4000
  case neg =>
    have e : decide (xs.length ≤ 4000) = false := decide_eq_false h4
    rw [e]
    clear e
    go_enter Tryz.func44, Tryz.ntmps44
    go_wp2_with fail
    go_ret
    exact ⟨rfl, rfl⟩
  have e : decide (xs.length ≤ 4000) = true := decide_eq_true h4
  rw [e, Bool.true_and]
  clear e
  go_enter Tryz.func44, Tryz.ntmps44
  go_wp2_with fail
  go_loop [3] (fun i => ∃ k : Nat, k ≤ xs.length ∧ i = .int .i64 k ∧ (xs.take k).all isSmp = true) (fun i => xs.length - (intOf i).toNat)
  case atStart => exact ⟨0, Nat.zero_le _, rfl, by simp⟩
  case round =>
    obtain ⟨k, hk, rfl, hall⟩ := hrel
    have HA := Lib.hid hall; clear hall
    by_cases hlt : k < xs.length
    · obtain ⟨b, o, rfl, hb, hc⟩ := h.pos hlt
      have hck := hc k hlt
      clear hc
      generalize hx : xs[k] = f at hck
      have HX := Lib.hid hx; clear hx
      cases hs : isSmp f
      · go_wp2_with (go_at_call 79; refine (l01Sample_any _ _).mono ?_; rintro e w' ⟨rfl, rfl⟩)
        go_ret
        exact ⟨ret_bool (by rw [all_false hlt (by rw [HX.out]; exact hs)]), rfl⟩
      · go_wp2_with (go_at_call 79; refine (l01Sample_any _ _).mono ?_; rintro e w' ⟨rfl, rfl⟩)
        go_round
        case rel => exact ⟨k + 1, by omega, by go_num, all_step hlt HA.out (by rw [HX.out]; exact hs)⟩
        case measure => simp [intOf] <;> omega
    · obtain rfl : k = xs.length := by omega
      go_wp2_with fail
      go_ret
      exact ⟨ret_bool (all_done HA.out).symm, rfl⟩
theorem tblB_of {t : List Int} {n : Nat} (hn : t.length = n) (b : Bool) (hb : t.all isSmp = b) : tblB t = ((decide (n = 2) || (decide (n = 4) || (decide (n = 8) || decide (n = 16)))) && b) := by
  unfold tblB; rw [hn, hb]
set_option maxHeartbeats 1600000 in
theorem areTables_any {p : Option Addr} {c : Nat} {xss : List (List Int)} (w : World) (h : RdII w p xss) :
    Calls Tryz.prog 64 #[.slice p xss.length c] w fun e w' => e = .returned (.bool (tablesB xss)) ∧ w = w' := by
  have hl := h.len
  unfold maxLen at hl
  have HR : Hid (∀ b, xss.all tblB = b → tablesB xss = (b && decide (xss.length ≤ 4))) := fun b hb => by unfold tablesB; rw [hb]
  generalize tablesB xss = R at HR ⊢
  go_enter Tryz.func64, Tryz.ntmps64
  go_wp2_with fail
  go_loop [8] (fun i => ∃ k : Nat, k ≤ xss.length ∧ i = .int .i64 k ∧ (xss.take k).all tblB = true) (fun i => xss.length - (intOf i).toNat)
  case atStart => exact ⟨0, Nat.zero_le _, rfl, by simp⟩
  case round =>
    obtain ⟨k, hk, rfl, hall⟩ := hrel
    have HA := Lib.hid hall; clear hall
    by_cases hlt : k < xss.length
    · obtain ⟨b, o, rfl, hb, hc⟩ := h.pos hlt
      obtain ⟨q, d, hck, hr⟩ := hc k hlt
      have SA := Lib.hid (areSamples_any (c := d) w hr)
      have hrl := hr.len
      unfold maxLen at hrl
      clear hc hr
      generalize hx : xss[k] = t at hck SA hrl
      have HX := Lib.hid hx; clear hx
      by_cases hn : t.length = 2 ∨ t.length = 4 ∨ t.length = 8 ∨ t.length = 16
      · cases hs : t.all isSmp
        · rw [hs] at SA
          have ht : tblB t = false := by unfold tblB; rw [hs, Bool.and_false]
          obtain rfl := HR.out _ (all_false hlt (by rw [HX.out]; exact ht))
          clear ht hs
          rcases hn with e | e | e | e <;> rw [e] at hck SA
          all_goals
            clear e hrl
            go_wp2_with (go_at_call 102; refine SA.out.mono ?_; rintro e w' ⟨rfl, rfl⟩)
            go_ret
            exact ⟨rfl, rfl⟩
        · rw [hs] at SA
          have ht : tblB t = true := by unfold tblB; rw [hs, Bool.and_true]; rcases hn with e | e | e | e <;> rw [e] <;> rfl
          have HS := Lib.hid (all_step hlt HA.out (by rw [HX.out]; exact ht))
          clear ht hs
          rcases hn with e | e | e | e <;> rw [e] at hck SA
          all_goals
            clear e hrl
            go_wp2_with (go_at_call 102; refine SA.out.mono ?_; rintro e w' ⟨rfl, rfl⟩)
            go_round
            case rel => exact ⟨k + 1, by omega, by go_num, HS.out⟩
            case measure => simp [intOf] <;> omega
      · have ht : tblB t = false := by
          unfold tblB
          rw [decide_eq_false (by omega), decide_eq_false (by omega), decide_eq_false (by omega), decide_eq_false (by omega)]; rfl
        obtain rfl := HR.out _ (all_false hlt (by rw [HX.out]; exact ht))
        have q1 : ((t.length : Int) != 2) = true := by rw [bne_iff_ne]; omega
        have q2 : ((t.length : Int) != 4) = true := by rw [bne_iff_ne]; omega
        have q3 : ((t.length : Int) != 8) = true := by rw [bne_iff_ne]; omega
        have q4 : ((t.length : Int) != 16) = true := by rw [bne_iff_ne]; omega
        clear ht hn SA
        go_wp2_with fail
        go_ret
        exact ⟨rfl, rfl⟩
    · obtain rfl : k = xss.length := by omega
      obtain rfl := HR.out _ (all_done HA.out)
      go_wp2_with fail
      go_ret
      exact ⟨ret_bool (by simp only [decide_eq_decide]; omega), rfl⟩
set_option maxHeartbeats 1600000 in
theorem l06Tables_any {p : Option Addr} {c : Nat} {xss : List (List Int)} (w : World) (h : RdII w p xss) :
    Calls Tryz.prog 73 #[.slice p xss.length c] w fun e w' => e = .returned (.bool (tablesB xss)) ∧ Below w.heap.size w w' := by
  have hl := h.len
  unfold maxLen at hl
  have HR : Hid (∀ b, xss.all tblB = b → tablesB xss = (b && decide (xss.length ≤ 4))) := fun b hb => by unfold tablesB; rw [hb]
  generalize tablesB xss = R at HR ⊢
  go_enter Tryz.func73, Tryz.ntmps73
  go_wp2_with fail
  go_loopw [3] (fun i wr => ∃ k : Nat, k ≤ xss.length ∧ i = .int .i64 k ∧ (xss.take k).all tblB = true ∧ Below w.heap.size w wr) (fun i _ => xss.length - (intOf i).toNat)
  case atStart => exact ⟨0, Nat.zero_le _, rfl, by simp, Below.refl _ _⟩
  case round =>
    obtain ⟨k, hk, rfl, hall, hbel⟩ := hrel
    have HA := Lib.hid hall; clear hall
    obtain ⟨wi, rfl⟩ : ∃ wi : World, wi = wr := ⟨_, rfl⟩
    by_cases hlt : k < xss.length
    · obtain ⟨b, o, rfl, hb, hc⟩ := (h.below hbel).pos hlt
      obtain ⟨q, d, hck, hr⟩ := hc k hlt
      have hrl := hr.len
      unfold maxLen at hrl
      have hb1 : Below wi.heap.size wi (wi.alloc (.cells (([2, 4, 8, 16] : List Int).map (Value.int .i64)).toArray 2)) := (Below.refl _ _).alloc (Nat.le_refl _) _
      have hB1 := hbel.trans (hb1.mono hbel.size)
      have HS := Lib.hid (l00Has_any (c := 4) (xss[k].length : Int) _ (rdI_lit4 wi))
      have OK := Lib.hid (l03Ok_any (c := d) _ (hr.below hb1))
      clear hc hr
      generalize hx : xss[k] = t at hck OK hrl HS
      have HX := Lib.hid hx; clear hx
      have e4 : ([2, 4, 8, 16] : List Int).any (· == (t.length : Int)) = (decide (t.length = 2) || (decide (t.length = 4) || (decide (t.length = 8) || decide (t.length = 16)))) := by
        rw [Bool.eq_iff_iff]
        simp only [List.any_cons, List.any_nil, Bool.or_false, Bool.or_eq_true, beq_iff_eq, decide_eq_true_iff]
        omega
      rw [e4] at HS
      clear e4
      by_cases hn : t.length = 2 ∨ t.length = 4 ∨ t.length = 8 ∨ t.length = 16
      · have h4 : decide (t.length ≤ 4000) = true := decide_eq_true (by omega)
        have h5 : (decide (t.length = 2) || (decide (t.length = 4) || (decide (t.length = 8) || decide (t.length = 16)))) = true := by
          rcases hn with e | e | e | e <;> rw [e] <;> rfl
        rw [h4, Bool.true_and] at OK
        rw [h5] at HS
        cases hs : t.all isSmp
        · rw [hs] at OK
          have ht : tblB t = false := by unfold tblB; rw [hs, Bool.and_false]
          obtain rfl := HR.out _ (all_false hlt (by rw [HX.out]; exact ht))
          clear ht hs h4 h5 hn
          go_wp2_with (first | (go_at_call 75; refine HS.out.mono ?_; rintro e w' ⟨rfl, rfl⟩) | (go_at_call 44; refine OK.out.mono ?_; rintro e w' ⟨rfl, rfl⟩))
          go_ret
          exact ⟨rfl, hB1⟩
        · rw [hs] at OK
          have ht : tblB t = true := by unfold tblB; rw [hs, Bool.and_true]; exact h5
          have HSS := Lib.hid (all_step hlt HA.out (by rw [HX.out]; exact ht))
          clear ht hs h4 h5 hn
          go_wp2_with (first | (go_at_call 75; refine HS.out.mono ?_; rintro e w' ⟨rfl, rfl⟩) | (go_at_call 44; refine OK.out.mono ?_; rintro e w' ⟨rfl, rfl⟩))
          go_roundw
          case rel => exact ⟨k + 1, by omega, by go_num, HSS.out, hB1⟩
          case measure => simp [intOf] <;> omega
      · have h5 : (decide (t.length = 2) || (decide (t.length = 4) || (decide (t.length = 8) || decide (t.length = 16)))) = false := by
          rw [decide_eq_false (by omega), decide_eq_false (by omega), decide_eq_false (by omega), decide_eq_false (by omega)]; rfl
        have ht : tblB t = false := by unfold tblB; rw [h5]; rfl
        rw [h5] at HS
        obtain rfl := HR.out _ (all_false hlt (by rw [HX.out]; exact ht))
        clear ht hn h5 OK
        go_wp2_with (go_at_call 75; refine HS.out.mono ?_; rintro e w' ⟨rfl, rfl⟩)
        go_ret
        exact ⟨rfl, hB1⟩
    · obtain rfl : k = xss.length := by omega
      obtain rfl := HR.out _ (all_done HA.out)
      go_wp2_with fail
      go_ret
      exact ⟨ret_bool (by rw [Bool.true_and, decide_eq_decide]; omega), hbel⟩
theorem waitsFor_v {v : Value} {x : NodeD} (w : World) (h : VNode w v x) :
    Calls Tryz.prog 69 #[v] w fun e w' => ∃ u, e = .returned u ∧ VI w' u (waits x) ∧ Below w.heap.size w w' := by
  obtain ⟨p3, c3, rfl, r3⟩ := h
  have hB0 : Below w.heap.size w (w.alloc (.cells #[.int .i64 x.kind, .int .i64 x.a, .int .i64 x.b, .slice p3 x.src.length c3] 55)) := (Below.refl _ _).alloc (Nat.le_refl _) _
  have r4 := r3.below hB0
  by_cases hk : x.kind = 6
  · have e : (x.kind == 6) = true := by rw [beq_iff_eq]; exact hk
    have HW : Hid (waits x = []) := by unfold Hid waits; rw [if_pos hk]
    clear hk
    go_enter Tryz.func69, Tryz.ntmps69
    go_wp2_with fail
    go_ret
    exact ⟨_, rfl, by rw [HW.out]; exact ⟨none, 0, rfl, RdI.nil _ _⟩, hB0⟩
  · have e : (x.kind == 6) = false := by rw [beq_eq_false_iff_ne]; exact hk
    have HW : Hid (waits x = x.src) := by unfold Hid waits; rw [if_neg hk]
    clear hk
    go_enter Tryz.func69, Tryz.ntmps69
    go_wp2_with fail
    go_ret
    exact ⟨_, rfl, by rw [HW.out]; exact ⟨p3, c3, rfl, r4⟩, hB0⟩
theorem l07Waits_any {b o : Nat} {x : NodeD} (w : World) (h : PNode w b o x) :
    Calls Tryz.prog 77 #[.pointer (some ⟨b, o, none⟩)] w fun e w' => ∃ u, e = .returned u ∧ VI w' u (waits x) ∧ Below w.heap.size w w' := by
  obtain ⟨z0, z1, z2, q, d, z3, hr⟩ := h
  by_cases hk : x.kind = 6
  · have e : (x.kind == 6) = true := by rw [beq_iff_eq]; exact hk
    have HW : Hid (waits x = []) := by unfold Hid waits; rw [if_pos hk]
    clear hk
    have hB0 : Below w.heap.size w (w.alloc (.cells #[] 2)) := (Below.refl _ _).alloc (Nat.le_refl _) _
    go_enter Tryz.func77, Tryz.ntmps77
    go_wp2_with fail
    go_ret
    exact ⟨_, rfl, by rw [HW.out]; exact ⟨_, 0, rfl, RdI.nil _ _⟩, hB0⟩
  · have e : (x.kind == 6) = false := by rw [beq_eq_false_iff_ne]; exact hk
    have HW : Hid (waits x = x.src) := by unfold Hid waits; rw [if_neg hk]
    clear hk
    go_enter Tryz.func77, Tryz.ntmps77
    go_wp2_with fail
    go_ret
    exact ⟨_, rfl, by rw [HW.out]; exact ⟨q, d, rfl, hr⟩, Below.refl _ _⟩
theorem l07All_any {p q : Option Addr} {c d : Nat} {xs ys : List Int} (w : World) (h : RdI w p xs) (h' : RdI w q ys) :
    Calls Tryz.prog 76 #[.slice p xs.length c, .slice q ys.length d] w fun e w' => e = .returned (.bool (xs.all fun f => ys.contains f)) ∧ w = w' := by
  have hl := h.len
  unfold maxLen at hl
  generalize hRR : (xs.all fun f => ys.contains f) = R
  have HR := Lib.hid hRR
  clear hRR
  go_enter Tryz.func76, Tryz.ntmps76
  go_wp2_with fail
  go_loop [5] (fun i => ∃ k : Nat, k ≤ xs.length ∧ i = .int .i64 k ∧ (xs.take k).all (fun f => ys.contains f) = true) (fun i => xs.length - (intOf i).toNat)
  case atStart => exact ⟨0, Nat.zero_le _, rfl, by simp⟩
  case round =>
    obtain ⟨k, hk, rfl, hall⟩ := hrel
    have HA := Lib.hid hall; clear hall
    by_cases hlt : k < xs.length
    · obtain ⟨b, o, rfl, hb, hc⟩ := h.pos hlt
      have hck := hc k hlt
      clear hc
      generalize hx : xs[k] = f at hck
      have HX := Lib.hid hx; clear hx
      have HS := Lib.hid (l00Has_any (c := d) f w h')
      rw [any_contains] at HS
      cases hs : ys.contains f
      · rw [hs] at HS
        have hR : R = false := by rw [← HR.out]; exact all_false hlt (by rw [HX.out]; exact hs)
        subst hR
        clear hs
        go_wp2_with (go_at_call 75; refine HS.out.mono ?_; rintro e w' ⟨rfl, rfl⟩)
        go_ret
        exact ⟨rfl, rfl⟩
      · rw [hs] at HS
        have HSS := Lib.hid (all_step (f := fun f => ys.contains f) hlt HA.out (by rw [HX.out]; exact hs))
        clear hs
        go_wp2_with (go_at_call 75; refine HS.out.mono ?_; rintro e w' ⟨rfl, rfl⟩)
        go_round
        case rel => exact ⟨k + 1, by omega, by go_num, HSS.out⟩
        case measure => simp [intOf] <;> omega
    · obtain rfl : k = xs.length := by omega
      have hR : R = true := by rw [← HR.out]; exact all_done HA.out
      subst hR
      go_wp2_with fail
      go_ret
      exact ⟨rfl, rfl⟩
end Go.Proofs.YtcfhcmgmkhfjjaaGreat

namespace Go.Proofs.YtcfhcmgmkhfjjaaGreat
open Go.ChangeShapes Go.WideShapes Go.ChangeAt Go.RowKit Go.Sort
set_option linter.unusedVariables false

/-- a slice that reads xs and has room for it -/
def VIc (w : World) (v : Value) (xs : List Int) : Prop := ∃ p c, v = .slice p xs.length c ∧ RdI w p xs ∧ xs.length ≤ c
theorem OwnLI.rdc {B : Nat} {w : World} {v : Value} {xs : List Int} {L : List Value} (h : OwnLI B w v xs L) : VIc w v xs := by
  obtain ⟨p, c, rfl, hr⟩ := h.rd
  exact ⟨p, c, rfl, hr, h.1.cap⟩
def stArgB (x : NodeD) (xs ss : List Int) : Bool := ((decide ((xs.length : Int) = inN x) && decide (ss.length = (startL x).length)) && xs.all isSmp) && ss.all isSmp
def snValid (x : NodeD) (tb : List (List Int)) : Bool := tablesB tb && nodeB x tb.length
def snCode (x : NodeD) (tb : List (List Int)) (xs ss : List Int) : Int := if snValid x tb then (if stArgB x xs ss then 0 else 2) else 1
def snOut (x : NodeD) (tb : List (List Int)) (xs ss : List Int) : Int := if snValid x tb && stArgB x xs ss then outP x tb xs ss else 0
def snNext (x : NodeD) (tb : List (List Int)) (xs ss : List Int) : List Int := if snValid x tb && stArgB x xs ss then nextP x xs ss (outP x tb xs ss) else []
theorem startL_pos {x : NodeD} {t : Int} (h : nodeB x t = true) (hk : x.kind = 6 ∨ x.kind = 7 ∨ x.kind = 8 ∨ x.kind = 12 ∨ x.kind = 14 ∨ x.kind = 16 ∨ x.kind = 17) : 1 ≤ (startL x).length := by
  rw [nodeB_split] at h
  simp only [Bool.and_eq_true] at h
  obtain ⟨_, h2, _, _, h5⟩ := h
  obtain ⟨k, a, b, src⟩ := x
  simp only at *
  rcases hk with rfl | rfl | rfl | rfl | rfl | rfl | rfl
  · have : inB a 1 16 = true := h2
    rw [inB_iff] at this
    show 1 ≤ (List.replicate a.toNat (0 : Int)).length
    rw [List.length_replicate]; omega
  · exact Nat.le_refl 1
  · exact Nat.le_refl 1
  · exact Nat.le_refl 1
  · exact Nat.le_refl 1
  · exact Nat.le_refl 1
  · have : inB b 1 16 = true := h5
    rw [inB_iff] at this
    show 1 ≤ (List.replicate b.toNat (0 : Int)).length
    rw [List.length_replicate]; omega
theorem OutOk.of {x : NodeD} {tb : List (List Int)} {xs ss : List Int} (ht : tablesB tb = true) (h : nodeB x tb.length = true) (hn : (xs.length : Int) = inN x) (hs : ss.length = (startL x).length) (hx : xs.all isSmp = true) : OutOk x tb xs ss := by
  have h0 := h
  rw [nodeB_split] at h
  simp only [Bool.and_eq_true] at h
  obtain ⟨h1, h2, _, _, _⟩ := h
  unfold tablesB at ht
  simp only [Bool.and_eq_true, List.all_eq_true, decide_eq_true_eq] at ht
  refine ⟨h1, hn, fun hk => by rw [hs]; exact startL_pos h0 hk, fun y hy => ?_, fun e => ?_, fun e => ?_, fun e => ?_⟩
  · have := List.all_eq_true.1 hx y hy
    unfold isSmp at this
    rwa [inB_iff] at this
  · rw [e] at h2
    have : inB x.a 0 2147483647 = true := h2
    rwa [inB_iff] at this
  · rw [e] at h2
    have : inB x.a 0 31 = true := h2
    rwa [inB_iff] at this
  · rw [e] at h2
    have : inB x.a 0 (min (max (tb.length : Int) 0) 4 - 1) = true := h2
    rw [inB_iff] at this
    refine ⟨by omega, by omega, fun t htm => ?_⟩
    have := ht.1 t htm
    unfold tblB at this
    simp only [Bool.and_eq_true, Bool.or_eq_true, decide_eq_true_eq] at this
    omega
theorem nextP_length {x : NodeD} {tb : List (List Int)} {xs ss : List Int} {y : Int} (h : ss.length ≤ 16) : (nextP x xs ss y).length ≤ 17 := by
  unfold nextP nextK
  split <;> simp <;> omega
theorem snNext_small (x : NodeD) (tb : List (List Int)) (xs ss : List Int) : cntI (snNext x tb xs ss) ≤ 1048576 := by
  unfold cntI snNext
  split
  · rename_i h
    simp only [snValid, stArgB, Bool.and_eq_true, decide_eq_true_eq] at h
    have h1 := startL_length (startOk_of h.1.2)
    have h2 := nextP_length (x := x) (tb := tb) (xs := xs) (ss := ss) (y := outP x tb xs ss) (by omega)
    omega
  · simp
/-- a sample, a list of the call's own, and a code -/
def RetS (w : World) (y : Int) (zs : List Int) (code : Int) (e : Ending) (w' : World) : Prop :=
  ∃ u L, e = .returned (.tuple #[.int .i64 y, u, .int .i64 code]) ∧ OwnLI w.heap.size w' u zs L ∧ Dis L ∧ Below w.heap.size w w'
theorem retS_nil {w w' : World} {code : Int} (hb : Below w.heap.size w w') : RetS w 0 [] code (.returned (.tuple #[.int .i64 0, .slice none 0 0, .int .i64 code])) w' :=
  ⟨_, _, rfl, OwnLI.nilu _ _, List.pairwise_singleton _ _, hb⟩
theorem retS_mk {w F w' : World} {y code : Int} {zs : List Int} {u : Value} (hb0 : Below w.heap.size w F) (ho : OwnI F.heap.size w' u zs) (hb : Below F.heap.size F w') : RetS w y zs code (.returned (.tuple #[.int .i64 y, u, .int .i64 code])) w' :=
  ⟨_, _, rfl, ⟨ho.mono hb0.size, rfl⟩, List.pairwise_singleton _ _, hb0.trans (hb.mono hb0.size)⟩
theorem kAr_le3' {k : Int} (h : inB k 1 17 = true) : kAr (k - 1).toNat ≤ 3 := by
  rcases kinds_of h with rfl | rfl | rfl | rfl | rfl | rfl | rfl | rfl | rfl | rfl | rfl | rfl | rfl | rfl | rfl | rfl | rfl
  all_goals decide
end Go.Proofs.YtcfhcmgmkhfjjaaGreat

namespace Go.Proofs.YtcfhcmgmkhfjjaaGreat
open Go.ChangeShapes Go.WideShapes Go.ChangeAt Go.RowKit Go.Sort
set_option linter.unusedVariables false

end Go.Proofs.YtcfhcmgmkhfjjaaGreat

namespace Go.Proofs.YtcfhcmgmkhfjjaaGreat
open Go.ChangeShapes Go.WideShapes Go.ChangeAt Go.RowKit
set_option linter.unusedVariables false

/-! ### blocks of different types differ -/
/-- the block of v, if there is one, holds cells of type E -/
def Typed (w : World) (E : TypeId) (v : Value) : Prop := ∀ k, v.ownBlock = some k → ∃ cur, w.heap[k]? = some (.cells cur E (0, 0))
theorem Typed.of {w : World} {B n size : Nat} {E : TypeId} {v : Value} {xs : List Value} (h : w.ownsRow B E size v n xs) : Typed w E v := by
  intro k hk
  rcases h.2 with ⟨rfl, _⟩ | ⟨g, cap, cur, rfl, _, hg, _⟩
  · simp [Value.ownBlock] at hk
  · simp only [Value.ownBlock, Option.some.injEq] at hk
    subst hk
    exact ⟨cur, hg⟩
theorem Typed.ne {w : World} {E E' : TypeId} {v v' : Value} (h : Typed w E v) (h' : Typed w E' v') (hE : E ≠ E') {k : Nat} (hk : v.ownBlock = some k) : v'.ownBlock ≠ some k := by
  intro hk'
  obtain ⟨cur, hg⟩ := h k hk
  obtain ⟨cur', hg'⟩ := h' k hk'
  rw [hg] at hg'
  simp only [Option.some.injEq, Obj.cells.injEq] at hg'
  exact hE hg'.2.1
theorem Typed.neBox {w : World} {E T : TypeId} {v : Value} {cs : List Value} {s : Nat} (h : Typed w E v) (hb : Box w s cs T) (hT : E ≠ T) : v.ownBlock ≠ some s := by
  intro hk
  obtain ⟨cur, hg⟩ := h s hk
  unfold Box at hb
  rw [hg] at hb
  simp only [Option.some.injEq, Obj.cells.injEq] at hb
  exact hT hb.2.1
theorem OwnIs.typed {B : Nat} {w : World} {L : List Value} {xss : List (List Int)} (h : OwnIs B w L xss) {u : Value} (hu : u ∈ L) : Typed w 2 u := by
  obtain ⟨i, hi, rfl⟩ := List.mem_iff_getElem.1 hu
  obtain ⟨hL, ho⟩ := h.at_ (i := i) (by rw [← h.1]; exact hi)
  exact Typed.of ho
theorem Blk.one {u : Value} {b : Nat} : Blk [u] b ↔ u.ownBlock = some b := by
  constructor
  · rintro ⟨v, hv, hb⟩
    rw [List.mem_singleton.1 hv] at hb; exact hb
  · intro h
    exact ⟨u, by simp, h⟩
theorem Dis.insert {A C : List Value} (h : Dis (A ++ C)) {u : Value} (hu : ∀ b, u.ownBlock = some b → ¬ Blk (A ++ C) b) : Dis (A ++ ([u] ++ C)) := by
  refine Dis.append h.left (Dis.append (List.pairwise_singleton _ _) h.right fun b hb hb' => hu b (Blk.one.1 hb) (blk_append.2 (.inr hb'))) fun b hb hb' => ?_
  rcases blk_append.1 hb' with h1 | h1
  · exact hu b (Blk.one.1 h1) (blk_append.2 (.inl hb))
  · exact h.sep b hb h1
theorem Dis.drop1 {A C : List Value} {u : Value} (h : Dis (A ++ ([u] ++ C))) : Dis (A ++ C) :=
  Dis.append h.left h.right.right fun b hb hb' => h.sep b hb (blk_append.2 (.inr hb'))

/-! ### a patch, part by part -/
structure OwnP (B : Nat) (w : World) (v1 v2 v3 : Value) (ts : List (List Int)) (ns : List NodeD) (os : List Int) (L1 L : List Value) : Prop where
  o1 : OwnV B w 26 v1 L1
  s1 : OwnIs B w L1 ts
  o2 : OwnN B w v2 ns L
  s2 : OwnIs B w L (ns.map NodeD.src)
  o3 : OwnI B w v3 os
  dis : Dis (L1 ++ (L ++ [v3]))
section
variable {B : Nat} {w : World} {v1 v2 v3 : Value} {ts : List (List Int)} {ns : List NodeD} {os : List Int} {L1 L : List Value}
theorem OwnP.blk (h : OwnP B w v1 v2 v3 ts ns os L1 L) {b : Nat} (hb : Blk (L1 ++ (L ++ [v3])) b) : B ≤ b ∧ b < w.heap.size := by
  rcases blk_append.1 hb with hb | hb
  · exact ⟨(h.s1.blk hb).1, (h.s1.blk hb).2.1⟩
  rcases blk_append.1 hb with hb | hb
  · exact ⟨(h.s2.blk hb).1, (h.s2.blk hb).2.1⟩
  · exact h.o3.lt (Blk.one.1 hb)
/-- the relation looks at its own blocks alone -/
theorem OwnP.keep {w' : World} (h : OwnP B w v1 v2 v3 ts ns os L1 L) (hk : ∀ k, B ≤ k → k < w.heap.size → (v1.ownBlock = some k ∨ v2.ownBlock = some k ∨ Blk (L1 ++ (L ++ [v3])) k) → w'.heap[k]? = w.heap[k]?) : OwnP B w' v1 v2 v3 ts ns os L1 L :=
  ⟨h.o1.keep fun k e => hk k (h.o1.lt e).1 (h.o1.lt e).2 (.inl e), h.s1.keep fun k e => hk k (h.s1.blk e).1 (h.s1.blk e).2.1 (.inr (.inr (blk_append.2 (.inl e)))), h.o2.keep fun k e => hk k (h.o2.lt e).1 (h.o2.lt e).2 (.inr (.inl e)),
    h.s2.keep fun k e => hk k (h.s2.blk e).1 (h.s2.blk e).2.1 (.inr (.inr (blk_append.2 (.inr (blk_append.2 (.inl e)))))), h.o3.keep fun k e => hk k (h.o3.lt e).1 (h.o3.lt e).2 (.inr (.inr (blk_append.2 (.inr (blk_append.2 (.inr (Blk.one.2 e))))))), h.dis⟩
theorem OwnP.below {w' : World} (h : OwnP B w v1 v2 v3 ts ns os L1 L) (hb : Below w.heap.size w w') : OwnP B w' v1 v2 v3 ts ns os L1 L := h.keep fun k _ hk _ => hb.block k hk
theorem OwnP.mono {B' : Nat} (h : OwnP B w v1 v2 v3 ts ns os L1 L) (hB : B' ≤ B) : OwnP B' w v1 v2 v3 ts ns os L1 L := ⟨h.o1.mono hB, h.s1.mono hB, h.o2.mono hB, h.s2.mono hB, h.o3.mono hB, h.dis⟩
/-- its blocks hold cells of these types -/
theorem OwnP.typed (h : OwnP B w v1 v2 v3 ts ns os L1 L) {k : Nat} (hk : v1.ownBlock = some k ∨ v2.ownBlock = some k ∨ Blk (L1 ++ (L ++ [v3])) k) : ∃ cur T, w.heap[k]? = some (.cells cur T (0, 0)) ∧ (T = 26 ∨ T = 55 ∨ T = 2) := by
  rcases hk with hk | hk | hk
  · obtain ⟨cur, hg⟩ := Typed.of h.o1 k hk
    exact ⟨cur, _, hg, .inl rfl⟩
  · obtain ⟨cur, hg⟩ := Typed.of h.o2.2 k hk
    exact ⟨cur, _, hg, .inr (.inl rfl)⟩
  · rcases blk_append.1 hk with hk | hk
    · obtain ⟨_, _, cur, hg⟩ := h.s1.blk hk
      exact ⟨cur, _, hg, .inr (.inr rfl)⟩
    rcases blk_append.1 hk with hk | hk
    · obtain ⟨_, _, cur, hg⟩ := h.s2.blk hk
      exact ⟨cur, _, hg, .inr (.inr rfl)⟩
    · obtain ⟨cur, hg⟩ := Typed.of h.o3 k (Blk.one.1 hk)
      exact ⟨cur, _, hg, .inr (.inr rfl)⟩
/-- a store into a box of another type -/
theorem OwnP.setBox {s : Nat} {cs : List Value} {T : TypeId} (h : OwnP B w v1 v2 v3 ts ns os L1 L) (hb : Box w s cs T) (hT : ¬ (T = 26 ∨ T = 55 ∨ T = 2)) (i : Nat) (u : Value) : OwnP B (w.setCell ⟨s, i, none⟩ u) v1 v2 v3 ts ns os L1 L :=
  h.keep fun k _ _ hk => Below.heap_setCell _ _ _ _ (by
    rintro rfl
    obtain ⟨cur, T', hg, hT'⟩ := h.typed hk
    unfold Box at hb
    rw [hg] at hb
    simp only [Option.some.injEq, Obj.cells.injEq] at hb
    exact hT (hb.2.1 ▸ hT'))
/-- no part lies in such a box -/
theorem OwnP.neBox {s : Nat} {cs : List Value} {T : TypeId} (h : OwnP B w v1 v2 v3 ts ns os L1 L) (hb : Box w s cs T) (hT : ¬ (T = 26 ∨ T = 55 ∨ T = 2)) : v1.ownBlock ≠ some s ∧ v2.ownBlock ≠ some s ∧ ¬ Blk (L1 ++ (L ++ [v3])) s := by
  have H : ¬ (v1.ownBlock = some s ∨ v2.ownBlock = some s ∨ Blk (L1 ++ (L ++ [v3])) s) := fun hk => by
    obtain ⟨cur, T', hg, hT'⟩ := h.typed hk
    unfold Box at hb
    rw [hg] at hb
    simp only [Option.some.injEq, Obj.cells.injEq] at hb
    exact hT (hb.2.1 ▸ hT')
  exact ⟨fun e => H (.inl e), fun e => H (.inr (.inl e)), fun e => H (.inr (.inr e))⟩
/-- a node more: v2' is the row behind an append, u the node's own slice -/
theorem OwnP.node {w' : World} {v2' u : Value} {y : NodeD} (h : OwnP B w v1 v2 v3 ts ns os L1 L) (hu : OwnI B w u y.src) (hnew : ∀ b, u.ownBlock = some b → ¬ Blk (L1 ++ (L ++ [v3])) b) (hv : OwnN B w' v2' (ns ++ [y]) (L ++ [u]))
    (hk : ∀ k, k < w.heap.size → v2.ownBlock ≠ some k → w'.heap[k]? = w.heap[k]?) : OwnP B w' v1 v2' v3 ts (ns ++ [y]) os L1 (L ++ [u]) := by
  have t2 := Typed.of h.o2.2
  refine ⟨h.o1.keep fun k e => hk k (h.o1.lt e).2 fun e' => t2.ne (Typed.of h.o1) (by decide) e' e, h.s1.keep fun k hb => hk k (h.s1.blk hb).2.1 fun e => ?_, hv, ?_, h.o3.keep fun k e => hk k (h.o3.lt e).2 fun e' => t2.ne (Typed.of h.o3) (by decide) e' e, ?_⟩
  · obtain ⟨v, hv, hb⟩ := hb
    exact t2.ne (h.s1.typed hv) (by decide) e hb
  · rw [List.map_append]
    refine (h.s2.keep fun k hb => hk k (h.s2.blk hb).2.1 fun e => ?_).snoc (hu.keep fun k hb => hk k (hu.lt hb).2 fun e => t2.ne (Typed.of hu) (by decide) e hb)
    obtain ⟨v, hv, hb⟩ := hb
    exact t2.ne (h.s2.typed hv) (by decide) e hb
  · have := Dis.insert (A := L1 ++ L) (C := [v3]) (by rw [List.append_assoc]; exact h.dis) (u := u) (fun b hb => by rw [List.append_assoc]; exact hnew b hb)
    rw [List.append_assoc] at this
    rw [List.append_assoc]; exact this
/-- a table more -/
theorem OwnP.table {w' : World} {v1' u : Value} {y : List Int} (h : OwnP B w v1 v2 v3 ts ns os L1 L) (hu : OwnI B w u y) (hnew : ∀ b, u.ownBlock = some b → ¬ Blk (L1 ++ (L ++ [v3])) b) (hv : OwnV B w' 26 v1' (L1 ++ [u]))
    (hk : ∀ k, k < w.heap.size → v1.ownBlock ≠ some k → w'.heap[k]? = w.heap[k]?) : OwnP B w' v1' v2 v3 (ts ++ [y]) ns os (L1 ++ [u]) L := by
  have t1 := Typed.of h.o1
  refine ⟨hv, ?_, h.o2.keep fun k e => hk k (h.o2.lt e).2 fun e' => t1.ne (Typed.of h.o2.2) (by decide) e' e, h.s2.keep fun k hb => hk k (h.s2.blk hb).2.1 fun e => ?_, h.o3.keep fun k e => hk k (h.o3.lt e).2 fun e' => t1.ne (Typed.of h.o3) (by decide) e' e, ?_⟩
  · refine (h.s1.keep fun k hb => hk k (h.s1.blk hb).2.1 fun e => ?_).snoc (hu.keep fun k hb => hk k (hu.lt hb).2 fun e => t1.ne (Typed.of hu) (by decide) e hb)
    obtain ⟨v, hv, hb⟩ := hb
    exact t1.ne (h.s1.typed hv) (by decide) e hb
  · obtain ⟨v, hv, hb⟩ := hb
    exact t1.ne (h.s2.typed hv) (by decide) e hb
  · have := Dis.insert (A := L1) (C := L ++ [v3]) h.dis (u := u) hnew
    rw [List.append_assoc]; exact this
/-- other outputs -/
theorem OwnP.outs {u : Value} {os' : List Int} (h : OwnP B w v1 v2 v3 ts ns os L1 L) (hu : OwnI B w u os') (hnew : ∀ b, u.ownBlock = some b → ¬ Blk (L1 ++ (L ++ [v3])) b) : OwnP B w v1 v2 u ts ns os' L1 L := by
  refine ⟨h.o1, h.s1, h.o2, h.s2, hu, ?_⟩
  have h1 : Dis (L1 ++ L) := by
    have := h.dis
    rw [← List.append_assoc] at this
    exact this.left
  rw [← List.append_assoc]
  refine h1.snoc fun b hb hb' => hnew b hb ?_
  rw [← List.append_assoc]
  exact blk_append.2 (.inl hb')
/-- no nodes -/
theorem OwnP.bare {u : Value} (h : OwnP B w v1 v2 v3 ts ns os L1 L) (hu : OwnN B w u [] []) : OwnP B w v1 u v3 ts [] os L1 [] := by
  refine ⟨h.o1, h.s1, hu, OwnIs.nil _ _, h.o3, ?_⟩
  rw [List.nil_append]
  exact Dis.append h.dis.left h.dis.right.right fun b hb hb' => h.dis.sep b hb (blk_append.2 (.inr hb'))
theorem OwnP.patch (h : OwnP B w v1 v2 v3 ts ns os L1 L) (inp : Int) : OwnPatch B w (.agg #[.int .i64 inp, v1, v2, v3]) ⟨inp, ts, ns, os⟩ (L1 ++ (v2 :: L) ++ [v3]) ∧ Dis (L1 ++ (v2 :: L) ++ [v3]) := by
  have hd := h.dis
  have t2 := Typed.of h.o2.2
  refine ⟨⟨v1, v2, v3, L1, v2 :: L, [v3], rfl, rfl, ⟨h.o1, h.s1, hd.left⟩, ⟨L, rfl, h.o2, h.s2, hd.right.left⟩, ⟨h.o3, rfl⟩⟩, ?_⟩
  have := Dis.insert (A := L1) (C := L ++ [v3]) hd (u := v2) fun b hb hb' => by
    rcases blk_append.1 hb' with h1 | h1
    · obtain ⟨v, hv, h1⟩ := h1
      exact t2.ne (h.s1.typed hv) (by decide) hb h1
    rcases blk_append.1 h1 with h1 | h1
    · obtain ⟨v, hv, h1⟩ := h1
      exact t2.ne (h.s2.typed hv) (by decide) hb h1
    · exact t2.ne (Typed.of h.o3) (by decide) hb (Blk.one.1 h1)
  rw [List.append_assoc]
  exact this
theorem OwnP.ofPatch {v : Value} {x : PatchD} {M : List Value} (h : OwnPatch B w v x M) (hd : Dis M) : ∃ v1 v2 v3 L1 L, v = .agg #[.int .i64 x.inputs, v1, v2, v3] ∧ OwnP B w v1 v2 v3 x.tables x.nodes x.outputs L1 L := by
  obtain ⟨u1, u2, u3, L1, L2, L3, rfl, rfl, ⟨a1, a2, a3⟩, ⟨L, rfl, b1, b2, b3⟩, ⟨c1, rfl⟩⟩ := h
  rw [List.append_assoc] at hd
  exact ⟨u1, u2, u3, L1, L, rfl, a1, a2, b1, b2, c1, Dis.drop1 (u := u2) hd⟩
theorem OwnP.nil (w : World) {v3 : Value} {os : List Int} (h : OwnI B w v3 os) : OwnP B w (.slice none 0 0) (.slice none 0 0) v3 [] [] os [] [] :=
  ⟨World.ownsRow_nil w B _ 1, OwnIs.nil _ _, OwnN.nil _ _, OwnIs.nil _ _, h, List.pairwise_singleton _ _⟩
/-- two parts made one after the other -/
theorem OwnP.two13 {W : World} (h1 : OwnII B W v1 ts L1) (h3 : OwnI W.heap.size w v3 os) (hb : Below W.heap.size W w) (hB : B ≤ W.heap.size) : OwnP B w v1 (.slice none 0 0) v3 ts [] os L1 [] := by
  have h1' := h1.below hb
  refine ⟨h1'.1, h1'.2.1, OwnN.nil _ _, OwnIs.nil _ _, h3.mono hB, ?_⟩
  rw [List.nil_append]
  refine Dis.append h1.2.2 (List.pairwise_singleton _ _) fun b hb1 hb3 => ?_
  have e1 := (h1.2.1.blk hb1).2.1
  have e3 := (h3.lt (Blk.one.1 hb3)).1
  omega
theorem OwnP.two31 {W : World} (h3 : OwnI B W v3 os) (h1 : OwnII W.heap.size w v1 ts L1) (hb : Below W.heap.size W w) (hB : B ≤ W.heap.size) : OwnP B w v1 (.slice none 0 0) v3 ts [] os L1 [] := by
  have h1' := h1.mono hB
  refine ⟨h1'.1, h1'.2.1, OwnN.nil _ _, OwnIs.nil _ _, h3.below hb, ?_⟩
  rw [List.nil_append]
  refine Dis.append h1.2.2 (List.pairwise_singleton _ _) fun b hb1 hb3 => ?_
  have e1 := (h1.2.1.blk hb1).1
  have e3 := (h3.lt (Blk.one.1 hb3)).2
  omega
end
theorem allocB_of {B : Nat} {a X : World} (_ : Below B a X) (o : Obj) : Below X.heap.size X (X.alloc o) := (Below.refl _ _).alloc (Nat.le_refl _) o
theorem newBox_of {B : Nat} {a X : World} (_ : Below B a X) (L : List Value) (T : TypeId) : Box (X.alloc (.cells L.toArray T)) X.heap.size L T := Box.newAt X L T rfl
/-! ### a node is appended -/
theorem OwnN.sl {B : Nat} {w : World} {v : Value} {xs : List NodeD} {L : List Value} (h : OwnN B w v xs L) : ∃ q c, v = .slice q xs.length c := by
  rcases h.cases with ⟨rfl, rfl, -⟩ | ⟨_, _, rfl, _⟩
  · exact ⟨none, 0, rfl⟩
  · exact ⟨_, _, rfl⟩
theorem OwnV.sl' {B : Nat} {w : World} {E : TypeId} {v : Value} {L : List Value} (h : OwnV B w E v L) : ∃ q c, v = .slice q L.length c := by
  rcases h.cases with ⟨rfl, rfl⟩ | ⟨_, _, rfl, _⟩
  · exact ⟨none, 0, rfl⟩
  · exact ⟨_, _, rfl⟩
theorem OwnN.slS {B : Nat} {w : World} {v : Value} {xs : List NodeD} {y : NodeD} {L : List Value} (h : OwnN B w v (xs ++ [y]) L) : ∃ q c, v = .slice q (xs.length + 1) c := by
  obtain ⟨q, c, e⟩ := h.sl
  exact ⟨q, c, by rw [e, List.length_append, List.length_singleton]⟩
theorem OwnV.slS {B : Nat} {w : World} {E : TypeId} {v u : Value} {L : List Value} (h : OwnV B w E v (L ++ [u])) : ∃ q c, v = .slice q (L.length + 1) c := by
  obtain ⟨q, c, e⟩ := h.sl'
  exact ⟨q, c, by rw [e, List.length_append, List.length_singleton]⟩
theorem infoNd : (Tryz.prog.info? 55).map (fun i => (i.zero, i.size, i.bytes)) = some (some (.agg #[.int .i64 0, .int .i64 0, .int .i64 0, .slice none 0 0]), 4, 48) := by kernel_rfl
theorem run_append_node (w : World) (ty : TypeId) {B : Nat} {v u : Value} {xs : List NodeD} {L : List Value} (y : NodeD) (hown : OwnN B w v xs L) (h1 : u.oneCell' = true) (hlen : xs.length < 1099511627776) (hB : B ≤ w.heap.size) :
    ∃ v' w', (Builtin.append_ #[25, 25] ty #[v, .slice (some ⟨w.heap.size, 0, none⟩) 1 1]).run Tryz.prog (w.alloc (.cells #[.int .i64 y.kind, .int .i64 y.a, .int .i64 y.b, u] 55)) = .ok v' w' ∧ OwnN B w' v' (xs ++ [y]) (L ++ [u]) ∧
      (w.alloc (.cells #[.int .i64 y.kind, .int .i64 y.a, .int .i64 y.b, u] 55)).grownBy w' v.ownBlock := by
  obtain ⟨i0, hi, hz0, hz1, hz2⟩ := info_parts infoNd
  have hown' : OwnN B (w.alloc (.cells #[.int .i64 y.kind, .int .i64 y.a, .int .i64 y.b, u] 55)) v xs L := hown.keep fun k hk => Below.heap_alloc _ _ _ (hown.lt hk).2
  obtain ⟨v', w', h1, h2, h3, _⟩ := run_append_own (P := Tryz.prog) (w.alloc (.cells #[.int .i64 y.kind, .int .i64 y.a, .int .i64 y.b, u] 55)) B 25 ty 55 i0 _ 4 48 Tryz.underlying25 hi hz0 hz1 hz2 (by rfl) (by decide) v xs.length (nodeCells xs L) hown'.2
    ⟨w.heap.size, 0, none⟩ 1 1 [.int .i64 y.kind, .int .i64 y.a, .int .i64 y.b, u] rfl
    (by
      intro j x hx
      rw [Addr.add_lit, World.cell?_alloc_at _ _ _ _ rfl]
      simp only [Nat.zero_add]
      rw [List.getElem?_toArray.symm] at hx
      exact hx)
    (by intro x hx; simp only [List.mem_cons, List.not_mem_nil, or_false] at hx; rcases hx with rfl | rfl | rfl | rfl <;> first | rfl | exact h1) (by simp only [maxLen]; omega) (by omega) (by simp; omega)
  refine ⟨v', w', h1, ⟨by simp [hown.1], ?_⟩, h3⟩
  rw [nodeCells_append _ _ _ _ hown.1]
  simpa [nodeCells] using h2
theorem wpList_append_node {ops : Array Oper} {rest : List Oper} {o : Oper} {a : Act} {Q : Exit → Act → World → Prop} {w : World} {u : Value} (hgd : o.guard = none) (s x : Operand)
    (ho : o.op = .call { callee := .builtin .append, args := #[s, x], argTypes := #[25, 25] })
    {B : Nat} {v : Value} {xs : List NodeD} {L : List Value} (y : NodeD) {y0 y1 y2 : Int} (e0 : y0 = y.kind) (e1 : y1 = y.a) (e2 : y2 = y.b) (hs : a.eval s = v) (hown : OwnN B w v xs L) (hx : a.eval x = .slice (some ⟨w.heap.size, 0, none⟩) 1 1) (h1 : u.oneCell' = true) (hlen : xs.length < 1099511627776) (hB : B ≤ w.heap.size)
    (h : ∀ v' w', OwnN B w' v' (xs ++ [y]) (L ++ [u]) → w.grownBy w' v.ownBlock → (∀ k, k < w.heap.size → v.ownBlock ≠ some k → w'.heap[k]? = w.heap[k]?) → wpList Tryz.prog ops Q rest (a.put o.dst v') w') : wpList Tryz.prog ops Q (o :: rest) a (w.alloc (.cells #[.int .i64 y0, .int .i64 y1, .int .i64 y2, u] 55)) := by
  subst e0 e1 e2
  refine wpList_plain hgd fun K hK => ?_
  obtain ⟨v', w', e1, e2, e3⟩ := run_append_node w o.type y hown h1 hlen hB
  unfold Oper.wp execOp
  simp only [ho, resolve, invoke, builtin, Sem.run_bind, Sem.run_pure, Result.andThen_ok, List.map_toArray, List.map_cons, List.map_nil, hs, hx, e1]
  have hk : ∀ k, k < w.heap.size → v.ownBlock ≠ some k → w'.heap[k]? = w.heap[k]? := fun k hk hne => (e3.block k (by simp; omega) (fun e => hne e.symm)).trans (Below.heap_alloc _ _ _ hk)
  exact hK _ _ (h v' w' e2 ⟨e3.os, e3.tape, e3.output, by have := e3.size; simp at this; omega, fun k h1 h2 => hk k h1 (fun e => h2 e.symm)⟩ hk)
end Go.Proofs.YtcfhcmgmkhfjjaaGreat

namespace Go.Proofs.YtcfhcmgmkhfjjaaGreat
open Go.ChangeShapes Go.WideShapes Go.ChangeAt Go.RowKit
set_option linter.unusedVariables false

def mapL (by_ xs : List Int) : List Int := xs.map fun i => by_.getD i.toNat 0
theorem mapL_length (by_ xs : List Int) : (mapL by_ xs).length = xs.length := by simp [mapL]
theorem mapL_succ {by_ xs : List Int} {k m : Nat} (h : k < xs.length) (hm : xs[k] = (m : Int)) (hb : m < by_.length) : mapL by_ (xs.take (k + 1)) = mapL by_ (xs.take k) ++ [by_[m]] := by
  unfold mapL
  rw [List.take_succ_eq_append_getElem h, List.map_append]
  congr 1
  simp only [List.map_cons, List.map_nil]
  rw [hm, Int.toNat_natCast, List.getD_eq_getElem?_getD, List.getElem?_eq_getElem hb]; rfl
set_option maxHeartbeats 800000 in
theorem mapped_any {p q : Option Addr} {c d : Nat} {xs by_ : List Int} (w : World) (h : RdI w p xs) (h' : RdI w q by_) (hl : xs.length ≤ 1048576) (hr : ∀ i ∈ xs, 0 ≤ i ∧ i < (by_.length : Int)) :
    Calls Tryz.prog 72 #[.slice p xs.length c, .slice q by_.length d] w fun e w' => ∃ v, e = .returned v ∧ OwnI w.heap.size w' v (mapL by_ xs) ∧ Below w.heap.size w w' := by
  have h0 := OwnI.lit (B := w.heap.size) w [] (Nat.le_refl _) (by simp [maxLen])
  have hb0 := (Below.refl w.heap.size w).alloc (Nat.le_refl _) (.cells #[] 2)
  have HR := Lib.hid hr
  clear hr
  go_enter Tryz.func72, Tryz.ntmps72
  go_wp2_with fail
  go_loopw [5, 7, 11] (fun ov _ iv wr => ∃ k : Nat, k ≤ xs.length ∧ iv = .int .i64 k ∧ OwnI w.heap.size wr ov (mapL by_ (xs.take k)) ∧ Below w.heap.size w wr) (fun _ _ iv _ => xs.length - (intOf iv).toNat)
  case atStart => exact ⟨0, Nat.zero_le _, rfl, by simpa [mapL] using h0, hb0⟩
  case round =>
    obtain ⟨k, hk, rfl, hown, hbel⟩ := hrel
    clear h0 hb0
    obtain ⟨wi, rfl⟩ : ∃ wi : World, wi = wr := ⟨_, rfl⟩
    have hsz := hbel.size
    by_cases hlt : k < xs.length
    · obtain ⟨b, o, rfl, hb, hc⟩ := (h.below hbel).pos hlt
      have hck := hc k hlt
      have hrk := HR.out _ (List.getElem_mem hlt)
      obtain ⟨m, hm⟩ : ∃ m : Nat, xs[k] = m := ⟨xs[k].toNat, by omega⟩
      rw [hm] at hck hrk
      have hmb : m < by_.length := by omega
      have HS := Lib.hid (mapL_succ hlt hm hmb)
      obtain ⟨b2, o2, rfl, hb2, hc2⟩ := (h'.below hbel).pos hmb
      have hcm := hc2 m hmb
      have hll : (mapL by_ (xs.take k)).length < 17592186044415 := by rw [mapL_length, List.length_take]; omega
      generalize mapL by_ (xs.take k) = cur at hown HS hll
      generalize by_[m] = y at hcm HS
      clear hc hc2 hm hrk
      go_wp2_with (at_builtin; refine wpList_append_one rfl _ _ rfl rfl hown rfl hbel hll hsz (Nat.le_refl _) ?_; intro v' w4 hown4 hb4 hz4 hk4)
      go_roundw
      case rel => exact ⟨k + 1, by omega, by go_num, by rw [HS.out]; exact hown4, hb4⟩
      case measure => simp [intOf] <;> omega
    · obtain rfl : k = xs.length := by omega
      rw [List.take_length] at hown
      go_wp2_with fail
      go_ret
      exact ⟨_, rfl, hown, hbel⟩
set_option maxHeartbeats 800000 in
theorem l07Map_any {p q : Option Addr} {c d : Nat} {xs by_ : List Int} (w : World) (h : RdI w p xs) (h' : RdI w q by_) (hl : xs.length ≤ 1048576) (hr : ∀ i ∈ xs, 0 ≤ i ∧ i < (by_.length : Int)) :
    Calls Tryz.prog 125 #[.slice p xs.length c, .slice q by_.length d] w fun e w' => ∃ v, e = .returned v ∧ OwnI w.heap.size w' v (mapL by_ xs) ∧ Below w.heap.size w w' := by
  have h0 := OwnI.lit (B := w.heap.size) w [] (Nat.le_refl _) (by simp [maxLen])
  have hb0 := (Below.refl w.heap.size w).alloc (Nat.le_refl _) (.cells #[] 2)
  have HR := Lib.hid hr
  clear hr
  go_enter Tryz.func125, Tryz.ntmps125
  go_wp2_with fail
  go_loopw [5, 6] (fun ov iv wr => ∃ k : Nat, k ≤ xs.length ∧ iv = .int .i64 k ∧ OwnI w.heap.size wr ov (mapL by_ (xs.take k)) ∧ Below w.heap.size w wr) (fun _ iv _ => xs.length - (intOf iv).toNat)
  case atStart => exact ⟨0, Nat.zero_le _, rfl, by simpa [mapL] using h0, hb0⟩
  case round =>
    obtain ⟨k, hk, rfl, hown, hbel⟩ := hrel
    clear h0 hb0
    obtain ⟨wi, rfl⟩ : ∃ wi : World, wi = wr := ⟨_, rfl⟩
    have hsz := hbel.size
    by_cases hlt : k < xs.length
    · obtain ⟨b, o, rfl, hb, hc⟩ := (h.below hbel).pos hlt
      have hck := hc k hlt
      have hrk := HR.out _ (List.getElem_mem hlt)
      obtain ⟨m, hm⟩ : ∃ m : Nat, xs[k] = m := ⟨xs[k].toNat, by omega⟩
      rw [hm] at hck hrk
      have hmb : m < by_.length := by omega
      have HS := Lib.hid (mapL_succ hlt hm hmb)
      obtain ⟨b2, o2, rfl, hb2, hc2⟩ := (h'.below hbel).pos hmb
      have hcm := hc2 m hmb
      have hll : (mapL by_ (xs.take k)).length < 17592186044415 := by rw [mapL_length, List.length_take]; omega
      generalize mapL by_ (xs.take k) = cur at hown HS hll
      generalize by_[m] = y at hcm HS
      clear hc hc2 hm hrk
      go_wp2_with (at_builtin; refine wpList_append_one rfl _ _ rfl rfl hown rfl hbel hll hsz (Nat.le_refl _) ?_; intro v' w4 hown4 hb4 hz4 hk4)
      go_roundw
      case rel => exact ⟨k + 1, by omega, by go_num, by rw [HS.out]; exact hown4, hb4⟩
      case measure => simp [intOf] <;> omega
    · obtain rfl : k = xs.length := by omega
      rw [List.take_length] at hown
      go_wp2_with fail
      go_ret
      exact ⟨_, rfl, hown, hbel⟩
set_option maxHeartbeats 800000 in
theorem clones_any {p : Option Addr} {c : Nat} {xss : List (List Int)} (w : World) (h : RdII w p xss) (hl : xss.length ≤ 1048576) (hr : ∀ xs ∈ xss, xs.length ≤ 1048576) :
    Calls Tryz.prog 71 #[.slice p xss.length c] w fun e w' => ∃ v L, e = .returned v ∧ OwnII w.heap.size w' v xss L ∧ Below w.heap.size w w' := by
  have h0 := OwnII.empty (B := w.heap.size) w (Nat.le_refl _)
  have hb0 := (Below.refl w.heap.size w).alloc (Nat.le_refl _) (.cells #[] 26)
  have HR := Lib.hid hr
  clear hr
  go_enter Tryz.func71, Tryz.ntmps71
  go_wp2_with fail
  go_loopw [3, 5, 9] (fun ov _ iv wr => ∃ (k : Nat) (L : List Value), k ≤ xss.length ∧ iv = .int .i64 k ∧ OwnII w.heap.size wr ov (xss.take k) L ∧ Below w.heap.size w wr) (fun _ _ iv _ => xss.length - (intOf iv).toNat)
  case atStart => exact ⟨0, [], Nat.zero_le _, rfl, by simpa using h0, hb0⟩
  case round =>
    obtain ⟨k, L, hk, rfl, hown, hbel⟩ := hrel
    clear h0 hb0
    obtain ⟨wi, rfl⟩ : ∃ wi : World, wi = wr := ⟨_, rfl⟩
    have hsz := hbel.size
    by_cases hlt : k < xss.length
    · obtain ⟨b, o, rfl, hb, hc⟩ := (h.below hbel).pos hlt
      obtain ⟨q, d, hck, hrk⟩ := hc k hlt
      have hlk := HR.out _ (List.getElem_mem hlt)
      have HS : Hid (xss.take (k + 1) = xss.take k ++ [xss[k]]) := List.take_succ_eq_append_getElem hlt
      have hlL : L.length < 1099511627776 := by have := hown.2.1.1; rw [List.length_take] at this; omega
      generalize xss[k] = xs at hck hrk hlk HS
      clear hc
      have CL := Lib.hid (clone_any (c := d) wi hrk hlk)
      obtain ⟨oq, oc, e⟩ := hown.1.sl'
      subst e
      have HOW := Lib.hid hown
      clear hown
      go_wp2_with fail
      refine CL.out.mono ?_
      rintro e W1 ⟨u, rfl, hu, hb1⟩
      have hown1 := HOW.out.below hb1
      have hbel1 := hbel.trans (hb1.mono hbel.size)
      have huc := hu.oneCell
      have hnew : ∀ b, u.ownBlock = some b → ¬ Blk L b := fun b hb' hbk => by
        have h1 := (hu.lt hb').1
        have h2 := (HOW.out.2.1.blk hbk).2.1
        omega
      have HNW := Lib.hid hnew
      have hs1 := hb1.size
      have hs2 : w.heap.size ≤ W1.heap.size := by omega
      clear hnew CL HOW
      obtain ⟨uq, ucc, rfl, -⟩ := hu.rd
      go_wp2_with (at_builtin; refine wpList_append_val rfl _ _ rfl 24 (.slice none 0 0) Tryz.underlying24 infoII rfl (by omega) rfl hown1.1 rfl huc hbel1 hlL hs2 (Nat.le_refl _) ?_; intro v' w4 ho4 hb4 hz4 hk4)
      have ho5 := hown1.snoc (hu.mono hsz) HNW.out ho4 hk4
      go_roundw
      case rel => exact ⟨k + 1, L ++ [_], by omega, by go_num, by rw [HS.out]; exact ho5, hb4⟩
      case measure => simp [intOf] <;> omega
    · obtain rfl : k = xss.length := by omega
      rw [List.take_length] at hown
      go_wp2_with fail
      go_ret
      exact ⟨_, _, rfl, hown, hbel⟩
theorem copyNode_v {v : Value} {x : NodeD} (w : World) (h : VNode w v x) (hl : x.src.length ≤ 1048576) :
    Calls Tryz.prog 116 #[v] w fun e w' => ∃ u, e = .returned (.agg #[.int .i64 x.kind, .int .i64 x.a, .int .i64 x.b, u]) ∧ OwnI w.heap.size w' u x.src ∧ Below w.heap.size w w' := by
  obtain ⟨p, c, rfl, hr⟩ := h
  obtain ⟨g, hg⟩ : ∃ g, g = w.heap.size := ⟨_, rfl⟩
  obtain ⟨E0, hE⟩ : ∃ E, E = (w.alloc (.cells #[.int .i64 x.kind, .int .i64 x.a, .int .i64 x.b, .slice p x.src.length c] 55)).alloc (.cells #[.int .i64 0, .int .i64 0, .int .i64 0, .slice none 0 0] 55) := ⟨_, rfl⟩
  have hB0 : Below w.heap.size w E0 := by rw [hE]; exact ((Below.refl _ _).alloc (Nat.le_refl _) _).alloc (by simp) _
  have bx : Box E0 g [.int .i64 x.kind, .int .i64 x.a, .int .i64 x.b, .slice p x.src.length c] 55 := by rw [hE, hg]; exact (Box.newAt w _ _ rfl).alloc _
  have br : Box E0 (g + 1) [.int .i64 0, .int .i64 0, .int .i64 0, .slice none 0 0] 55 := by rw [hE, hg]; exact Box.newAt (w.alloc _) _ _ (by simp)
  have CL := Lib.hid (clone_any (c := c) E0 (hr.below hB0) hl)
  have HE := Lib.hid hE
  have HG := Lib.hid hg
  have i1 := br.lt
  have i2 : w.heap.size ≤ g := by omega
  clear hE hg
  have z3 := bx.cell 3 rfl
  go_enter Tryz.func116, Tryz.ntmps116
  go_wp2_with fail
  rw [← HE.out, ← HG.out]
  refine CL.out.mono ?_
  rintro e W1 ⟨u, rfl, hu, hb1⟩
  have b1 := bx.below hb1
  have r1 := br.below hb1
  have hw1 := hB0.trans (hb1.mono hB0.size)
  obtain ⟨uq, uc, rfl, -⟩ := hu.rd
  clear z3
  have z3 := b1.cell 3 rfl
  have f3 := b1.frozen 3
  have b2 := b1.set 3 (.slice uq x.src.length uc)
  have r2 := r1.other (a := ⟨g, 3, none⟩) (by simp) (.slice uq x.src.length uc)
  have hu2 := hu.keep (w' := W1.setCell ⟨g, 3, none⟩ (.slice uq x.src.length uc)) fun k hk => Below.heap_setCell _ _ _ _ (by have := (hu.lt hk).1; simp; omega)
  have hw2 := hw1.setCell (p := ⟨g, 3, none⟩) (show w.heap.size ≤ g by omega) (.slice uq x.src.length uc)
  obtain ⟨W2, hW2⟩ : ∃ W, W = W1.setCell ⟨g, 3, none⟩ (.slice uq x.src.length uc) := ⟨_, rfl⟩
  rw [← hW2] at b2 r2 hu2 hw2
  have HW2 := Lib.hid hW2
  have y0 := b2.cell 0 rfl
  have y1 := b2.cell 1 rfl
  have y2 := b2.cell 2 rfl
  have y3 := b2.cell 3 rfl
  have t0 := r2.cell 0 rfl
  have t1 := r2.cell 1 rfl
  have t2 := r2.cell 2 rfl
  have t3 := r2.cell 3 rfl
  have k0 := r2.frozen 0
  have k1 := r2.frozen 1
  have k2 := r2.frozen 2
  have k3 := r2.frozen 3
  clear hW2
  go_upto_region 2 with fail
  rw [← HW2.out]
  clear z3 f3 HW2
  have R4 := (((r2.set 0 (.int .i64 x.kind)).set 1 (.int .i64 x.a)).set 2 (.int .i64 x.b)).set 3 (.slice uq x.src.length uc)
  have hw4 := (((hw2.setCell (p := ⟨g + 1, 0, none⟩) (show w.heap.size ≤ g + 1 by omega) (.int .i64 x.kind)).setCell (p := ⟨g + 1, 1, none⟩) (show w.heap.size ≤ g + 1 by omega) (.int .i64 x.a)).setCell (p := ⟨g + 1, 2, none⟩) (show w.heap.size ≤ g + 1 by omega) (.int .i64 x.b)).setCell (p := ⟨g + 1, 3, none⟩) (show w.heap.size ≤ g + 1 by omega) (.slice uq x.src.length uc)
  have hg1 : ∀ k, (Value.slice uq x.src.length uc).ownBlock = some k → k ≠ g + 1 := fun k hk => by have := (hu.lt hk).1; omega
  have hu4 := (((hu2.keep (w' := W2.setCell ⟨g + 1, 0, none⟩ (.int .i64 x.kind)) fun k hk => Below.heap_setCell _ _ _ _ (hg1 k hk)).keep (w' := (W2.setCell ⟨g + 1, 0, none⟩ (.int .i64 x.kind)).setCell ⟨g + 1, 1, none⟩ (.int .i64 x.a)) fun k hk => Below.heap_setCell _ _ _ _ (hg1 k hk)).keep
    (w' := ((W2.setCell ⟨g + 1, 0, none⟩ (.int .i64 x.kind)).setCell ⟨g + 1, 1, none⟩ (.int .i64 x.a)).setCell ⟨g + 1, 2, none⟩ (.int .i64 x.b)) fun k hk => Below.heap_setCell _ _ _ _ (hg1 k hk)).keep
    (w' := (((W2.setCell ⟨g + 1, 0, none⟩ (.int .i64 x.kind)).setCell ⟨g + 1, 1, none⟩ (.int .i64 x.a)).setCell ⟨g + 1, 2, none⟩ (.int .i64 x.b)).setCell ⟨g + 1, 3, none⟩ (.slice uq x.src.length uc)) fun k hk => Below.heap_setCell _ _ _ _ (hg1 k hk)
  have q0 := R4.cell 0 rfl
  have q1 := R4.cell 1 rfl
  have q2 := R4.cell 2 rfl
  have q3 := R4.cell 3 rfl
  have HU4 := Lib.hid hu4
  have HW4 := Lib.hid hw4
  clear hu4 hw4 hg1 R4 hu2 hw2
  go_wp2_with fail
  refine bodyPost_ret (v := .agg #[.int .i64 x.kind, .int .i64 x.a, .int .i64 x.b, .slice uq x.src.length uc]) (by simp [results, Tryz.results116, go_sem, *]) rfl ?_
  exact ⟨_, rfl, HU4.out.mono (by omega), HW4.out⟩
end Go.Proofs.YtcfhcmgmkhfjjaaGreat

namespace Go.Proofs.YtcfhcmgmkhfjjaaGreat
open Go.ChangeShapes Go.WideShapes Go.ChangeAt Go.RowKit
set_option linter.unusedVariables false

structure Small (x : PatchD) : Prop where
  tables : x.tables.length ≤ 1000
  rows : ∀ t ∈ x.tables, t.length ≤ 1000
  nodes : x.nodes.length ≤ 1000
  srcs : ∀ n ∈ x.nodes, n.src.length ≤ 1000
  outs : x.outputs.length ≤ 1000
theorem belowDrew0 (w : World) : Below w.heap.size w w.drew := ⟨rfl, rfl, rfl, Nat.le_refl _, fun _ _ => rfl⟩
theorem Below.via {a W F : World} (h : Below a.heap.size a W) (hb : Below W.heap.size W F) : Below a.heap.size a F := h.trans (hb.mono h.size)
abbrev zPatch : List Value := [.int .i64 0, .slice none 0 0, .slice none 0 0, .slice none 0 0]
structure PB (B : Nat) (w0 w : World) (s : Nat) (inp : Int) (v1 v2 v3 : Value) (ts : List (List Int)) (ns : List NodeD) (os : List Int) (L1 L : List Value) : Prop where
  own : OwnP B w v1 v2 v3 ts ns os L1 L
  out : Box w s [.int .i64 inp, v1, v2, v3] 28
  bel : Below w0.heap.size w0 w
  hB : w0.heap.size ≤ B
  hs : w0.heap.size ≤ s
theorem patchT : ¬ ((28 : TypeId) = 26 ∨ (28 : TypeId) = 55 ∨ (28 : TypeId) = 2) := by decide
section
variable {B : Nat} {w0 w : World} {s : Nat} {inp : Int} {v1 v2 v3 : Value} {ts : List (List Int)} {ns : List NodeD} {os : List Int} {L1 L : List Value}
theorem PB.below {w' : World} (h : PB B w0 w s inp v1 v2 v3 ts ns os L1 L) (hb : Below w.heap.size w w') : PB B w0 w' s inp v1 v2 v3 ts ns os L1 L :=
  ⟨h.own.below hb, h.out.below hb, h.bel.trans (hb.mono h.bel.size), h.hB, h.hs⟩
theorem PB.node {w' : World} {v2' u : Value} {y : NodeD} (h : PB B w0 w s inp v1 v2 v3 ts ns os L1 L) (hu : OwnI B w u y.src) (hnew : ∀ b, u.ownBlock = some b → ¬ Blk (L1 ++ (L ++ [v3])) b) (hv : OwnN B w' v2' (ns ++ [y]) (L ++ [u])) (hg : w.grownBy w' v2.ownBlock) :
    (w'.cell? ⟨s, 2, none⟩ = some v2 ∧ w'.frozen? ⟨s, 2, none⟩ = false) ∧ PB B w0 (w'.setCell ⟨s, 2, none⟩ v2') s inp v1 v2' v3 ts (ns ++ [y]) os L1 (L ++ [u]) := by
  have hk : ∀ k, k < w.heap.size → v2.ownBlock ≠ some k → w'.heap[k]? = w.heap[k]? := fun k hk hne => hg.block k hk fun e => hne e.symm
  have o' := h.own.node hu hnew hv hk
  have n1 := (h.own.neBox h.out patchT).2.1
  have out' := h.out.keep (hk _ h.out.lt n1)
  have bel' : Below w0.heap.size w0 w' := h.bel.grown hg h.bel.size fun k hk => by have := (h.own.o2.lt hk).1; have := h.hB; omega
  exact ⟨⟨out'.cell 2 rfl, out'.frozen 2⟩, o'.setBox out' patchT 2 _, by simpa using out'.set 2 v2', bel'.setCell (by simpa using h.hs) _, h.hB, h.hs⟩
theorem PB.table {w' : World} {v1' u : Value} {y : List Int} (h : PB B w0 w s inp v1 v2 v3 ts ns os L1 L) (hu : OwnI B w u y) (hnew : ∀ b, u.ownBlock = some b → ¬ Blk (L1 ++ (L ++ [v3])) b) (hv : OwnV B w' 26 v1' (L1 ++ [u])) (hg : w.grownBy w' v1.ownBlock) :
    (w'.cell? ⟨s, 1, none⟩ = some v1 ∧ w'.frozen? ⟨s, 1, none⟩ = false) ∧ PB B w0 (w'.setCell ⟨s, 1, none⟩ v1') s inp v1' v2 v3 (ts ++ [y]) ns os (L1 ++ [u]) L := by
  have hk : ∀ k, k < w.heap.size → v1.ownBlock ≠ some k → w'.heap[k]? = w.heap[k]? := fun k hk hne => hg.block k hk fun e => hne e.symm
  have o' := h.own.table hu hnew hv hk
  have n1 := (h.own.neBox h.out patchT).1
  have out' := h.out.keep (hk _ h.out.lt n1)
  have bel' : Below w0.heap.size w0 w' := h.bel.grown hg h.bel.size fun k hk => by have := (h.own.o1.lt hk).1; have := h.hB; omega
  exact ⟨⟨out'.cell 1 rfl, out'.frozen 1⟩, o'.setBox out' patchT 1 _, by simpa using out'.set 1 v1', bel'.setCell (by simpa using h.hs) _, h.hB, h.hs⟩
theorem PB.outs {u : Value} {os' : List Int} (h : PB B w0 w s inp v1 v2 v3 ts ns os L1 L) (hu : OwnI B w u os') (hnew : ∀ b, u.ownBlock = some b → ¬ Blk (L1 ++ (L ++ [v3])) b) : PB B w0 (w.setCell ⟨s, 3, none⟩ u) s inp v1 v2 u ts ns os' L1 L :=
  ⟨(h.own.outs hu hnew).setBox h.out patchT 3 _, by simpa using h.out.set 3 u, h.bel.setCell (by simpa using h.hs) _, h.hB, h.hs⟩
theorem PB.bare {u : Value} (h : PB B w0 w s inp v1 v2 v3 ts ns os L1 L) (hu : OwnN B w u [] []) : PB B w0 (w.setCell ⟨s, 2, none⟩ u) s inp v1 u v3 ts [] os L1 [] :=
  ⟨(h.own.bare hu).setBox h.out patchT 2 _, by simpa using h.out.set 2 u, h.bel.setCell (by simpa using h.hs) _, h.hB, h.hs⟩
theorem PB.new {E F : World} {v1 v2 v3 : Value} {ts : List (List Int)} {ns : List NodeD} {os : List Int} {L1 L : List Value} {inp : Int} (h : OwnP E.heap.size F v1 v2 v3 ts ns os L1 L) (hc : Below E.heap.size E F) :
    PB E.heap.size E (F.alloc (.cells #[.int .i64 inp, v1, v2, v3] 28)) F.heap.size inp v1 v2 v3 ts ns os L1 L :=
  ⟨h.below ((Below.refl _ _).alloc (Nat.le_refl _) _), Box.newAt _ [.int .i64 inp, v1, v2, v3] _ rfl, hc.alloc hc.size _, Nat.le_refl _, hc.size⟩
theorem PB.newB {E F : World} {s : Nat} {v1 v2 v3 : Value} {ts : List (List Int)} {ns : List NodeD} {os : List Int} {L1 L : List Value} {inp : Int} (h : OwnP E.heap.size F v1 v2 v3 ts ns os L1 L) (hc : Below E.heap.size E F) (bq : Box F s zPatch 28) (hs : E.heap.size ≤ s) :
    PB E.heap.size E ((((F.setCell ⟨s, 0, none⟩ (.int .i64 inp)).setCell ⟨s, 1, none⟩ v1).setCell ⟨s, 2, none⟩ v2).setCell ⟨s, 3, none⟩ v3) s inp v1 v2 v3 ts ns os L1 L := by
  have b0 := bq.set 0 (.int .i64 inp)
  have b1 := b0.set 1 v1
  have b2 := b1.set 2 v2
  have b3 := b2.set 3 v3
  exact ⟨((((h.setBox bq patchT 0 _).setBox b0 patchT 1 _).setBox b1 patchT 2 _).setBox b2 patchT 3 _), by simpa [zPatch] using b3,
    (((hc.setCell (p := ⟨s, 0, none⟩) hs _).setCell (p := ⟨s, 1, none⟩) hs _).setCell (p := ⟨s, 2, none⟩) hs _).setCell (p := ⟨s, 3, none⟩) hs _, Nat.le_refl _, hs⟩
/-- all that it holds is older -/
theorem PB.fresh {W : World} {u : Value} {xs : List Int} {B' : Nat} (h : PB B w0 w s inp v1 v2 v3 ts ns os L1 L) (hu : OwnI B' W u xs) (hB' : w.heap.size ≤ B') : ∀ b, u.ownBlock = some b → ¬ Blk (L1 ++ (L ++ [v3])) b := fun b hb hbk => by
  have h1 := (hu.lt hb).1
  have h2 := (h.own.blk hbk).2
  omega
/-- the patch as a result -/
def RetP0 (w : World) (x : PatchD) (e : Ending) (w' : World) : Prop := ∃ v1 v2 v3 L1 L, e = .returned (.agg #[.int .i64 x.inputs, v1, v2, v3]) ∧ OwnP w.heap.size w' v1 v2 v3 x.tables x.nodes x.outputs L1 L ∧ Below w.heap.size w w'
theorem PB.done {W0 : World} {r : Nat} (h : PB B w0 w s inp v1 v2 v3 ts ns os L1 L) (hres : Box w r zPatch 28) (hb : Below W0.heap.size W0 w) (hr : W0.heap.size ≤ r) (hB : W0.heap.size ≤ B) :
    ∃ W', W' = (((w.setCell ⟨r, 0, none⟩ (.int .i64 inp)).setCell ⟨r, 1, none⟩ v1).setCell ⟨r, 2, none⟩ v2).setCell ⟨r, 3, none⟩ v3 ∧ Box W' r [.int .i64 inp, v1, v2, v3] 28 ∧ RetP0 W0 ⟨inp, ts, ns, os⟩ (.returned (.agg #[.int .i64 inp, v1, v2, v3])) W' := by
  have b0 := hres.set 0 (.int .i64 inp)
  have b1 := b0.set 1 v1
  have b2 := b1.set 2 v2
  have b3 := b2.set 3 v3
  refine ⟨_, rfl, by simpa [zPatch] using b3, v1, v2, v3, L1, L, rfl, (((((h.own.setBox hres patchT 0 _).setBox b0 patchT 1 _).setBox b1 patchT 2 _).setBox b2 patchT 3 _)).mono hB, ?_⟩
  exact (((hb.setCell (p := ⟨r, 0, none⟩) hr _).setCell (p := ⟨r, 1, none⟩) hr _).setCell (p := ⟨r, 2, none⟩) hr _).setCell (p := ⟨r, 3, none⟩) hr _
end
end Go.Proofs.YtcfhcmgmkhfjjaaGreat

namespace Go.Proofs.YtcfhcmgmkhfjjaaGreat
open Go.ChangeShapes Go.WideShapes Go.ChangeAt Go.RowKit Go.Sort
set_option linter.unusedVariables false

/-- a patch lies in a block -/
def PPatch (w : World) (g : Nat) (x : PatchD) : Prop := ∃ p1 c1 p2 c2 p3 c3, Box w g [.int .i64 x.inputs, .slice p1 x.tables.length c1, .slice p2 x.nodes.length c2, .slice p3 x.outputs.length c3] 28 ∧ RdII w p1 x.tables ∧ RdNodeS w p2 x.nodes ∧ RdI w p3 x.outputs
theorem PPatch.lt {w : World} {g : Nat} {x : PatchD} (h : PPatch w g x) : g < w.heap.size := by
  obtain ⟨_, _, _, _, _, _, hb, _⟩ := h
  exact hb.lt
theorem PPatch.below {w w' : World} {g : Nat} {x : PatchD} (h : PPatch w g x) (hb : Below w.heap.size w w') : PPatch w' g x := by
  obtain ⟨p1, c1, p2, c2, p3, c3, b, r1, r2, r3⟩ := h
  exact ⟨p1, c1, p2, c2, p3, c3, b.below hb, r1.below hb, r2.below hb, r3.below hb⟩
theorem nodeB_src {x : NodeD} {t : Int} (h : nodeB x t = true) : ∀ f ∈ x.src, 0 ≤ f := by
  unfold nodeB at h
  simp only [Bool.and_eq_true, List.all_eq_true, inB_iff] at h
  intro f hf
  exact (h.1.1.2 f hf).1
set_option maxHeartbeats 6400000 in
set_option maxRecDepth 100000 in
theorem l07Formed_any {g : Nat} {x : PatchD} (w : World) (h : PPatch w g x) :
    Calls Tryz.prog 41 #[.pointer (some ⟨g, 0, none⟩)] w fun e w' => e = .returned (.bool (formedB x)) ∧ Below w.heap.size w w' := by
  have hlt := h.lt
  obtain ⟨p1, c1, p2, c2, p3, c3, bx, r1, r2, r3⟩ := h
  have hl1 := r1.len
  have hl2 := r2.len
  have hl3 := r3.len
  unfold maxLen at hl1 hl2 hl3
  have HR : Hid (∀ b1 b2 b3 b4 b5 b6, inB x.inputs 0 4 = b1 → tablesB x.tables = b2 → decide (x.nodes.length ≤ 24) = b3 → decide (x.outputs.length ≤ 4) = b4 → x.nodes.all (ndB x.inputs x.tables.length x.nodes.length) = b5 → x.outputs.all (fun f => inB f 0 (x.nodes.length - 1)) = b6 → formedB x = (b1 && b2 && b3 && b4 && b5 && b6)) := by
    intro b1 b2 b3 b4 b5 b6 h1 h2 h3 h4 h5 h6
    subst h1 h2 h3 h4 h5 h6; rfl
  generalize formedB x = R at HR ⊢
  have z0 := bx.cell 0 rfl
  have z1 := bx.cell 1 rfl
  have z2 := bx.cell 2 rfl
  have z3 := bx.cell 3 rfl
  have TB := Lib.hid (l06Tables_any (c := c1) w r1)
  cases e1 : inB x.inputs 0 4
  case false =>
    have hR : R = false := by rw [HR.out _ _ _ _ _ _ e1 rfl rfl rfl rfl rfl]; rfl
    subst hR
    go_enter Tryz.func41, Tryz.ntmps41
    go_wp2_with (go_at_call 25; refine (l00In_any _ _ _ _).mono ?_; rintro e w' ⟨rfl, rfl⟩)
    go_ret
    exact ⟨rfl, Below.refl _ _⟩
  cases e2 : tablesB x.tables
  case false =>
    rw [e2] at TB
    have hR : R = false := by rw [HR.out _ _ _ _ _ _ e1 e2 rfl rfl rfl rfl]; rfl
    subst hR
    go_enter Tryz.func41, Tryz.ntmps41
    go_wp2_with (first | (go_at_call 25; refine (l00In_any _ _ _ _).mono ?_; rintro e w' ⟨rfl, rfl⟩) | (go_at_call 73; refine TB.out.mono ?_; rintro e W1 ⟨rfl, hb1⟩))
    go_ret
    exact ⟨rfl, hb1⟩
  rw [e2] at TB
  by_cases h3 : x.nodes.length ≤ 24
  case neg =>
    have hR : R = false := by rw [HR.out _ _ _ _ _ _ e1 e2 (decide_eq_false h3) rfl rfl rfl]; rfl
    subst hR
    clear e2
    go_enter Tryz.func41, Tryz.ntmps41
    go_wp2_with (first | (go_at_call 25; refine (l00In_any _ _ _ _).mono ?_; rintro e w' ⟨rfl, rfl⟩) | (go_at_call 73; refine TB.out.mono ?_; rintro e W1 ⟨rfl, hb1⟩))
    go_ret
    exact ⟨rfl, hb1⟩
  by_cases h4 : x.outputs.length ≤ 4
  case neg =>
    have hR : R = false := by rw [HR.out _ _ _ _ _ _ e1 e2 (decide_eq_true h3) (decide_eq_false h4) rfl rfl]; rfl
    subst hR
    clear e2
    go_enter Tryz.func41, Tryz.ntmps41
    go_wp2_with (first | (go_at_call 25; refine (l00In_any _ _ _ _).mono ?_; rintro e w' ⟨rfl, rfl⟩) | (go_at_call 73; refine TB.out.mono ?_; rintro e W1 ⟨rfl, hb1⟩; have y3 := (bx.below hb1).cell 3 rfl))
    go_ret
    exact ⟨rfl, hb1⟩
  have HR2 : Hid (∀ b5 b6, x.nodes.all (ndB x.inputs x.tables.length x.nodes.length) = b5 → x.outputs.all (fun f => inB f 0 (x.nodes.length - 1)) = b6 → R = (b5 && b6)) := by
    intro b5 b6 h5 h6
    rw [HR.out _ _ _ _ _ _ e1 e2 (decide_eq_true h3) (decide_eq_true h4) h5 h6]; simp
  clear e2 HR
  go_enter Tryz.func41, Tryz.ntmps41
  go_wp2_with (first | (go_at_call 25; refine (l00In_any _ _ _ _).mono ?_; rintro e w' ⟨rfl, rfl⟩) | (go_at_call 73; refine TB.out.mono ?_; rintro e W1 ⟨rfl, hb1⟩; have y3 := (bx.below hb1).cell 3 rfl))
  replace bx := bx.below hb1
  replace r2 := r2.below hb1
  replace r3 := r3.below hb1
  clear z0 z1 z2 z3 y3 TB r1 e1
  go_loopw [4] (fun i wr => ∃ k : Nat, k ≤ x.nodes.length ∧ i = .int .i64 k ∧ (x.nodes.take k).all (ndB x.inputs x.tables.length x.nodes.length) = true ∧ Below W1.heap.size W1 wr) (fun i _ => x.nodes.length - (intOf i).toNat)
  case atStart => exact ⟨0, Nat.zero_le _, rfl, by simp, Below.refl _ _⟩
  case round =>
    obtain ⟨k, hk, rfl, hall, hbel⟩ := hrel
    have HA := Lib.hid hall; clear hall
    obtain ⟨wi, rfl⟩ : ∃ wi : World, wi = wr := ⟨_, rfl⟩
    have bx1 := bx.below hbel
    have z0 := bx1.cell 0 rfl
    have z1 := bx1.cell 1 rfl
    have z2 := bx1.cell 2 rfl
    by_cases hlt2 : k < x.nodes.length
    · obtain ⟨b, o, rfl, hb, hc⟩ := (r2.below hbel).pos hlt2
      have hnd := hc k hlt2
      clear hc
      generalize hx : x.nodes[k] = nd at hnd
      have HX := Lib.hid hx; clear hx
      have HND := Lib.hid hnd
      obtain ⟨y0, y1, y2, q, d, y3, hr⟩ := hnd
      have s0 := cell_regrown z0
      have s1 := cell_regrown z1
      have t0 := cell_regrown y0
      have t1 := cell_regrown y1
      have K1 : Hid (∀ bb, nodeB nd (x.tables.length : Int) = bb → ∀ n os, Calls Tryz.prog 74 #[.pointer (some ⟨b, o + k * 4, none⟩), .int .i64 (x.tables.length : Int)] (grow (redrawn wi n) os) fun e w'' => e = .returned (.bool bb) ∧ ∃ p : Regrown, w'' = grow (redrawn wi p.d) p.os) := fun bb hbb n os => Calls.regrown_of (by rw [← hbb]; exact l06Ok_any _ _ (HND.out.below (below_regrown wi n os)))
      clear z0 z1 y0 y1 y2 y3 hr
      cases eN : nodeB nd (x.tables.length : Int)
      case false =>
        have K2 := Lib.hid (K1.out _ eN)
        have hR : R = false := by rw [HR2.out _ _ (all_false hlt2 (by rw [HX.out]; unfold ndB; rw [eN]; rfl)) rfl]; rfl
        subst hR
        clear eN K1
        go_wp2_with fail
        refine wp_region_quiet_below (by kernel_rfl) (by kernel_rfl) ?_
        repeat (first | go_big_quiet_step ((go_at_call 74; exact K2.out _ _)) | quiet_step ((go_at_call 74; exact K2.out _ _)))
        refine wpQuiet_nil ?_
        intro _ hw'
        obtain ⟨⟨dq, osq⟩, hw''⟩ := hw'
        subst hw''
        have hq := hbel.trans ((below_regrown wi dq osq).mono hbel.size)
        go_wp2_with fail
        go_ret
        exact ⟨rfl, hb1.trans (hq.mono hb1.size)⟩
      have K2 := Lib.hid (K1.out _ eN)
      have HN := Lib.hid eN
      clear eN K1
      by_cases hin : nd.kind = 1 ∧ x.inputs ≤ nd.a
      · have q1 : (nd.kind == 1) = true := by rw [beq_iff_eq]; exact hin.1
        have q2 := hin.2
        have hR : R = false := by
          rw [HR2.out _ _ (all_false hlt2 (by rw [HX.out]; unfold ndB; rw [HN.out, q1, decide_eq_true q2]; rfl)) rfl]; rfl
        subst hR
        clear hin
        go_wp2_with fail
        refine wp_region_quiet_below (by kernel_rfl) (by kernel_rfl) ?_
        repeat (first | go_big_quiet_step ((go_at_call 74; exact K2.out _ _)) | quiet_step ((go_at_call 74; exact K2.out _ _)))
        refine wpQuiet_nil ?_
        intro _ hw'
        obtain ⟨⟨dq, osq⟩, hw''⟩ := hw'
        subst hw''
        have hq := hbel.trans ((below_regrown wi dq osq).mono hbel.size)
        go_wp2_with fail
        go_ret
        exact ⟨rfl, hb1.trans (hq.mono hb1.size)⟩
      have HQ : ((nd.kind == 1) = true ∧ nd.a < x.inputs) ∨ (nd.kind == 1) = false := by
        by_cases k1 : nd.kind = 1
        · exact .inl ⟨by rw [beq_iff_eq]; exact k1, by have := fun h => hin ⟨k1, h⟩; omega⟩
        · exact .inr (by rw [beq_eq_false_iff_ne]; exact k1)
      have HIN : Hid ((!(nd.kind == 1 && decide (x.inputs ≤ nd.a))) = true) := by
        unfold Hid
        rw [Bool.not_eq_true', Bool.and_eq_false_iff]
        rcases HQ with ⟨_, h⟩ | h
        · exact .inr (decide_eq_false (by omega))
        · exact .inl h
      clear hin
      rcases HQ with ⟨q1, q2⟩ | q1
      all_goals
        go_wp2_with fail
        refine wp_region_quiet_below (by kernel_rfl) (by kernel_rfl) ?_
        repeat (first | go_big_quiet_step ((go_at_call 74; exact K2.out _ _)) | quiet_step ((go_at_call 74; exact K2.out _ _)))
        refine wpQuiet_nil ?_
        intro _ hw'
        obtain ⟨⟨dq, osq⟩, hw''⟩ := hw'
        subst hw''
        have hbF := below_regrown wi dq osq
        have hq := hbel.trans (hbF.mono hbel.size)
        have hnF := HND.out.below hbF
        clear hbF s0 s1 t0 t1 z2 bx1 K2 hbel
        generalize grow (redrawn wi dq) osq = F at hq hnF ⊢
        obtain ⟨y0, y1, y2, q', d', y3, hr⟩ := hnF
        have hrl := hr.len
        unfold maxLen at hrl
        go_wp2_with fail
        go_loop [6] (fun j => ∃ jj : Nat, jj ≤ nd.src.length ∧ j = .int .i64 jj ∧ (nd.src.take jj).all (fun f => inB f 0 (x.nodes.length - 1)) = true) (fun j => nd.src.length - (intOf j).toNat)
        case atStart => exact ⟨0, Nat.zero_le _, rfl, by simp⟩
        case round =>
          obtain ⟨jj, hjj, rfl, hal2⟩ := hrel
          have HA2 := Lib.hid hal2; clear hal2
          by_cases hlt3 : jj < nd.src.length
          · obtain ⟨b2, o2, rfl, hb2, hc2⟩ := hr.pos hlt3
            have hck := hc2 jj hlt3
            have hf0 := nodeB_src HN.out _ (List.getElem_mem hlt3)
            clear hc2
            generalize hxf : nd.src[jj] = f at hck hf0
            have HXF := Lib.hid hxf; clear hxf
            by_cases hfn : f < (x.nodes.length : Int)
            · have HS2 := Lib.hid (all_step (f := fun f => inB f 0 ((x.nodes.length : Int) - 1)) hlt3 HA2.out (by rw [HXF.out]; exact inB_true (by omega)))
              go_wp2_with fail
              go_round
              case rel => exact ⟨jj + 1, by omega, by go_num, HS2.out⟩
              case measure => simp [intOf] <;> omega
            · have hR : R = false := by
                rw [HR2.out _ _ (all_false hlt2 (by rw [HX.out]; unfold ndB; rw [all_false hlt3 (by rw [HXF.out]; exact inB_false (by omega)), Bool.and_false])) rfl]; rfl
              subst hR
              go_wp2_with fail
              go_ret
              exact ⟨rfl, hb1.trans (hq.mono hb1.size)⟩
          · obtain rfl : jj = nd.src.length := by omega
            have HS := Lib.hid (all_step (f := ndB x.inputs x.tables.length x.nodes.length) hlt2 HA.out (by rw [HX.out]; unfold ndB; rw [HN.out, HIN.out, all_done HA2.out]; rfl))
            go_wp2_with fail
            go_roundw
            case rel => exact ⟨k + 1, by omega, by go_num, HS.out, hq⟩
            case measure => simp [intOf] <;> omega
    · obtain rfl : k = x.nodes.length := by omega
      have hB2 := hb1.trans (hbel.mono hb1.size)
      have z3 := bx1.cell 3 rfl
      replace r3 := r3.below hbel
      have HN5 := Lib.hid (all_done HA.out)
      go_wp2_with fail
      go_loop [7] (fun j => ∃ jj : Nat, jj ≤ x.outputs.length ∧ j = .int .i64 jj ∧ (x.outputs.take jj).all (fun f => inB f 0 (x.nodes.length - 1)) = true) (fun j => x.outputs.length - (intOf j).toNat)
      case atStart => exact ⟨0, Nat.zero_le _, rfl, by simp⟩
      case round =>
        obtain ⟨jj, hjj, rfl, hal2⟩ := hrel
        have HA2 := Lib.hid hal2; clear hal2
        by_cases hlt3 : jj < x.outputs.length
        · obtain ⟨b2, o2, rfl, hb2, hc2⟩ := r3.pos hlt3
          have hck := hc2 jj hlt3
          clear hc2
          generalize hxf : x.outputs[jj] = f at hck
          have HXF := Lib.hid hxf; clear hxf
          have IN := Lib.hid (l00In_any f 0 ((x.nodes.length : Int) - 1) wi)
          cases hfn : inB f 0 ((x.nodes.length : Int) - 1)
          · rw [hfn] at IN
            have hR : R = false := by rw [HR2.out _ _ HN5.out (all_false hlt3 (by rw [HXF.out]; exact hfn))]; rfl
            subst hR
            clear hfn
            go_wp2_with (go_at_call 25; refine IN.out.mono ?_; rintro e w' ⟨rfl, rfl⟩)
            go_ret
            exact ⟨rfl, hB2⟩
          · rw [hfn] at IN
            have HS2 := Lib.hid (all_step (f := fun f => inB f 0 ((x.nodes.length : Int) - 1)) hlt3 HA2.out (by rw [HXF.out]; exact hfn))
            clear hfn
            go_wp2_with (go_at_call 25; refine IN.out.mono ?_; rintro e w' ⟨rfl, rfl⟩)
            go_round
            case rel => exact ⟨jj + 1, by omega, by go_num, HS2.out⟩
            case measure => simp [intOf] <;> omega
        · obtain rfl : jj = x.outputs.length := by omega
          have hR : R = true := by rw [HR2.out _ _ HN5.out (all_done HA2.out)]; rfl
          subst hR
          go_wp2_with fail
          go_ret
          exact ⟨rfl, hB2⟩
end Go.Proofs.YtcfhcmgmkhfjjaaGreat

namespace Go.Proofs.YtcfhcmgmkhfjjaaGreat
open Go.ChangeShapes Go.WideShapes Go.ChangeAt Go.RowKit
set_option linter.unusedVariables false

/-- append of one value, as one step of a region that draws its order -/
theorem step_append_val {ops : Array Oper} {o : Oper} {a : Act} {K : Act → World → Prop} {Q : Exit → Act → World → Prop} {X : Prop} {w : World} {u : Value} {E T : Nat} (hgd : o.guard = none) (s x : Operand)
    (ho : o.op = .call { callee := .builtin .append, args := #[s, x], argTypes := #[T, T] }) (bytes : Nat) (z : Value) (hT : Tryz.prog.underlying T = some (.slice E)) (hinfo : (Tryz.prog.info? E).map (fun i => (i.zero, i.size, i.bytes)) = some (some z, 1, bytes)) (hz : z.cells.size = 1) (hby : bytes ≤ 64)
    {B : Nat} {v : Value} {L : List Value} (hs : a.eval s = v) (hown : OwnV B w E v L) (hx : a.eval x = .slice (some ⟨w.heap.size, 0, none⟩) 1 1) (h1 : u.oneCell' = true) (hlen : L.length < 1099511627776) (hB : B ≤ w.heap.size)
    (h : ∀ v' w', OwnV B w' E v' (L ++ [u]) → w.os = w'.os → w.tape = w'.tape → w.output = w'.output → w.heap.size ≤ w'.heap.size → (∀ k, k < w.heap.size → v.ownBlock ≠ some k → w'.heap[k]? = w.heap[k]?) → K (a.put o.dst v') w') :
    if Region.wanted o (yielded ops a.tmps) = true then Oper.wp Tryz.prog o a (w.alloc (.cells #[u] E)) K Q else X := by
  have hw : Region.wanted o (yielded ops a.tmps) = true := by simp [Region.wanted, hgd]
  rw [if_pos hw]
  obtain ⟨v', w', e1, e2, e3⟩ := run_append_val w o.type E T bytes z hT hinfo hz hby hown h1 hlen hB
  unfold Oper.wp execOp
  simp only [ho, resolve, invoke, builtin, Sem.run_bind, Sem.run_pure, Result.andThen_ok, List.map_toArray, List.map_cons, List.map_nil, hs, hx, e1]
  refine h v' w' e2 e3.os.symm e3.tape.symm e3.output.symm ?_ fun k hk hne => (e3.block k (by simp; omega) (fun e => hne e.symm)).trans (Below.heap_alloc _ _ _ hk)
  have := e3.size; simp at this; omega
end Go.Proofs.YtcfhcmgmkhfjjaaGreat

namespace Go.Proofs.YtcfhcmgmkhfjjaaGreat
open Go.ChangeShapes Go.WideShapes Go.ChangeAt Go.RowKit
set_option linter.unusedVariables false

end Go.Proofs.YtcfhcmgmkhfjjaaGreat

namespace Go.Proofs.YtcfhcmgmkhfjjaaGreat
open Go.ChangeShapes Go.WideShapes Go.ChangeAt Go.RowKit
set_option linter.unusedVariables false
set_option linter.unusedSimpArgs false

theorem run_append_new (w : World) (ty : TypeId) {B : Nat} {v : Value} {xs : List Int} {y : Int} (hown : OwnI B w v xs) {b o : Nat} (hr : w.cell? ⟨b, o, none⟩ = some (.int .i64 y)) (hlen : xs.length < 17592186044415) (hB : B ≤ w.heap.size) :
    ∃ v' w', (Builtin.append_ #[26, 26] ty #[v, .slice (some ⟨b, o, none⟩) 1 1]).run Tryz.prog w = .ok v' w' ∧ OwnI B w' v' (xs ++ [y]) ∧ w.grownBy w' v.ownBlock ∧ (∀ k, v'.ownBlock = some k → v.ownBlock = some k ∨ w.heap.size ≤ k) := by
  obtain ⟨i0, hi, hz0, hz1, hz2⟩ := info_parts infoI
  have e1 : (xs ++ [y]).length = xs.length + 1 := by simp
  have e2 : (xs ++ [y]).map (Value.int .i64) = xs.map (Value.int .i64) ++ [.int .i64 y] := by simp
  have hnews : ∀ j u, ([Value.int .i64 y] : List Value)[j]? = some u → w.cell? ((⟨b, o, none⟩ : Addr).add j) = some u := by
    intro j u hu
    cases j with
    | zero => simp at hu; subst hu; rw [Addr.add_lit, Nat.add_zero]; exact hr
    | succ j => simp at hu
  have hone : ∀ u ∈ ([Value.int .i64 y] : List Value), u.oneCell' = true := by
    intro u hu; obtain rfl := List.mem_singleton.1 hu; rfl
  rcases hown.cases with ⟨rfl, rfl⟩ | ⟨g, cap, rfl, hBg, hgl, hml, hrd⟩
  · obtain ⟨v', w', h1, h2, h3, _⟩ := run_append_own (P := Tryz.prog) w w.heap.size 26 ty 2 i0 (.int .i64 0) 1 8 Tryz.underlying26 hi hz0 hz1 hz2 rfl (by decide) (.slice none 0 0) 0 [] (World.ownsRow_nil w w.heap.size _ 1) ⟨b, o, none⟩ 1 1 [.int .i64 y] (by simp) hnews hone (by simp [maxLen]) (by omega) (Nat.le_refl _)
    have ho : OwnI w.heap.size w' v' [y] := by simpa [OwnI] using h2
    exact ⟨v', w', h1, by simpa using ho.mono hB, h3, fun k hk => .inr (ho.lt hk).1⟩
  · by_cases hroom : xs.length + 1 ≤ cap
    · obtain ⟨w', h1, h2, h3⟩ := run_append_own_spare (P := Tryz.prog) w B 26 ty 2 i0 1 Tryz.underlying26 hi hz1 g xs.length cap (xs.map (Value.int .i64)) hown ⟨b, o, none⟩ 1 1 [.int .i64 y] (by simp) hnews hone hroom
      exact ⟨_, w', h1, by rw [OwnI, e1, e2]; exact h2, h3, fun k hk => .inl hk⟩
    · have hc := hown.cells (g := g) rfl
      obtain ⟨v', w', h1, h2, h3⟩ := run_append_arg_grows (P := Tryz.prog) w 26 ty 2 i0 (.int .i64 0) 1 8 Tryz.underlying26 hi hz0 hz1 hz2 rfl (by decide) ⟨g, 0, none⟩ xs.length cap (xs.map (Value.int .i64)) (by simp) hc ⟨b, o, none⟩ 1 1 [.int .i64 y] (by simp) hnews (by omega) (by simp only [maxLen]; omega) (by omega)
      have ho : OwnI w.heap.size w' v' (xs ++ [y]) := by rw [OwnI, e1, e2]; exact h2
      exact ⟨v', w', h1, ho.mono hB, ⟨h3.os, h3.tape, h3.output, h3.size, fun k hk _ => h3.block k hk (by simp)⟩, fun k hk => .inr (ho.lt hk).1⟩

theorem wpList_append_new {ops : Array Oper} {rest : List Oper} {o : Oper} {a : Act} {Q : Exit → Act → World → Prop} {w : World} {y : Int} (hgd : o.guard = none) (s x : Operand)
    (ho : o.op = .call { callee := .builtin .append, args := #[s, x], argTypes := #[26, 26] })
    {B B0 : Nat} {w0 : World} {v : Value} {xs : List Int} (hs : a.eval s = v) (hown : OwnI B w v xs) (hx : a.eval x = .slice (some ⟨w.heap.size, 0, none⟩) 1 1) (hbel : Below B0 w0 w) (hlen : xs.length < 17592186044415) (hB : B ≤ w.heap.size) (hB0 : B0 ≤ B)
    (h : ∀ v' w', OwnI B w' v' (xs ++ [y]) → Below B0 w0 w' → w.heap.size ≤ w'.heap.size → (∀ k, k < w.heap.size → v.ownBlock ≠ some k → w'.heap[k]? = w.heap[k]?) → (∀ k, v'.ownBlock = some k → v.ownBlock = some k ∨ w.heap.size ≤ k) → wpList Tryz.prog ops Q rest (a.put o.dst v') w') : wpList Tryz.prog ops Q (o :: rest) a (w.alloc (.cells #[.int .i64 y] 2)) := by
  refine wpList_plain hgd fun K hK => ?_
  obtain ⟨v', w', h1, h2, h3, h4⟩ := run_append_new (w.alloc (.cells #[.int .i64 y] 2)) o.type (hown.alloc _) (b := w.heap.size) (o := 0) (y := y) ((Box.new w [.int .i64 y] 2).cell 0 rfl) hlen (by simp; omega)
  unfold Oper.wp execOp
  simp only [ho, resolve, invoke, builtin, Sem.run_bind, Sem.run_pure, Result.andThen_ok, List.map_toArray, List.map_cons, List.map_nil, hs, hx, h1]
  refine hK _ _ (h v' w' h2 ((hbel.alloc (by omega) _).grown h3 (by simp; omega) fun k hk => ?_) ?_ (fun k hk hne => ?_) fun k hk => ?_)
  · have := (hown.lt hk).1; omega
  · have := h3.size; simp at this; omega
  · exact (h3.block k (by simp; omega) (fun e => hne e.symm)).trans (Below.heap_alloc _ _ _ hk)
  · rcases h4 k hk with h | h
    · exact .inl h
    · exact .inr (by simp at h; omega)
end Go.Proofs.YtcfhcmgmkhfjjaaGreat
