/-
  Nodes: the reference's validity; states at the beginning.
-/
import Derived.Test.YtdcacmmglkcliaaGreatDoorNode
import Derived.Test.YtdcacmmglkcliaaGreatDoorPNode
import Derived.Lib.QuietBelow
import Derived.Deep.RegionHeld3
namespace Go.Proofs.YtdcacmmglkcliaaGreatDoor
open Go.ChangeShapes Go.WideShapes Go.ChangeAt Go.RowKit Go.Sort
set_option linter.unusedVariables false

theorem Calls.same_below {P : Program} {f : FuncId} {args : Array Value} {w : World} {v : Value} (h : Calls P f args w fun e w' => e = .returned v ∧ w = w') : Calls P f args w fun e w' => e = .returned v ∧ Below w.heap.size w w' :=
  h.mono fun _ _ ⟨a, b⟩ => ⟨a, by rw [← b]; exact Below.refl _ _⟩
/-- A of a node of a kind is valid -/
def aB (k a t : Int) : Bool := if k = 13 then inB a 0 (min (max t 0) 4 - 1) else if kLo (k - 1).toNat ≤ kHi (k - 1).toNat then inB a (kLo (k - 1).toNat) (kHi (k - 1).toNat) else a == 0
theorem kinds_of {k : Int} (h : inB k 1 17 = true) : k = 1 ∨ k = 2 ∨ k = 3 ∨ k = 4 ∨ k = 5 ∨ k = 6 ∨ k = 7 ∨ k = 8 ∨ k = 9 ∨ k = 10 ∨ k = 11 ∨ k = 12 ∨ k = 13 ∨ k = 14 ∨ k = 15 ∨ k = 16 ∨ k = 17 := by
  rw [inB_iff] at h; omega
theorem nodeB_split (x : NodeD) (t : Int) : nodeB x t = (inB x.kind 1 17 && (aB x.kind x.a t && (((x.src.length : Int) == kAr (x.kind - 1).toNat) && (x.src.all (fun f => inB f 0 23) && (if x.kind = 17 then inB x.b 1 16 else x.b == 0))))) := by
  unfold nodeB
  cases hk : inB x.kind 1 17
  · simp
  · simp only [Bool.true_and]
    have hlen : decide ((x.src.length : Int) = kAr (x.kind - 1).toNat) = ((x.src.length : Int) == kAr (x.kind - 1).toNat) := by
      rw [Bool.eq_iff_iff, decide_eq_true_iff, beq_iff_eq]
    have hab : (abB (x.kind - 1).toNat x.a x.b && (x.kind != 13 || decide (x.a < t))) = (aB x.kind x.a t && (if x.kind = 17 then inB x.b 1 16 else x.b == 0)) := by
      rcases kinds_of hk with h | h | h | h | h | h | h | h | h | h | h | h | h | h | h | h | h <;> rw [h] <;> simp [abB, aB, kLo, kHi, kBb, Int.toNat]
      have hm : (inB x.a 0 (min (max t 0) 4 - 1)) = (inB x.a 0 3 && decide (x.a < t)) := by
        rw [Bool.eq_iff_iff]; simp only [Bool.and_eq_true, inB_iff, decide_eq_true_iff]; omega
      rw [hm]
      cases inB x.a 0 3 <;> cases (x.b == 0) <;> cases decide (x.a < t) <;> rfl
    rw [hlen]
    generalize abB (x.kind - 1).toNat x.a x.b = p at *
    generalize (x.kind != 13 || decide (x.a < t)) = q at *
    generalize aB x.kind x.a t = r at *
    generalize (if x.kind = 17 then inB x.b 1 16 else x.b == 0) = s at *
    generalize (x.src.all fun f => inB f 0 23) = u
    generalize ((x.src.length : Int) == kAr (x.kind - 1).toNat) = v
    revert hab
    cases p <;> cases q <;> cases r <;> cases s <;> cases u <;> cases v <;> simp
def hasAB (k : Int) : Bool := ([1, 2, 5, 6, 10, 11, 12, 13, 14, 17] : List Int).any (· == k)
theorem l06HasA_any (k : Int) (w : World) :
    Calls Tryz.prog 103 #[.int .i64 k] w fun e w' => e = .returned (.bool (hasAB k)) ∧ Below w.heap.size w w' := by
  have ho := OwnI.lit (B := w.heap.size) w [1, 2, 5, 6, 10, 11, 12, 13, 14, 17] (Nat.le_refl _) (by simp [maxLen])
  rcases ho.cases with ⟨h, _⟩ | ⟨g, cap, hv, _, _, _, hr⟩
  · simp at h
  · simp only [Value.slice.injEq, Option.some.injEq, Addr.mk.injEq, and_true] at hv
    obtain ⟨rfl, -, rfl⟩ := hv
    go_enter Tryz.func103, Tryz.ntmps103
    go_wp2_with fail
    refine (l00Has_any (xs := [1, 2, 5, 6, 10, 11, 12, 13, 14, 17]) _ _ hr).mono ?_
    rintro e w' ⟨rfl, rfl⟩
    rw [show ([1, 2, 5, 6, 10, 11, 12, 13, 14, 17] : List Int).any (· == k) = hasAB k from rfl]
    go_wp2_with fail
    go_ret
    exact ⟨rfl, (Below.refl _ _).alloc (Nat.le_refl _) _⟩
set_option maxHeartbeats 8000000 in
theorem l06A_any {b o : Nat} {x : NodeD} (t : Int) (w : World) (h : PNode w b o x) (hk : inB x.kind 1 17 = true) :
    Calls Tryz.prog 66 #[.pointer (some ⟨b, o, none⟩), .int .i64 t] w fun e w' => e = .returned (.bool (aB x.kind x.a t)) ∧ Below w.heap.size w w' := by
  have hlt := h.lt
  obtain ⟨c0, c1, c2, -⟩ := h
  have hres := Lib.hid (rfl : aB x.kind x.a t = aB x.kind x.a t)
  rcases kinds_of hk with e | e | e | e | e | e | e | e | e | e | e | e | e | e | e | e | e <;> rw [e] at c0 hk ⊢ <;> clear e
  case inr.inr.inr.inr.inr.inr.inr.inr.inr.inr.inr.inr.inl =>
    have e : aB 13 x.a t = inB x.a 0 (min (max t 0) 4 - 1) := by simp [aB]
    rw [e]
    clear e
    have hw : IntKind.i64.wrap (min (max t 0) 4 - 1) = min (max t 0) 4 - 1 := IntWalk.i64_in _ (by omega)
    have M1 : Hid (∀ n, Calls Tryz.prog 86 #[.int .i64 t, .int .i64 0] (w.drewN n) fun e w' => e = .returned (.int .i64 (max t 0)) ∧ w' = w.drewN n) := fun n => Calls.turn (l00Max_any _ _ _)
    generalize max t 0 = m1 at M1 hw ⊢
    have M2 : Hid (∀ n, Calls Tryz.prog 102 #[.int .i64 m1, .int .i64 4] (w.drewN n) fun e w' => e = .returned (.int .i64 (min m1 4)) ∧ w' = w.drewN n) := fun n => Calls.turn (l00Min_any _ _ _)
    generalize min m1 4 = m2 at M2 hw ⊢
    have M3 : Hid (∀ n, Calls Tryz.prog 68 #[.int .i64 x.a, .int .i64 0, .int .i64 (m2 - 1)] (w.drewN n) fun e w' => e = .returned (.bool (inB x.a 0 (m2 - 1))) ∧ w' = w.drewN n) := fun n => Calls.turn (l00In_any _ _ _ _)
    go_enter Tryz.func66, Tryz.ntmps66
    go_wp2_with fail
    go_quiet ((first | (go_at_call 86; exact Calls.quiet_of_same (M1.out _)) | (go_at_call 102; exact Calls.quiet_of_same (M2.out _)) | (go_at_call 68; exact Calls.quiet_of_same (M3.out _))))
    go_wp2_with fail
    go_ret
    exact ⟨rfl, below_drewN (Below.refl _ _) _⟩
  all_goals
    go_enter Tryz.func66, Tryz.ntmps66
    go_wp2_with (first | (go_at_call 68; refine (l00In_any _ _ _ _).mono ?_; rintro e w' ⟨rfl, rfl⟩) | (go_at_call 103; refine (l06HasA_any _ _).mono ?_; rintro e w1 ⟨rfl, hb⟩; have z1 := (hb.cell (p := ⟨b, o + 1, none⟩) hlt).trans c1; simp only [hasAB, List.any_cons, List.any_nil]) | (go_at_call 85; refine (l01Sample_any _ _).mono ?_; rintro e w' ⟨rfl, rfl⟩))
    go_ret
    first
      | exact ⟨rfl, Below.refl _ _⟩
      | exact ⟨rfl, hb⟩
/-- what is asked of a node beside its kind, A and the number of inputs -/
def restB (x : NodeD) : Bool := x.src.all (fun f => inB f 0 23) && (if x.kind = 17 then inB x.b 1 16 else x.b == 0)
set_option maxHeartbeats 8000000 in
theorem l06Ok_any {b o : Nat} {x : NodeD} (t : Int) (w : World) (h : PNode w b o x) :
    Calls Tryz.prog 25 #[.pointer (some ⟨b, o, none⟩), .int .i64 t] w fun e w' => e = .returned (.bool (nodeB x t)) ∧ Below w.heap.size w w' := by
  have HN : Hid (∀ b1 b2 b3 : Bool, inB x.kind 1 17 = b1 → aB x.kind x.a t = b2 → ((x.src.length : Int) == kAr (x.kind - 1).toNat) = b3 → nodeB x t = (b1 && (b2 && (b3 && restB x)))) := by
    intro b1 b2 b3 e1 e2 e3
    rw [nodeB_split, e1, e2, e3]; rfl
  generalize hres : nodeB x t = R at HN ⊢
  clear hres
  have HP := Lib.hid h
  have hlt := h.lt
  obtain ⟨c0, c1, c2, p, c, c3, hr⟩ := h
  have hl := hr.len
  unfold maxLen at hl
  have r0 := cell_regrown c0
  have r3 := cell_regrown c3
  have K1 : Hid (∀ (b1 : Bool), inB x.kind 1 17 = b1 → ∀ d os, Calls Tryz.prog 65 #[.int .i64 x.kind] (grow (redrawn w d) os) fun e w'' => e = .returned (.bool b1) ∧ ∃ p : Regrown, w'' = grow (redrawn w p.d) p.os) := fun b1 h1 d os => Calls.regrown_of (Calls.same_below (by rw [← h1]; exact l06Kind_any _ _))
  go_enter Tryz.func25, Tryz.ntmps25
  go_wp2_with fail
  cases e1 : inB x.kind 1 17
  case false =>
    obtain rfl := HN.out _ _ _ e1 rfl rfl
    refine wp_region_quiet_below (by kernel_rfl) (by kernel_rfl) ?_
    repeat (first | go_big_quiet_step ((go_at_call 65; exact K1.out _ e1 _ _)) | quiet_step ((go_at_call 65; exact K1.out _ e1 _ _)))
    refine wpQuiet_nil ?_
    intro _ hw'
    obtain ⟨⟨dq, osq⟩, hw''⟩ := hw'
    subst hw''
    have hq := below_regrown w dq osq
    go_wp2_with fail
    go_ret
    exact ⟨rfl, hq⟩
  have hk := e1
  have K2 : Hid (∀ (b2 : Bool), aB x.kind x.a t = b2 → ∀ d os, Calls Tryz.prog 66 #[.pointer (some ⟨b, o, none⟩), .int .i64 t] (grow (redrawn w d) os) fun e w'' => e = .returned (.bool b2) ∧ ∃ p : Regrown, w'' = grow (redrawn w p.d) p.os) := fun b2 h2 d os => Calls.regrown_of (by rw [← h2]; exact l06A_any t _ (HP.out.below (below_regrown w d os)) e1)
  cases e2 : aB x.kind x.a t
  case false =>
    obtain rfl := HN.out _ _ _ e1 e2 rfl
    refine wp_region_quiet_below (by kernel_rfl) (by kernel_rfl) ?_
    repeat (first | go_big_quiet_step ((first | (go_at_call 65; exact K1.out _ e1 _ _) | (go_at_call 66; exact K2.out _ e2 _ _))) | quiet_step ((first | (go_at_call 65; exact K1.out _ e1 _ _) | (go_at_call 66; exact K2.out _ e2 _ _))))
    refine wpQuiet_nil ?_
    intro _ hw'
    obtain ⟨⟨dq, osq⟩, hw''⟩ := hw'
    subst hw''
    have hq := below_regrown w dq osq
    go_wp2_with fail
    go_ret
    exact ⟨rfl, hq⟩
  have K3 : Hid (∀ d os, Calls Tryz.prog 67 #[.int .i64 x.kind] (grow (redrawn w d) os) fun e w'' => e = .returned (.int .i64 (kAr (x.kind - 1).toNat)) ∧ ∃ p : Regrown, w'' = grow (redrawn w p.d) p.os) := fun d os => Calls.regrown_of (by
    obtain ⟨i, hi, he⟩ := kind_of_in hk
    rw [he, show ((i : Int) + 1 - 1).toNat = i by omega]
    exact l06Arity_any i hi _)
  generalize kAr (x.kind - 1).toNat = A at K3 HN
  by_cases e3 : (x.src.length : Int) = A
  case neg =>
    have n3 : ((x.src.length : Int) != A) = true := by rw [bne_iff_ne]; exact e3
    have n4 : decide ((x.src.length : Int) = A) = false := decide_eq_false e3
    obtain rfl := HN.out _ _ _ e1 e2 (by rw [beq_eq_false_iff_ne]; exact e3)
    refine wp_region_quiet_below (by kernel_rfl) (by kernel_rfl) ?_
    repeat (first | go_big_quiet_step ((first | (go_at_call 65; exact K1.out _ e1 _ _) | (go_at_call 66; exact K2.out _ e2 _ _) | (go_at_call 67; exact K3.out _ _))) | quiet_step ((first | (go_at_call 65; exact K1.out _ e1 _ _) | (go_at_call 66; exact K2.out _ e2 _ _) | (go_at_call 67; exact K3.out _ _))))
    refine wpQuiet_nil ?_
    intro _ hw'
    obtain ⟨⟨dq, osq⟩, hw''⟩ := hw'
    subst hw''
    have hq := below_regrown w dq osq
    go_wp2_with fail
    go_ret
    exact ⟨rfl, hq⟩
  have n3 : ((x.src.length : Int) != A) = false := by rw [bne_eq_false_iff_eq]; exact e3
  have n4 : decide ((x.src.length : Int) = A) = true := decide_eq_true e3
  obtain rfl := HN.out _ _ _ e1 e2 (by rw [beq_iff_eq]; exact e3)
  clear e3
  refine wp_region_quiet_below (by kernel_rfl) (by kernel_rfl) ?_
  repeat (first | go_big_quiet_step ((first | (go_at_call 65; exact K1.out _ e1 _ _) | (go_at_call 66; exact K2.out _ e2 _ _) | (go_at_call 67; exact K3.out _ _))) | quiet_step ((first | (go_at_call 65; exact K1.out _ e1 _ _) | (go_at_call 66; exact K2.out _ e2 _ _) | (go_at_call 67; exact K3.out _ _))))
  refine wpQuiet_nil ?_
  intro _ hw'
  obtain ⟨⟨dq, osq⟩, hw''⟩ := hw'
  subst hw''
  have hq := below_regrown w dq osq
  generalize grow (redrawn w dq) osq = F at hq ⊢
  have hf := HP.out.below hq
  obtain ⟨f0, -, f2, -⟩ := hf
  have f3 := (hq.cell (p := ⟨b, o + 3, none⟩) hlt).trans c3
  have hrF := hr.below hq
  clear r0 r3 c0 c1 c2 c3 K1 K2 K3 n3 n4 e1 e2 hk HN
  go_wp2_with fail
  go_loop [5] (fun j => ∃ k : Nat, k ≤ x.src.length ∧ j = .int .i64 k ∧ (x.src.take k).all (fun f => inB f 0 23) = true) (fun j => x.src.length - (intOf j).toNat)
  case atStart => exact ⟨0, Nat.zero_le _, rfl, by simp⟩
  case round =>
    obtain ⟨k, hk2, rfl, hall⟩ := hrel
    have HA := Lib.hid hall; clear hall
    by_cases hlt2 : k < x.src.length
    · obtain ⟨b1, o1, rfl, hb1, hc1⟩ := hrF.pos hlt2
      have hck := hc1 k hlt2
      clear hc1
      generalize hx : x.src[k] = f at hck
      have HX := Lib.hid hx; clear hx
      cases hs : inB f 0 23
      · go_wp2_with (go_at_call 68; refine (l00In_any _ _ _ _).mono ?_; rintro e w' ⟨rfl, rfl⟩)
        go_ret
        exact ⟨ret_bool (by rw [restB, all_false hlt2 (by rw [HX.out]; exact hs)]; rfl), hq⟩
      · go_wp2_with (go_at_call 68; refine (l00In_any _ _ _ _).mono ?_; rintro e w' ⟨rfl, rfl⟩)
        go_round
        case rel => exact ⟨k + 1, by omega, by go_num, all_step hlt2 HA.out (by rw [HX.out]; exact hs)⟩
        case measure => simp [intOf] <;> omega
    · obtain rfl : k = x.src.length := by omega
      have hd := Lib.hid (all_done HA.out)
      by_cases h17 : x.kind = 17
      · have e17 : (x.kind == 17) = true := by rw [beq_iff_eq]; exact h17
        have HR : Hid (restB x = inB x.b 1 16) := by unfold Hid restB; rw [hd.out, if_pos h17]; rfl
        clear h17
        go_wp2_with (go_at_call 68; refine (l00In_any _ _ _ _).mono ?_; rintro e w' ⟨rfl, rfl⟩)
        go_ret
        exact ⟨ret_bool HR.out.symm, hq⟩
      · have e17 : (x.kind == 17) = false := by rw [beq_eq_false_iff_ne]; exact h17
        have HR : Hid (restB x = (x.b == 0)) := by unfold Hid restB; rw [hd.out, if_neg h17]; rfl
        clear h17
        go_wp2_with fail
        go_ret
        exact ⟨ret_bool HR.out.symm, hq⟩
end Go.Proofs.YtdcacmmglkcliaaGreatDoor
