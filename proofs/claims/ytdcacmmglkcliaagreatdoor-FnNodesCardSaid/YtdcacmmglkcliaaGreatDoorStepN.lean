/-
  StepNode: contracts of both sides.
-/
import Derived.Test.YtdcacmmglkcliaaGreatDoorStepI
import Derived.Test.YtdcacmmglkcliaaGreatDoorPat
namespace Go.Proofs.YtdcacmmglkcliaaGreatDoor
open Go.ChangeShapes Go.WideShapes Go.ChangeAt Go.RowKit Go.Sort
set_option linter.unusedVariables false

/-- a slice that reads xs and has room for it -/
def VIc (w : World) (v : Value) (xs : List Int) : Prop := ∃ p c, v = .slice p xs.length c ∧ RdI w p xs ∧ xs.length ≤ c
theorem OwnLI.rdc {B : Nat} {w : World} {v : Value} {xs : List Int} {L : List Value} (h : OwnLI B w v xs L) : VIc w v xs := by
  obtain ⟨p, c, rfl, hr⟩ := h.rd
  exact ⟨p, c, rfl, hr, h.1.cap⟩
def stArgB (x : NodeD) (xs ss : List Int) : Bool := ((decide ((xs.length : Int) = inN x) && decide (ss.length = (startL x).length)) && xs.all isSmp) && ss.all isSmp
def snValid (x : NodeD) (tb : List (List Int)) : Bool := tablesB tb && nodeB x tb.length
def snCode (x : NodeD) (tb : List (List Int)) (xs ss : List Int) : Int := if snValid x tb then (if stArgB x xs ss then 0 else 2) else 1
def snOut (x : NodeD) (tb : List (List Int)) (xs ss : List Int) : Int := if snValid x tb && stArgB x xs ss then outP x tb xs ss else 0
def snNext (x : NodeD) (tb : List (List Int)) (xs ss : List Int) : List Int := if snValid x tb && stArgB x xs ss then nextP x xs ss (outP x tb xs ss) else []
theorem startL_pos {x : NodeD} {t : Int} (h : nodeB x t = true) (hk : x.kind = 6 ∨ x.kind = 7 ∨ x.kind = 8 ∨ x.kind = 12 ∨ x.kind = 14 ∨ x.kind = 16 ∨ x.kind = 17) : 1 ≤ (startL x).length := by
  rw [nodeB_split] at h
  simp only [Bool.and_eq_true] at h
  obtain ⟨_, h2, _, _, h5⟩ := h
  obtain ⟨k, a, b, src⟩ := x
  simp only at *
  rcases hk with rfl | rfl | rfl | rfl | rfl | rfl | rfl
  · have : inB a 1 16 = true := h2
    rw [inB_iff] at this
    show 1 ≤ (List.replicate a.toNat (0 : Int)).length
    rw [List.length_replicate]; omega
  · exact Nat.le_refl 1
  · exact Nat.le_refl 1
  · exact Nat.le_refl 1
  · exact Nat.le_refl 1
  · exact Nat.le_refl 1
  · have : inB b 1 16 = true := h5
    rw [inB_iff] at this
    show 1 ≤ (List.replicate b.toNat (0 : Int)).length
    rw [List.length_replicate]; omega
theorem OutOk.of {x : NodeD} {tb : List (List Int)} {xs ss : List Int} (ht : tablesB tb = true) (h : nodeB x tb.length = true) (hn : (xs.length : Int) = inN x) (hs : ss.length = (startL x).length) (hx : xs.all isSmp = true) : OutOk x tb xs ss := by
  have h0 := h
  rw [nodeB_split] at h
  simp only [Bool.and_eq_true] at h
  obtain ⟨h1, h2, _, _, _⟩ := h
  unfold tablesB at ht
  simp only [Bool.and_eq_true, List.all_eq_true, decide_eq_true_eq] at ht
  refine ⟨h1, hn, fun hk => by rw [hs]; exact startL_pos h0 hk, fun y hy => ?_, fun e => ?_, fun e => ?_, fun e => ?_⟩
  · have := List.all_eq_true.1 hx y hy
    unfold isSmp at this
    rwa [inB_iff] at this
  · rw [e] at h2
    have : inB x.a 0 2147483647 = true := h2
    rwa [inB_iff] at this
  · rw [e] at h2
    have : inB x.a 0 31 = true := h2
    rwa [inB_iff] at this
  · rw [e] at h2
    have : inB x.a 0 (min (max (tb.length : Int) 0) 4 - 1) = true := h2
    rw [inB_iff] at this
    refine ⟨by omega, by omega, fun t htm => ?_⟩
    have := ht.1 t htm
    unfold tblB at this
    simp only [Bool.and_eq_true, Bool.or_eq_true, decide_eq_true_eq] at this
    omega
theorem nextP_length {x : NodeD} {tb : List (List Int)} {xs ss : List Int} {y : Int} (h : ss.length ≤ 16) : (nextP x xs ss y).length ≤ 17 := by
  unfold nextP nextK
  split <;> simp <;> omega
theorem snNext_small (x : NodeD) (tb : List (List Int)) (xs ss : List Int) : cntI (snNext x tb xs ss) ≤ 1048576 := by
  unfold cntI snNext
  split
  · rename_i h
    simp only [snValid, stArgB, Bool.and_eq_true, decide_eq_true_eq] at h
    have h1 := startL_length (startOk_of h.1.2)
    have h2 := nextP_length (x := x) (tb := tb) (xs := xs) (ss := ss) (y := outP x tb xs ss) (by omega)
    omega
  · simp
/-- a sample, a list of the call's own, and a code -/
def RetS (w : World) (y : Int) (zs : List Int) (code : Int) (e : Ending) (w' : World) : Prop :=
  ∃ u L, e = .returned (.tuple #[.int .i64 y, u, .int .i64 code]) ∧ OwnLI w.heap.size w' u zs L ∧ Dis L ∧ Below w.heap.size w w'
theorem retS_nil {w w' : World} {code : Int} (hb : Below w.heap.size w w') : RetS w 0 [] code (.returned (.tuple #[.int .i64 0, .slice none 0 0, .int .i64 code])) w' :=
  ⟨_, _, rfl, OwnLI.nilu _ _, List.pairwise_singleton _ _, hb⟩
theorem retS_mk {w F w' : World} {y code : Int} {zs : List Int} {u : Value} (hb0 : Below w.heap.size w F) (ho : OwnI F.heap.size w' u zs) (hb : Below F.heap.size F w') : RetS w y zs code (.returned (.tuple #[.int .i64 y, u, .int .i64 code])) w' :=
  ⟨_, _, rfl, ⟨ho.mono hb0.size, rfl⟩, List.pairwise_singleton _ _, hb0.trans (hb.mono hb0.size)⟩
theorem kAr_le3' {k : Int} (h : inB k 1 17 = true) : kAr (k - 1).toNat ≤ 3 := by
  rcases kinds_of h with rfl | rfl | rfl | rfl | rfl | rfl | rfl | rfl | rfl | rfl | rfl | rfl | rfl | rfl | rfl | rfl | rfl
  all_goals decide
theorem l06Inputs_any {b o : Nat} {x : NodeD} (w : World) (h : PNode w b o x) (hk : inB x.kind 1 17 = true) :
    Calls Tryz.prog 26 #[.pointer (some ⟨b, o, none⟩)] w fun e w' => e = .returned (.int .i64 (inN x)) ∧ Below w.heap.size w w' := by
  obtain ⟨c0, -, -, -⟩ := h
  obtain ⟨k, A, B, src⟩ := x
  simp only at *
  by_cases h1 : k = 1
  · subst h1
    go_enter Tryz.func26, Tryz.ntmps26
    go_wp2_with fail
    go_ret
    exact ⟨rfl, Below.refl _ _⟩
  · have e : inN ⟨k, A, B, src⟩ = kAr (k - 1).toNat := if_neg h1
    rw [e]
    obtain ⟨i, hi, rfl⟩ := kind_of_in hk
    rw [show ((i : Int) + 1 - 1).toNat = i by omega]
    have q1 : (((i : Int) + 1) == 1) = false := by rw [beq_eq_false_iff_ne]; exact h1
    clear e hk
    go_enter Tryz.func26, Tryz.ntmps26
    go_wp2_with (go_at_call 67; refine (l06Arity_any i hi _).mono ?_; rintro e W1 ⟨rfl, hb⟩)
    go_ret
    exact ⟨rfl, hb⟩
end Go.Proofs.YtdcacmmglkcliaaGreatDoor
