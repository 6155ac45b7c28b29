/-
  Nodes: validity for all nodes, states at the beginning: contracts of both sides.
-/
import Derived.Test.YtdcacmmglkcliaaGreatDoorNode2
namespace Go.Proofs.YtdcacmmglkcliaaGreatDoor
open Go.ChangeShapes Go.WideShapes Go.ChangeAt Go.RowKit Go.Sort
set_option linter.unusedVariables false

theorem isNode_v {v : Value} {x : NodeD} (t : Int) (w : World) (h : VNode w v x) :
    Calls Tryz.prog 31 #[v, .int .i64 t] w fun e w' => e = .returned (.bool (nodeB x t)) ∧ Below w.heap.size w w' := by
  obtain ⟨p, c, rfl, hr⟩ := h
  cases hk : inB x.kind 1 17
  case true =>
    obtain ⟨k, a, b, src⟩ := x
    obtain ⟨i, hi, rfl⟩ := kind_of_in hk
    exact isNode_in i hi a b t w hr
  have e : nodeB x t = false := by rw [nodeB, hk]; rfl
  rw [e]
  clear e
  go_enter Tryz.func31, Tryz.ntmps31
  go_wp2_with (go_at_call 41; refine (isKind_any _ _).mono ?_; rintro e w' ⟨rfl, rfl⟩)
  go_ret
  exact ⟨rfl, (Below.refl _ _).alloc (Nat.le_refl _) _⟩
theorem zeros_any (n : Nat) (w : World) (hn : n ≤ 1048576) :
    Calls Tryz.prog 74 #[.int .i64 n] w fun e w' => ∃ v, e = .returned v ∧ OwnI w.heap.size w' v (List.replicate n 0) ∧ Below w.heap.size w w' := by
  have hmk := fun w => run_make_row' (P := Tryz.prog) 24 2 (.int .i64 0) 8 Tryz.underlying24 infoI rfl .i64 .i64 n (by omega) (by omega) w
  have h0 := OwnI.made (B := w.heap.size) w n (Nat.le_refl _) (by unfold maxLen; omega)
  go_enter Tryz.func74, Tryz.ntmps74
  go_wp2_with fail
  go_ret
  exact ⟨_, rfl, h0, (Below.refl _ _).alloc (Nat.le_refl _) _⟩
theorem zerosI_any (n : Int) (w : World) (h0 : 0 ≤ n) (hn : n ≤ 1048576) :
    Calls Tryz.prog 74 #[.int .i64 n] w fun e w' => ∃ v, e = .returned v ∧ OwnI w.heap.size w' v (List.replicate n.toNat 0) ∧ Below w.heap.size w w' := by
  obtain ⟨m, rfl⟩ : ∃ m : Nat, n = m := ⟨n.toNat, by omega⟩
  exact zeros_any m w (by omega)
set_option maxHeartbeats 800000 in
theorem l03Zeros_any (n : Int) (w : World) (h0 : 0 ≤ n) (hn : n ≤ 1048576) :
    Calls Tryz.prog 71 #[.int .i64 n] w fun e w' => ∃ v, e = .returned v ∧ OwnI w.heap.size w' v (List.replicate n.toNat 0) ∧ Below w.heap.size w w' := by
  obtain ⟨m, rfl⟩ : ∃ m : Nat, n = m := ⟨n.toNat, by omega⟩
  have hl := OwnI.lit (B := w.heap.size) w [] (Nat.le_refl _) (by simp [maxLen])
  go_enter Tryz.func71, Tryz.ntmps71
  go_wp2_with fail
  go_loopw [0, 3] (fun i v wr => ∃ k : Nat, k ≤ m ∧ i = .int .i64 k ∧ OwnI w.heap.size wr v (List.replicate (m - k) 0) ∧ Below w.heap.size w wr) (fun i _ _ => (intOf i).toNat)
  case atStart => exact ⟨m, Nat.le_refl _, rfl, by simpa using hl, (Below.refl _ _).alloc (Nat.le_refl _) _⟩
  case round =>
    obtain ⟨k, hk, rfl, hown, hbel⟩ := hrel
    clear hl
    by_cases hlt : 0 < k
    · obtain ⟨j, rfl⟩ : ∃ j, k = j + 1 := ⟨k - 1, by omega⟩
      have hst : Hid (List.replicate (m - j) (0 : Int) = List.replicate (m - (j + 1)) 0 ++ [0]) := by
        unfold Hid
        rw [show m - j = (m - (j + 1)) + 1 by omega, List.replicate_succ']
      have hlen : (List.replicate (m - (j + 1)) (0 : Int)).length < 17592186044415 := by simp; omega
      have hsz := hbel.size
      have hj : ((j : Int) + 1 - 1) = j := by omega
      go_wp2_with (at_builtin; refine wpList_append_one rfl _ _ rfl rfl hown rfl hbel hlen hsz (Nat.le_refl _) ?_; intro v' w1 hown1 hbel1 _ _)
      go_roundw
      case rel => exact ⟨j, by omega, by first | rfl | go_num, by rw [hst.out]; exact hown1, hbel1⟩
      case measure => simp [intOf] <;> omega
    · obtain rfl : k = 0 := by omega
      go_wp2_with fail
      go_ret
      exact ⟨_, rfl, by simpa using hown, hbel⟩
/-- the state of a node at the beginning -/
def startL (x : NodeD) : List Int :=
  if x.kind = 6 then List.replicate x.a.toNat 0 else if x.kind = 17 then List.replicate x.b.toNat 0 else if x.kind = 7 ∨ x.kind = 8 ∨ x.kind = 16 then [0] else if x.kind = 12 ∨ x.kind = 14 then [x.a] else []
structure StartOk (x : NodeD) : Prop where
  a : x.kind = 6 → 0 ≤ x.a ∧ x.a ≤ 16
  b : x.kind = 17 → 0 ≤ x.b ∧ x.b ≤ 16
theorem startOk_of {x : NodeD} {t : Int} (h : nodeB x t = true) : StartOk x := by
  rw [nodeB_split] at h
  simp only [Bool.and_eq_true] at h
  obtain ⟨_, h2, _, _, h5⟩ := h
  constructor
  · intro e
    rw [e] at h2
    have : inB x.a 1 16 = true := h2
    rw [inB_iff] at this
    omega
  · intro e
    rw [if_pos e] at h5
    rw [inB_iff] at h5
    omega
theorem startL_length {x : NodeD} (h : StartOk x) : (startL x).length ≤ 16 := by
  unfold startL
  split
  · rename_i e; have := h.a e; rw [List.length_replicate]; omega
  split
  · rename_i e; have := h.b e; rw [List.length_replicate]; omega
  split
  · simp
  split <;> simp
set_option maxHeartbeats 4000000 in
theorem start_v {v : Value} {x : NodeD} (w : World) (h : VNode w v x) (ok : StartOk x) :
    Calls Tryz.prog 34 #[v] w fun e w' => ∃ u, e = .returned u ∧ OwnI w.heap.size w' u (startL x) ∧ Below w.heap.size w w' := by
  obtain ⟨p, c, rfl, hr⟩ := h
  have hB0 : Below w.heap.size w (w.alloc (.cells #[.int .i64 x.kind, .int .i64 x.a, .int .i64 x.b, .slice p x.src.length c] 26)) := (Below.refl _ _).alloc (Nat.le_refl _) _
  have fin : Hid (∀ (W : World) (n : Int), 0 ≤ n → n ≤ 16 → startL x = List.replicate n.toNat 0 → Below w.heap.size w W → Calls Tryz.prog 74 #[.int .i64 n] W fun e w' => ∃ u, e = .returned u ∧ OwnI w.heap.size w' u (startL x) ∧ Below w.heap.size w w') := fun W n h0 h1 he hb =>
    (zerosI_any n W h0 (by omega)).mono fun e w' ⟨u, h2, h3, h4⟩ => ⟨u, h2, by rw [he]; exact h3.mono hb.size, hb.trans (h4.mono hb.size)⟩
  have OK := Lib.hid ok
  clear ok
  by_cases k6 : x.kind = 6
  · have q : (x.kind == 6) = true := by rw [beq_iff_eq]; exact k6
    have hs : startL x = List.replicate x.a.toNat 0 := by unfold startL; rw [if_pos k6]
    have F := Lib.hid (fin.out _ x.a (OK.out.a k6).1 (OK.out.a k6).2 hs hB0)
    clear hs k6
    go_enter Tryz.func34, Tryz.ntmps34
    go_wp2_with (go_at_call 74; refine F.out.mono ?_; rintro e w1 ⟨u, rfl, ho, hb⟩)
    go_ret
    exact ⟨_, rfl, ho, hb⟩
  have q6 : (x.kind == 6) = false := by rw [beq_eq_false_iff_ne]; exact k6
  by_cases k17 : x.kind = 17
  · have q : (x.kind == 17) = true := by rw [beq_iff_eq]; exact k17
    have hs : startL x = List.replicate x.b.toNat 0 := by unfold startL; rw [if_neg k6, if_pos k17]
    have F := Lib.hid (fin.out _ x.b (OK.out.b k17).1 (OK.out.b k17).2 hs hB0)
    clear hs k17 k6
    go_enter Tryz.func34, Tryz.ntmps34
    go_wp2_with (go_at_call 74; refine F.out.mono ?_; rintro e w1 ⟨u, rfl, ho, hb⟩)
    go_ret
    exact ⟨_, rfl, ho, hb⟩
  have q17 : (x.kind == 17) = false := by rw [beq_eq_false_iff_ne]; exact k17
  by_cases k1 : x.kind = 7 ∨ x.kind = 8 ∨ x.kind = 16
  · have hs : startL x = List.replicate (1 : Int).toNat 0 := by unfold startL; rw [if_neg k6, if_neg k17, if_pos k1]; rfl
    have F := Lib.hid (fin.out _ 1 (by omega) (by omega) hs hB0)
    clear hs k17 k6
    rcases k1 with k | k | k
    all_goals
      rw [k] at F hB0 ⊢
      clear q6 q17 k
      go_enter Tryz.func34, Tryz.ntmps34
      go_wp2_with (go_at_call 74; refine F.out.mono ?_; rintro e w1 ⟨u, rfl, ho, hb⟩)
      go_ret
      exact ⟨_, rfl, ho, hb⟩
  by_cases k2 : x.kind = 12 ∨ x.kind = 14
  · have hs : Hid (startL x = [x.a]) := by unfold Hid startL; rw [if_neg k6, if_neg k17, if_neg k1, if_pos k2]
    clear k17 k6 k1
    have ho := Lib.hid (OwnI.lit (B := w.heap.size) (w.alloc (.cells #[.int .i64 x.kind, .int .i64 x.a, .int .i64 x.b, .slice p x.src.length c] 26)) [x.a] (by simp) (by simp [maxLen]))
    have hb := Lib.hid (hB0.alloc hB0.size (.cells #[.int .i64 x.a] 2))
    rcases k2 with k | k
    all_goals
      rw [k] at hB0 ho hb ⊢
      clear q6 q17 k
      go_enter Tryz.func34, Tryz.ntmps34
      go_wp2_with fail
      go_ret
      exact ⟨_, rfl, by rw [hs.out]; simpa using ho.out, hb.out⟩
  have hs : startL x = List.replicate (0 : Int).toNat 0 := by unfold startL; rw [if_neg k6, if_neg k17, if_neg k1, if_neg k2]; rfl
  have F := Lib.hid (fin.out _ 0 (by omega) (by omega) hs hB0)
  have q7 : (x.kind == 7) = false := by rw [beq_eq_false_iff_ne]; omega
  have q8 : (x.kind == 8) = false := by rw [beq_eq_false_iff_ne]; omega
  have q16 : (x.kind == 16) = false := by rw [beq_eq_false_iff_ne]; omega
  have q12 : (x.kind == 12) = false := by rw [beq_eq_false_iff_ne]; omega
  have q14 : (x.kind == 14) = false := by rw [beq_eq_false_iff_ne]; omega
  clear hs k17 k6 k1 k2
  go_enter Tryz.func34, Tryz.ntmps34
  go_wp2_with (go_at_call 74; refine F.out.mono ?_; rintro e w1 ⟨u, rfl, ho, hb⟩)
  go_ret
  exact ⟨_, rfl, ho, hb⟩
set_option maxHeartbeats 4000000 in
theorem l06Start_any {b o : Nat} {x : NodeD} (w : World) (h : PNode w b o x) (ok : StartOk x) :
    Calls Tryz.prog 28 #[.pointer (some ⟨b, o, none⟩)] w fun e w' => ∃ u, e = .returned u ∧ OwnI w.heap.size w' u (startL x) ∧ Below w.heap.size w w' := by
  obtain ⟨c0, c1, c2, -⟩ := h
  have fin : Hid (∀ (n : Int), 0 ≤ n → n ≤ 16 → startL x = List.replicate n.toNat 0 → Calls Tryz.prog 71 #[.int .i64 n] w fun e w' => ∃ u, e = .returned u ∧ OwnI w.heap.size w' u (startL x) ∧ Below w.heap.size w w') := fun n h0 h1 he =>
    (l03Zeros_any n w h0 (by omega)).mono fun e w' ⟨u, h2, h3, h4⟩ => ⟨u, h2, by rw [he]; exact h3, h4⟩
  have OK := Lib.hid ok
  clear ok
  by_cases k6 : x.kind = 6
  · have hs : startL x = List.replicate x.a.toNat 0 := by unfold startL; rw [if_pos k6]
    have F := Lib.hid (fin.out x.a (OK.out.a k6).1 (OK.out.a k6).2 hs)
    rw [k6] at c0
    clear hs k6
    go_enter Tryz.func28, Tryz.ntmps28
    go_wp2_with (go_at_call 71; refine F.out.mono ?_; rintro e w1 ⟨u, rfl, ho, hb⟩)
    go_ret
    exact ⟨_, rfl, ho, hb⟩
  have q6 : (x.kind == 6) = false := by rw [beq_eq_false_iff_ne]; exact k6
  by_cases k17 : x.kind = 17
  · have hs : startL x = List.replicate x.b.toNat 0 := by unfold startL; rw [if_neg k6, if_pos k17]
    have F := Lib.hid (fin.out x.b (OK.out.b k17).1 (OK.out.b k17).2 hs)
    rw [k17] at c0
    clear hs k17 k6 q6
    go_enter Tryz.func28, Tryz.ntmps28
    go_wp2_with (go_at_call 71; refine F.out.mono ?_; rintro e w1 ⟨u, rfl, ho, hb⟩)
    go_ret
    exact ⟨_, rfl, ho, hb⟩
  have q17 : (x.kind == 17) = false := by rw [beq_eq_false_iff_ne]; exact k17
  by_cases k1 : x.kind = 7 ∨ x.kind = 8 ∨ x.kind = 16
  · have hs : Hid (startL x = [0]) := by unfold Hid startL; rw [if_neg k6, if_neg k17, if_pos k1]
    have ho := Lib.hid (OwnI.lit (B := w.heap.size) w [0] (Nat.le_refl _) (by simp [maxLen]))
    clear k17 k6
    rcases k1 with k | k | k
    all_goals
      rw [k] at c0
      clear q6 q17 k
      go_enter Tryz.func28, Tryz.ntmps28
      go_wp2_with fail
      go_ret
      exact ⟨_, rfl, by rw [hs.out]; exact ho.out, (Below.refl _ _).alloc (Nat.le_refl _) _⟩
  by_cases k2 : x.kind = 12 ∨ x.kind = 14
  · have hs : Hid (startL x = [x.a]) := by unfold Hid startL; rw [if_neg k6, if_neg k17, if_neg k1, if_pos k2]
    have ho := Lib.hid (OwnI.lit (B := w.heap.size) w [x.a] (Nat.le_refl _) (by simp [maxLen]))
    clear k17 k6 k1
    rcases k2 with k | k
    all_goals
      rw [k] at c0
      clear q6 q17 k
      go_enter Tryz.func28, Tryz.ntmps28
      go_wp2_with fail
      go_ret
      exact ⟨_, rfl, by rw [hs.out]; exact ho.out, (Below.refl _ _).alloc (Nat.le_refl _) _⟩
  have hs : Hid (startL x = []) := by unfold Hid startL; rw [if_neg k6, if_neg k17, if_neg k1, if_neg k2]
  have ho := Lib.hid (OwnI.lit (B := w.heap.size) w [] (Nat.le_refl _) (by simp [maxLen]))
  have q7 : (x.kind == 7) = false := by rw [beq_eq_false_iff_ne]; omega
  have q8 : (x.kind == 8) = false := by rw [beq_eq_false_iff_ne]; omega
  have q16 : (x.kind == 16) = false := by rw [beq_eq_false_iff_ne]; omega
  have q12 : (x.kind == 12) = false := by rw [beq_eq_false_iff_ne]; omega
  have q14 : (x.kind == 14) = false := by rw [beq_eq_false_iff_ne]; omega
  clear k17 k6 k1 k2
  go_enter Tryz.func28, Tryz.ntmps28
  go_wp2_with fail
  go_ret
  exact ⟨_, rfl, by rw [hs.out]; exact ho.out, (Below.refl _ _).alloc (Nat.le_refl _) _⟩
def startRes (x : NodeD) : List Int := if nodeB x 4 then startL x else []
def startSize (x : NodeD) : Int := if nodeB x 4 then ((startL x).length : Int) else -1
theorem startRes_small (x : NodeD) : cntI (startRes x) ≤ 1048576 := by
  unfold cntI startRes
  split
  · rename_i h
    have := startL_length (startOk_of h)
    omega
  · simp
/-- a list of the call's own -/
def RetL (w : World) (xs : List Int) (e : Ending) (w' : World) : Prop := ∃ u L, e = .returned u ∧ OwnLI w.heap.size w' u xs L ∧ Dis L ∧ Below w.heap.size w w'
theorem OwnLI.nilu (B : Nat) (w : World) : OwnLI B w (.slice none 0 0) [] [.slice none 0 0] := ⟨OwnI.nil _ _, rfl⟩
theorem implStateSize_v {v : Value} {x : NodeD} (w : World) (h : VNode w v x) :
    Calls Tryz.prog 11 #[v] w fun e w' => e = .returned (.int .i64 (startSize x)) ∧ Below w.heap.size w w' := by
  obtain ⟨p, c, rfl, hr⟩ := h
  have hB0 : Below w.heap.size w (w.alloc (.cells #[.int .i64 x.kind, .int .i64 x.a, .int .i64 x.b, .slice p x.src.length c] 26)) := (Below.refl _ _).alloc (Nat.le_refl _) _
  have ba0 := Box.new w [.int .i64 x.kind, .int .i64 x.a, .int .i64 x.b, .slice p x.src.length c] 26
  have hv : VNode (w.alloc (.cells #[.int .i64 x.kind, .int .i64 x.a, .int .i64 x.b, .slice p x.src.length c] 26)) (.agg #[.int .i64 x.kind, .int .i64 x.a, .int .i64 x.b, .slice p x.src.length c]) x := ⟨p, c, rfl, hr.below hB0⟩
  have HS : Hid (∀ b, nodeB x 4 = b → startSize x = if b then ((startL x).length : Int) else -1) := fun b hb => by unfold startSize; rw [hb]
  generalize startSize x = S at HS ⊢
  go_enter Tryz.func11, Tryz.ntmps11
  go_wp2_with fail
  refine (isNode_v 4 _ hv).mono ?_
  rintro e F ⟨rfl, hb⟩
  have hb1 := hB0.trans (hb.mono hB0.size)
  have hv1 := hv.below hb
  have ba1 := ba0.below hb
  clear hv ba0
  cases hk : nodeB x 4
  case false =>
    obtain rfl := HS.out _ hk
    go_wp2_with fail
    go_ret
    exact ⟨rfl, hb1⟩
  obtain rfl := HS.out _ hk
  have ok := startOk_of hk
  have hl := startL_length ok
  have F1 := Lib.hid (start_v _ hv1 ok)
  have z0 := ba1.cell 0 rfl
  have z1 := ba1.cell 1 rfl
  have z2 := ba1.cell 2 rfl
  have z3 := ba1.cell 3 rfl
  have hml : (startL x).length ≤ maxLen := by unfold maxLen; omega
  clear hk ok HS ba1
  go_wp2_with (first | (go_at_call 34; refine F1.out.mono ?_; rintro e w1 ⟨u, rfl, ho, hb⟩; obtain ⟨q, d, rfl, -⟩ := ho.rd) | (go_at_call 33; refine (sizeI_any _ _ _ _ hml).mono ?_; rintro e w2 ⟨rfl, rfl⟩))
  go_ret
  exact ⟨rfl, hb1.trans (hb.mono hb1.size)⟩
theorem implStartNode_v {v : Value} {x : NodeD} (w : World) (h : VNode w v x) :
    Calls Tryz.prog 12 #[v] w (RetL w (startRes x)) := by
  obtain ⟨p, c, rfl, hr⟩ := h
  have hB0 : Below w.heap.size w (w.alloc (.cells #[.int .i64 x.kind, .int .i64 x.a, .int .i64 x.b, .slice p x.src.length c] 26)) := (Below.refl _ _).alloc (Nat.le_refl _) _
  have ba0 := Box.new w [.int .i64 x.kind, .int .i64 x.a, .int .i64 x.b, .slice p x.src.length c] 26
  have hv : VNode (w.alloc (.cells #[.int .i64 x.kind, .int .i64 x.a, .int .i64 x.b, .slice p x.src.length c] 26)) (.agg #[.int .i64 x.kind, .int .i64 x.a, .int .i64 x.b, .slice p x.src.length c]) x := ⟨p, c, rfl, hr.below hB0⟩
  have HS : Hid (∀ b, nodeB x 4 = b → startRes x = if b then startL x else []) := fun b hb => by unfold startRes; rw [hb]
  generalize startRes x = S at HS ⊢
  go_enter Tryz.func12, Tryz.ntmps12
  go_wp2_with fail
  refine (isNode_v 4 _ hv).mono ?_
  rintro e F ⟨rfl, hb⟩
  have hb1 := hB0.trans (hb.mono hB0.size)
  have hv1 := hv.below hb
  have ba1 := ba0.below hb
  clear hv ba0
  cases hk : nodeB x 4
  case false =>
    obtain rfl := HS.out _ hk
    go_wp2_with fail
    go_ret
    exact ⟨_, _, rfl, OwnLI.nilu _ _, List.pairwise_singleton _ _, hb1⟩
  obtain rfl := HS.out _ hk
  have ok := startOk_of hk
  have F1 := Lib.hid (start_v _ hv1 ok)
  have z0 := ba1.cell 0 rfl
  have z1 := ba1.cell 1 rfl
  have z2 := ba1.cell 2 rfl
  have z3 := ba1.cell 3 rfl
  clear hk ok HS ba1
  go_wp2_with (go_at_call 34; refine F1.out.mono ?_; rintro e w1 ⟨u, rfl, ho, hb⟩)
  go_ret
  exact ⟨_, _, rfl, ⟨ho.mono hb1.size, rfl⟩, List.pairwise_singleton _ _, hb1.trans (hb.mono hb1.size)⟩
end Go.Proofs.YtdcacmmglkcliaaGreatDoor
