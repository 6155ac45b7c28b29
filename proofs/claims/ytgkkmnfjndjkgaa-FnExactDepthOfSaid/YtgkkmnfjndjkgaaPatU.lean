/-
  Patches: the order and the users of a node; contracts of both sides.
-/
import Derived.Test.YtgkkmnfjndjkgaaPatV
namespace Go.Proofs.Ytgkkmnfjndjkgaa
open Go.ChangeShapes Go.WideShapes Go.ChangeAt Go.RowKit Go.Sort
set_option linter.unusedVariables false

/-- a list of its own and a code -/
def RetI (w : World) (L : List Int) (code : Int) (e : Ending) (w' : World) : Prop := ∃ u M, e = .returned (.tuple #[u, .int .i64 code]) ∧ OwnLI w.heap.size w' u L M ∧ Dis M ∧ Below w.heap.size w w'
theorem RetI.mk {w w' : World} {L : List Int} {code : Int} {u : Value} {B : Nat} (h : OwnI B w' u L) (hB : w.heap.size ≤ B) (hb : Below w.heap.size w w') : RetI w L code (.returned (.tuple #[u, .int .i64 code])) w' :=
  ⟨u, [u], rfl, ⟨h.mono hB, rfl⟩, List.pairwise_singleton _ _, hb⟩
def orderRes (x : PatchD) : List Int := if okB x then orderL x.nodes else []
def orderCode (x : PatchD) : Int := if formedB x then (if (orderL x.nodes).length = x.nodes.length then 0 else 7) else 1
theorem orderRes_small (x : PatchD) : cntI (orderRes x) ≤ 1048576 := by
  unfold cntI orderRes
  split
  · rename_i h
    have h1 := (formed_iff.1 (by unfold okB at h; rw [Bool.and_eq_true] at h; exact h.1)).2.2.1
    have h2 := orderL_len x.nodes
    omega
  · show (0 : Nat) ≤ 1048576; omega
set_option maxHeartbeats 800000 in
theorem specOrderOf_v {v : Value} {x : PatchD} (w : World) (h : VPatch w v x) :
    Calls Try.prog 24 #[v] w (RetI w (orderRes x) (orderCode x)) := by
  obtain ⟨p1, c1, p2, c2, p3, c3, rfl, hp⟩ := PPatch.of h
  have hB0 : Below w.heap.size w (w.alloc (.cells #[.int .i64 x.inputs, .slice p1 x.tables.length c1, .slice p2 x.nodes.length c2, .slice p3 x.outputs.length c3] 31)) := (Below.refl _ _).alloc (Nat.le_refl _) _
  generalize hE : w.alloc (.cells #[.int .i64 x.inputs, .slice p1 x.tables.length c1, .slice p2 x.nodes.length c2, .slice p3 x.outputs.length c3] 31) = E0 at *
  have HE := Lib.hid hE.symm
  clear hE h
  have FM := Lib.hid (l07Formed_any _ hp)
  have HR : Hid (∀ b, formedB x = b → orderRes x = (if b && decide ((orderL x.nodes).length = x.nodes.length) then orderL x.nodes else []) ∧ orderCode x = (if b then (if (orderL x.nodes).length = x.nodes.length then 0 else 7) else 1)) := fun b hb => by
    unfold orderRes orderCode okB; rw [hb]; exact ⟨rfl, rfl⟩
  generalize orderRes x = R at HR ⊢
  generalize orderCode x = C at HR ⊢
  cases hF : formedB x
  case false =>
    rw [hF] at FM
    obtain ⟨rfl, rfl⟩ := HR.out _ hF
    simp only [Bool.false_and, Bool.false_eq_true, if_false]
    go_enter Try.func24, Try.ntmps24
    go_upto_region 1 with fail
    rw [← HE.out]
    go_wp2_with (go_at_call 76; refine FM.out.mono ?_; rintro e W1 ⟨rfl, hb1⟩)
    refine bodyPost_ret (v := .tuple #[.slice none 0 0, .int .i64 1]) (by simp [results, Try.results24, go_sem, *]) rfl ?_
    exact RetI.mk (OwnI.nil W1.heap.size _) (Nat.le_trans hB0.size hb1.size) (hB0.trans (hb1.mono hB0.size))
  rw [hF] at FM
  obtain ⟨rfl, rfl⟩ := HR.out _ hF
  have HO := Lib.hid (fun W hW => l07Order_any W (hp.below hW) hF)
  simp only [Bool.true_and, decide_eq_true_eq, if_true]
  by_cases hL : (orderL x.nodes).length = x.nodes.length
  · have HLL := Lib.hid hL
    rw [if_pos hL, if_pos hL]
    clear hL HR
    go_enter Try.func24, Try.ntmps24
    go_upto_region 1 with fail
    rw [← HE.out]
    go_wp2_with (go_at_call 76; refine FM.out.mono ?_; rintro e W1 ⟨rfl, hb1⟩)
    refine (HO.out W1 hb1).mono ?_
    rintro e W2 ⟨u, rfl, ho, hb2⟩
    rw [if_pos HLL.out] at ho
    rw [decide_eq_true HLL.out]
    go_wp2_with fail
    refine bodyPost_ret (v := .tuple #[u, .int .i64 0]) (by simp [results, Try.results24, go_sem, *]) rfl ?_
    have hB1 := hB0.trans (hb1.mono hB0.size)
    exact RetI.mk ho hB1.size (hB1.trans (hb2.mono hB1.size))
  · have HLL := Lib.hid hL
    rw [if_neg hL, if_neg hL]
    clear hL HR
    go_enter Try.func24, Try.ntmps24
    go_upto_region 1 with fail
    rw [← HE.out]
    go_wp2_with (go_at_call 76; refine FM.out.mono ?_; rintro e W1 ⟨rfl, hb1⟩)
    refine (HO.out W1 hb1).mono ?_
    rintro e W2 ⟨u, rfl, ho, hb2⟩
    rw [decide_eq_false HLL.out]
    go_wp2_with fail
    refine bodyPost_ret (v := .tuple #[.slice none 0 0, .int .i64 7]) (by simp [results, Try.results24, go_sem, *]) rfl ?_
    have hB1 := hB0.trans (hb1.mono hB0.size)
    exact RetI.mk (OwnI.nil W2.heap.size _) (Nat.le_trans hB1.size hb2.size) (hB1.trans (hb2.mono hB1.size))
set_option maxHeartbeats 800000 in
theorem implOrderOf_v {v : Value} {x : PatchD} (w : World) (h : VPatch w v x) :
    Calls Try.prog 25 #[v] w (RetI w (orderRes x) (orderCode x)) := by
  have hv := h
  obtain ⟨p1, c1, p2, c2, p3, c3, rfl, r1, r2, r3⟩ := h
  have hl2 := r2.len
  unfold maxLen at hl2
  obtain ⟨g, hg⟩ : ∃ g, g = w.heap.size := ⟨_, rfl⟩
  obtain ⟨E0, hE0⟩ : ∃ E, E = w.alloc (.cells #[.int .i64 x.inputs, .slice p1 x.tables.length c1, .slice p2 x.nodes.length c2, .slice p3 x.outputs.length c3] 31) := ⟨_, rfl⟩
  have hB0 : Below w.heap.size w E0 := by rw [hE0]; exact (Below.refl _ _).alloc (Nat.le_refl _) _
  have bx : Box E0 g [.int .i64 x.inputs, .slice p1 x.tables.length c1, .slice p2 x.nodes.length c2, .slice p3 x.outputs.length c3] 31 := by rw [hE0, hg]; exact Box.newAt w _ _ rfl
  have HE := Lib.hid hE0
  have HG := Lib.hid hg
  clear hE0 hg r1 r2 r3
  have FM := Lib.hid (isWellFormed_v _ (hv.below hB0))
  have HR : Hid (∀ b, formedB x = b → orderRes x = (if b && decide ((orderL x.nodes).length = x.nodes.length) then orderL x.nodes else []) ∧ orderCode x = (if b then (if (orderL x.nodes).length = x.nodes.length then 0 else 7) else 1)) := fun b hb => by
    unfold orderRes orderCode okB; rw [hb]; exact ⟨rfl, rfl⟩
  generalize orderRes x = R at HR ⊢
  generalize orderCode x = C at HR ⊢
  have z0 := bx.cell 0 rfl
  have z1 := bx.cell 1 rfl
  have z2 := bx.cell 2 rfl
  have z3 := bx.cell 3 rfl
  cases hF : formedB x
  case false =>
    rw [hF] at FM
    obtain ⟨rfl, rfl⟩ := HR.out _ hF
    simp only [Bool.false_and, Bool.false_eq_true, if_false]
    go_enter Try.func25, Try.ntmps25
    go_upto_region 1 with fail
    rw [← HE.out, ← HG.out]
    go_wp2_with (go_at_call 77; refine FM.out.mono ?_; rintro e W1 ⟨rfl, hb1⟩)
    refine bodyPost_ret (v := .tuple #[.slice none 0 0, .int .i64 1]) (by simp [results, Try.results25, go_sem, *]) rfl ?_
    exact RetI.mk (OwnI.nil W1.heap.size _) (Nat.le_trans hB0.size hb1.size) (hB0.trans (hb1.mono hB0.size))
  rw [hF] at FM
  obtain ⟨rfl, rfl⟩ := HR.out _ hF
  have HO := Lib.hid (fun W hW => order_v W (hv.below hW) hF)
  have hle := orderL_len x.nodes
  simp only [Bool.true_and, decide_eq_true_eq, if_true]
  have HL : Hid (∀ (a b : Int), (if (orderL x.nodes).length = x.nodes.length then (0 : Int) else 7) = (if (orderL x.nodes).length < x.nodes.length then 7 else 0)) := fun _ _ => by
    by_cases h : (orderL x.nodes).length = x.nodes.length
    · rw [if_pos h, if_neg (by omega)]
    · rw [if_neg h, if_pos (by omega)]
  by_cases hL : (orderL x.nodes).length < x.nodes.length
  · have hN : ¬ (orderL x.nodes).length = x.nodes.length := by omega
    rw [if_neg hN, if_neg hN]
    clear HR HL hle hN
    go_enter Try.func25, Try.ntmps25
    go_upto_region 1 with fail
    rw [← HE.out, ← HG.out]
    go_wp2_with (go_at_call 77; refine FM.out.mono ?_; rintro e W1 ⟨rfl, hb1⟩; have y0 := (bx.below hb1).cell 0 rfl; have y1 := (bx.below hb1).cell 1 rfl; have y2 := (bx.below hb1).cell 2 rfl; have y3 := (bx.below hb1).cell 3 rfl)
    refine (HO.out W1 (hB0.trans (hb1.mono hB0.size))).mono ?_
    rintro e W2 ⟨u, rfl, ho, hb2⟩
    have x2 := ((bx.below hb1).below hb2).cell 2 rfl
    obtain ⟨up, uc, rfl, -⟩ := ho.rd
    have hB1 := hB0.trans (hb1.mono hB0.size)
    generalize (orderL x.nodes).length = m at hL ⊢
    clear ho
    go_wp2_with fail
    refine bodyPost_ret (v := .tuple #[.slice none 0 0, .int .i64 7]) (by simp [results, Try.results25, go_sem, *]) rfl ?_
    exact RetI.mk (OwnI.nil W2.heap.size _) (Nat.le_trans hB1.size hb2.size) (hB1.trans (hb2.mono hB1.size))
  · have hN : (orderL x.nodes).length = x.nodes.length := by omega
    rw [if_pos hN, if_pos hN]
    clear HR HL hle hN
    go_enter Try.func25, Try.ntmps25
    go_upto_region 1 with fail
    rw [← HE.out, ← HG.out]
    go_wp2_with (go_at_call 77; refine FM.out.mono ?_; rintro e W1 ⟨rfl, hb1⟩; have y0 := (bx.below hb1).cell 0 rfl; have y1 := (bx.below hb1).cell 1 rfl; have y2 := (bx.below hb1).cell 2 rfl; have y3 := (bx.below hb1).cell 3 rfl)
    refine (HO.out W1 (hB0.trans (hb1.mono hB0.size))).mono ?_
    rintro e W2 ⟨u, rfl, ho, hb2⟩
    have x2 := ((bx.below hb1).below hb2).cell 2 rfl
    have hh := ho
    obtain ⟨up, uc, rfl, -⟩ := hh.rd
    have hB1 := hB0.trans (hb1.mono hB0.size)
    have HO2 := Lib.hid ho
    generalize (orderL x.nodes).length = m at hL HO2 ⊢
    clear ho hh
    go_wp2_with fail
    refine bodyPost_ret (v := .tuple #[.slice up m uc, .int .i64 0]) (by simp [results, Try.results25, go_sem, *]) rfl ?_
    exact RetI.mk HO2.out hB1.size (hB1.trans (hb2.mono hB1.size))
/-- the code for a node of a patch -/
def askCode (x : PatchD) (node : Int) : Int := if okB x then (if inB node 0 (x.nodes.length - 1) then 0 else 2) else 1
theorem askCode_of {x : PatchD} {node : Int} {a b : Bool} (h1 : okB x = a) (h2 : inB node 0 (x.nodes.length - 1) = b) : askCode x node = if a then (if b then 0 else 2) else 1 := by unfold askCode; rw [h1, h2]
theorem okB_len {x : PatchD} (h : okB x = true) : formedB x = true ∧ (orderL x.nodes).length = x.nodes.length ∧ x.nodes.length ≤ 24 := by
  unfold okB at h
  rw [Bool.and_eq_true, decide_eq_true_iff] at h
  exact ⟨h.1, h.2, (formed_iff.1 h.1).2.2.1⟩
theorem l07Ask_any {g : Nat} {x : PatchD} (node : Int) (w : World) (h : PPatch w g x) :
    Calls Try.prog 67 #[.pointer (some ⟨g, 0, none⟩), .int .i64 node] w fun e w' => e = .returned (.int .i64 (askCode x node)) ∧ Below w.heap.size w w' := by
  have OK := Lib.hid (l07Ok_any w h)
  have HR : Hid (∀ a b, okB x = a → inB node 0 (x.nodes.length - 1) = b → askCode x node = if a then (if b then 0 else 2) else 1) := fun a b => askCode_of
  generalize askCode x node = R at HR ⊢
  have hp := h
  obtain ⟨p1, c1, p2, c2, p3, c3, bx, r1, r2, r3⟩ := hp
  have hl2 := r2.len
  unfold maxLen at hl2
  clear r1 r2 r3
  cases hF : okB x
  case false =>
    rw [hF] at OK
    obtain rfl := HR.out _ _ hF rfl
    clear HR
    go_enter Try.func67, Try.ntmps67
    go_wp2_with (go_at_call 65; refine OK.out.mono ?_; rintro e W1 ⟨rfl, hb1⟩)
    go_ret
    exact ⟨rfl, hb1⟩
  rw [hF] at OK
  cases hI : inB node 0 ((x.nodes.length : Int) - 1)
  all_goals
    obtain rfl := HR.out _ _ hF hI
    clear HR hF
    go_enter Try.func67, Try.ntmps67
    go_wp2_with (first | (go_at_call 65; refine OK.out.mono ?_; rintro e W1 ⟨rfl, hb1⟩; have y2 := (bx.below hb1).cell 2 rfl) | (go_at_call 106; refine (l00In_any _ _ _ _).mono ?_; rintro e w' ⟨rfl, rfl⟩))
    go_ret
    exact ⟨rfl, hb1⟩
theorem nodeCode_v {v : Value} {x : PatchD} (node : Int) (w : World) (h : VPatch w v x) :
    Calls Try.prog 71 #[v, .int .i64 node] w fun e w' => e = .returned (.int .i64 (askCode x node)) ∧ Below w.heap.size w w' := by
  have HR : Hid (∀ a b, okB x = a → inB node 0 (x.nodes.length - 1) = b → askCode x node = if a then (if b then 0 else 2) else 1) := fun a b => askCode_of
  generalize askCode x node = R at HR ⊢
  have hv := h
  obtain ⟨p1, c1, p2, c2, p3, c3, rfl, r1, r2, r3⟩ := h
  have hl2 := r2.len
  have hm2 := r2.len
  unfold maxLen at hl2
  have hB0 : Below w.heap.size w (w.alloc (.cells #[.int .i64 x.inputs, .slice p1 x.tables.length c1, .slice p2 x.nodes.length c2, .slice p3 x.outputs.length c3] 31)) := (Below.refl _ _).alloc (Nat.le_refl _) _
  have bx := Box.newAt w [.int .i64 x.inputs, .slice p1 x.tables.length c1, .slice p2 x.nodes.length c2, .slice p3 x.outputs.length c3] 31 rfl
  have OK := Lib.hid (isPatch_v _ (hv.below hB0))
  have SZ : Hid (∀ W, Calls Try.prog 73 #[.slice p2 x.nodes.length c2] W fun e w' => e = .returned (.int .i64 (x.nodes.length : Int)) ∧ W = w') := fun W => sizeN_any p2 x.nodes.length c2 W hm2
  clear r1 r2 r3 hv
  cases hF : okB x
  case false =>
    rw [hF] at OK
    obtain rfl := HR.out _ _ hF rfl
    clear HR
    go_enter Try.func71, Try.ntmps71
    go_wp2_with (go_at_call 66; refine OK.out.mono ?_; rintro e W1 ⟨rfl, hb1⟩)
    go_ret
    exact ⟨rfl, hB0.trans (hb1.mono hB0.size)⟩
  rw [hF] at OK
  cases hI : inB node 0 ((x.nodes.length : Int) - 1)
  all_goals
    obtain rfl := HR.out _ _ hF hI
    clear HR hF
    go_enter Try.func71, Try.ntmps71
    go_wp2_with (first | (go_at_call 66; refine OK.out.mono ?_; rintro e W1 ⟨rfl, hb1⟩; have y2 := (bx.below hb1).cell 2 rfl) | (go_at_call 73; refine (SZ.out _).mono ?_; rintro e w' ⟨rfl, rfl⟩) | (go_at_call 108; refine (within_any _ _ _ _).mono ?_; rintro e w' ⟨rfl, rfl⟩))
    go_ret
    exact ⟨rfl, hB0.trans (hb1.mono hB0.size)⟩
theorem has_any {p : Option Addr} {c : Nat} {xs : List Int} (n : Int) (w : World) (h : RdI w p xs) :
    Calls Try.prog 81 #[.slice p xs.length c, .int .i64 n] w fun e w' => e = .returned (.bool (xs.any (fun y => n == y))) ∧ w = w' := by
  have hlen := h.len
  unfold maxLen at hlen
  go_enter Try.func81, Try.ntmps81
  go_wp2_with fail
  go_loop [9] (fun i => ∃ k : Nat, k ≤ xs.length ∧ i = .int .i64 k ∧ (xs.take k).any (fun y => n == y) = false) (fun i => xs.length - (intOf i).toNat)
  case atStart => exact ⟨0, Nat.zero_le _, rfl, by simp⟩
  case round =>
    obtain ⟨k, hk, rfl, hall⟩ := hrel
    have HA := Lib.hid hall; clear hall
    by_cases hlt : k < xs.length
    · obtain ⟨b, o, rfl, hb, hc⟩ := h.pos hlt
      have hck := hc k hlt
      clear hc
      generalize hx : xs[k] = x at hck
      have HX := Lib.hid hx; clear hx
      cases hs : (n == x)
      · go_wp2_with fail
        go_round
        case rel => exact ⟨k + 1, by omega, by go_num, any_step hlt HA.out (by rw [HX.out]; exact hs)⟩
        case measure => simp [intOf] <;> omega
      · go_wp2_with fail
        go_ret
        exact ⟨ret_bool (any_true hlt (by rw [HX.out]; exact hs)).symm, rfl⟩
    · obtain rfl : k = xs.length := by omega
      go_wp2_with fail
      go_ret
      exact ⟨ret_bool (any_done HA.out).symm, rfl⟩
theorem any_contains' (xs : List Int) (n : Int) : xs.any (fun y => n == y) = xs.contains n := by
  rw [Bool.eq_iff_iff]
  simp
def usersK (nodes : List NodeD) (node : Int) (k : Nat) : List Int := ((List.range k).filter fun i => (nodes.getD i ⟨0, 0, 0, []⟩).src.contains node).map fun i => ((i : Nat) : Int)
theorem usersK_succ {nodes : List NodeD} {node : Int} {k : Nat} (h : k < nodes.length) {b : Bool} (hb : nodes[k].src.contains node = b) : usersK nodes node (k + 1) = usersK nodes node k ++ (if b then [(k : Int)] else []) := by
  unfold usersK
  rw [List.range_succ, List.filter_append, List.map_append]
  congr 1
  rw [List.filter_cons, getD_node h, hb]
  cases b <;> rfl
theorem usersK_len (nodes : List NodeD) (node : Int) (k : Nat) : (usersK nodes node k).length ≤ k := by
  unfold usersK
  rw [List.length_map]
  have := List.length_filter_le (fun i => (nodes.getD i ⟨0, 0, 0, []⟩).src.contains node) (List.range k)
  rw [List.length_range] at this
  exact this
def usersRes (x : PatchD) (node : Int) : List Int := if askCode x node = 0 then usersK x.nodes node x.nodes.length else []
theorem askCode_zero {x : PatchD} {node : Int} : askCode x node = 0 ↔ okB x = true ∧ inB node 0 (x.nodes.length - 1) = true := by
  unfold askCode
  cases okB x <;> cases inB node 0 ((x.nodes.length : Int) - 1) <;> simp
theorem usersRes_small (x : PatchD) (node : Int) : cntI (usersRes x node) ≤ 1048576 := by
  unfold cntI usersRes
  split
  · rename_i h
    have h1 := (okB_len (askCode_zero.1 h).1).2.2
    have h2 := usersK_len x.nodes node x.nodes.length
    omega
  · show (0 : Nat) ≤ 1048576; omega
theorem usersRes_neg {x : PatchD} {node : Int} (h : askCode x node ≠ 0) : usersRes x node = [] := by unfold usersRes; rw [if_neg h]
theorem usersRes_pos {x : PatchD} {node : Int} (h : askCode x node = 0) : usersRes x node = usersK x.nodes node x.nodes.length := by unfold usersRes; rw [if_pos h]
set_option maxHeartbeats 1600000 in
set_option maxRecDepth 100000 in
theorem specUsersOf_v {v : Value} {x : PatchD} {node : Int} (w : World) (h : VPatch w v x) :
    Calls Try.prog 30 #[v, .int .i64 node] w (RetI w (usersRes x node) (askCode x node)) := by
  obtain ⟨p1, c1, p2, c2, p3, c3, rfl, hp⟩ := PPatch.of h
  have hB0 : Below w.heap.size w (w.alloc (.cells #[.int .i64 x.inputs, .slice p1 x.tables.length c1, .slice p2 x.nodes.length c2, .slice p3 x.outputs.length c3] 31)) := (Below.refl _ _).alloc (Nat.le_refl _) _
  generalize hE : w.alloc (.cells #[.int .i64 x.inputs, .slice p1 x.tables.length c1, .slice p2 x.nodes.length c2, .slice p3 x.outputs.length c3] 31) = E0 at *
  have HE := Lib.hid hE.symm
  clear hE h
  have AS := Lib.hid (l07Ask_any node E0 hp)
  by_cases hc : askCode x node = 0
  case neg =>
    rw [usersRes_neg hc]
    have q : (askCode x node != 0) = true := by rw [bne_iff_ne]; exact hc
    generalize askCode x node = C at AS q ⊢
    clear hc
    go_enter Try.func30, Try.ntmps30
    go_upto_region 1 with fail
    rw [← HE.out]
    go_wp2_with (go_at_call 67; refine AS.out.mono ?_; rintro e W1 ⟨rfl, hb1⟩)
    refine bodyPost_ret (v := .tuple #[.slice none 0 0, .int .i64 C]) (by simp [results, Try.results30, go_sem, *]) rfl ?_
    exact RetI.mk (OwnI.nil W1.heap.size _) (Nat.le_trans hB0.size hb1.size) (hB0.trans (hb1.mono hB0.size))
  rw [usersRes_pos hc, hc]
  rw [hc] at AS
  have hn24 := (okB_len (askCode_zero.1 hc).1).2.2
  clear hc
  go_enter Try.func30, Try.ntmps30
  go_upto_region 1 with fail
  rw [← HE.out]
  go_wp2_with fail
  refine AS.out.mono ?_
  rintro e W1 ⟨rfl, hb1⟩
  have hB1 := hB0.trans (hb1.mono hB0.size)
  replace hp := hp.below hb1
  clear hb1 AS HE hB0
  obtain ⟨g, hg⟩ : ∃ g, g = w.heap.size := ⟨_, rfl⟩
  rw [← hg] at hp ⊢
  have HG := Lib.hid hg
  clear hg
  obtain ⟨p1', c1', p2', c2', p3', c3', bx, -, r2, -⟩ := hp
  have h0 := OwnI.lit (B := W1.heap.size) W1 [] (Nat.le_refl _) (by simp [maxLen])
  have hb0 := (Below.refl W1.heap.size W1).alloc (Nat.le_refl _) (.cells #[] 2)
  go_wp2_with fail
  go_loopw [7, 8] (fun ov i wr => ∃ k : Nat, k ≤ x.nodes.length ∧ i = .int .i64 k ∧ OwnI W1.heap.size wr ov (usersK x.nodes node k) ∧ Below W1.heap.size W1 wr) (fun _ i _ => x.nodes.length - (intOf i).toNat)
  case atStart => exact ⟨0, Nat.zero_le _, rfl, h0, hb0⟩
  case round =>
    obtain ⟨k, hk, rfl, hown, hbel⟩ := hrel
    clear h0 hb0
    obtain ⟨wi, rfl⟩ : ∃ wi : World, wi = wr := ⟨_, rfl⟩
    have z2 := (bx.below hbel).cell 2 rfl
    by_cases hlt : k < x.nodes.length
    · obtain ⟨b, o, rfl, hb, hcc⟩ := (r2.below hbel).pos hlt
      obtain ⟨-, -, -, q, d, y3, hr⟩ := hcc k hlt
      have HS := Lib.hid (l00Has_any (c := d) node wi hr)
      rw [any_contains] at HS
      have HK : Hid (∀ b, x.nodes[k].src.contains node = b → usersK x.nodes node (k + 1) = usersK x.nodes node k ++ (if b then [(k : Int)] else [])) := fun b hb => usersK_succ hlt hb
      have hul := usersK_len x.nodes node k
      clear hcc hr
      generalize x.nodes[k] = nd at y3 HS HK
      cases hcn : nd.src.contains node
      case false =>
        rw [hcn] at HS
        have HK2 := Lib.hid (HK.out _ hcn)
        clear hcn HK
        go_wp2_with (go_at_call 80; refine HS.out.mono ?_; rintro e w' ⟨rfl, rfl⟩)
        go_roundw
        case rel => exact ⟨k + 1, by omega, by go_num, by rw [HK2.out]; simpa using hown, hbel⟩
        case measure => simp [intOf] <;> omega
      case true =>
        rw [hcn] at HS
        have HK2 := Lib.hid (HK.out _ hcn)
        clear hcn HK
        have hsz := hbel.size
        go_wp2_with (first | (go_at_call 80; refine HS.out.mono ?_; rintro e w' ⟨rfl, rfl⟩) | (at_builtin; refine wpList_append_one rfl _ _ rfl rfl hown rfl hbel (by omega) hsz (Nat.le_refl _) ?_; intro v' w4 hown4 hb4 hz4 hk4))
        go_roundw
        case rel => exact ⟨k + 1, by omega, by go_num, by rw [HK2.out]; exact hown4, hb4⟩
        case measure => simp [intOf] <;> omega
    · obtain rfl : k = x.nodes.length := by omega
      have hh := hown
      obtain ⟨up, uc, rfl, -⟩ := hh.rd
      have HO2 := Lib.hid hown
      generalize hul : usersK x.nodes node x.nodes.length = UL at HO2 ⊢
      have HUL := Lib.hid hul
      clear hown hh hul
      go_wp2_with fail
      refine bodyPost_ret (v := .tuple #[.slice up UL.length uc, .int .i64 0]) (by simp [results, Try.results30, go_sem, *]) rfl ?_
      rw [HUL.out]
      exact RetI.mk HO2.out (by have := hB1.size; omega) (hB1.trans (hbel.mono hB1.size))
set_option maxHeartbeats 1600000 in
set_option maxRecDepth 100000 in
theorem implUsersOf_v {v : Value} {x : PatchD} {node : Int} (w : World) (h : VPatch w v x) :
    Calls Try.prog 31 #[v, .int .i64 node] w (RetI w (usersRes x node) (askCode x node)) := by
  have hv := h
  obtain ⟨p1, c1, p2, c2, p3, c3, rfl, hp⟩ := PPatch.of h
  have hB0 : Below w.heap.size w (w.alloc (.cells #[.int .i64 x.inputs, .slice p1 x.tables.length c1, .slice p2 x.nodes.length c2, .slice p3 x.outputs.length c3] 31)) := (Below.refl _ _).alloc (Nat.le_refl _) _
  have bx0 := Box.newAt w [.int .i64 x.inputs, .slice p1 x.tables.length c1, .slice p2 x.nodes.length c2, .slice p3 x.outputs.length c3] 31 rfl
  generalize hE : w.alloc (.cells #[.int .i64 x.inputs, .slice p1 x.tables.length c1, .slice p2 x.nodes.length c2, .slice p3 x.outputs.length c3] 31) = E0 at *
  have HE := Lib.hid hE.symm
  clear hE h
  have AS := Lib.hid (nodeCode_v node E0 (hv.below hB0))
  have z0 := bx0.cell 0 rfl
  have z1 := bx0.cell 1 rfl
  have z2 := bx0.cell 2 rfl
  have z3 := bx0.cell 3 rfl
  clear hv
  by_cases hc : askCode x node = 0
  case neg =>
    rw [usersRes_neg hc]
    have q : (askCode x node != 0) = true := by rw [bne_iff_ne]; exact hc
    generalize askCode x node = C at AS q ⊢
    clear hc
    go_enter Try.func31, Try.ntmps31
    go_upto_region 1 with fail
    rw [← HE.out]
    go_wp2_with (go_at_call 71; refine AS.out.mono ?_; rintro e W1 ⟨rfl, hb1⟩)
    refine bodyPost_ret (v := .tuple #[.slice none 0 0, .int .i64 C]) (by simp [results, Try.results31, go_sem, *]) rfl ?_
    exact RetI.mk (OwnI.nil W1.heap.size _) (Nat.le_trans hB0.size hb1.size) (hB0.trans (hb1.mono hB0.size))
  rw [usersRes_pos hc, hc]
  rw [hc] at AS
  have hn24 := (okB_len (askCode_zero.1 hc).1).2.2
  clear hc
  go_enter Try.func31, Try.ntmps31
  go_upto_region 1 with fail
  rw [← HE.out]
  go_wp2_with fail
  refine AS.out.mono ?_
  rintro e W1 ⟨rfl, hb1⟩
  have hB1 := hB0.trans (hb1.mono hB0.size)
  replace bx0 := bx0.below hb1
  replace hp := hp.below hb1
  clear hb1 AS HE hB0 z0 z1 z2 z3
  obtain ⟨g, hg⟩ : ∃ g, g = w.heap.size := ⟨_, rfl⟩
  rw [← hg] at hp bx0 ⊢
  have HG := Lib.hid hg
  clear hg
  obtain ⟨p1', c1', p2', c2', p3', c3', bx, -, r2', -⟩ := hp
  have z2 := bx0.cell 2 rfl
  have he2 := (bx.cell 2 rfl).symm.trans z2
  simp only [Option.some.injEq, Value.slice.injEq, true_and] at he2
  obtain ⟨rfl, rfl⟩ := he2
  have h0 := OwnI.lit (B := W1.heap.size) W1 [] (Nat.le_refl _) (by simp [maxLen])
  have hb0 := (Below.refl W1.heap.size W1).alloc (Nat.le_refl _) (.cells #[] 2)
  have hgl := bx0.lt
  go_wp2_with fail
  clear z2
  go_loopw [7, 20] (fun ov i wr => ∃ k : Nat, k ≤ x.nodes.length ∧ i = .int .i64 k ∧ OwnI W1.heap.size wr ov (usersK x.nodes node k) ∧ Below W1.heap.size W1 wr) (fun _ i _ => x.nodes.length - (intOf i).toNat)
  case atStart => exact ⟨0, Nat.zero_le _, rfl, h0, hb0⟩
  case round =>
    obtain ⟨k, hk, rfl, hown, hbel⟩ := hrel
    clear h0 hb0
    obtain ⟨wi, rfl⟩ : ∃ wi : World, wi = wr := ⟨_, rfl⟩
    by_cases hlt : k < x.nodes.length
    · obtain ⟨b, o, rfl, hb, hcc⟩ := (r2'.below hbel).pos hlt
      obtain ⟨y0, y1, y2, q, d, y3, hr⟩ := hcc k hlt
      have HK : Hid (∀ b, x.nodes[k].src.contains node = b → usersK x.nodes node (k + 1) = usersK x.nodes node k ++ (if b then [(k : Int)] else [])) := fun b hb => usersK_succ hlt hb
      have hul := usersK_len x.nodes node k
      clear hcc
      generalize x.nodes[k] = nd at y0 y1 y2 y3 hr HK
      obtain ⟨F, hF⟩ : ∃ F, F = wi.alloc (.cells #[.int .i64 nd.kind, .int .i64 nd.a, .int .i64 nd.b, .slice q nd.src.length d] 65) := ⟨_, rfl⟩
      have hBF : Below wi.heap.size wi F := by rw [hF]; exact (Below.refl _ _).alloc (Nat.le_refl _) _
      have bn : Box F wi.heap.size [.int .i64 nd.kind, .int .i64 nd.a, .int .i64 nd.b, .slice q nd.src.length d] 65 := by rw [hF]; exact Box.newAt _ _ _ rfl
      have HF := Lib.hid hF
      have t3 := bn.cell 3 rfl
      have HS := Lib.hid (has_any (c := d) node F (hr.below hBF))
      rw [any_contains'] at HS
      have hown2 := hown.below hBF
      have hbel2 := hbel.trans (hBF.mono hbel.size)
      have hsz := hbel2.size
      clear hF hr bn hBF hown
      cases hcn : nd.src.contains node
      case false =>
        rw [hcn] at HS
        have HK2 := Lib.hid (HK.out _ hcn)
        clear hcn HK
        go_upto_region 8 with fail
        rw [← HF.out]
        go_wp2_with (go_at_call 81; refine HS.out.mono ?_; rintro e w' ⟨rfl, rfl⟩)
        go_roundw
        case rel => exact ⟨k + 1, by omega, by go_num, by rw [HK2.out]; simpa using hown2, hbel2⟩
        case measure => simp [intOf] <;> omega
      case true =>
        rw [hcn] at HS
        have HK2 := Lib.hid (HK.out _ hcn)
        clear hcn HK
        go_upto_region 8 with fail
        rw [← HF.out]
        go_wp2_with (first | (go_at_call 81; refine HS.out.mono ?_; rintro e w' ⟨rfl, rfl⟩) | (at_builtin; refine wpList_append_one rfl _ _ rfl rfl hown2 rfl hbel2 (by omega) hsz (Nat.le_refl _) ?_; intro v' w4 hown4 hb4 hz4 hk4))
        go_roundw
        case rel => exact ⟨k + 1, by omega, by go_num, by rw [HK2.out]; exact hown4, hb4⟩
        case measure => simp [intOf] <;> omega
    · obtain rfl : k = x.nodes.length := by omega
      have hh := hown
      obtain ⟨up, uc, rfl, -⟩ := hh.rd
      have HO2 := Lib.hid hown
      generalize hul : usersK x.nodes node x.nodes.length = UL at HO2 ⊢
      have HUL := Lib.hid hul
      clear hown hh hul
      go_wp2_with fail
      refine bodyPost_ret (v := .tuple #[.slice up UL.length uc, .int .i64 0]) (by simp [results, Try.results31, go_sem, *]) rfl ?_
      rw [HUL.out]
      exact RetI.mk HO2.out (by have := hB1.size; omega) (hB1.trans (hbel.mono hB1.size))
end Go.Proofs.Ytgkkmnfjndjkgaa
