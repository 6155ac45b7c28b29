/-
  StepNode: contracts of both sides.
-/
import Derived.Test.YtalomhakmfknjaaStepI
import Derived.Test.YtalomhakmfknjaaPat
namespace Go.Proofs.Ytalomhakmfknjaa
open Go.ChangeShapes Go.WideShapes Go.ChangeAt Go.RowKit Go.Sort
set_option linter.unusedVariables false

/-- a slice that reads xs and has room for it -/
def VIc (w : World) (v : Value) (xs : List Int) : Prop := ∃ p c, v = .slice p xs.length c ∧ RdI w p xs ∧ xs.length ≤ c
theorem OwnLI.rdc {B : Nat} {w : World} {v : Value} {xs : List Int} {L : List Value} (h : OwnLI B w v xs L) : VIc w v xs := by
  obtain ⟨p, c, rfl, hr⟩ := h.rd
  exact ⟨p, c, rfl, hr, h.1.cap⟩
def stArgB (x : NodeD) (xs ss : List Int) : Bool := ((decide ((xs.length : Int) = inN x) && decide (ss.length = (startL x).length)) && xs.all isSmp) && ss.all isSmp
def snValid (x : NodeD) (tb : List (List Int)) : Bool := tablesB tb && nodeB x tb.length
def snCode (x : NodeD) (tb : List (List Int)) (xs ss : List Int) : Int := if snValid x tb then (if stArgB x xs ss then 0 else 2) else 1
def snOut (x : NodeD) (tb : List (List Int)) (xs ss : List Int) : Int := if snValid x tb && stArgB x xs ss then outP x tb xs ss else 0
def snNext (x : NodeD) (tb : List (List Int)) (xs ss : List Int) : List Int := if snValid x tb && stArgB x xs ss then nextP x xs ss (outP x tb xs ss) else []
theorem startL_pos {x : NodeD} {t : Int} (h : nodeB x t = true) (hk : x.kind = 6 ∨ x.kind = 7 ∨ x.kind = 8 ∨ x.kind = 12 ∨ x.kind = 14 ∨ x.kind = 16 ∨ x.kind = 17) : 1 ≤ (startL x).length := by
  rw [nodeB_split] at h
  simp only [Bool.and_eq_true] at h
  obtain ⟨_, h2, _, _, h5⟩ := h
  obtain ⟨k, a, b, src⟩ := x
  simp only at *
  rcases hk with rfl | rfl | rfl | rfl | rfl | rfl | rfl
  · have : inB a 1 16 = true := h2
    rw [inB_iff] at this
    show 1 ≤ (List.replicate a.toNat (0 : Int)).length
    rw [List.length_replicate]; omega
  · exact Nat.le_refl 1
  · exact Nat.le_refl 1
  · exact Nat.le_refl 1
  · exact Nat.le_refl 1
  · exact Nat.le_refl 1
  · have : inB b 1 16 = true := h5
    rw [inB_iff] at this
    show 1 ≤ (List.replicate b.toNat (0 : Int)).length
    rw [List.length_replicate]; omega
theorem OutOk.of {x : NodeD} {tb : List (List Int)} {xs ss : List Int} (ht : tablesB tb = true) (h : nodeB x tb.length = true) (hn : (xs.length : Int) = inN x) (hs : ss.length = (startL x).length) (hx : xs.all isSmp = true) : OutOk x tb xs ss := by
  have h0 := h
  rw [nodeB_split] at h
  simp only [Bool.and_eq_true] at h
  obtain ⟨h1, h2, _, _, _⟩ := h
  unfold tablesB at ht
  simp only [Bool.and_eq_true, List.all_eq_true, decide_eq_true_eq] at ht
  refine ⟨h1, hn, fun hk => by rw [hs]; exact startL_pos h0 hk, fun y hy => ?_, fun e => ?_, fun e => ?_, fun e => ?_⟩
  · have := List.all_eq_true.1 hx y hy
    unfold isSmp at this
    rwa [inB_iff] at this
  · rw [e] at h2
    have : inB x.a 0 2147483647 = true := h2
    rwa [inB_iff] at this
  · rw [e] at h2
    have : inB x.a 0 31 = true := h2
    rwa [inB_iff] at this
  · rw [e] at h2
    have : inB x.a 0 (min (max (tb.length : Int) 0) 4 - 1) = true := h2
    rw [inB_iff] at this
    refine ⟨by omega, by omega, fun t htm => ?_⟩
    have := ht.1 t htm
    unfold tblB at this
    simp only [Bool.and_eq_true, Bool.or_eq_true, decide_eq_true_eq] at this
    omega
theorem nextP_length {x : NodeD} {tb : List (List Int)} {xs ss : List Int} {y : Int} (h : ss.length ≤ 16) : (nextP x xs ss y).length ≤ 17 := by
  unfold nextP nextK
  split <;> simp <;> omega
theorem snNext_small (x : NodeD) (tb : List (List Int)) (xs ss : List Int) : cntI (snNext x tb xs ss) ≤ 1048576 := by
  unfold cntI snNext
  split
  · rename_i h
    simp only [snValid, stArgB, Bool.and_eq_true, decide_eq_true_eq] at h
    have h1 := startL_length (startOk_of h.1.2)
    have h2 := nextP_length (x := x) (tb := tb) (xs := xs) (ss := ss) (y := outP x tb xs ss) (by omega)
    omega
  · simp
/-- a sample, a list of the call's own, and a code -/
def RetS (w : World) (y : Int) (zs : List Int) (code : Int) (e : Ending) (w' : World) : Prop :=
  ∃ u L, e = .returned (.tuple #[.int .i64 y, u, .int .i64 code]) ∧ OwnLI w.heap.size w' u zs L ∧ Dis L ∧ Below w.heap.size w w'
theorem retS_nil {w w' : World} {code : Int} (hb : Below w.heap.size w w') : RetS w 0 [] code (.returned (.tuple #[.int .i64 0, .slice none 0 0, .int .i64 code])) w' :=
  ⟨_, _, rfl, OwnLI.nilu _ _, List.pairwise_singleton _ _, hb⟩
theorem retS_mk {w F w' : World} {y code : Int} {zs : List Int} {u : Value} (hb0 : Below w.heap.size w F) (ho : OwnI F.heap.size w' u zs) (hb : Below F.heap.size F w') : RetS w y zs code (.returned (.tuple #[.int .i64 y, u, .int .i64 code])) w' :=
  ⟨_, _, rfl, ⟨ho.mono hb0.size, rfl⟩, List.pairwise_singleton _ _, hb0.trans (hb.mono hb0.size)⟩
theorem kAr_le3' {k : Int} (h : inB k 1 17 = true) : kAr (k - 1).toNat ≤ 3 := by
  rcases kinds_of h with rfl | rfl | rfl | rfl | rfl | rfl | rfl | rfl | rfl | rfl | rfl | rfl | rfl | rfl | rfl | rfl | rfl
  all_goals decide
theorem l06Inputs_any {b o : Nat} {x : NodeD} (w : World) (h : PNode w b o x) (hk : inB x.kind 1 17 = true) :
    Calls Try.prog 79 #[.pointer (some ⟨b, o, none⟩)] w fun e w' => e = .returned (.int .i64 (inN x)) ∧ Below w.heap.size w w' := by
  obtain ⟨c0, -, -, -⟩ := h
  obtain ⟨k, A, B, src⟩ := x
  simp only at *
  by_cases h1 : k = 1
  · subst h1
    go_enter Try.func79, Try.ntmps79
    go_wp2_with fail
    go_ret
    exact ⟨rfl, Below.refl _ _⟩
  · have e : inN ⟨k, A, B, src⟩ = kAr (k - 1).toNat := if_neg h1
    rw [e]
    obtain ⟨i, hi, rfl⟩ := kind_of_in hk
    rw [show ((i : Int) + 1 - 1).toNat = i by omega]
    have q1 : (((i : Int) + 1) == 1) = false := by rw [beq_eq_false_iff_ne]; exact h1
    clear e hk
    go_enter Try.func79, Try.ntmps79
    go_wp2_with (go_at_call 111; refine (l06Arity_any i hi _).mono ?_; rintro e W1 ⟨rfl, hb⟩)
    go_ret
    exact ⟨rfl, hb⟩
set_option maxHeartbeats 4000000 in
theorem specStepNode_v {v v1 v2 v3 : Value} {x : NodeD} {tb : List (List Int)} {xs ss : List Int} (w : World) (h : VNode w v x) (h1 : VII w v1 tb) (h2 : VI w v2 xs) (h3 : VIc w v3 ss) :
    Calls Try.prog 36 #[v, v1, v2, v3] w (RetS w (snOut x tb xs ss) (snNext x tb xs ss) (snCode x tb xs ss)) := by
  obtain ⟨p, c, rfl, hr⟩ := h
  obtain ⟨pt, ct, rfl, rt⟩ := h1
  obtain ⟨px, cx, rfl, rx⟩ := h2
  obtain ⟨ps, cs, rfl, rs, hcs⟩ := h3
  have hlx := rx.len
  have hls := rs.len
  have hlt := rt.len
  unfold maxLen at hlx hls hlt
  have HR : Hid (∀ b1 b2 : Bool, snValid x tb = b1 → stArgB x xs ss = b2 → snOut x tb xs ss = (if b1 && b2 then outP x tb xs ss else 0) ∧ snNext x tb xs ss = (if b1 && b2 then nextP x xs ss (outP x tb xs ss) else []) ∧ snCode x tb xs ss = if b1 then (if b2 then 0 else 2) else 1) := by
    intro b1 b2 e1 e2
    unfold snOut snNext snCode
    rw [e1, e2]
    exact ⟨rfl, rfl, rfl⟩
  have HV : Hid (∀ b, tablesB tb = b → snValid x tb = (b && nodeB x tb.length)) := fun b hb => by unfold snValid; rw [hb]
  have HA : Hid (∀ b1 b2 b3 b4, decide ((xs.length : Int) = inN x) = b1 → decide (ss.length = (startL x).length) = b2 → xs.all isSmp = b3 → ss.all isSmp = b4 → stArgB x xs ss = (((b1 && b2) && b3) && b4)) := by
    intro b1 b2 b3 b4 e1 e2 e3 e4
    unfold stArgB; rw [e1, e2, e3, e4]
  generalize hO : snOut x tb xs ss = RO at HR ⊢
  generalize hN : snNext x tb xs ss = RN at HR ⊢
  generalize hC : snCode x tb xs ss = RC at HR ⊢
  clear hO hN hC
  obtain ⟨E0, hE0⟩ : ∃ E, E = w.alloc (.cells #[.int .i64 x.kind, .int .i64 x.a, .int .i64 x.b, .slice p x.src.length c] 58) := ⟨_, rfl⟩
  have hB0 : Below w.heap.size w E0 := by rw [hE0]; exact (Below.refl _ _).alloc (Nat.le_refl _) _
  have bx : Box E0 w.heap.size [.int .i64 x.kind, .int .i64 x.a, .int .i64 x.b, .slice p x.src.length c] 58 := by rw [hE0]; exact Box.newAt w _ _ rfl
  have hp := PNode.box bx (hr.below hB0)
  have HE := Lib.hid hE0
  clear hE0 bx
  have T := Lib.hid (l06Tables_any (c := ct) E0 (rt.below hB0))
  cases ht : tablesB tb
  case false =>
    rw [ht] at T
    obtain ⟨rfl, rfl, rfl⟩ := HR.out false _ (by rw [HV.out _ ht]; rfl) rfl
    go_enter Try.func36, Try.ntmps36
    go_upto_region 1 with fail
    rw [← HE.out]
    go_wp2_with (go_at_call 77; refine T.out.mono ?_; rintro e W1 ⟨rfl, hd⟩)
    go_ret3
    exact retS_nil (hB0.trans (hd.mono hB0.size))
  rw [ht] at T
  go_enter Try.func36, Try.ntmps36
  go_upto_region 1 with fail
  rw [← HE.out]
  go_wp2_with fail
  refine T.out.mono ?_
  rintro e W1 ⟨rfl, hd⟩
  have hd1 : Below E0.heap.size E0 W1 := by first | exact hd | exact hd.below _ | (obtain rfl := hd; exact Below.refl _ _)
  clear hd
  have hp1 := hp.below hd1
  have hb1 := hB0.trans (hd1.mono hB0.size)
  clear T hp
  go_wp2_with fail
  refine (l06Ok_any (tb.length : Int) W1 hp1).mono ?_
  rintro e W2 ⟨rfl, hd2⟩
  have hp2 := hp1.below hd2
  have hb2 := hb1.trans (hd2.mono hb1.size)
  clear hp1 hd1 hd2
  cases hv : nodeB x (tb.length : Int)
  case false =>
    obtain ⟨rfl, rfl, rfl⟩ := HR.out false _ (by rw [HV.out _ ht, hv]; rfl) rfl
    go_wp2_with fail
    go_ret3
    exact retS_nil hb2
  have hk : inB x.kind 1 17 = true := by
    have := hv
    rw [nodeB_split] at this
    simp only [Bool.and_eq_true] at this
    exact this.1
  have HRV : Hid (∀ b2, stArgB x xs ss = b2 → RO = (if b2 then outP x tb xs ss else 0) ∧ RN = (if b2 then nextP x xs ss (outP x tb xs ss) else []) ∧ RC = if b2 then 0 else 2) := fun b2 e2 => by
    have := HR.out true b2 (by rw [HV.out _ ht, hv]; rfl) e2
    simpa using this
  have K1 := Lib.hid hk
  have OKN := Lib.hid (fun hn hs hx => OutOk.of (xs := xs) (ss := ss) ht hv hn hs hx)
  have OK := Lib.hid (startOk_of hv)
  clear HR HV ht hv
  go_wp2_with fail
  refine (l06Inputs_any W2 hp2 hk).mono ?_
  rintro e W3 ⟨rfl, hd3⟩
  have hp3 := hp2.below hd3
  have hb3 := hb2.trans (hd3.mono hb2.size)
  clear hp2 hd3 hk
  by_cases c1 : (xs.length : Int) = inN x
  case neg =>
    have q1 : (((xs.length : Int)) != inN x) = true := by rw [bne_iff_ne]; exact c1
    obtain ⟨rfl, rfl, rfl⟩ := HRV.out false (by rw [HA.out _ _ _ _ (decide_eq_false c1) rfl rfl rfl]; rfl)
    clear c1
    go_wp2_with fail
    go_ret3
    exact retS_nil hb3
  have q1 : (((xs.length : Int)) != inN x) = false := by rw [bne_eq_false_iff_eq]; exact c1
  have C1 := Lib.hid c1
  clear c1
  go_wp2_with fail
  refine (l06Start_any W3 hp3 OK.out).mono ?_
  rintro e W4 ⟨u, rfl, hu, hd4⟩
  have hp4 := hp3.below hd4
  have hb4 := hb3.trans (hd4.mono hb3.size)
  obtain ⟨uq, uc, rfl, -⟩ := hu.rd
  have hs16 := startL_length OK.out
  clear hp3 hd4 hu
  generalize hm : (startL x).length = m at hs16 HA OKN ⊢
  clear hm
  by_cases c2 : ss.length = m
  case neg =>
    have q2 : ((ss.length : Int) != (m : Int)) = true := by rw [bne_iff_ne]; omega
    obtain ⟨rfl, rfl, rfl⟩ := HRV.out false (by rw [HA.out _ _ _ _ (decide_eq_true C1.out) (decide_eq_false c2) rfl rfl]; rfl)
    clear c2
    go_wp2_with fail
    go_ret3
    exact retS_nil hb4
  have q2 : ((ss.length : Int) != (m : Int)) = false := by rw [bne_eq_false_iff_eq]; omega
  have C2 := Lib.hid c2
  clear c2
  go_wp2_with fail
  have hk3 := kAr_le3' K1.out
  have dx : decide (xs.length ≤ 4000) = true := decide_eq_true (by have := C1.out; unfold inN at this; split at this <;> omega)
  have ds : decide (ss.length ≤ 4000) = true := decide_eq_true (by have := C2.out; omega)
  have LX := Lib.hid (l03Ok_any (c := cx) W4 (rx.below hb4))
  rw [dx, Bool.true_and] at LX
  refine LX.out.mono ?_
  rintro e W5 ⟨rfl, hd⟩
  have hd5 : Below W4.heap.size W4 W5 := by first | exact hd | exact hd.below _ | (obtain rfl := hd; exact Below.refl _ _)
  clear hd
  have hp5 := hp4.below hd5
  have hb5 := hb4.trans (hd5.mono hb4.size)
  clear hp4 hd5
  cases c3 : xs.all isSmp
  case false =>
    obtain ⟨rfl, rfl, rfl⟩ := HRV.out false (by rw [HA.out _ _ _ _ (decide_eq_true C1.out) (decide_eq_true C2.out) c3 rfl]; rfl)
    clear c3
    go_wp2_with fail
    go_ret3
    exact retS_nil hb5
  have C3 := Lib.hid c3
  clear c3
  go_wp2_with fail
  have LS := Lib.hid (l03Ok_any (c := cs) W5 (rs.below hb5))
  rw [ds, Bool.true_and] at LS
  clear ds dx
  refine LS.out.mono ?_
  rintro e W6 ⟨rfl, hd⟩
  have hd6 : Below W5.heap.size W5 W6 := by first | exact hd | exact hd.below _ | (obtain rfl := hd; exact Below.refl _ _)
  clear hd
  have hp6 := hp5.below hd6
  have hb6 := hb5.trans (hd6.mono hb5.size)
  clear hp5 hd6
  cases c4 : ss.all isSmp
  case false =>
    obtain ⟨rfl, rfl, rfl⟩ := HRV.out false (by rw [HA.out _ _ _ _ (decide_eq_true C1.out) (decide_eq_true C2.out) C3.out c4]; rfl)
    clear c4
    go_wp2_with fail
    go_ret3
    exact retS_nil hb6
  obtain ⟨rfl, rfl, rfl⟩ := HRV.out true (by rw [HA.out _ _ _ _ (decide_eq_true C1.out) (decide_eq_true C2.out) C3.out c4]; rfl)
  clear c4
  have ok := OKN.out C1.out C2.out C3.out
  have hs16' : ss.length ≤ 16 := by rw [C2.out]; exact hs16
  have F1 := Lib.hid (l06Out_any (ct := ct) (cx := cx) (cs := cs) W6 hp6 (rt.below hb6) (rx.below hb6) (rs.below hb6) ok)
  have F2 := Lib.hid (fun y W7 (hW : Below W6.heap.size W6 W7) => l06Next_any (cx := cx) (cs := cs) y W7 (hp6.below hW) (rx.below (hb6.trans (hW.mono hb6.size))) (rs.below (hb6.trans (hW.mono hb6.size))) hcs hs16' ok)
  obtain ⟨y, hy⟩ : ∃ y, y = outP x tb xs ss := ⟨_, rfl⟩
  rw [← hy] at F1
  have HY := Lib.hid hy
  clear hy
  clear ok OKN OK HRV HA C1 C2 C3 q1 q2 hp6
  go_wp2_with (first | (go_at_call 82; refine F1.out.mono ?_; rintro e W7 ⟨rfl, hd7⟩; have F3 := F2.out y W7 hd7; have hb7 := hb6.trans (hd7.mono hb6.size)) | (go_at_call 83; refine F3.mono ?_; rintro e W8 ⟨z, rfl, hz, hd8⟩) | fail)
  go_ret3
  obtain rfl := HY.out
  exact retS_mk hb7 hz hd8
end Go.Proofs.Ytalomhakmfknjaa
