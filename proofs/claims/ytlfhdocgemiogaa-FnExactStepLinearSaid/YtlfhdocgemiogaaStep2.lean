/-
  StepLinear: contracts of both sides.
-/
import Derived.Test.YtlfhdocgemiogaaStep
namespace Go.Proofs.Ytlfhdocgemiogaa
open Go.ChangeShapes Go.WideShapes Go.ChangeAt Go.RowKit
set_option linter.unusedVariables false

theorem below_drew (w : World) : Below w.heap.size w w.drew := ⟨rfl, rfl, rfl, Nat.le_refl _, fun _ _ => rfl⟩
theorem timesL_length (rows : List (List Int)) (xs : List Int) : (timesL rows xs).length = rows.length := by simp [timesL]
/-- what a step of a linear system asks of its arguments -/
structure StepOk (x : LinearD) (s u : List Int) : Prop where
  n : x.A.length ≤ 24
  k : x.C.length ≤ 4
  b : x.B.length = x.A.length
  d : x.D.length = x.C.length
  ra : ∀ r ∈ x.A, r.length = s.length
  rb : ∀ r ∈ x.B, r.length = u.length
  rc : ∀ r ∈ x.C, r.length = s.length
  rd : ∀ r ∈ x.D, r.length = u.length
set_option maxHeartbeats 8000000 in
theorem l09Step_any {g : Nat} {x : LinearD} {p1 p2 p3 p4 q1 q2 : Option Addr} {c1 c2 c3 c4 d1 d2 : Nat} {s u : List Int} (w : World)
    (ba : Box w g [.int .i64 x.inputs, .slice p1 x.A.length c1, .slice p2 x.B.length c2, .slice p3 x.C.length c3, .slice p4 x.D.length c4] 31) (r1 : RdII w p1 x.A) (r2 : RdII w p2 x.B) (r3 : RdII w p3 x.C) (r4 : RdII w p4 x.D)
    (hs : RdI w q1 s) (hu : RdI w q2 u) (ok : StepOk x s u) :
    Calls Try.prog 62 #[.pointer (some ⟨g, 0, none⟩), .slice q1 s.length d1, .slice q2 u.length d2] w fun e w' => ∃ u0 u1, e = .returned (.tuple #[u0, u1]) ∧ OwnI w.heap.size w' u0 (stepV x.A s x.B u) ∧ OwnI w.heap.size w' u1 (stepV x.C s x.D u) ∧ (∀ b, u0.ownBlock = some b → u1.ownBlock ≠ some b) ∧ Below w.heap.size w w' := by
  have OK := Lib.hid ok
  clear ok
  have k1 : Hid (∀ (W : World), Below w.heap.size w W → Calls Try.prog 74 #[.slice p1 x.A.length c1, .slice q1 s.length d1] W fun e w' => ∃ p c, e = .returned (.slice p x.A.length c) ∧ RdI w' p (timesL x.A s) ∧ Below W.heap.size W w') := fun W hb =>
    (l09Times_any W (r1.below hb) (hs.below hb) (fun r hr => Nat.le_of_eq (OK.out.ra r hr).symm) (by have := OK.out.n; omega)).mono fun e w' ⟨v, he, ho, hw⟩ => by
      obtain ⟨p, c, rfl, hr⟩ := ho.rd
      rw [timesL_length] at he
      exact ⟨p, c, he, hr, hw⟩
  have k2 : Hid (∀ (W : World), Below w.heap.size w W → Calls Try.prog 74 #[.slice p2 x.B.length c2, .slice q2 u.length d2] W fun e w' => ∃ p c, e = .returned (.slice p x.B.length c) ∧ RdI w' p (timesL x.B u) ∧ Below W.heap.size W w') := fun W hb =>
    (l09Times_any W (r2.below hb) (hu.below hb) (fun r hr => Nat.le_of_eq (OK.out.rb r hr).symm) (by have := OK.out.n; have := OK.out.b; omega)).mono fun e w' ⟨v, he, ho, hw⟩ => by
      obtain ⟨p, c, rfl, hr⟩ := ho.rd
      rw [timesL_length] at he
      exact ⟨p, c, he, hr, hw⟩
  have k3 : Hid (∀ (W : World), Below w.heap.size w W → Calls Try.prog 74 #[.slice p3 x.C.length c3, .slice q1 s.length d1] W fun e w' => ∃ p c, e = .returned (.slice p x.C.length c) ∧ RdI w' p (timesL x.C s) ∧ Below W.heap.size W w') := fun W hb =>
    (l09Times_any W (r3.below hb) (hs.below hb) (fun r hr => Nat.le_of_eq (OK.out.rc r hr).symm) (by have := OK.out.k; omega)).mono fun e w' ⟨v, he, ho, hw⟩ => by
      obtain ⟨p, c, rfl, hr⟩ := ho.rd
      rw [timesL_length] at he
      exact ⟨p, c, he, hr, hw⟩
  have k4 : Hid (∀ (W : World), Below w.heap.size w W → Calls Try.prog 74 #[.slice p4 x.D.length c4, .slice q2 u.length d2] W fun e w' => ∃ p c, e = .returned (.slice p x.D.length c) ∧ RdI w' p (timesL x.D u) ∧ Below W.heap.size W w') := fun W hb =>
    (l09Times_any W (r4.below hb) (hu.below hb) (fun r hr => Nat.le_of_eq (OK.out.rd r hr).symm) (by have := OK.out.k; have := OK.out.d; omega)).mono fun e w' ⟨v, he, ho, hw⟩ => by
      obtain ⟨p, c, rfl, hr⟩ := ho.rd
      rw [timesL_length] at he
      exact ⟨p, c, he, hr, hw⟩
  have k5 : Hid (∀ (W : World) p c p' c', RdI W p (timesL x.A s) → RdI W p' (timesL x.B u) → Calls Try.prog 77 #[.slice p x.A.length c, .slice p' x.B.length c'] W fun e w' => ∃ v, e = .returned v ∧ OwnI W.heap.size w' v (stepV x.A s x.B u) ∧ Below W.heap.size W w') := fun W p c p' c' h h' => by
    have := l09Sum_any (c := c) (d := c') W h h' (by rw [timesL_length, timesL_length, OK.out.b]; exact Nat.le_refl _) (by rw [timesL_length, OK.out.b]; have := OK.out.n; omega)
    rw [timesL_length, timesL_length, sumL_times _ _ _ _ OK.out.b] at this
    exact this
  have k6 : Hid (∀ (W : World) p c p' c', RdI W p (timesL x.C s) → RdI W p' (timesL x.D u) → Calls Try.prog 77 #[.slice p x.C.length c, .slice p' x.D.length c'] W fun e w' => ∃ v, e = .returned v ∧ OwnI W.heap.size w' v (stepV x.C s x.D u) ∧ Below W.heap.size W w') := fun W p c p' c' h h' => by
    have := l09Sum_any (c := c) (d := c') W h h' (by rw [timesL_length, timesL_length, OK.out.d]; exact Nat.le_refl _) (by rw [timesL_length, OK.out.d]; have := OK.out.k; omega)
    rw [timesL_length, timesL_length, sumL_times _ _ _ _ OK.out.d] at this
    exact this
  clear r1 r2 r3 r4 hs hu
  go_enter Try.func62, Try.ntmps62
  go_upto_region 1 with fail
  go_cut [8] (fun v wr => OwnI w.heap.size wr v (stepV x.A s x.B u) ∧ Below w.heap.size w wr)
  case first =>
    have z1 := ba.cell 1 rfl
    have z2 := ba.cell 2 rfl
    have hg := ba.lt
    clear ba
    have hcur := below_drew w
    go_region_held3 (fun W => W.cell? ⟨g, 1, none⟩ = some (.slice p1 x.A.length c1) ∧ W.cell? ⟨g, 2, none⟩ = some (.slice p2 x.B.length c2)) (first | go_keep | exact ⟨(hcur.cell (p := ⟨g, 1, none⟩) hg).trans z1, (hcur.cell (p := ⟨g, 2, none⟩) hg).trans z2⟩) (first | (go_at_call_of 74 (Value.slice p1 x.A.length c1); refine (k1.out _ hcur).mono ?_; rintro e F ⟨pa, ca, rfl, ra, hb⟩; (try (have rb := rb.below hb)); have hcur := hcur.trans (hb.mono hcur.size)) | (go_at_call_of 74 (Value.slice p2 x.B.length c2); refine (k2.out _ hcur).mono ?_; rintro e F ⟨pb, cb, rfl, rb, hb⟩; (try (have ra := ra.below hb)); have hcur := hcur.trans (hb.mono hcur.size)) | (go_at_call 77; refine (k5.out _ _ _ _ _ ra rb).mono ?_; rintro e F ⟨vs, rfl, os, hb⟩; have hbs := hcur.size; have hcur := hcur.trans (hb.mono hcur.size)))
    all_goals (go_wp2_with fail; go_meet; exact ⟨os.mono hbs, hcur⟩)
  case rest =>
    obtain ⟨ho, hb⟩ := hcut
    obtain ⟨E1, rfl⟩ : ∃ E, E = wc := ⟨_, rfl⟩
    have ba1 := ba.below hb
    have z3 := ba1.cell 3 rfl
    have z4 := ba1.cell 4 rfl
    have hg := ba1.lt
    have hsz := hb.size
    clear ba ba1
    have hcur := below_drew E1
    have hall : Below w.heap.size w E1.drew := hb.trans (hcur.mono hsz)
    go_upto_region 2 with fail
    go_region_held3 (fun W => W.cell? ⟨g, 3, none⟩ = some (.slice p3 x.C.length c3) ∧ W.cell? ⟨g, 4, none⟩ = some (.slice p4 x.D.length c4)) (first | go_keep | exact ⟨(hcur.cell (p := ⟨g, 3, none⟩) hg).trans z3, (hcur.cell (p := ⟨g, 4, none⟩) hg).trans z4⟩) (first | (go_at_call_of 74 (Value.slice p3 x.C.length c3); refine (k3.out _ hall).mono ?_; rintro e F ⟨pa, ca, rfl, ra, hb'⟩; (try (have rb := rb.below hb')); have hcur := hcur.trans (hb'.mono hcur.size); have hall := hall.trans (hb'.mono hall.size)) | (go_at_call_of 74 (Value.slice p4 x.D.length c4); refine (k4.out _ hall).mono ?_; rintro e F ⟨pb, cb, rfl, rb, hb'⟩; (try (have ra := ra.below hb')); have hcur := hcur.trans (hb'.mono hcur.size); have hall := hall.trans (hb'.mono hall.size)) | (go_at_call 77; refine (k6.out _ _ _ _ _ ra rb).mono ?_; rintro e F ⟨vs, rfl, os, hb'⟩; have hbs := hcur.size; have hbt := hall.size; have hcur := hcur.trans (hb'.mono hcur.size); have hall := hall.trans (hb'.mono hall.size)))
    all_goals (go_wp2_with fail; go_ret2; exact ⟨_, _, rfl, ho.below hcur, os.mono hbt, fun b hb1 hb2 => by have := (ho.lt hb1).2; have := (os.lt hb2).1; omega, hall⟩)
theorem OwnLI.nilu (B : Nat) (w : World) : OwnLI B w (.slice none 0 0) [] [.slice none 0 0] := ⟨OwnI.nil _ _, rfl⟩
def stOk (x : LinearD) (s u : List Int) : Bool := ((decide ((s.length : Int) = x.A.length) && decide ((u.length : Int) = x.inputs)) && s.all isSmp) && u.all isSmp
def stepCode (x : LinearD) (s u : List Int) : Int := if okLinB x then (if stOk x s u then 0 else 2) else 1
def stepA (x : LinearD) (s u : List Int) : List Int := if okLinB x && stOk x s u then stepV x.A s x.B u else []
def stepC (x : LinearD) (s u : List Int) : List Int := if okLinB x && stOk x s u then stepV x.C s x.D u else []
theorem stepOk_of {x : LinearD} {s u : List Int} (h1 : okLinB x = true) (h2 : stOk x s u = true) : StepOk x s u := by
  simp only [okLinB_parts, Bool.and_eq_true, decide_eq_true_eq] at h1
  simp only [stOk, Bool.and_eq_true, decide_eq_true_eq] at h2
  obtain ⟨⟨⟨⟨⟨⟨hA, hi⟩, hC⟩, tA⟩, tB⟩, tC⟩, tD⟩ := h1
  obtain ⟨⟨⟨hs, hu⟩, -⟩, -⟩ := h2
  rw [tabB_iff] at tA tB tC tD
  exact ⟨by omega, by omega, by omega, by omega, fun r hr => by have := (tA.2 r hr).1; omega, fun r hr => by have := (tB.2 r hr).1; omega, fun r hr => by have := (tC.2 r hr).1; omega, fun r hr => by have := (tD.2 r hr).1; omega⟩
theorem stepV_length (rows : List (List Int)) (xs : List Int) (others : List (List Int)) (ys : List Int) : (stepV rows xs others ys).length = rows.length := by simp [stepV]
theorem stepA_small (x : LinearD) (s u : List Int) : cntI (stepA x s u) ≤ 1048576 := by
  unfold cntI stepA
  split
  · rename_i h
    rw [Bool.and_eq_true] at h
    have := (stepOk_of h.1 h.2).n
    rw [stepV_length]; omega
  · simp
theorem stepC_small (x : LinearD) (s u : List Int) : cntI (stepC x s u) ≤ 1048576 := by
  unfold cntI stepC
  split
  · rename_i h
    rw [Bool.and_eq_true] at h
    have := (stepOk_of h.1 h.2).k
    rw [stepV_length]; omega
  · simp
/-- two lists of the call's own, and a code -/
def RetI2 (w : World) (xs ys : List Int) (code : Int) (e : Ending) (w' : World) : Prop :=
  ∃ u0 u1 L0 L1, e = .returned (.tuple #[u0, u1, .int .i64 code]) ∧ OwnLI w.heap.size w' u0 xs L0 ∧ OwnLI w.heap.size w' u1 ys L1 ∧ Dis (L0 ++ L1) ∧ Below w.heap.size w w'
theorem dis_two {u v : Value} (h : ∀ b, u.ownBlock = some b → v.ownBlock ≠ some b) : Dis ([u] ++ [v]) :=
  List.pairwise_append.2 ⟨List.pairwise_singleton _ _, List.pairwise_singleton _ _, fun a ha c hc b hb => by
    simp only [List.mem_singleton] at ha hc
    subst ha hc
    exact h b hb⟩
theorem retI2_nil {w w' : World} {code : Int} (hb : Below w.heap.size w w') : RetI2 w [] [] code (.returned (.tuple #[.slice none 0 0, .slice none 0 0, .int .i64 code])) w' :=
  ⟨_, _, _, _, rfl, OwnLI.nilu _ _, OwnLI.nilu _ _, dis_two (u := .slice none 0 0) (v := .slice none 0 0) (fun b hb => by simp [Value.ownBlock] at hb), hb⟩
set_option maxHeartbeats 4000000 in
theorem specStepLinear_v {v v1 v2 : Value} {x : LinearD} {s u : List Int} (w : World) (h : VLinear w v x) (h1 : VI w v1 s) (h2 : VI w v2 u) :
    Calls Try.prog 34 #[v, v1, v2] w (RetI2 w (stepA x s u) (stepC x s u) (stepCode x s u)) := by
  obtain ⟨p1, c1, p2, c2, p3, c3, p4, c4, rfl, r1, r2, r3, r4⟩ := h
  obtain ⟨q1, d1, rfl, s1⟩ := h1
  obtain ⟨q2, d2, rfl, s2⟩ := h2
  have hl1 := s1.len
  have hl2 := s2.len
  have hl3 := r1.len
  unfold maxLen at hl1 hl2 hl3
  have hB0 : Below w.heap.size w (w.alloc (.cells #[.int .i64 x.inputs, .slice p1 x.A.length c1, .slice p2 x.B.length c2, .slice p3 x.C.length c3, .slice p4 x.D.length c4] 31)) := (Below.refl _ _).alloc (Nat.le_refl _) _
  have ba0 := Box.new w [.int .i64 x.inputs, .slice p1 x.A.length c1, .slice p2 x.B.length c2, .slice p3 x.C.length c3, .slice p4 x.D.length c4] 31
  have HRES : Hid (∀ b1 b2 : Bool, okLinB x = b1 → stOk x s u = b2 → stepA x s u = (if b1 && b2 then stepV x.A s x.B u else []) ∧ stepC x s u = (if b1 && b2 then stepV x.C s x.D u else []) ∧ stepCode x s u = if b1 then (if b2 then 0 else 2) else 1) := by
    intro b1 b2 e1 e2
    unfold stepA stepC stepCode
    rw [e1, e2]
    exact ⟨rfl, rfl, rfl⟩
  generalize hxa : stepA x s u = XA at HRES ⊢
  generalize hxc : stepC x s u = XC at HRES ⊢
  generalize hxk : stepCode x s u = XK at HRES ⊢
  clear hxa hxc hxk
  go_enter Try.func34, Try.ntmps34
  go_wp2_with fail
  refine (l09Ok_v _ ba0 (r1.below hB0) (r2.below hB0) (r3.below hB0) (r4.below hB0)).mono ?_
  rintro e F1 ⟨rfl, hd⟩
  have hb1 := hB0.trans (hd.below _)
  have ba1 := ba0.below (hd.below _)
  clear hd ba0
  cases hok : okLinB x
  case false =>
    obtain ⟨rfl, rfl, rfl⟩ := HRES.out _ (stOk x s u) hok rfl
    go_wp2_with fail
    go_ret3
    exact retI2_nil hb1
  have z0 := ba1.cell 0 rfl
  have z1 := ba1.cell 1 rfl
  have t1 := s1.below hb1
  have t2 := s2.below hb1
  have HST : Hid (∀ b1 b2 b3 b4 : Bool, decide ((s.length : Int) = x.A.length) = b1 → decide ((u.length : Int) = x.inputs) = b2 → s.all isSmp = b3 → u.all isSmp = b4 → stOk x s u = (((b1 && b2) && b3) && b4)) := by
    intro b1 b2 b3 b4 e1 e2 e3 e4
    unfold stOk
    rw [e1, e2, e3, e4]
  by_cases e1 : (s.length : Int) = x.A.length
  case neg =>
    have n1 : ((s.length : Int) != (x.A.length : Int)) = true := by rw [bne_iff_ne]; exact e1
    obtain ⟨rfl, rfl, rfl⟩ := HRES.out _ _ hok (HST.out _ _ _ _ (decide_eq_false e1) rfl rfl rfl)
    go_wp2_with fail
    go_ret3
    exact retI2_nil hb1
  have n1 : ((s.length : Int) != (x.A.length : Int)) = false := by rw [bne_eq_false_iff_eq]; exact e1
  have E1 := Lib.hid e1
  clear e1
  by_cases e2 : (u.length : Int) = x.inputs
  case neg =>
    have n2 : ((u.length : Int) != x.inputs) = true := by rw [bne_iff_ne]; exact e2
    obtain ⟨rfl, rfl, rfl⟩ := HRES.out _ _ hok (HST.out _ _ _ _ (decide_eq_true E1.out) (decide_eq_false e2) rfl rfl)
    go_wp2_with fail
    go_ret3
    exact retI2_nil hb1
  have n2 : ((u.length : Int) != x.inputs) = false := by rw [bne_eq_false_iff_eq]; exact e2
  have E2 := Lib.hid e2
  clear e2
  cases e3 : s.all isSmp
  case false =>
    obtain ⟨rfl, rfl, rfl⟩ := HRES.out _ _ hok (HST.out _ _ _ _ (decide_eq_true E1.out) (decide_eq_true E2.out) e3 rfl)
    go_wp2_with (go_at_call 61; refine (l04Samples_any _ t1).mono ?_; rintro e w' ⟨rfl, rfl⟩)
    go_ret3
    exact retI2_nil hb1
  cases e4 : u.all isSmp
  case false =>
    obtain ⟨rfl, rfl, rfl⟩ := HRES.out _ _ hok (HST.out _ _ _ _ (decide_eq_true E1.out) (decide_eq_true E2.out) e3 e4)
    go_wp2_with (first | (go_at_call_of 61 (Value.slice q1 s.length d1); refine (l04Samples_any _ t1).mono ?_; rintro e w' ⟨rfl, rfl⟩) | (go_at_call 61; refine (l04Samples_any _ t2).mono ?_; rintro e w' ⟨rfl, rfl⟩))
    go_ret3
    exact retI2_nil hb1
  have hst := HST.out _ _ _ _ (decide_eq_true E1.out) (decide_eq_true E2.out) e3 e4
  obtain ⟨rfl, rfl, rfl⟩ := HRES.out _ _ hok hst
  have OK := Lib.hid (stepOk_of hok hst)
  clear hst hok HST HRES
  go_wp2_with (first | (go_at_call_of 61 (Value.slice q1 s.length d1); refine (l04Samples_any _ t1).mono ?_; rintro e w' ⟨rfl, rfl⟩) | (go_at_call 61; refine (l04Samples_any _ t2).mono ?_; rintro e w' ⟨rfl, rfl⟩))
  refine (l09Step_any _ ba1 (r1.below hb1) (r2.below hb1) (r3.below hb1) (r4.below hb1) t1 t2 OK.out).mono ?_
  rintro e F2 ⟨u0, u1, rfl, o0, o1, hd, hb2⟩
  have HD := Lib.hid hd
  clear hd
  go_wp2_with fail
  go_ret3
  exact ⟨_, _, _, _, rfl, ⟨o0.mono hb1.size, rfl⟩, ⟨o1.mono hb1.size, rfl⟩, dis_two HD.out, hb1.trans (hb2.mono hb1.size)⟩
set_option maxHeartbeats 4000000 in
theorem implStepLinear_v {v v1 v2 : Value} {x : LinearD} {s u : List Int} (w : World) (h : VLinear w v x) (h1 : VI w v1 s) (h2 : VI w v2 u) :
    Calls Try.prog 36 #[v, v1, v2] w (RetI2 w (stepA x s u) (stepC x s u) (stepCode x s u)) := by
  obtain ⟨p1, c1, p2, c2, p3, c3, p4, c4, rfl, r1, r2, r3, r4⟩ := h
  obtain ⟨q1, d1, rfl, s1⟩ := h1
  obtain ⟨q2, d2, rfl, s2⟩ := h2
  have hl1 := s1.len
  have hl2 := s2.len
  have hl3 := r1.len
  unfold maxLen at hl1 hl2 hl3
  have hB0 : Below w.heap.size w (w.alloc (.cells #[.int .i64 x.inputs, .slice p1 x.A.length c1, .slice p2 x.B.length c2, .slice p3 x.C.length c3, .slice p4 x.D.length c4] 31)) := (Below.refl _ _).alloc (Nat.le_refl _) _
  have ba0 := Box.new w [.int .i64 x.inputs, .slice p1 x.A.length c1, .slice p2 x.B.length c2, .slice p3 x.C.length c3, .slice p4 x.D.length c4] 31
  have HRES : Hid (∀ b1 b2 : Bool, okLinB x = b1 → stOk x s u = b2 → stepA x s u = (if b1 && b2 then stepV x.A s x.B u else []) ∧ stepC x s u = (if b1 && b2 then stepV x.C s x.D u else []) ∧ stepCode x s u = if b1 then (if b2 then 0 else 2) else 1) := by
    intro b1 b2 e1 e2
    unfold stepA stepC stepCode
    rw [e1, e2]
    exact ⟨rfl, rfl, rfl⟩
  generalize hxa : stepA x s u = XA at HRES ⊢
  generalize hxc : stepC x s u = XC at HRES ⊢
  generalize hxk : stepCode x s u = XK at HRES ⊢
  clear hxa hxc hxk
  have v1' : VLinear (w.alloc (.cells #[.int .i64 x.inputs, .slice p1 x.A.length c1, .slice p2 x.B.length c2, .slice p3 x.C.length c3, .slice p4 x.D.length c4] 31)) (.agg #[.int .i64 x.inputs, .slice p1 x.A.length c1, .slice p2 x.B.length c2, .slice p3 x.C.length c3, .slice p4 x.D.length c4]) x := ⟨p1, c1, p2, c2, p3, c3, p4, c4, rfl, r1.below hB0, r2.below hB0, r3.below hB0, r4.below hB0⟩
  go_enter Try.func36, Try.ntmps36
  go_wp2_with fail
  refine (implValidLinear_v _ v1').mono ?_
  rintro e F1 ⟨rfl, hd⟩
  have hb1 := hB0.trans (hd.mono hB0.size)
  have ba1 := ba0.below hd
  clear hd ba0 v1'
  cases hok : okLinB x
  case false =>
    obtain ⟨rfl, rfl, rfl⟩ := HRES.out _ (stOk x s u) hok rfl
    go_wp2_with fail
    go_ret3
    exact retI2_nil hb1
  have z0 := ba1.cell 0 rfl
  have z1 := ba1.cell 1 rfl
  have t1 := s1.below hb1
  have t2 := s2.below hb1
  have hmx : u.length ≤ maxLen := hl2
  have SZ : Hid (∀ m, Calls Try.prog 63 #[.slice q2 u.length d2] (F1.drewN m) fun e w' => e = .returned (.int .i64 u.length) ∧ w' = F1.drewN m) := fun m => (sizeI_any _ _ _ _ hmx).mono fun e w' h => ⟨h.1, h.2.symm⟩
  have A1 : Hid (∀ (m : Nat) (b : Bool), s.all isSmp = b → Calls Try.prog 64 #[.slice q1 s.length d1] (F1.drewN m) fun e w' => e = .returned (.bool b) ∧ w' = F1.drewN m) := fun m b hb => (areSamples_any _ (t1.drewN m)).mono fun e w' h => ⟨by rw [h.1, hb], h.2.symm⟩
  have A2 : Hid (∀ (m : Nat) (b : Bool), u.all isSmp = b → Calls Try.prog 64 #[.slice q2 u.length d2] (F1.drewN m) fun e w' => e = .returned (.bool b) ∧ w' = F1.drewN m) := fun m b hb => (areSamples_any _ (t2.drewN m)).mono fun e w' h => ⟨by rw [h.1, hb], h.2.symm⟩
  have HST : Hid (∀ b1 b2 b3 b4 : Bool, decide ((s.length : Int) = x.A.length) = b1 → decide ((u.length : Int) = x.inputs) = b2 → s.all isSmp = b3 → u.all isSmp = b4 → stOk x s u = (((b1 && b2) && b3) && b4)) := by
    intro b1 b2 b3 b4 e1 e2 e3 e4
    unfold stOk
    rw [e1, e2, e3, e4]
  clear hmx
  go_wp2_with fail
  by_cases e1 : (s.length : Int) = x.A.length
  case neg =>
    have n1 : ((s.length : Int) != (x.A.length : Int)) = true := by rw [bne_iff_ne]; exact e1
    obtain ⟨rfl, rfl, rfl⟩ := HRES.out _ _ hok (HST.out _ _ _ _ (decide_eq_false e1) rfl rfl rfl)
    go_quiet (fail)
    go_wp2_with fail
    go_ret3
    exact retI2_nil (below_drewN hb1 _)
  have n1 : ((s.length : Int) != (x.A.length : Int)) = false := by rw [bne_eq_false_iff_eq]; exact e1
  have E1 := Lib.hid e1
  clear e1
  by_cases e2 : (u.length : Int) = x.inputs
  case neg =>
    have n2 : ((u.length : Int) != x.inputs) = true := by rw [bne_iff_ne]; exact e2
    obtain ⟨rfl, rfl, rfl⟩ := HRES.out _ _ hok (HST.out _ _ _ _ (decide_eq_true E1.out) (decide_eq_false e2) rfl rfl)
    go_quiet ((go_at_call 63; exact Calls.quiet_of_same (SZ.out _)))
    go_wp2_with fail
    go_ret3
    exact retI2_nil (below_drewN hb1 _)
  have n2 : ((u.length : Int) != x.inputs) = false := by rw [bne_eq_false_iff_eq]; exact e2
  have E2 := Lib.hid e2
  clear e2
  cases e3 : s.all isSmp
  case false =>
    obtain ⟨rfl, rfl, rfl⟩ := HRES.out _ _ hok (HST.out _ _ _ _ (decide_eq_true E1.out) (decide_eq_true E2.out) e3 rfl)
    go_quiet ((first | (go_at_call 63; exact Calls.quiet_of_same (SZ.out _)) | (go_at_call 64; exact Calls.quiet_of_same (A1.out _ _ e3))))
    go_wp2_with fail
    go_ret3
    exact retI2_nil (below_drewN hb1 _)
  cases e4 : u.all isSmp
  case false =>
    obtain ⟨rfl, rfl, rfl⟩ := HRES.out _ _ hok (HST.out _ _ _ _ (decide_eq_true E1.out) (decide_eq_true E2.out) e3 e4)
    go_quiet ((first | (go_at_call 63; exact Calls.quiet_of_same (SZ.out _)) | (go_at_call_of 64 (Value.slice q1 s.length d1); exact Calls.quiet_of_same (A1.out _ _ e3)) | (go_at_call 64; exact Calls.quiet_of_same (A2.out _ _ e4))))
    go_wp2_with fail
    go_ret3
    exact retI2_nil (below_drewN hb1 _)
  have hst := HST.out _ _ _ _ (decide_eq_true E1.out) (decide_eq_true E2.out) e3 e4
  obtain ⟨rfl, rfl, rfl⟩ := HRES.out _ _ hok hst
  have OK := Lib.hid (stepOk_of hok hst)
  clear hst hok HST HRES
  go_quiet ((first | (go_at_call 63; exact Calls.quiet_of_same (SZ.out _)) | (go_at_call_of 64 (Value.slice q1 s.length d1); exact Calls.quiet_of_same (A1.out _ _ e3)) | (go_at_call 64; exact Calls.quiet_of_same (A2.out _ _ e4))))
  have ba2 := ba1.below (below_drewN (Below.refl _ _) nq)
  have hb2 := below_drewN hb1 nq
  clear z0 z1 ba1 t1 t2 SZ A1 A2 n1 n2 e3 e4
  generalize F1.drewN nq = F2 at ba2 hb2 ⊢
  have k1 : Hid (∀ W, Below w.heap.size w W → Calls Try.prog 65 #[.slice p1 x.A.length c1, .slice q1 s.length d1, .slice p2 x.B.length c2, .slice q2 u.length d2] W fun e w' => ∃ v, e = .returned v ∧ OwnI W.heap.size w' v (stepV x.A s x.B u) ∧ Below W.heap.size W w') := fun W hb =>
    applied_any W (r1.below hb) (s1.below hb) (r2.below hb) (s2.below hb) OK.out.ra OK.out.rb OK.out.b (by have := OK.out.n; omega)
  have k2 : Hid (∀ W, Below w.heap.size w W → Calls Try.prog 65 #[.slice p3 x.C.length c3, .slice q1 s.length d1, .slice p4 x.D.length c4, .slice q2 u.length d2] W fun e w' => ∃ v, e = .returned v ∧ OwnI W.heap.size w' v (stepV x.C s x.D u) ∧ Below W.heap.size W w') := fun W hb =>
    applied_any W (r3.below hb) (s1.below hb) (r4.below hb) (s2.below hb) OK.out.rc OK.out.rd OK.out.d (by have := OK.out.k; omega)
  have z1 := ba2.cell 1 rfl
  have z2 := ba2.cell 2 rfl
  have z3 := ba2.cell 3 rfl
  have z4 := ba2.cell 4 rfl
  have hg := ba2.lt
  have hcur := below_drew F2
  have hall : Below w.heap.size w F2.drew := hb2.trans (hcur.mono hb2.size)
  clear ba2 r1 r2 r3 r4 s1 s2 hB0
  go_wp2_with fail
  go_region_held3 (fun W => W.cell? ⟨w.heap.size, 1, none⟩ = some (.slice p1 x.A.length c1) ∧ W.cell? ⟨w.heap.size, 2, none⟩ = some (.slice p2 x.B.length c2) ∧ W.cell? ⟨w.heap.size, 3, none⟩ = some (.slice p3 x.C.length c3) ∧ W.cell? ⟨w.heap.size, 4, none⟩ = some (.slice p4 x.D.length c4)) (first | go_keep | exact ⟨(hcur.cell (p := ⟨w.heap.size, 1, none⟩) hg).trans z1, (hcur.cell (p := ⟨w.heap.size, 2, none⟩) hg).trans z2, (hcur.cell (p := ⟨w.heap.size, 3, none⟩) hg).trans z3, (hcur.cell (p := ⟨w.heap.size, 4, none⟩) hg).trans z4⟩) (first | (go_at_call_of 65 (Value.slice p1 x.A.length c1); refine (k1.out _ hall).mono ?_; rintro e F ⟨v1, rfl, o1, hb'⟩; have m1 := hall.size; have L1 : Hid (∀ b, v1.ownBlock = some b → b < F.heap.size) := fun b hb => (o1.lt hb).2; (try (have o2 := o2.below hb')); have hcur := hcur.trans (hb'.mono hcur.size); have hall := hall.trans (hb'.mono hall.size)) | (go_at_call_of 65 (Value.slice p3 x.C.length c3); refine (k2.out _ hall).mono ?_; rintro e F ⟨v2, rfl, o2, hb'⟩; have m2 := hall.size; have L2 : Hid (∀ b, v2.ownBlock = some b → b < F.heap.size) := fun b hb => (o2.lt hb).2; (try (have o1 := o1.below hb')); have hcur := hcur.trans (hb'.mono hcur.size); have hall := hall.trans (hb'.mono hall.size)))
  all_goals (go_wp2_with fail; go_ret3)
  all_goals exact ⟨_, _, _, _, rfl, ⟨o1.mono m1, rfl⟩, ⟨o2.mono m2, rfl⟩, dis_two (fun b h1 h2 => by have := L1.out b h1; have := L2.out b h2; have := (o1.lt h1).1; have := (o2.lt h2).1; omega), hall⟩
end Go.Proofs.Ytlfhdocgemiogaa
