/-
  The next state of a node: the reference's function, kind by kind; all kinds.
-/
import Derived.Test.YtalomhakmfknjaaOutA
import Derived.Test.YtalomhakmfknjaaCopy
import Derived.Deep.RegionLaw
namespace Go.Proofs.Ytalomhakmfknjaa
open Go.ChangeShapes Go.WideShapes Go.ChangeAt Go.RowKit Go.Sort
set_option linter.unusedVariables false

theorem bdrew (w : World) : Below w.heap.size w w.drew := ⟨rfl, rfl, rfl, Nat.le_refl _, fun _ _ => rfl⟩
theorem Below.drewR {B : Nat} {a w : World} (h : Below B a w) : Below B a w.drew := ⟨h.os, h.tape, h.output, h.size, h.block⟩
theorem RdI.tail {w : World} {b o : Nat} {xs : List Int} (h : RdI w (some ⟨b, o, none⟩) xs) : RdI w (some ⟨b, o + 1, none⟩) (xs.drop 1) := by
  have hl := h.len
  refine ⟨by rw [List.length_drop]; omega, ?_⟩
  rcases h.cells with rfl | ⟨b', o', e, hc⟩
  · exact .inl rfl
  · simp only [Option.some.injEq, Addr.mk.injEq, and_true] at e
    obtain ⟨rfl, rfl⟩ := e
    refine .inr ⟨b, o + 1, rfl, fun i hi => ?_⟩
    rw [List.length_drop] at hi
    rw [List.getElem_drop, show o + 1 + i = o + (1 + i) by omega]
    exact hc (1 + i) (by omega)
theorem RdI.tailc {w : World} {b o m k : Nat} {xs : List Int} (h : RdI w (some ⟨b, o, none⟩) xs) (hm : xs.length = m + 1) (hk : m ≤ k) : RdI w (if k = 0 then some ⟨b, o, none⟩ else some ⟨b, o + 1, none⟩) (xs.drop 1) := by
  split
  · have e : xs.drop 1 = [] := List.eq_nil_of_length_eq_zero (by rw [List.length_drop]; omega)
    rw [e]; exact RdI.nil _ _
  · exact h.tail
/-- append of one number that is read somewhere, as one step of a region that draws its order -/
theorem step_append_rd {ops : Array Oper} {o : Oper} {a : Act} {K : Act → World → Prop} {Q : Exit → Act → World → Prop} {E : Prop} {w : World} {y : Int} (hgd : o.guard = none) (s x : Operand)
    (ho : o.op = .call { callee := .builtin .append, args := #[s, x], argTypes := #[24, 24] })
    {B : Nat} {v : Value} {xs : List Int} (hs : a.eval s = v) (hown : OwnI B w v xs) {p : Option Addr} {c : Nat} (hr : RdI w p [y]) (hx : a.eval x = .slice p 1 c) (hlen : xs.length < 17592186044415) (hB : B ≤ w.heap.size)
    (h : ∀ q c w', OwnI B w' (.slice q (xs.length + 1) c) (xs ++ [y]) → w.os = w'.os → w.tape = w'.tape → w.output = w'.output → w.heap.size ≤ w'.heap.size → (∀ k, k < w.heap.size → v.ownBlock ≠ some k → w'.heap[k]? = w.heap[k]?) → K (a.put o.dst (.slice q (xs.length + 1) c)) w') :
    if Region.wanted o (yielded ops a.tmps) = true then Oper.wp Try.prog o a w K Q else E := by
  have hw : Region.wanted o (yielded ops a.tmps) = true := by simp [Region.wanted, hgd]
  rw [if_pos hw]
  obtain ⟨v', w', h1, h2, h3⟩ := run_append_int w o.type hown (c := c) hr (by simp only [List.length_cons, List.length_nil]; omega) hB
  obtain ⟨q, c, rfl, -⟩ := h2.rd
  have e : (xs ++ [y]).length = xs.length + 1 := by simp
  rw [e] at h1 h2
  unfold Oper.wp execOp
  simp only [List.length_cons, List.length_nil] at h1
  simp only [ho, resolve, invoke, builtin, Sem.run_bind, Sem.run_pure, Result.andThen_ok, List.map_toArray, List.map_cons, List.map_nil, hs, hx, h1]
  exact h q c w' h2 h3.os.symm h3.tape.symm h3.output.symm h3.size fun k hk hne => h3.block k hk (fun e => hne e.symm)
theorem below_step {w0 w w' : World} {v : Value} {xs : List Int} (h : Below w0.heap.size w0 w) (hown : OwnI w0.heap.size w v xs) (o1 : w.os = w'.os) (o2 : w.tape = w'.tape) (o3 : w.output = w'.output) (hs : w.heap.size ≤ w'.heap.size)
    (hk : ∀ k, k < w.heap.size → v.ownBlock ≠ some k → w'.heap[k]? = w.heap[k]?) : Below w0.heap.size w0 w' :=
  ⟨o1.symm.trans h.os, o2.symm.trans h.tape, o3.symm.trans h.output, Nat.le_trans h.size hs, fun k hkk => (hk k (Nat.lt_of_lt_of_le hkk h.size) fun e => by have := (hown.lt e).1; omega).trans (h.block k hkk)⟩
set_option maxHeartbeats 4000000 in
set_option maxRecDepth 100000 in
theorem l06Next_6_1 {b o : Nat} {ba oa na ca : Nat} {x0 : Int} {bs os m : Nat} {tl : List Int} {y : Int} (w : World) (c0 : w.cell? ⟨b, o, none⟩ = some (.int .i64 6)) (hx0 : w.cell? ⟨ba, oa, none⟩ = some (.int .i64 x0)) (la : 1 ≤ na) (hr : RdI w (some ⟨bs, os, none⟩) tl) (hm : tl.length = m) (hl : m ≤ 16) :
    Calls Try.prog 83 #[.pointer (some ⟨b, o, none⟩), .slice (some ⟨ba, oa, none⟩) na ca, .slice (some ⟨bs, os, none⟩) (m + 1) (1), .int .i64 y] w fun e w' => ∃ u, e = .returned u ∧ OwnI w.heap.size w' u (tl ++ [x0]) ∧ Below w.heap.size w w' := by
  have K : Hid (∀ W, Below w.heap.size w W → Calls Try.prog 99 #[.slice (some ⟨bs, os, none⟩) m (0)] W fun e w' => ∃ v, e = .returned v ∧ OwnI w.heap.size w' v tl ∧ Below W.heap.size W w' ∧ Below w.heap.size w w') := fun W hW => by
    have h := l00Own_any (c := 0) W (hr.below hW) (by omega)
    rw [hm] at h
    exact h.mono fun e w' ⟨v, h1, h2, h3⟩ => ⟨v, h1, h2.mono hW.size, h3, hW.trans (h3.mono hW.size)⟩
  have g0 : 0 < na := la
  have lt0 := World.block_lt_of_cell? w _ hx0
  have hlen : tl.length < 17592186044415 := by omega
  clear hr hm
  have g1 : (1 : Int) ≤ (m : Int) + 1 := by omega
  go_enter Try.func83, Try.ntmps83
  go_wp2_with fail
  go_region_law (first | (go_simp; go_at_call 99; refine (K.out _ (by repeat (first | exact Below.refl _ _ | assumption | refine Below.alloc ?_ (by first | exact Nat.le_refl _ | omega | (simp; done)) _ | refine Below.drewR ?_))).mono ?_; rintro e W2 ⟨u, rfl, hu, hb2, hb3⟩; obtain ⟨sp, sc, rfl, -⟩ := hu.rd; (first | (have hlit : RdI W2 (some ⟨w.heap.size, 0, none⟩) [x0] := (rdI_one w x0).below hb2) | (have hlit : RdI W2 (some ⟨w.heap.size, 0, none⟩) [x0] := (rdI_one w x0).below (below_drew' hb2)) | skip); have hx0 := (hb3.cell (p := ⟨ba, oa, none⟩) lt0).trans hx0; have hsz := hb3.size) | (refine step_append_one rfl _ _ rfl rfl hu rfl hlen hsz ?_; intro q2 k2 w2 ho2 o1 o2 o3 hs2 hk2) | (refine step_append_rd rfl _ _ rfl rfl hu hlit rfl hlen hsz ?_; intro q2 k2 w2 ho2 o1 o2 o3 hs2 hk2) | fail)
  all_goals (go_wp2_with fail; go_ret; exact ⟨_, rfl, ho2, below_step hb3 hu o1 o2 o3 hs2 hk2⟩)
set_option maxHeartbeats 4000000 in
set_option maxRecDepth 100000 in
theorem l06Next_17_1 {b o : Nat} {va : Value} {bs os m : Nat} {tl : List Int} {y : Int} (w : World) (c0 : w.cell? ⟨b, o, none⟩ = some (.int .i64 17)) (hr : RdI w (some ⟨bs, os, none⟩) tl) (hm : tl.length = m) (hl : m ≤ 16) :
    Calls Try.prog 83 #[.pointer (some ⟨b, o, none⟩), va, .slice (some ⟨bs, os, none⟩) (m + 1) (1), .int .i64 y] w fun e w' => ∃ u, e = .returned u ∧ OwnI w.heap.size w' u (tl ++ [y]) ∧ Below w.heap.size w w' := by
  have K : Hid (Calls Try.prog 99 #[.slice (some ⟨bs, os, none⟩) m (0)] w fun e w' => ∃ v, e = .returned v ∧ OwnI w.heap.size w' v tl ∧ Below w.heap.size w w') := by
    have h := l00Own_any (c := 0) w hr (by omega)
    rw [hm] at h; exact h
  have hlen : tl.length < 17592186044415 := by omega
  clear hr hm
  have g1 : (1 : Int) ≤ (m : Int) + 1 := by omega
  go_enter Try.func83, Try.ntmps83
  go_wp2_with (first | (go_at_call 99; refine K.out.mono ?_; rintro e W2 ⟨u, rfl, hu, hb2⟩; have hsz := hb2.size) | (at_builtin; refine wpList_append_one rfl _ _ rfl rfl hu rfl hb2 hlen hsz (Nat.le_refl _) ?_; intro v' w1 hown1 hbel1 _ _) | fail)
  go_ret
  exact ⟨_, rfl, hown1, hbel1⟩
set_option maxHeartbeats 4000000 in
set_option maxRecDepth 100000 in
theorem l06Next_6_2 {b o : Nat} {ba oa na ca : Nat} {x0 : Int} {bs os m k : Nat} {tl : List Int} {y : Int} (w : World) (c0 : w.cell? ⟨b, o, none⟩ = some (.int .i64 6)) (hx0 : w.cell? ⟨ba, oa, none⟩ = some (.int .i64 x0)) (la : 1 ≤ na) (hr : RdI w (some ⟨bs, os + 1, none⟩) tl) (hm : tl.length = m) (hl : m ≤ 16) :
    Calls Try.prog 83 #[.pointer (some ⟨b, o, none⟩), .slice (some ⟨ba, oa, none⟩) na ca, .slice (some ⟨bs, os, none⟩) (m + 1) (k + 1 + 1), .int .i64 y] w fun e w' => ∃ u, e = .returned u ∧ OwnI w.heap.size w' u (tl ++ [x0]) ∧ Below w.heap.size w w' := by
  have K : Hid (∀ W, Below w.heap.size w W → Calls Try.prog 99 #[.slice (some ⟨bs, os + 1, none⟩) m (k + 1)] W fun e w' => ∃ v, e = .returned v ∧ OwnI w.heap.size w' v tl ∧ Below W.heap.size W w' ∧ Below w.heap.size w w') := fun W hW => by
    have h := l00Own_any (c := k + 1) W (hr.below hW) (by omega)
    rw [hm] at h
    exact h.mono fun e w' ⟨v, h1, h2, h3⟩ => ⟨v, h1, h2.mono hW.size, h3, hW.trans (h3.mono hW.size)⟩
  have g0 : 0 < na := la
  have lt0 := World.block_lt_of_cell? w _ hx0
  have hlen : tl.length < 17592186044415 := by omega
  clear hr hm
  have g1 : (1 : Int) ≤ (m : Int) + 1 := by omega
  go_enter Try.func83, Try.ntmps83
  go_wp2_with fail
  go_region_law (first | (go_simp; go_at_call 99; refine (K.out _ (by repeat (first | exact Below.refl _ _ | assumption | refine Below.alloc ?_ (by first | exact Nat.le_refl _ | omega | (simp; done)) _ | refine Below.drewR ?_))).mono ?_; rintro e W2 ⟨u, rfl, hu, hb2, hb3⟩; obtain ⟨sp, sc, rfl, -⟩ := hu.rd; (first | (have hlit : RdI W2 (some ⟨w.heap.size, 0, none⟩) [x0] := (rdI_one w x0).below hb2) | (have hlit : RdI W2 (some ⟨w.heap.size, 0, none⟩) [x0] := (rdI_one w x0).below (below_drew' hb2)) | skip); have hx0 := (hb3.cell (p := ⟨ba, oa, none⟩) lt0).trans hx0; have hsz := hb3.size) | (refine step_append_one rfl _ _ rfl rfl hu rfl hlen hsz ?_; intro q2 k2 w2 ho2 o1 o2 o3 hs2 hk2) | (refine step_append_rd rfl _ _ rfl rfl hu hlit rfl hlen hsz ?_; intro q2 k2 w2 ho2 o1 o2 o3 hs2 hk2) | fail)
  all_goals (go_wp2_with fail; go_ret; exact ⟨_, rfl, ho2, below_step hb3 hu o1 o2 o3 hs2 hk2⟩)
set_option maxHeartbeats 4000000 in
set_option maxRecDepth 100000 in
theorem l06Next_17_2 {b o : Nat} {va : Value} {bs os m k : Nat} {tl : List Int} {y : Int} (w : World) (c0 : w.cell? ⟨b, o, none⟩ = some (.int .i64 17)) (hr : RdI w (some ⟨bs, os + 1, none⟩) tl) (hm : tl.length = m) (hl : m ≤ 16) :
    Calls Try.prog 83 #[.pointer (some ⟨b, o, none⟩), va, .slice (some ⟨bs, os, none⟩) (m + 1) (k + 1 + 1), .int .i64 y] w fun e w' => ∃ u, e = .returned u ∧ OwnI w.heap.size w' u (tl ++ [y]) ∧ Below w.heap.size w w' := by
  have K : Hid (Calls Try.prog 99 #[.slice (some ⟨bs, os + 1, none⟩) m (k + 1)] w fun e w' => ∃ v, e = .returned v ∧ OwnI w.heap.size w' v tl ∧ Below w.heap.size w w') := by
    have h := l00Own_any (c := k + 1) w hr (by omega)
    rw [hm] at h; exact h
  have hlen : tl.length < 17592186044415 := by omega
  clear hr hm
  have g1 : (1 : Int) ≤ (m : Int) + 1 := by omega
  go_enter Try.func83, Try.ntmps83
  go_wp2_with (first | (go_at_call 99; refine K.out.mono ?_; rintro e W2 ⟨u, rfl, hu, hb2⟩; have hsz := hb2.size) | (at_builtin; refine wpList_append_one rfl _ _ rfl rfl hu rfl hb2 hlen hsz (Nat.le_refl _) ?_; intro v' w1 hown1 hbel1 _ _) | fail)
  go_ret
  exact ⟨_, rfl, hown1, hbel1⟩
set_option maxHeartbeats 4000000 in
set_option maxRecDepth 100000 in
theorem l06Next_7 {b o : Nat} {va : Value} {vs : Value} {y : Int} (w : World) (c0 : w.cell? ⟨b, o, none⟩ = some (.int .i64 7)) :
    Calls Try.prog 83 #[.pointer (some ⟨b, o, none⟩), va, vs, .int .i64 y] w fun e w' => ∃ u, e = .returned u ∧ OwnI w.heap.size w' u ([y]) ∧ Below w.heap.size w w' := by
  go_enter Try.func83, Try.ntmps83
  go_wp2_with fail
  go_ret
  exact ⟨_, rfl, OwnI.lit (B := w.heap.size) _ [y] (by first | exact Nat.le_refl _ | simp) (by simp [maxLen]), by (repeat (first | exact Below.refl _ _ | assumption | refine Below.setCell ?_ (by first | exact Nat.le_refl _ | omega | (simp; done) | (simp; omega)) _ | refine Below.alloc ?_ (by first | exact Nat.le_refl _ | omega | (simp; done) | (simp; omega)) _ | refine below_drewN ?_ _))⟩
set_option maxHeartbeats 4000000 in
set_option maxRecDepth 100000 in
theorem l06Next_16 {b o : Nat} {va : Value} {vs : Value} {y : Int} (w : World) (c0 : w.cell? ⟨b, o, none⟩ = some (.int .i64 16)) :
    Calls Try.prog 83 #[.pointer (some ⟨b, o, none⟩), va, vs, .int .i64 y] w fun e w' => ∃ u, e = .returned u ∧ OwnI w.heap.size w' u ([y]) ∧ Below w.heap.size w w' := by
  go_enter Try.func83, Try.ntmps83
  go_wp2_with fail
  go_ret
  exact ⟨_, rfl, OwnI.lit (B := w.heap.size) _ [y] (by first | exact Nat.le_refl _ | simp) (by simp [maxLen]), by (repeat (first | exact Below.refl _ _ | assumption | refine Below.setCell ?_ (by first | exact Nat.le_refl _ | omega | (simp; done) | (simp; omega)) _ | refine Below.alloc ?_ (by first | exact Nat.le_refl _ | omega | (simp; done) | (simp; omega)) _ | refine below_drewN ?_ _))⟩
set_option maxHeartbeats 4000000 in
set_option maxRecDepth 100000 in
theorem l06Next_8 {b o : Nat} {ba oa na ca : Nat} {x0 : Int} {vs : Value} {y : Int} (w : World) (c0 : w.cell? ⟨b, o, none⟩ = some (.int .i64 8)) (hx0 : w.cell? ⟨ba, oa, none⟩ = some (.int .i64 x0)) (la : 1 ≤ na) :
    Calls Try.prog 83 #[.pointer (some ⟨b, o, none⟩), .slice (some ⟨ba, oa, none⟩) na ca, vs, .int .i64 y] w fun e w' => ∃ u, e = .returned u ∧ OwnI w.heap.size w' u ([x0]) ∧ Below w.heap.size w w' := by
  go_enter Try.func83, Try.ntmps83
  go_wp2_with fail
  go_ret
  exact ⟨_, rfl, OwnI.lit (B := w.heap.size) _ [x0] (by first | exact Nat.le_refl _ | simp) (by simp [maxLen]), by (repeat (first | exact Below.refl _ _ | assumption | refine Below.setCell ?_ (by first | exact Nat.le_refl _ | omega | (simp; done) | (simp; omega)) _ | refine Below.alloc ?_ (by first | exact Nat.le_refl _ | omega | (simp; done) | (simp; omega)) _ | refine below_drewN ?_ _))⟩
set_option maxHeartbeats 4000000 in
set_option maxRecDepth 100000 in
theorem l06Next_12 {b o : Nat} {ba oa na ca : Nat} {x0 : Int} {bs os ns cs : Nat} {s0 : Int} {y : Int} (w : World) (c0 : w.cell? ⟨b, o, none⟩ = some (.int .i64 12)) (hx0 : w.cell? ⟨ba, oa, none⟩ = some (.int .i64 x0)) (la : 1 ≤ na) (hs0 : w.cell? ⟨bs, os, none⟩ = some (.int .i64 s0)) (ls : 1 ≤ ns) :
    Calls Try.prog 83 #[.pointer (some ⟨b, o, none⟩), .slice (some ⟨ba, oa, none⟩) na ca, .slice (some ⟨bs, os, none⟩) ns cs, .int .i64 y] w fun e w' => ∃ u, e = .returned u ∧ OwnI w.heap.size w' u ([smp (s0 + x0)]) ∧ Below w.heap.size w w' := by
  have g0 : 0 < na := la
  have g2 : 0 < ns := ls
  go_enter Try.func83, Try.ntmps83
  go_wp2_with fail
  go_region_law (first | (go_simp; go_at_call 115; refine (l01Add_any _ _ _).mono ?_; rintro e w' ⟨rfl, rfl⟩) | fail)
  all_goals (go_wp2_with fail; go_ret; exact ⟨_, rfl, OwnI.lit (B := w.heap.size) _ [smp (s0 + x0)] (by first | exact Nat.le_refl _ | simp) (by simp [maxLen]), by (repeat (first | exact Below.refl _ _ | assumption | refine Below.setCell ?_ (by first | exact Nat.le_refl _ | omega | (simp; done) | (simp; omega)) _ | refine Below.alloc ?_ (by first | exact Nat.le_refl _ | omega | (simp; done) | (simp; omega)) _ | refine below_drewN ?_ _))⟩)
set_option maxHeartbeats 4000000 in
set_option maxRecDepth 100000 in
theorem l06Next_14 {b o : Nat} {va : Value} {bs os ns cs : Nat} {s0 : Int} {y : Int} (w : World) (c0 : w.cell? ⟨b, o, none⟩ = some (.int .i64 14)) (hs0 : w.cell? ⟨bs, os, none⟩ = some (.int .i64 s0)) (ls : 1 ≤ ns) :
    Calls Try.prog 83 #[.pointer (some ⟨b, o, none⟩), va, .slice (some ⟨bs, os, none⟩) ns cs, .int .i64 y] w fun e w' => ∃ u, e = .returned u ∧ OwnI w.heap.size w' u ([noiseP s0]) ∧ Below w.heap.size w w' := by
  go_enter Try.func83, Try.ntmps83
  go_wp2_with (go_at_call 121; refine (l06Noise_any _ _).mono ?_; rintro e w' ⟨rfl, rfl⟩)
  go_ret
  exact ⟨_, rfl, OwnI.lit (B := w.heap.size) _ [noiseP s0] (by first | exact Nat.le_refl _ | simp) (by simp [maxLen]), by (repeat (first | exact Below.refl _ _ | assumption | refine Below.setCell ?_ (by first | exact Nat.le_refl _ | omega | (simp; done) | (simp; omega)) _ | refine Below.alloc ?_ (by first | exact Nat.le_refl _ | omega | (simp; done) | (simp; omega)) _ | refine below_drewN ?_ _))⟩
set_option maxHeartbeats 4000000 in
set_option maxRecDepth 100000 in
theorem l06Next_1 {b o : Nat} {va : Value} {vs : Value} {y : Int} (w : World) (c0 : w.cell? ⟨b, o, none⟩ = some (.int .i64 1)) :
    Calls Try.prog 83 #[.pointer (some ⟨b, o, none⟩), va, vs, .int .i64 y] w fun e w' => ∃ u, e = .returned u ∧ OwnI w.heap.size w' u ([]) ∧ Below w.heap.size w w' := by
  go_enter Try.func83, Try.ntmps83
  go_wp2_with fail
  go_ret
  exact ⟨_, rfl, OwnI.lit (B := w.heap.size) _ [] (by first | exact Nat.le_refl _ | simp) (by simp [maxLen]), by (repeat (first | exact Below.refl _ _ | assumption | refine Below.setCell ?_ (by first | exact Nat.le_refl _ | omega | (simp; done) | (simp; omega)) _ | refine Below.alloc ?_ (by first | exact Nat.le_refl _ | omega | (simp; done) | (simp; omega)) _ | refine below_drewN ?_ _))⟩
set_option maxHeartbeats 4000000 in
set_option maxRecDepth 100000 in
theorem l06Next_2 {b o : Nat} {va : Value} {vs : Value} {y : Int} (w : World) (c0 : w.cell? ⟨b, o, none⟩ = some (.int .i64 2)) :
    Calls Try.prog 83 #[.pointer (some ⟨b, o, none⟩), va, vs, .int .i64 y] w fun e w' => ∃ u, e = .returned u ∧ OwnI w.heap.size w' u ([]) ∧ Below w.heap.size w w' := by
  go_enter Try.func83, Try.ntmps83
  go_wp2_with fail
  go_ret
  exact ⟨_, rfl, OwnI.lit (B := w.heap.size) _ [] (by first | exact Nat.le_refl _ | simp) (by simp [maxLen]), by (repeat (first | exact Below.refl _ _ | assumption | refine Below.setCell ?_ (by first | exact Nat.le_refl _ | omega | (simp; done) | (simp; omega)) _ | refine Below.alloc ?_ (by first | exact Nat.le_refl _ | omega | (simp; done) | (simp; omega)) _ | refine below_drewN ?_ _))⟩
set_option maxHeartbeats 4000000 in
set_option maxRecDepth 100000 in
theorem l06Next_3 {b o : Nat} {va : Value} {vs : Value} {y : Int} (w : World) (c0 : w.cell? ⟨b, o, none⟩ = some (.int .i64 3)) :
    Calls Try.prog 83 #[.pointer (some ⟨b, o, none⟩), va, vs, .int .i64 y] w fun e w' => ∃ u, e = .returned u ∧ OwnI w.heap.size w' u ([]) ∧ Below w.heap.size w w' := by
  go_enter Try.func83, Try.ntmps83
  go_wp2_with fail
  go_ret
  exact ⟨_, rfl, OwnI.lit (B := w.heap.size) _ [] (by first | exact Nat.le_refl _ | simp) (by simp [maxLen]), by (repeat (first | exact Below.refl _ _ | assumption | refine Below.setCell ?_ (by first | exact Nat.le_refl _ | omega | (simp; done) | (simp; omega)) _ | refine Below.alloc ?_ (by first | exact Nat.le_refl _ | omega | (simp; done) | (simp; omega)) _ | refine below_drewN ?_ _))⟩
set_option maxHeartbeats 4000000 in
set_option maxRecDepth 100000 in
theorem l06Next_4 {b o : Nat} {va : Value} {vs : Value} {y : Int} (w : World) (c0 : w.cell? ⟨b, o, none⟩ = some (.int .i64 4)) :
    Calls Try.prog 83 #[.pointer (some ⟨b, o, none⟩), va, vs, .int .i64 y] w fun e w' => ∃ u, e = .returned u ∧ OwnI w.heap.size w' u ([]) ∧ Below w.heap.size w w' := by
  go_enter Try.func83, Try.ntmps83
  go_wp2_with fail
  go_ret
  exact ⟨_, rfl, OwnI.lit (B := w.heap.size) _ [] (by first | exact Nat.le_refl _ | simp) (by simp [maxLen]), by (repeat (first | exact Below.refl _ _ | assumption | refine Below.setCell ?_ (by first | exact Nat.le_refl _ | omega | (simp; done) | (simp; omega)) _ | refine Below.alloc ?_ (by first | exact Nat.le_refl _ | omega | (simp; done) | (simp; omega)) _ | refine below_drewN ?_ _))⟩
set_option maxHeartbeats 4000000 in
set_option maxRecDepth 100000 in
theorem l06Next_5 {b o : Nat} {va : Value} {vs : Value} {y : Int} (w : World) (c0 : w.cell? ⟨b, o, none⟩ = some (.int .i64 5)) :
    Calls Try.prog 83 #[.pointer (some ⟨b, o, none⟩), va, vs, .int .i64 y] w fun e w' => ∃ u, e = .returned u ∧ OwnI w.heap.size w' u ([]) ∧ Below w.heap.size w w' := by
  go_enter Try.func83, Try.ntmps83
  go_wp2_with fail
  go_ret
  exact ⟨_, rfl, OwnI.lit (B := w.heap.size) _ [] (by first | exact Nat.le_refl _ | simp) (by simp [maxLen]), by (repeat (first | exact Below.refl _ _ | assumption | refine Below.setCell ?_ (by first | exact Nat.le_refl _ | omega | (simp; done) | (simp; omega)) _ | refine Below.alloc ?_ (by first | exact Nat.le_refl _ | omega | (simp; done) | (simp; omega)) _ | refine below_drewN ?_ _))⟩
set_option maxHeartbeats 4000000 in
set_option maxRecDepth 100000 in
theorem l06Next_9 {b o : Nat} {va : Value} {vs : Value} {y : Int} (w : World) (c0 : w.cell? ⟨b, o, none⟩ = some (.int .i64 9)) :
    Calls Try.prog 83 #[.pointer (some ⟨b, o, none⟩), va, vs, .int .i64 y] w fun e w' => ∃ u, e = .returned u ∧ OwnI w.heap.size w' u ([]) ∧ Below w.heap.size w w' := by
  go_enter Try.func83, Try.ntmps83
  go_wp2_with fail
  go_ret
  exact ⟨_, rfl, OwnI.lit (B := w.heap.size) _ [] (by first | exact Nat.le_refl _ | simp) (by simp [maxLen]), by (repeat (first | exact Below.refl _ _ | assumption | refine Below.setCell ?_ (by first | exact Nat.le_refl _ | omega | (simp; done) | (simp; omega)) _ | refine Below.alloc ?_ (by first | exact Nat.le_refl _ | omega | (simp; done) | (simp; omega)) _ | refine below_drewN ?_ _))⟩
set_option maxHeartbeats 4000000 in
set_option maxRecDepth 100000 in
theorem l06Next_10 {b o : Nat} {va : Value} {vs : Value} {y : Int} (w : World) (c0 : w.cell? ⟨b, o, none⟩ = some (.int .i64 10)) :
    Calls Try.prog 83 #[.pointer (some ⟨b, o, none⟩), va, vs, .int .i64 y] w fun e w' => ∃ u, e = .returned u ∧ OwnI w.heap.size w' u ([]) ∧ Below w.heap.size w w' := by
  go_enter Try.func83, Try.ntmps83
  go_wp2_with fail
  go_ret
  exact ⟨_, rfl, OwnI.lit (B := w.heap.size) _ [] (by first | exact Nat.le_refl _ | simp) (by simp [maxLen]), by (repeat (first | exact Below.refl _ _ | assumption | refine Below.setCell ?_ (by first | exact Nat.le_refl _ | omega | (simp; done) | (simp; omega)) _ | refine Below.alloc ?_ (by first | exact Nat.le_refl _ | omega | (simp; done) | (simp; omega)) _ | refine below_drewN ?_ _))⟩
set_option maxHeartbeats 4000000 in
set_option maxRecDepth 100000 in
theorem l06Next_11 {b o : Nat} {va : Value} {vs : Value} {y : Int} (w : World) (c0 : w.cell? ⟨b, o, none⟩ = some (.int .i64 11)) :
    Calls Try.prog 83 #[.pointer (some ⟨b, o, none⟩), va, vs, .int .i64 y] w fun e w' => ∃ u, e = .returned u ∧ OwnI w.heap.size w' u ([]) ∧ Below w.heap.size w w' := by
  go_enter Try.func83, Try.ntmps83
  go_wp2_with fail
  go_ret
  exact ⟨_, rfl, OwnI.lit (B := w.heap.size) _ [] (by first | exact Nat.le_refl _ | simp) (by simp [maxLen]), by (repeat (first | exact Below.refl _ _ | assumption | refine Below.setCell ?_ (by first | exact Nat.le_refl _ | omega | (simp; done) | (simp; omega)) _ | refine Below.alloc ?_ (by first | exact Nat.le_refl _ | omega | (simp; done) | (simp; omega)) _ | refine below_drewN ?_ _))⟩
set_option maxHeartbeats 4000000 in
set_option maxRecDepth 100000 in
theorem l06Next_13 {b o : Nat} {va : Value} {vs : Value} {y : Int} (w : World) (c0 : w.cell? ⟨b, o, none⟩ = some (.int .i64 13)) :
    Calls Try.prog 83 #[.pointer (some ⟨b, o, none⟩), va, vs, .int .i64 y] w fun e w' => ∃ u, e = .returned u ∧ OwnI w.heap.size w' u ([]) ∧ Below w.heap.size w w' := by
  go_enter Try.func83, Try.ntmps83
  go_wp2_with fail
  go_ret
  exact ⟨_, rfl, OwnI.lit (B := w.heap.size) _ [] (by first | exact Nat.le_refl _ | simp) (by simp [maxLen]), by (repeat (first | exact Below.refl _ _ | assumption | refine Below.setCell ?_ (by first | exact Nat.le_refl _ | omega | (simp; done) | (simp; omega)) _ | refine Below.alloc ?_ (by first | exact Nat.le_refl _ | omega | (simp; done) | (simp; omega)) _ | refine below_drewN ?_ _))⟩
set_option maxHeartbeats 4000000 in
set_option maxRecDepth 100000 in
theorem l06Next_15 {b o : Nat} {va : Value} {vs : Value} {y : Int} (w : World) (c0 : w.cell? ⟨b, o, none⟩ = some (.int .i64 15)) :
    Calls Try.prog 83 #[.pointer (some ⟨b, o, none⟩), va, vs, .int .i64 y] w fun e w' => ∃ u, e = .returned u ∧ OwnI w.heap.size w' u ([]) ∧ Below w.heap.size w w' := by
  go_enter Try.func83, Try.ntmps83
  go_wp2_with fail
  go_ret
  exact ⟨_, rfl, OwnI.lit (B := w.heap.size) _ [] (by first | exact Nat.le_refl _ | simp) (by simp [maxLen]), by (repeat (first | exact Below.refl _ _ | assumption | refine Below.setCell ?_ (by first | exact Nat.le_refl _ | omega | (simp; done) | (simp; omega)) _ | refine Below.alloc ?_ (by first | exact Nat.le_refl _ | omega | (simp; done) | (simp; omega)) _ | refine below_drewN ?_ _))⟩
theorem l06Next_any {b o : Nat} {x : NodeD} {tb : List (List Int)} {xs ss : List Int} {px ps : Option Addr} {cx cs : Nat} (y : Int) (w : World) (h : PNode w b o x) (hx : RdI w px xs) (hs : RdI w ps ss) (hcs : ss.length ≤ cs) (hs16 : ss.length ≤ 16) (ok : OutOk x tb xs ss) :
    Calls Try.prog 83 #[.pointer (some ⟨b, o, none⟩), .slice px xs.length cx, .slice ps ss.length cs, .int .i64 y] w fun e w' => ∃ u, e = .returned u ∧ OwnI w.heap.size w' u (nextP x xs ss y) ∧ Below w.heap.size w w' := by
  obtain ⟨k, A, B, src⟩ := x
  obtain ⟨c0, c1, -, -⟩ := h
  obtain ⟨hk, hn, hst, hsm, hcl, hsh, htb⟩ := ok
  unfold nextP
  simp only at *
  rcases kinds_of hk with rfl | rfl | rfl | rfl | rfl | rfl | rfl | rfl | rfl | rfl | rfl | rfl | rfl | rfl | rfl | rfl | rfl
  · exact l06Next_1 w c0
  · exact l06Next_2 w c0
  · exact l06Next_3 w c0
  · exact l06Next_4 w c0
  · exact l06Next_5 w c0
  · have l : xs.length = 1 := by have : inN ⟨6, A, B, src⟩ = 1 := rfl; omega
    obtain ⟨ba, oa, rfl, -, ha⟩ := hx.at0 (by omega)
    have l2 := hst (by simp)
    obtain ⟨bs, os, rfl, -, h2⟩ := hs.at0 l2
    obtain ⟨m, hm⟩ : ∃ m, ss.length = m + 1 := ⟨ss.length - 1, by omega⟩
    rw [hm]
    have hcs' : cs = 1 ∨ ∃ q, cs = q + 1 + 1 := (Nat.lt_or_ge cs 2).elim (fun h => .inl (by omega)) (fun h => .inr ⟨cs - 2, by omega⟩)
    rcases hcs' with rfl | ⟨q, rfl⟩
    · exact l06Next_6_1 w c0 (ha 0 (by omega)) (by omega) (show RdI w _ (ss.drop 1) from by rw [show ss.drop 1 = [] from List.eq_nil_of_length_eq_zero (by rw [List.length_drop]; omega)]; exact RdI.nil _ _) (by rw [List.length_drop]; omega) (by omega)
    · exact l06Next_6_2 w c0 (ha 0 (by omega)) (by omega) hs.tail (by rw [List.length_drop]; omega) (by omega)
  · exact l06Next_7 w c0
  · have l : xs.length = 1 := by have : inN ⟨8, A, B, src⟩ = 1 := rfl; omega
    obtain ⟨ba, oa, rfl, -, ha⟩ := hx.at0 (by omega)
    exact l06Next_8 w c0 (ha 0 (by omega)) (by omega)
  · exact l06Next_9 w c0
  · exact l06Next_10 w c0
  · exact l06Next_11 w c0
  · have l : xs.length = 1 := by have : inN ⟨12, A, B, src⟩ = 1 := rfl; omega
    obtain ⟨ba, oa, rfl, -, ha⟩ := hx.at0 (by omega)
    have l2 := hst (by simp)
    obtain ⟨bs, os, rfl, -, h2⟩ := hs.at0 l2
    exact l06Next_12 w c0 (ha 0 (by omega)) (by omega) (h2 0 (by omega)) (by omega)
  · exact l06Next_13 w c0
  · have l2 := hst (by simp)
    obtain ⟨bs, os, rfl, -, h2⟩ := hs.at0 l2
    exact l06Next_14 w c0 (h2 0 (by omega)) (by omega)
  · exact l06Next_15 w c0
  · exact l06Next_16 w c0
  · have l2 := hst (by simp)
    obtain ⟨bs, os, rfl, -, h2⟩ := hs.at0 l2
    obtain ⟨m, hm⟩ : ∃ m, ss.length = m + 1 := ⟨ss.length - 1, by omega⟩
    rw [hm]
    have hcs' : cs = 1 ∨ ∃ q, cs = q + 1 + 1 := (Nat.lt_or_ge cs 2).elim (fun h => .inl (by omega)) (fun h => .inr ⟨cs - 2, by omega⟩)
    rcases hcs' with rfl | ⟨q, rfl⟩
    · exact l06Next_17_1 w c0 (show RdI w _ (ss.drop 1) from by rw [show ss.drop 1 = [] from List.eq_nil_of_length_eq_zero (by rw [List.length_drop]; omega)]; exact RdI.nil _ _) (by rw [List.length_drop]; omega) (by omega)
    · exact l06Next_17_2 w c0 hs.tail (by rw [List.length_drop]; omega) (by omega)
end Go.Proofs.Ytalomhakmfknjaa
