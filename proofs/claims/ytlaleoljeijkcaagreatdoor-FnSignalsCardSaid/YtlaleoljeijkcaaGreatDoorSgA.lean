/-
  Signals by the program: sums, differences, multiples, delays, parts, joins, texts.
-/
import Derived.Test.YtlaleoljeijkcaaGreatDoorPolyA
import Derived.Test.YtlaleoljeijkcaaGreatDoorFilJ
import Derived.Test.YtlaleoljeijkcaaGreatDoorTxtX0
namespace Go.Proofs.YtlaleoljeijkcaaGreatDoor
open Go.ChangeShapes Go.WideShapes Go.ChangeAt Go.RowKit
set_option linter.unusedVariables false
set_option linter.unusedSimpArgs false

def sigB (xs : List Int) : Bool := decide (xs.length ≤ 4000) && xs.all isSmp
theorem sigB_iff {xs : List Int} : sigB xs = true ↔ AllS xs ∧ xs.length ≤ 4000 := by
  unfold sigB AllS
  rw [Bool.and_eq_true, decide_eq_true_eq, List.all_eq_true]
  exact ⟨fun h => ⟨h.2, h.1⟩, fun h => ⟨h.2, h.1⟩⟩
theorem isSignal_b {p : Option Addr} {c : Nat} {xs : List Int} (w : World) (h : RdI w p xs) :
    Calls Tryz.prog 20 #[.slice p xs.length c] w fun e w' => e = .returned (.bool (sigB xs)) ∧ w' = w := by
  have hl := h.len
  unfold maxLen at hl
  have HA := Lib.hid (areSamples_any (c := c) w h)
  by_cases h4 : xs.length ≤ 4000
  · have HR : Hid (sigB xs = xs.all isSmp) := by unfold Hid sigB; rw [decide_eq_true h4]; rfl
    generalize xs.all isSmp = b at HA HR
    clear h
    go_enter Tryz.func20, Tryz.ntmps20
    go_wp2_with (go_at_call 36; refine HA.out.mono ?_; rintro e w' ⟨rfl, rfl⟩)
    go_ret
    exact ⟨by rw [HR.out]; rfl, rfl⟩
  · have HR : Hid (sigB xs = false) := by unfold Hid sigB; rw [decide_eq_false h4]; rfl
    clear h HA
    go_enter Tryz.func20, Tryz.ntmps20
    go_wp2_with fail
    go_ret
    exact ⟨by rw [HR.out]; rfl, rfl⟩
theorem addSignals_ok {u v : Value} {a b : List Int} (w : World) (h : RdP w u a) (h' : RdP w v b) (ha : sigB a = true) (hb : sigB b = true) :
    Calls Tryz.prog 6 #[u, v] w fun e w' => ∃ x, e = .returned (.tuple #[x, .int .i64 0]) ∧ OwnI w.heap.size w' x (atl a b 1 (max a.length b.length)) ∧ Below w.heap.size w w' := by
  obtain ⟨p, c, rfl, hr, hc⟩ := h
  obtain ⟨q, d, rfl, hr', hc'⟩ := h'
  have OA := Lib.hid (isSignal_b (c := c) w hr)
  have OB := Lib.hid (isSignal_b (c := d) w hr')
  rw [ha] at OA
  rw [hb] at OB
  have la := (sigB_iff.1 ha).2
  have lb := (sigB_iff.1 hb).2
  have AD := Lib.hid (addTimesF_any (c := c) (d := d) 1 w hr hr' (by omega) (by omega))
  generalize atl a b 1 (max a.length b.length) = R at *
  clear hr hr' ha hb hc hc'
  generalize a.length = m at *
  generalize b.length = n at *
  go_enter Tryz.func6, Tryz.ntmps6
  go_wp2_with (first | (go_at_call_of 20 (Value.slice p m c); refine OA.out.mono ?_; rintro e w' ⟨rfl, rfl⟩) | (go_at_call_of 20 (Value.slice q n d); refine OB.out.mono ?_; rintro e w' ⟨rfl, rfl⟩) | (go_at_call 21; refine AD.out.mono ?_; rintro e w2 ⟨x, rfl, ho, hb2⟩) | fail)
  refine bodyPost_ret (v := .tuple #[x, .int .i64 0]) (by simp [results, Tryz.results6, go_sem, *]) rfl ⟨_, rfl, ho, hb2⟩
theorem addSignals_bad {u v : Value} {a b : List Int} (w : World) (h : RdP w u a) (h' : RdP w v b) (hab : (sigB a && sigB b) = false) :
    Calls Tryz.prog 6 #[u, v] w fun e w' => e = .returned (.tuple #[.slice none 0 0, .int .i64 1]) ∧ w' = w := by
  obtain ⟨p, c, rfl, hr, hc⟩ := h
  obtain ⟨q, d, rfl, hr', hc'⟩ := h'
  have OA := Lib.hid (isSignal_b (c := c) w hr)
  have OB := Lib.hid (isSignal_b (c := d) w hr')
  generalize sigB a = x at *
  generalize sigB b = y at *
  clear hr hr' hc hc'
  generalize a.length = m at *
  generalize b.length = n at *
  cases x with
  | false =>
    clear hab OB
    go_enter Tryz.func6, Tryz.ntmps6
    go_wp2_with (first | (go_at_call_of 20 (Value.slice p m c); refine OA.out.mono ?_; rintro e w' ⟨rfl, rfl⟩) | fail)
    go_ret2
    exact ⟨rfl, rfl⟩
  | true =>
    have : y = false := by simpa using hab
    subst this
    clear hab
    go_enter Tryz.func6, Tryz.ntmps6
    go_wp2_with (first | (go_at_call_of 20 (Value.slice p m c); refine OA.out.mono ?_; rintro e w' ⟨rfl, rfl⟩) | (go_at_call_of 20 (Value.slice q n d); refine OB.out.mono ?_; rintro e w' ⟨rfl, rfl⟩) | fail)
    go_ret2
    exact ⟨rfl, rfl⟩
theorem subSignals_ok {u v : Value} {a b : List Int} (w : World) (h : RdP w u a) (h' : RdP w v b) (ha : sigB a = true) (hb : sigB b = true) :
    Calls Tryz.prog 8 #[u, v] w fun e w' => ∃ x, e = .returned (.tuple #[x, .int .i64 0]) ∧ OwnI w.heap.size w' x (atl a b (-1) (max a.length b.length)) ∧ Below w.heap.size w w' := by
  obtain ⟨p, c, rfl, hr, hc⟩ := h
  obtain ⟨q, d, rfl, hr', hc'⟩ := h'
  have OA := Lib.hid (isSignal_b (c := c) w hr)
  have OB := Lib.hid (isSignal_b (c := d) w hr')
  rw [ha] at OA
  rw [hb] at OB
  have la := (sigB_iff.1 ha).2
  have lb := (sigB_iff.1 hb).2
  have AD := Lib.hid (addTimesF_any (c := c) (d := d) (-1) w hr hr' (by omega) (by omega))
  generalize atl a b (-1) (max a.length b.length) = R at *
  clear hr hr' ha hb hc hc'
  generalize a.length = m at *
  generalize b.length = n at *
  go_enter Tryz.func8, Tryz.ntmps8
  go_wp2_with (first | (go_at_call_of 20 (Value.slice p m c); refine OA.out.mono ?_; rintro e w' ⟨rfl, rfl⟩) | (go_at_call_of 20 (Value.slice q n d); refine OB.out.mono ?_; rintro e w' ⟨rfl, rfl⟩) | (go_at_call 21; refine AD.out.mono ?_; rintro e w2 ⟨x, rfl, ho, hb2⟩) | fail)
  refine bodyPost_ret (v := .tuple #[x, .int .i64 0]) (by simp [results, Tryz.results8, go_sem, *]) rfl ⟨_, rfl, ho, hb2⟩
def scL (a : List Int) (g : Int) : List Int := atl (List.replicate a.length 0) a g a.length
theorem scaleSignal_ok {u : Value} {a : List Int} (g : Int) (w : World) (h : RdP w u a) (ha : sigB a = true) (hg : isSmp g = true) :
    Calls Tryz.prog 10 #[u, .int .i64 g] w fun e w' => ∃ x, e = .returned (.tuple #[x, .int .i64 0]) ∧ OwnI w.heap.size w' x (scL a g) ∧ Below w.heap.size w w' := by
  obtain ⟨p, c, rfl, hr, hc⟩ := h
  have OA := Lib.hid (isSignal_b (c := c) w hr)
  rw [ha] at OA
  have la := (sigB_iff.1 ha).2
  have SZ := Lib.hid (sizeI_any p a.length c w hr.len)
  have IS : Hid (∀ W, Calls Tryz.prog 23 #[.int .i64 g] W fun e w' => e = .returned (.bool true) ∧ W = w') := fun W => by rw [← hg]; exact isSample_any g W
  have ZE := Lib.hid (zerosG_any a.length w (by omega))
  have AD : Hid (∀ W, OwnI w.heap.size W (.slice (some ⟨w.heap.size, 0, none⟩) a.length a.length) (List.replicate a.length 0) → Below w.heap.size w W → Calls Tryz.prog 21 #[.slice (some ⟨w.heap.size, 0, none⟩) a.length a.length, .int .i64 g, .slice p a.length c] W fun e w' => ∃ v, e = .returned v ∧ OwnI W.heap.size w' v (scL a g) ∧ Below W.heap.size W w') := fun W hz hW => by
    have := addTimesF_any (c := a.length) (d := c) g W (hz.rdAt).2 (hr.below hW) (by simp; omega) (by omega)
    simp only [List.length_replicate, Nat.max_self] at this
    exact this
  generalize scL a g = R at *
  clear hr ha hc hg
  generalize List.replicate a.length (0 : Int) = Z at *
  generalize a.length = m at *
  go_enter Tryz.func10, Tryz.ntmps10
  go_wp2_with (first | (go_at_call 20; refine OA.out.mono ?_; rintro e w' ⟨rfl, rfl⟩) | (go_at_call 23; refine (IS.out _).mono ?_; rintro e w' ⟨rfl, rfl⟩) | (go_at_call 25; refine SZ.out.mono ?_; rintro e w' ⟨rfl, rfl⟩) | (go_at_call 24; refine ZE.out.mono ?_; rintro e w1 ⟨rfl, hz, hb1⟩) | (go_at_call 21; refine (AD.out _ hz hb1).mono ?_; rintro e w2 ⟨x, rfl, ho, hb2⟩) | fail)
  refine bodyPost_ret (v := .tuple #[x, .int .i64 0]) (by simp [results, Tryz.results10, go_sem, *]) rfl ⟨_, rfl, ho.mono hb1.size, hb1.trans (hb2.mono hb1.size)⟩
theorem isCountN_true (n : Int) (w : World) (h0 : 0 ≤ n) (hn : n ≤ 4000) :
    Calls Tryz.prog 29 #[.int .i64 n] w fun e w' => e = .returned (.bool true) ∧ w' = w := by
  have WI : Hid (∀ W, Calls Tryz.prog 40 #[.int .i64 n, .int .i64 0, .int .i64 4000] W fun e w' => e = .returned (.bool true) ∧ W = w') := fun W => by
    have := within_any n 0 4000 W
    rwa [inB_true (by omega)] at this
  go_enter Tryz.func29, Tryz.ntmps29
  go_wp2_with (go_at_call 40; refine (WI.out _).mono ?_; rintro e w' ⟨rfl, rfl⟩)
  go_ret
  exact ⟨rfl, rfl⟩
theorem delaySignal_bad {u : Value} {a : List Int} (n : Nat) (w : World) (h : RdP w u a) (ha : sigB a = true) (hn : n ≤ 4000) (hl : 4000 < n + a.length) :
    Calls Tryz.prog 15 #[u, .int .i64 (n : Int)] w fun e w' => e = .returned (.tuple #[.slice none 0 0, .int .i64 5]) ∧ w' = w := by
  obtain ⟨p, c, rfl, hr, hc⟩ := h
  have OA := Lib.hid (isSignal_b (c := c) w hr)
  rw [ha] at OA
  have la := (sigB_iff.1 ha).2
  have SZ := Lib.hid (sizeI_any p a.length c w hr.len)
  have IC := Lib.hid (isCountN_true n w (by omega) (by omega))
  have hl' : (4000 : Int) < (n : Int) + (a.length : Int) := by omega
  clear hr ha hc hl
  generalize a.length = m at *
  go_enter Tryz.func15, Tryz.ntmps15
  go_wp2_with (first | (go_at_call 20; refine OA.out.mono ?_; rintro e w' ⟨rfl, rfl⟩) | (go_at_call 29; refine IC.out.mono ?_; rintro e w' ⟨rfl, rfl⟩) | (go_at_call 25; refine SZ.out.mono ?_; rintro e w' ⟨rfl, rfl⟩) | fail)
  go_ret2
  exact ⟨rfl, rfl⟩
set_option maxRecDepth 100000 in
theorem delaySignal_ok {u : Value} {a : List Int} (n : Nat) (w : World) (h : RdP w u a) (ha : sigB a = true) (hl : n + a.length ≤ 4000) :
    Calls Tryz.prog 15 #[u, .int .i64 (n : Int)] w fun e w' => ∃ x, e = .returned (.tuple #[x, .int .i64 0]) ∧ OwnI w.heap.size w' x (List.replicate n 0 ++ a) ∧ Below w.heap.size w w' := by
  obtain ⟨p, c, rfl, hr, hc⟩ := h
  have OA := Lib.hid (isSignal_b (c := c) w hr)
  rw [ha] at OA
  have SZ := Lib.hid (sizeI_any p a.length c w hr.len)
  have IC := Lib.hid (isCountN_true n w (by omega) (by omega))
  have ZE := Lib.hid (zerosG_any n w (by omega))
  have hl' : ¬ (4000 : Int) < (n : Int) + (a.length : Int) := by omega
  have HLL : Hid ((List.replicate n (0 : Int)).length + a.length ≤ 17592186044415) := by unfold Hid; rw [List.length_replicate]; omega
  have HR := Lib.hid hr
  clear ha hc hr
  go_enter Tryz.func15, Tryz.ntmps15
  go_wp2_with (first | (go_at_call 20; refine OA.out.mono ?_; rintro e w' ⟨rfl, rfl⟩) | (go_at_call 29; refine IC.out.mono ?_; rintro e w' ⟨rfl, rfl⟩) | (go_at_call 25; refine SZ.out.mono ?_; rintro e w' ⟨rfl, rfl⟩) | (go_at_call 24; refine ZE.out.mono ?_; rintro e w1 ⟨rfl, hz, hb1⟩) | (at_builtin; refine wpList_append_int rfl _ _ rfl rfl hz (HR.out.below hb1) rfl rfl HLL.out hb1.size ?_; intro v' w2 hown2 hg2) | fail)
  refine bodyPost_ret (v := .tuple #[v', .int .i64 0]) (by simp [results, Tryz.results15, go_sem, *]) rfl ⟨_, rfl, hown2, below_appended hb1 hz hb1.size hg2⟩
/-- n values of a list from a place on, zeros behind its end -/
def slL (a : List Int) (j n : Nat) : List Int := (List.range n).map fun i => a.getD (j + i) 0
theorem slL_length (a : List Int) (j n : Nat) : (slL a j n).length = n := by simp [slL]
theorem slL_set (a : List Int) (j : Nat) {n k : Nat} (h : k < n) (out : List Int) (ho : slL a j k ++ List.replicate (n - k) 0 = out) :
    slL a j (k + 1) ++ List.replicate (n - (k + 1)) 0 = out.set k (a.getD (j + k) 0) := by
  rw [← ho, List.set_append_right _ _ (by rw [slL_length]; exact Nat.le_refl _), slL_length, Nat.sub_self, show n - k = (n - (k + 1)) + 1 by omega, List.replicate_succ, List.set_cons_zero]
  unfold slL
  rw [List.range_succ, List.map_append, List.append_assoc]
  rfl
set_option maxHeartbeats 800000 in
set_option maxRecDepth 100000 in
theorem slice_any {p : Option Addr} {c : Nat} {a : List Int} (j n : Nat) (w : World) (h : RdI w p a) (hj : j ≤ 4000) (hn : n ≤ 4000) :
    Calls Tryz.prog 30 #[.slice p a.length c, .int .i64 (j : Int), .int .i64 (n : Int)] w fun e w' => ∃ v, e = .returned v ∧ OwnI w.heap.size w' v (slL a j n) ∧ Below w.heap.size w w' := by
  have ZE : Hid (Calls Tryz.prog 24 #[.int .i64 (n : Int)] w fun e w' => e = .returned (.slice (some ⟨w.heap.size, 0, none⟩) n n) ∧ OwnI w.heap.size w' (.slice (some ⟨w.heap.size, 0, none⟩) n n) (List.replicate n 0) ∧ Below w.heap.size w w') := zerosG_any n w (by omega)
  have AT1 : Hid (∀ (W : World) (k : Nat), Below w.heap.size w W → k ≤ 1000000 → Calls Tryz.prog 38 #[.slice p a.length c, .int .i64 (k : Int)] W fun e w' => e = .returned (.int .i64 (a.getD k 0)) ∧ W = w') := fun W k hW hk => at_any (c := c) k W (h.below hW) (by omega)
  clear h
  generalize a.length = la at AT1 ⊢
  go_enter Tryz.func30, Tryz.ntmps30
  go_wp2_with fail
  refine ZE.out.mono ?_
  rintro e w1 ⟨rfl, hown0, hbel0⟩
  clear ZE
  obtain ⟨g, hgg⟩ : ∃ g, g = w.heap.size := ⟨_, rfl⟩
  rw [← hgg] at hown0 hbel0 ⊢
  have HGG := Lib.hid hgg
  clear hgg
  go_wp2_with fail
  go_loopw [13] (fun i wr => ∃ k : Nat, k ≤ n ∧ i = .int .i64 (k : Int) ∧ OwnI g wr (.slice (some ⟨g, 0, none⟩) n n) (slL a j k ++ List.replicate (n - k) 0) ∧ Below g w wr) (fun i _ => n - (intOf i).toNat)
  case atStart => exact ⟨0, Nat.zero_le _, rfl, by simpa [slL] using hown0, hbel0⟩
  case round =>
    obtain ⟨k, hk, rfl, hown, hbel⟩ := hrel
    clear hown0 hbel0
    have hbel' : Below w.heap.size w wr := by rw [← HGG.out]; exact hbel
    obtain ⟨wi, rfl⟩ : ∃ wi : World, wi = wr := ⟨_, rfl⟩
    by_cases hlt : k < n
    · have A1 := Lib.hid (AT1.out wi (j + k) hbel' (by omega))
      rw [Int.natCast_add] at A1
      generalize hout : slL a j k ++ List.replicate (n - k) 0 = out at hown
      have HST := Lib.hid (slL_set a j hlt out hout)
      have HL : Hid (k < out.length) := by unfold Hid; rw [← hout, List.length_append, slL_length, List.length_replicate]; omega
      obtain ⟨-, -, hgl, hz, hfr, hset⟩ := hown.storing (k := k) HL.out
      generalize out[k]'HL.out = z at hz
      generalize a.getD (j + k) 0 = x at A1 HST
      clear hout hbel' AT1
      go_wp2_with (first | (go_at_call 38; refine A1.out.mono ?_; rintro e w' ⟨rfl, rfl⟩) | fail)
      go_roundw
      case rel => exact ⟨k + 1, by omega, by go_num, by rw [HST.out]; exact hset _, hbel.setCell (Nat.le_refl _) _⟩
      case measure => simp [intOf] <;> omega
    · obtain rfl : k = n := by omega
      go_wp2_with fail
      go_ret
      exact ⟨_, rfl, by rw [← HGG.out]; simpa using hown, by rw [← HGG.out]; exact hbel⟩
set_option maxRecDepth 100000 in
theorem sliceSignal_ok {u : Value} {a : List Int} (j n : Nat) (w : World) (h : RdP w u a) (ha : sigB a = true) (hj : j ≤ 4000) (hn : n ≤ 4000) :
    Calls Tryz.prog 16 #[u, .int .i64 (j : Int), .int .i64 (n : Int)] w fun e w' => ∃ x, e = .returned (.tuple #[x, .int .i64 0]) ∧ OwnI w.heap.size w' x (slL a j n) ∧ Below w.heap.size w w' := by
  obtain ⟨p, c, rfl, hr, hc⟩ := h
  have OA := Lib.hid (isSignal_b (c := c) w hr)
  rw [ha] at OA
  have IC : Hid (∀ m : Nat, m ≤ 4000 → Calls Tryz.prog 29 #[.int .i64 (m : Int)] w fun e w' => e = .returned (.bool true) ∧ w' = w) := fun m hm => isCountN_true m w (by omega) (by omega)
  have SL := Lib.hid (slice_any (c := c) j n w hr hj hn)
  generalize slL a j n = R at *
  clear hr ha hc
  generalize a.length = m at *
  go_enter Tryz.func16, Tryz.ntmps16
  go_wp2_with (first | (go_at_call 20; refine OA.out.mono ?_; rintro e w' ⟨rfl, rfl⟩) | (go_at_call 29; first | (refine (IC.out j hj).mono ?_; rintro e w' ⟨rfl, rfl⟩) | (refine (IC.out n hn).mono ?_; rintro e w' ⟨rfl, rfl⟩)) | (go_at_call 30; refine SL.out.mono ?_; rintro e w2 ⟨x, rfl, ho, hb2⟩) | fail)
  refine bodyPost_ret (v := .tuple #[x, .int .i64 0]) (by simp [results, Tryz.results16, go_sem, *]) rfl ⟨_, rfl, ho, hb2⟩
theorem areSignals_true {p : Option Addr} {c : Nat} {xss : List (List Int)} (w : World) (h : RdII w p xss) (ha : ∀ xs ∈ xss, sigB xs = true) :
    Calls Tryz.prog 31 #[.slice p xss.length c] w fun e w' => e = .returned (.bool true) ∧ w' = w := by
  have hlen := h.len
  unfold maxLen at hlen
  go_enter Tryz.func31, Tryz.ntmps31
  go_wp2_with fail
  go_loop [7] (fun i => ∃ k : Nat, k ≤ xss.length ∧ i = .int .i64 k) (fun i => xss.length - (intOf i).toNat)
  case atStart => exact ⟨0, Nat.zero_le _, rfl⟩
  case round =>
    obtain ⟨k, hk, rfl⟩ := hrel
    by_cases hlt : k < xss.length
    · obtain ⟨b, o, rfl, hb, hc⟩ := h.pos hlt
      obtain ⟨q, d, hck, hr⟩ := hc k hlt
      have OA := Lib.hid (isSignal_b (c := d) w hr)
      rw [ha _ (List.getElem_mem hlt)] at OA
      clear hc hr
      go_wp2_with (first | (go_at_call 20; refine OA.out.mono ?_; rintro e w' ⟨rfl, hw⟩; obtain rfl := hw.symm) | fail)
      go_round
      case rel => exact ⟨k + 1, by omega, by go_num⟩
      case measure => simp [intOf] <;> omega
    · obtain rfl : k = xss.length := by omega
      go_wp2_with fail
      go_ret
      exact ⟨rfl, rfl⟩
set_option maxHeartbeats 800000 in
set_option maxRecDepth 100000 in
theorem joinSignals_ok {p : Option Addr} {c : Nat} {xss : List (List Int)} (w : World) (h : RdII w p xss) (ha : ∀ xs ∈ xss, sigB xs = true) (hl : xss.flatten.length ≤ 4000) :
    Calls Tryz.prog 17 #[.slice p xss.length c] w fun e w' => ∃ x, e = .returned (.tuple #[x, .int .i64 0]) ∧ OwnI w.heap.size w' x xss.flatten ∧ Below w.heap.size w w' := by
  have hlen := h.len
  unfold maxLen at hlen
  have AR := Lib.hid (areSignals_true (c := c) w h ha)
  have HR := Lib.hid h
  have HLE : Hid (∀ k, (xss.take k).flatten.length ≤ 4000) := fun k => by
    have : xss.flatten = (xss.take k).flatten ++ (xss.drop k).flatten := by rw [← List.flatten_append, List.take_append_drop]
    rw [this, List.length_append] at hl
    omega
  have O0 : Hid (OwnI w.heap.size (w.alloc (.cells #[] 2)) (.slice (some ⟨w.heap.size, 0, none⟩) 0 0) (xss.take 0).flatten) := OwnI.lit w [] (Nat.le_refl _) (by simp [maxLen])
  clear h ha hl
  go_enter Tryz.func17, Tryz.ntmps17
  go_wp2_with (first | (go_at_call 31; refine AR.out.mono ?_; rintro e w' ⟨rfl, hw⟩; obtain rfl := hw.symm) | fail)
  go_loopw [4, 13] (fun v i wr => ∃ (k : Nat) (u : Value), k ≤ xss.length ∧ v = u ∧ i = .int .i64 k ∧ Hid (OwnI w.heap.size wr u (xss.take k).flatten) ∧ Below w.heap.size w wr) (fun _ i _ => xss.length - (intOf i).toNat)
  case atStart => exact ⟨0, _, Nat.zero_le _, rfl, rfl, O0, (Below.refl _ _).alloc (Nat.le_refl _) _⟩
  case round =>
    obtain ⟨k, v, hk, hv, rfl, HO, hbel⟩ := hrel
    obtain rfl := hv.symm
    clear O0
    have hsz := hbel.size
    by_cases hlt : k < xss.length
    · obtain ⟨b, o, rfl, hb, hc⟩ := (HR.out.below hbel).pos hlt
      obtain ⟨q, d, hck, hr⟩ := hc k hlt
      have HF : Hid ((xss.take (k + 1)).flatten = (xss.take k).flatten ++ xss[k]) := by
        unfold Hid
        rw [List.take_succ_eq_append_getElem hlt, List.flatten_append]
        simp
      have hl1 := HLE.out (k + 1)
      rw [HF.out] at hl1
      generalize xss[k] = xs at hck hr HF hl1
      generalize (xss.take k).flatten = acc at HO HF hl1
      have hown := HO.out
      have HRR := Lib.hid hr
      rw [List.length_append] at hl1
      have hl3 : ¬ (4000 : Int) < (acc.length : Int) + (xs.length : Int) := by omega
      have HL2 : Hid (acc.length + xs.length ≤ 17592186044415) := by unfold Hid; omega
      clear hc hr
      go_wp2_with (first
        | (at_builtin; refine wpList_append_int rfl _ _ rfl rfl hown HRR.out rfl rfl HL2.out hsz ?_; intro v' w2 ho2 hg2; have hb2 := below_appended hbel hown hsz hg2; obtain ⟨q2, d2, hv2, -⟩ := ho2.rd; subst hv2)
        | fail)
      go_roundw
      case rel => exact ⟨k + 1, _, by omega, rfl, by go_num, by unfold Hid; rw [HF.out]; first | exact ho2 | (have := ho2; rw [List.length_append] at this; exact this), hb2⟩
      case measure => simp [intOf] <;> omega
    · obtain rfl : k = xss.length := by omega
      have ho := HO.out
      rw [List.take_length] at ho
      have HO1 := Lib.hid ho
      clear ho HO
      go_wp2_with fail
      refine bodyPost_ret (v := .tuple #[v, .int .i64 0]) (by simp [results, Tryz.results17, go_sem, *]) rfl ⟨_, rfl, HO1.out, hbel⟩
theorem signalText_ok {u : Value} {a : List Int} (w : World) (h : RdP w u a) (ha : sigB a = true) (hT : TxtT w) :
    Calls Tryz.prog 14 #[u] w fun e w' => e = .returned (.string (bs (numStr a))) ∧ Below w.heap.size w w' := by
  obtain ⟨p, c, rfl, hr, hc⟩ := h
  have OA := Lib.hid (isSignal_b (c := c) w hr)
  rw [ha] at OA
  obtain ⟨hs, hl⟩ := sigB_iff.1 ha
  have NT := Lib.hid (numbersText_any (c := c) w hr (fun x hx => by have := isSmp_iff.1 (hs x hx); unfold I64; omega) (by omega) hT)
  generalize bs (numStr a) = S at *
  clear hr ha hc hT hs
  go_enter Tryz.func14, Tryz.ntmps14
  go_wp2_with (first | (go_at_call 20; refine OA.out.mono ?_; rintro e w' ⟨rfl, rfl⟩) | (go_at_call 28; refine NT.out.mono ?_; rintro e w2 ⟨rfl, hb⟩) | fail)
  go_ret
  exact ⟨rfl, hb⟩
theorem words_num {a : List Int} : wordsB (bs (numStr a)) = a.map fun x => bs (Lib.itoa x) := by
  unfold numStr
  cases a with
  | nil => rfl
  | cons x a =>
    rw [words_join (by simp) (fun w hw => by
      obtain ⟨n, -, rfl⟩ := List.mem_map.1 hw
      exact itoa_ok n), List.map_map]
    rfl
set_option maxHeartbeats 800000 in
theorem readSignal_ok {a : List Int} (w : World) (ha : sigB a = true) (hT : TxtT w) (hE : TxtE w) (hC : TxtC w) :
    Calls Tryz.prog 13 #[.string (bs (numStr a))] w fun e w' => ∃ x, e = .returned (.tuple #[x, .bool true]) ∧ OwnI w.heap.size w' x a ∧ Below w.heap.size w w' := by
  obtain ⟨hs, hl⟩ := sigB_iff.1 ha
  have hI : AllI a := fun x hx => by have := isSmp_iff.1 (hs x hx); unfold I64; omega
  have hsz : (bs (numStr a)).size ≤ 1048576 := by
    have := numStr_length hI
    rw [bs_size]; omega
  have SW := Lib.hid (splitWords_any (bs (numStr a)) w hsz hC)
  rw [words_num] at SW
  have hd : decsB (a.map fun x => bs (Lib.itoa x)) = some a := decsB_itoa a fun x hx => by have := isSmp_iff.1 (hs x hx); unfold small18; omega
  have hlen : (strB (a.map fun x => bs (Lib.itoa x))).length = a.length := by simp [strB]
  have hws : ∀ x ∈ (a.map fun x => bs (Lib.itoa x)), x.size ≤ 281474976710656 := fun x hx => by
    obtain ⟨n, hn, rfl⟩ := List.mem_map.1 hx
    have := Lib.itoa_length_le n (hI n hn).1 (hI n hn).2
    rw [bs_size]; omega
  have RN : Hid (∀ W u, OwnV w.heap.size W 9 u (strB (a.map fun x => bs (Lib.itoa x))) → Below w.heap.size w W → Calls Tryz.prog 26 #[u] W fun e w' => ∃ v, e = .returned (.tuple #[v, .bool true]) ∧ OwnI W.heap.size w' v a ∧ Below W.heap.size W w') := fun W u hu hW => by
    have hsl : ∃ p c, u = .slice p (a.map fun x => bs (Lib.itoa x)).length c ∧ RdV W p (strB (a.map fun x => bs (Lib.itoa x))) := by
      rcases OwnV.cases hu with ⟨h1, h2⟩ | ⟨g, c, h1, -, -, -, hr⟩
      · refine ⟨none, 0, ?_, ?_⟩
        · have : (a.map fun x => bs (Lib.itoa x)).length = 0 := by rw [List.length_map, ← hlen, h2]; rfl
          rw [h1, this]
        · rw [h2]; exact ⟨by simp [maxLen], .inl rfl⟩
      · exact ⟨_, c, by rw [h1, hlen, List.length_map], hr⟩
    obtain ⟨p, c, rfl, hr⟩ := hsl
    refine (readNumbers_any (c := c) W hr (by rw [List.length_map]; omega) hws (hT.below hW) (hE.below hW)).mono ?_
    rintro e w' ⟨hb, h⟩
    rw [hd] at h
    obtain ⟨v, he, ho⟩ := h
    exact ⟨v, he, ho, hb⟩
  have NT : Hid (∀ W p c, RdI W p a → Below w.heap.size w W → Calls Tryz.prog 28 #[.slice p a.length c] W fun e w' => e = .returned (.string (bs (numStr a))) ∧ Below W.heap.size W w') := fun W p c hr hW => numbersText_any (c := c) W hr hI (by omega) (hT.below hW)
  have OA : Hid (∀ W p c, RdI W p a → Calls Tryz.prog 20 #[.slice p a.length c] W fun e w' => e = .returned (.bool true) ∧ w' = W) := fun W p c hr => by rw [← ha]; exact isSignal_b (c := c) W hr
  generalize strB (a.map fun x => bs (Lib.itoa x)) = SB at *
  generalize bs (numStr a) = S at *
  clear ha hT hE hC hs hI hd hlen hws
  go_enter Tryz.func13, Tryz.ntmps13
  go_upto_region 2 with (first | (go_at_call 27; refine SW.out.mono ?_; rintro e w1 ⟨u, rfl, hu, hb1⟩) | (go_at_call 26; refine (RN.out _ _ hu hb1).mono ?_; rintro e w2 ⟨v, rfl, ho, hb2⟩) | fail)
  obtain ⟨p, c, rfl, hr⟩ := ho.rd
  have hb12 := hb1.trans (hb2.mono hb1.size)
  have HRR := Lib.hid hr
  clear hr
  go_wp2_with (first | (go_at_call 20; refine (OA.out _ _ _ HRR.out).mono ?_; rintro e w' ⟨rfl, hw⟩; rw [hw]) | (go_at_call 28; refine (NT.out _ _ _ HRR.out hb12).mono ?_; rintro e w3 ⟨rfl, hb3⟩) | fail)
  refine bodyPost_ret (v := .tuple #[.slice p a.length c, .bool true]) (by simp [results, Tryz.results13, go_sem, *]) rfl ⟨_, rfl, (ho.below hb3).mono hb1.size, hb12.trans (hb3.mono hb12.size)⟩
end Go.Proofs.YtlaleoljeijkcaaGreatDoor
