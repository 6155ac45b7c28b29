/-
  Several texts in one: NdM, NdH, NdW.
-/
import Derived.Test.YtdcacmmglkcliaaGreatDoorStepN
import Derived.Test.YtdcacmmglkcliaaGreatDoorPolyM
import Derived.Test.YtdcacmmglkcliaaGreatDoorNdA
import Derived.Test.YtdcacmmglkcliaaGreatDoorTxtH
import Derived.Deep.RegionHeld3
import Derived.Deep.RegionLaw
import Derived.StillTailTactics
namespace Go.Proofs.YtdcacmmglkcliaaGreatDoor
set_option linter.unusedVariables false

/-- the sum of two lists of one length -/
def zs (a b : List Int) : List Int := List.zipWith (fun x y => smp (x + y)) a b
theorem zs_length {a b : List Int} (h : b.length = a.length) : (zs a b).length = a.length := by unfold zs; rw [List.length_zipWith]; omega
theorem zs_get {a b : List Int} (h : b.length = a.length) {i : Nat} (hi : i < a.length) : (zs a b).getD i 0 = smp (a.getD i 0 + b.getD i 0) := by
  simp only [List.getD_eq_getElem?_getD, zs, List.getElem?_zipWith]
  rw [List.getElem?_eq_getElem hi, List.getElem?_eq_getElem (show i < b.length by omega)]
  rfl
theorem zs_smp (a b : List Int) : (zs a b).all isSmp = true := by
  unfold zs
  rw [List.all_eq_true]
  intro x hx
  obtain ⟨i, hi, rfl⟩ := List.mem_iff_getElem.1 hx
  rw [List.getElem_zipWith]
  exact smp_isSmp _
theorem zs_snoc {a b : List Int} (h : b.length = a.length) (x y : Int) : zs (a ++ [x]) (b ++ [y]) = zs a b ++ [smp (x + y)] := by
  unfold zs
  rw [List.zipWith_append h.symm]
  rfl
theorem zs_drop (a b : List Int) : (zs a b).drop 1 = zs (a.drop 1) (b.drop 1) := by
  unfold zs
  rw [List.drop_zipWith]
/-- the sum of the values at a place, place by place -/
theorem zs_tab {a b : List Int} (h : b.length = a.length) : (List.range a.length).map (fun i => smp (a.getD i 0 + b.getD i 0)) = zs a b := by
  apply List.ext_getElem
  · rw [zs_length h]; simp
  · intro i h1 h2
    have hi : i < a.length := by simpa using h1
    have := zs_get h hi
    rw [List.getD_eq_getElem?_getD, List.getElem?_eq_getElem h2] at this
    simp only [List.getElem_map, List.getElem_range]
    exact this.symm
theorem smp_sums (a b c d : Int) : smp (smp (a + b) + smp (c + d)) = smp (smp (a + c) + smp (b + d)) := by
  rw [smp_left, smp_right, smp_left, smp_right]; congr 1; omega
theorem smp_diffs (a b c d : Int) : smp (smp (a + b) - smp (c + d)) = smp (smp (a - c) + smp (b - d)) := by
  rw [smp_left, smp_right, show smp (a + b) - smp (c + d) = smp (a + b) + -1 * smp (c + d) by omega, smp_left, Int.add_comm, ← smp_left (-1 * smp (c + d)), smp_mulr, smp_left]; congr 1; omega
theorem linear_kinds {k : Int} (h : kindLinear k = true) : k = 1 ∨ k = 3 ∨ k = 4 ∨ k = 5 ∨ k = 6 ∨ k = 7 ∨ k = 8 ∨ k = 17 := by
  unfold kindLinear at h
  rw [Bool.and_eq_true] at h
  obtain ⟨h1, h2⟩ := h
  rcases kinds_of h1 with rfl | rfl | rfl | rfl | rfl | rfl | rfl | rfl | rfl | rfl | rfl | rfl | rfl | rfl | rfl | rfl | rfl
  all_goals first | omega | (exact absurd h2 (by decide))
theorem node_linear {x : NodeD} {tb : List (List Int)} {xs ys ss cs : List Int} (hv : snValid x tb = true) (h1 : stArgB x xs ss = true) (h2 : stArgB x ys cs = true) (hk : kindLinear x.kind = true) :
    outP x tb (zs xs ys) (zs ss cs) = smp (outP x tb xs ss + outP x tb ys cs) ∧
      nextP x (zs xs ys) (zs ss cs) (smp (outP x tb xs ss + outP x tb ys cs)) = zs (nextP x xs ss (outP x tb xs ss)) (nextP x ys cs (outP x tb ys cs)) ∧ (nextP x xs ss (outP x tb xs ss)).length = ss.length ∧ (nextP x ys cs (outP x tb ys cs)).length = ss.length := by
  unfold stArgB at h1 h2
  unfold snValid at hv
  simp only [Bool.and_eq_true, decide_eq_true_eq] at h1 h2 hv
  obtain ⟨⟨⟨n1, m1⟩, a1⟩, b1⟩ := h1
  obtain ⟨⟨⟨n2, m2⟩, a2⟩, b2⟩ := h2
  have hp := startL_pos hv.2
  have hl : ys.length = xs.length := by omega
  have hm : cs.length = ss.length := by omega
  have k0 : ∀ i, i < xs.length → (zs xs ys).getD i 0 = smp (xs.getD i 0 + ys.getD i 0) := fun i hi => zs_get hl hi
  have k1 : 0 < ss.length → (zs ss cs).getD 0 0 = smp (ss.getD 0 0 + cs.getD 0 0) := fun hi => zs_get hm hi
  have st : (startL x).length = ss.length := m1.symm
  clear m1 m2 a1 a2 b1 b2 n2 hv
  obtain ⟨k, A, B, src⟩ := x
  simp only at *
  have s2 : ∀ i : Nat, inN ⟨k, A, B, src⟩ = i → xs.length = i := fun i h => by rw [h] at n1; omega
  rcases linear_kinds hk with rfl | rfl | rfl | rfl | rfl | rfl | rfl | rfl
  · have hx := s2 1 rfl
    have hs : ss.length = 0 := by rw [← st]; rfl
    refine ⟨?_, rfl, hs.symm, hs.symm⟩
    exact k0 0 (by omega)
  · have hx := s2 2 rfl
    have hs : ss.length = 0 := by rw [← st]; rfl
    refine ⟨?_, rfl, hs.symm, hs.symm⟩
    show smp ((zs xs ys).getD 0 0 + (zs xs ys).getD 1 0) = smp (smp (xs.getD 0 0 + xs.getD 1 0) + smp (ys.getD 0 0 + ys.getD 1 0))
    rw [k0 0 (by omega), k0 1 (by omega), smp_sums]
  · have hx := s2 2 rfl
    have hs : ss.length = 0 := by rw [← st]; rfl
    refine ⟨?_, rfl, hs.symm, hs.symm⟩
    show smp ((zs xs ys).getD 0 0 - (zs xs ys).getD 1 0) = smp (smp (xs.getD 0 0 - xs.getD 1 0) + smp (ys.getD 0 0 - ys.getD 1 0))
    rw [k0 0 (by omega), k0 1 (by omega), smp_diffs]
  · have hx := s2 1 rfl
    have hs : ss.length = 0 := by rw [← st]; rfl
    refine ⟨?_, rfl, hs.symm, hs.symm⟩
    show smp (A * (zs xs ys).getD 0 0) = smp (smp (A * xs.getD 0 0) + smp (A * ys.getD 0 0))
    rw [k0 0 (by omega), smp_mulr, smp_left, smp_right, Int.mul_add]
  · have hx := s2 1 rfl
    have hs := hp (.inl rfl)
    rw [st] at hs
    refine ⟨?_, ?_, ?_, ?_⟩
    · exact k1 (by omega)
    · show (zs ss cs).drop 1 ++ [(zs xs ys).getD 0 0] = zs (ss.drop 1 ++ [xs.getD 0 0]) (cs.drop 1 ++ [ys.getD 0 0])
      rw [k0 0 (by omega), zs_drop, zs_snoc (by rw [List.length_drop, List.length_drop, hm])]
    · show (ss.drop 1 ++ [xs.getD 0 0]).length = ss.length
      simp; omega
    · show (cs.drop 1 ++ [ys.getD 0 0]).length = ss.length
      simp; omega
  · have hx := s2 1 rfl
    have hs : ss.length = 1 := by rw [← st]; rfl
    have ho : smp ((zs ss cs).getD 0 0 + (zs xs ys).getD 0 0) = smp (smp (ss.getD 0 0 + xs.getD 0 0) + smp (cs.getD 0 0 + ys.getD 0 0)) := by
      rw [k0 0 (by omega), k1 (by omega), smp_sums]
    exact ⟨ho, rfl, hs.symm, hs.symm⟩
  · have hx := s2 1 rfl
    have hs : ss.length = 1 := by rw [← st]; rfl
    have ho : smp ((zs xs ys).getD 0 0 - (zs ss cs).getD 0 0) = smp (smp (xs.getD 0 0 - ss.getD 0 0) + smp (ys.getD 0 0 - cs.getD 0 0)) := by
      rw [k0 0 (by omega), k1 (by omega), smp_diffs]
    refine ⟨ho, ?_, hs.symm, hs.symm⟩
    show [(zs xs ys).getD 0 0] = [smp (xs.getD 0 0 + ys.getD 0 0)]
    rw [k0 0 (by omega)]
  · have hx := s2 1 rfl
    have hs := hp (by omega)
    rw [st] at hs
    have ho : smp ((zs xs ys).getD 0 0 + smp (A * (zs ss cs).getD 0 0)) = smp (smp (xs.getD 0 0 + smp (A * ss.getD 0 0)) + smp (ys.getD 0 0 + smp (A * cs.getD 0 0))) := by
      rw [k0 0 (by omega), k1 (by omega), smp_mulr, Int.mul_add, smp_right, smp_left, smp_right, smp_right, smp_left]
      rw [← Int.add_assoc (xs.getD 0 0 + A * ss.getD 0 0) (ys.getD 0 0) (smp (A * cs.getD 0 0)), smp_right]
      congr 1; omega
    refine ⟨ho, ?_, ?_, ?_⟩
    · show (zs ss cs).drop 1 ++ [_] = zs (ss.drop 1 ++ [_]) (cs.drop 1 ++ [_])
      rw [zs_drop, zs_snoc (by rw [List.length_drop, List.length_drop, hm])]
    · show (ss.drop 1 ++ [_]).length = ss.length
      simp; omega
    · show (cs.drop 1 ++ [_]).length = ss.length
      simp; omega
theorem outP_isSmp {x : NodeD} {tb : List (List Int)} {xs ss : List Int} (hk : kindLinear x.kind = true) (hx : xs.all isSmp = true) (hs : ss.all isSmp = true) : isSmp (outP x tb xs ss) = true := by
  have g : ∀ (l : List Int), l.all isSmp = true → isSmp (l.getD 0 0) = true := fun l hl => by
    cases l with
    | nil => rfl
    | cons a l => rw [List.all_eq_true] at hl; exact hl a (by simp)
  obtain ⟨k, A, B, src⟩ := x
  simp only at *
  rcases linear_kinds hk with rfl | rfl | rfl | rfl | rfl | rfl | rfl | rfl
  · exact g xs hx
  · exact smp_isSmp _
  · exact smp_isSmp _
  · exact smp_isSmp _
  · exact g ss hs
  · exact smp_isSmp _
  · exact smp_isSmp _
  · exact smp_isSmp _
theorem nextP_isSmp {x : NodeD} {xs ss : List Int} {y : Int} (hk : kindLinear x.kind = true) (hx : xs.all isSmp = true) (hs : ss.all isSmp = true) (hy : isSmp y = true) : (nextP x xs ss y).all isSmp = true := by
  have g : ∀ (l : List Int), l.all isSmp = true → isSmp (l.getD 0 0) = true := fun l hl => by
    cases l with
    | nil => rfl
    | cons a l => rw [List.all_eq_true] at hl; exact hl a (by simp)
  have d : ∀ z, isSmp z = true → (ss.drop 1 ++ [z]).all isSmp = true := fun z hz => by
    rw [List.all_eq_true] at *
    intro u hu
    rcases List.mem_append.1 hu with h | h
    · exact hs u (List.mem_of_mem_drop h)
    · rw [List.mem_singleton.1 h]; exact hz
  have o : ∀ z, isSmp z = true → ([z] : List Int).all isSmp = true := fun z hz => by simpa using hz
  obtain ⟨k, A, B, src⟩ := x
  simp only at *
  rcases linear_kinds hk with rfl | rfl | rfl | rfl | rfl | rfl | rfl | rfl
  · rfl
  · rfl
  · rfl
  · rfl
  · exact d _ (g xs hx)
  · exact o _ hy
  · exact o _ (g xs hx)
  · exact d _ hy
end Go.Proofs.YtdcacmmglkcliaaGreatDoor

namespace Go.Proofs.YtdcacmmglkcliaaGreatDoor
open Go.ChangeShapes Go.WideShapes Go.ChangeAt Go.RowKit
set_option linter.unusedVariables false
set_option linter.unusedSimpArgs false

def tab (f : Nat → Int) (k : Nat) : List Int := (List.range k).map fun i => smp (f i)
theorem tab_length (f : Nat → Int) (k : Nat) : (tab f k).length = k := by simp [tab]
theorem tab_succ (f : Nat → Int) (k : Nat) : tab f (k + 1) = tab f k ++ [smp (f k)] := by unfold tab; rw [List.range_succ, List.map_append]; rfl
def adL (a b : List Int) (k : Nat) : List Int := tab (fun i => a.getD i 0 + b.getD i 0) k
theorem adL_zs {a b : List Int} (h : b.length = a.length) : adL a b a.length = zs a b := zs_tab h
theorem getH (xs : List Int) {i : Nat} (h : i < xs.length) : xs.getD i 0 = xs[i] := by rw [List.getD_eq_getElem?_getD, List.getElem?_eq_getElem h]; rfl
theorem getHb (xs : List Int) {i : Nat} (h : xs.length ≤ i) : xs.getD i 0 = 0 := by rw [List.getD_eq_getElem?_getD, List.getElem?_eq_none h]; rfl
theorem l03At_any {p : Option Addr} {c : Nat} {xs : List Int} (i : Nat) (w : World) (h : RdI w p xs) (hi : i ≤ 1048576) :
    Calls Tryz.prog 87 #[.slice p xs.length c, .int .i64 (i : Int)] w fun e w' => e = .returned (.int .i64 (xs.getD i 0)) ∧ w = w' := by
  have hl := h.len
  unfold maxLen at hl
  have IN := Lib.hid (l00In_any (i : Int) 0 ((xs.length : Int) - 1) w)
  by_cases h1 : i < xs.length
  · obtain ⟨b, o, rfl, hb, hc⟩ := h.pos h1
    have hck := hc i h1
    rw [getH xs h1]
    rw [inB_true (by omega)] at IN
    generalize xs[i] = x at hck ⊢
    clear hc
    go_enter Tryz.func87, Tryz.ntmps87
    go_wp2_with (go_at_call 68; refine IN.out.mono ?_; rintro e w' ⟨rfl, rfl⟩)
    go_ret
    exact ⟨rfl, rfl⟩
  · rw [getHb xs (by omega)]
    rw [inB_false (by omega)] at IN
    go_enter Tryz.func87, Tryz.ntmps87
    go_wp2_with (go_at_call 68; refine IN.out.mono ?_; rintro e w' ⟨rfl, rfl⟩)
    go_ret
    exact ⟨rfl, rfl⟩
theorem l00MaxI_any (a b : Int) (w : World) :
    Calls Tryz.prog 86 #[.int .i64 a, .int .i64 b] w fun e w' => e = .returned (.int .i64 (max a b)) ∧ w = w' := by
  by_cases h : b < a
  · have e : max a b = a := by omega
    rw [e]; clear e
    go_enter Tryz.func86, Tryz.ntmps86
    go_wp2
    go_ret
    exact ⟨rfl, rfl⟩
  · have e : max a b = b := by omega
    rw [e]; clear e
    go_enter Tryz.func86, Tryz.ntmps86
    go_wp2
    go_ret
    exact ⟨rfl, rfl⟩
set_option maxHeartbeats 1600000 in
theorem l03Add_any {p q : Option Addr} {c d : Nat} {a b : List Int} (w : World) (h : RdI w p a) (h' : RdI w q b) (hl : b.length = a.length) (hal : a.length ≤ 4000) :
    Calls Tryz.prog 44 #[.slice p a.length c, .slice q b.length d, .int .i64 1] w fun e w' => ∃ v, e = .returned v ∧ OwnI w.heap.size w' v (adL a b a.length) ∧ Below w.heap.size w w' := by
  obtain ⟨n, hn⟩ : ∃ n, n = a.length := ⟨_, rfl⟩
  have hnb : b.length = n := by omega
  have HLA := Lib.hid hn
  rw [← hn]
  have HLB := Lib.hid hnb
  have MX : Hid (∀ W, Calls Tryz.prog 86 #[.int .i64 (n : Int), .int .i64 (n : Int)] W fun e w' => e = .returned (.int .i64 (n : Int)) ∧ W = w') := fun W => by
    have := l00MaxI_any (n : Int) (n : Int) W
    rwa [show max (n : Int) (n : Int) = (n : Int) by omega] at this
  have AT1 : Hid (∀ (W : World) (k : Nat), Below w.heap.size w W → k ≤ 1000000 → Calls Tryz.prog 87 #[.slice p n c, .int .i64 (k : Int)] W fun e w' => e = .returned (.int .i64 (a.getD k 0)) ∧ W = w') := fun W k hW hk => by have := l03At_any (c := c) k W (h.below hW) (by omega); rwa [← hn] at this
  have AT2 : Hid (∀ (W : World) (k : Nat), Below w.heap.size w W → k ≤ 1000000 → Calls Tryz.prog 87 #[.slice q n d, .int .i64 (k : Int)] W fun e w' => e = .returned (.int .i64 (b.getD k 0)) ∧ W = w') := fun W k hW hk => by have := l03At_any (c := d) k W (h'.below hW) (by omega); rwa [hnb] at this
  have h0 := OwnI.lit (B := w.heap.size) w [] (Nat.le_refl _) (by simp [maxLen])
  have hb0 := (Below.refl w.heap.size w).alloc (Nat.le_refl _) (.cells #[] 2)
  have hn4 : n ≤ 4000 := by omega
  have HSC := Lib.hid (fun k => tab_succ (fun i => a.getD i 0 + b.getD i 0) k)
  have HTL := Lib.hid (fun k => tab_length (fun i => a.getD i 0 + b.getD i 0) k)
  have HAD : Hid (∀ k, adL a b k = tab (fun i => a.getD i 0 + b.getD i 0) k) := fun k => rfl
  rw [hnb]
  rw [HAD.out]
  generalize (tab fun i => a.getD i 0 + b.getD i 0) = T at HSC HTL ⊢
  clear h h' hn hnb hl hal HAD
  go_enter Tryz.func44, Tryz.ntmps44
  go_wp2_with (go_at_call 86; refine (MX.out _).mono ?_; rintro e w' ⟨rfl, rfl⟩)
  go_loopw [7, 9] (fun ov i wr => ∃ k : Nat, k ≤ n ∧ i = .int .i64 (k : Int) ∧ OwnI w.heap.size wr ov (T k) ∧ Below w.heap.size w wr) (fun _ i _ => n - (intOf i).toNat)
  case atStart => exact ⟨0, Nat.zero_le _, rfl, by have := HTL.out 0; rw [List.eq_nil_of_length_eq_zero this]; exact h0, hb0⟩
  case round =>
    obtain ⟨k, hk, rfl, hown, hbel⟩ := hrel
    clear h0 hb0
    obtain ⟨wi, rfl⟩ : ∃ wi : World, wi = wr := ⟨_, rfl⟩
    by_cases hlt : k < n
    · have A1 := Lib.hid (AT1.out wi k hbel (by omega))
      have A2 := Lib.hid (AT2.out wi k hbel (by omega))
      have HSU := Lib.hid (HSC.out k)
      have hl2 : (T k).length < 17592186044415 := by rw [HTL.out]; omega
      generalize a.getD k 0 = x at A1 HSU
      generalize b.getD k 0 = y at A2 HSU
      have hsz := hbel.size
      go_wp2_with (first | (go_at_call_of 87 (Value.slice p n c); refine A1.out.mono ?_; rintro e w' ⟨rfl, rfl⟩) | (go_at_call_of 87 (Value.slice q n d); refine A2.out.mono ?_; rintro e w' ⟨rfl, rfl⟩) | (go_at_call 88; refine (l01Mul_any _ _ _).mono ?_; rintro e w' ⟨rfl, rfl⟩) | (go_at_call 45; refine (l01Add_any _ _ _).mono ?_; rintro e w' ⟨rfl, rfl⟩) | (at_builtin; refine wpList_append_one rfl _ _ rfl rfl hown rfl hbel hl2 hsz (Nat.le_refl _) ?_; intro v' w4 hown4 hb4 hz4 hk4))
      go_roundw
      case rel => exact ⟨k + 1, by omega, by go_num, by rw [HSU.out]; rw [smp_right] at hown4; exact hown4, hb4⟩
      case measure => simp [intOf] <;> omega
    · obtain rfl : k = n := by omega
      go_wp2_with fail
      go_ret
      exact ⟨_, rfl, hown, hbel⟩
theorem specAdd_any {u v : Value} {a b : List Int} (w : World) (h : VI w u a) (h' : VI w v b) (ha : a.all isSmp = true) (hb : b.all isSmp = true) (hl : b.length = a.length) (hal : a.length ≤ 4000) :
    Calls Tryz.prog 15 #[u, v] w fun e w' => ∃ x, e = .returned (.tuple #[x, .int .i64 0]) ∧ OwnI w.heap.size w' x (adL a b a.length) ∧ Below w.heap.size w w' := by
  obtain ⟨p, c, rfl, hr⟩ := h
  obtain ⟨q, d, rfl, hr'⟩ := h'
  have OA := Lib.hid (l03Ok_any (c := c) w hr)
  have OB := Lib.hid (l03Ok_any (c := d) w hr')
  rw [show (decide (a.length ≤ 4000) && a.all isSmp) = true by rw [ha]; simp; omega] at OA
  rw [show (decide (b.length ≤ 4000) && b.all isSmp) = true by rw [hb]; simp; omega] at OB
  have AD := Lib.hid (l03Add_any (c := c) (d := d) w hr hr' hl hal)
  rw [hl] at OB AD ⊢
  clear hr hr' ha hb hl
  go_enter Tryz.func15, Tryz.ntmps15
  go_wp2_with (first | (go_at_call_of 43 (Value.slice p a.length c); refine OA.out.mono ?_; rintro e w' ⟨rfl, rfl⟩) | (go_at_call_of 43 (Value.slice q a.length d); refine OB.out.mono ?_; rintro e w' ⟨rfl, rfl⟩))
  refine AD.out.mono ?_
  rintro e w2 ⟨x, rfl, ho, hb2⟩
  go_wp2_with fail
  refine bodyPost_ret (v := .tuple #[x, .int .i64 0]) (by simp [results, Tryz.results15, go_sem, *]) rfl ⟨_, rfl, ho, hb2⟩
theorem b10Long_any (p : Option Addr) (n c : Nat) (w : World) (hn : n ≤ maxLen) :
    Calls Tryz.prog 5 #[.slice p n c] w fun e w' => e = .returned (.bool (decide (1048576 < (n : Int)))) ∧ w' = w := by
  unfold maxLen at hn
  go_enter Tryz.func5, Tryz.ntmps5
  go_wp2
  go_ret
  exact ⟨rfl, rfl⟩
theorem b10At_any {v : Value} {bs : List Int} (k : Nat) (n : Int) (w : World) (h : VB w v bs) (hl : bs.length ≤ 1048576) (hk : k ≤ 100000) (hn : 1 ≤ n) (hn2 : n ≤ 100000) :
    Calls Tryz.prog 14 #[v, .int .i64 (k : Int), .int .i64 n] w fun e w' => ∃ r, 0 ≤ r ∧ r < n ∧ e = .returned (.int .i64 r) ∧ w = w' := by
  obtain ⟨p, c, rfl, hr⟩ := h
  by_cases h0 : n ≤ 1
  · go_enter Tryz.func14, Tryz.ntmps14
    go_wp2_with fail
    go_ret
    exact ⟨0, by omega, by omega, rfl, rfl⟩
  by_cases h1 : k < bs.length
  · obtain ⟨b, o, rfl, hb, hc⟩ := hr.pos h1
    have hk0 := hc k h1
    have hx := hr.bytes _ (List.getElem_mem h1)
    generalize bs[k] = x at hk0 hx
    have q1 : 0 ≤ x := hx.1
    have q2 : x ≤ 255 := hx.2
    clear hx hc
    have r1 : 0 ≤ x % n := Int.emod_nonneg _ (by omega)
    have r2 : x % n < n := Int.emod_lt_of_pos _ (by omega)
    go_enter Tryz.func14, Tryz.ntmps14
    go_wp2_with fail
    go_ret
    exact ⟨_, r1, r2, rfl, rfl⟩
  · have r1 : 0 ≤ ((k : Int) * 37 + 11) % n := Int.emod_nonneg _ (by omega)
    have r2 : ((k : Int) * 37 + 11) % n < n := Int.emod_lt_of_pos _ (by omega)
    go_enter Tryz.func14, Tryz.ntmps14
    go_wp2_with fail
    go_ret
    exact ⟨_, r1, r2, rfl, rfl⟩
set_option maxHeartbeats 2000000 in
theorem b10Nums_true {p q : Option Addr} {c d : Nat} {xs : List Int} (w : World) (h : RdI w p xs) (h' : RdI w q xs) (hl : xs.length ≤ 1048576) :
    Calls Tryz.prog 10 #[.slice p xs.length c, .slice q xs.length d] w fun e w' => e = .returned (.bool true) ∧ Below w.heap.size w w' := by
  go_enter Tryz.func10, Tryz.ntmps10
  go_wp2_with fail
  go_loopw [5] (fun i wr => ∃ k : Nat, k ≤ xs.length ∧ i = .int .i64 (k : Int) ∧ Drawn w wr) (fun i _ => xs.length - (intOf i).toNat)
  case atStart => exact ⟨0, Nat.zero_le _, rfl, Drawn.refl _⟩
  case round =>
    obtain ⟨k, hk, rfl, hdr⟩ := hrel
    by_cases hlt : k < xs.length
    · obtain ⟨b, o, rfl, hb, hc⟩ := (hdr.rdI h).pos hlt
      obtain ⟨b', o', rfl, hb', hc'⟩ := (hdr.rdI h').pos hlt
      have z1 := hc k hlt
      have z2 := hc' k hlt
      generalize xs[k] = x at z1 z2
      clear hc hc'
      go_wp2_with fail
      go_quiet (fail)
      go_wp2_with fail
      go_roundw
      case rel => exact ⟨k + 1, by omega, by go_num, hdr.on _⟩
      case measure => simp [intOf] <;> omega
    · obtain rfl : k = xs.length := by omega
      go_wp2_with fail
      go_ret
      obtain ⟨m, rfl⟩ := hdr
      exact ⟨rfl, below_drewN (Below.refl _ _) m⟩
theorem wrapAdd_any (a b : Int) (w : World) :
    Calls Tryz.prog 16 #[.int .i64 a, .int .i64 b] w fun e w' => e = .returned (.int .i64 (smp (a + b))) ∧ w = w' := by
  go_enter Tryz.func16, Tryz.ntmps16
  go_wp2_with (go_at_call 45; refine (l01Add_any _ _ _).mono ?_; rintro e w' ⟨rfl, rfl⟩)
  go_ret
  exact ⟨rfl, rfl⟩
end Go.Proofs.YtdcacmmglkcliaaGreatDoor

namespace Go.Proofs.YtdcacmmglkcliaaGreatDoor
open Go.ChangeShapes Go.WideShapes Go.ChangeAt Go.RowKit
set_option linter.unusedVariables false
set_option linter.unusedSimpArgs false

theorem nodeStr_le {x : NodeD} {t : Int} (h : nodeB x t = true) : (nodeStr x).length ≤ 200 := by
  obtain ⟨h1, h2, h3, h4⟩ := nodeB_bounds h
  obtain ⟨i, hi, he⟩ := nodeB_kind h
  have e : (x.kind - 1).toNat = i := by omega
  unfold nodeStr
  rw [e]
  exact nodeStr_len hi h1 h2 h3 h4
theorem nodeB_up {x : NodeD} {t : Int} (h : nodeB x t = true) (ht : t ≤ 4) : nodeB x 4 = true := by
  unfold nodeB at *
  simp only [Bool.and_eq_true, Bool.or_eq_true, decide_eq_true_eq] at *
  exact ⟨h.1, h.2.imp id fun h => by omega⟩
theorem snValid_node {x : NodeD} {tb : List (List Int)} (h : snValid x tb = true) : nodeB x 4 = true := by
  unfold snValid at h
  rw [Bool.and_eq_true] at h
  refine nodeB_up h.2 ?_
  have := h.1
  unfold tablesB at this
  simp only [Bool.and_eq_true, decide_eq_true_eq] at this
  omega
theorem sn_code {x : NodeD} {tb : List (List Int)} {xs ss : List Int} : snCode x tb xs ss = 0 ↔ snValid x tb = true ∧ stArgB x xs ss = true := by
  unfold snCode
  cases snValid x tb <;> cases stArgB x xs ss <;> simp
theorem nextP_len {x : NodeD} {tb : List (List Int)} {xs ss : List Int} {y : Int} (hv : snValid x tb = true) (ha : stArgB x xs ss = true) : (nextP x xs ss y).length = (startL x).length := by
  unfold stArgB at ha
  unfold snValid at hv
  simp only [Bool.and_eq_true, decide_eq_true_eq] at ha hv
  have hs := ha.1.1.2
  have hp := startL_pos hv.2
  have hk : inB x.kind 1 17 = true := by
    have h2 := hv.2
    unfold nodeB at h2
    simp only [Bool.and_eq_true] at h2
    exact h2.1.1.1.1
  clear ha hv
  obtain ⟨k, A, B, src⟩ := x
  simp only at *
  rcases kinds_of hk with rfl | rfl | rfl | rfl | rfl | rfl | rfl | rfl | rfl | rfl | rfl | rfl | rfl | rfl | rfl | rfl | rfl
  all_goals first
    | rfl
    | (have h1 := hp (by omega)
       show (ss.drop 1 ++ [_]).length = _
       rw [List.length_append, List.length_drop, List.length_singleton]
       omega)
set_option maxHeartbeats 16000000 in
set_option maxRecDepth 100000 in
theorem fnNodes_walk (w : World) {v0 : Value} {bs0 : List Int} (h0 : VB w v0 bs0) (hm0 : bs0.length ≤ maxLen) {v1 : Value} {bs1 : List Int} (h1 : VB w v1 bs1) (hm1 : bs1.length ≤ maxLen) (hT : TxtT w) (hE : TxtE w) (hC : TxtC w) :
    Calls Tryz.prog 3 #[v0, v1] w fun e w' => e = .returned (.bool true) ∧ Below w.heap.size w w' := by
  have hv0 := h0
  obtain ⟨p0, c0, rfl, hr0⟩ := hv0
  have hv1 := h1
  obtain ⟨p1, c1, rfl, -⟩ := hv1
  have LG0 := Lib.hid (b10Long_any p0 bs0.length c0 w hm0)
  have LG1 := Lib.hid (b10Long_any p1 bs1.length c1 w hm1)
  by_cases hl0 : (1048576 : Int) < (bs0.length : Int)
  · rw [decide_eq_true hl0] at LG0
    clear hl0 LG1
    go_enter Tryz.func3, Tryz.ntmps3
    go_wp2_with fail
    refine LG0.out.mono ?_
    rintro e w' ⟨rfl, hw⟩
    obtain rfl := hw.symm
    clear LG0
    go_wp2_with fail
    go_ret
    exact ⟨rfl, Below.refl _ _⟩
  rw [decide_eq_false hl0] at LG0
  by_cases hl1 : (1048576 : Int) < (bs1.length : Int)
  · rw [decide_eq_true hl1] at LG1
    clear hl0 hl1
    go_enter Tryz.func3, Tryz.ntmps3
    go_wp2_with fail
    refine LG0.out.mono ?_
    rintro e w' ⟨rfl, hw⟩
    obtain rfl := hw.symm
    clear LG0
    go_wp2_with fail
    refine LG1.out.mono ?_
    rintro e w' ⟨rfl, hw⟩
    obtain rfl := hw.symm
    clear LG1
    go_wp2_with fail
    go_ret
    exact ⟨rfl, Below.refl _ _⟩
  rw [decide_eq_false hl1] at LG1
  have l0 : bs0.length ≤ 1048576 := by omega
  have l1 : bs1.length ≤ 1048576 := by omega
  clear hl0 hl1 hm0 hm1
  have DR := Lib.hid (drawStepNode_any w h0 l0)
  clear hr0 h0
  go_enter Tryz.func3, Tryz.ntmps3
  go_wp2_with fail
  refine LG0.out.mono ?_
  rintro e w' ⟨rfl, hw⟩
  obtain rfl := hw.symm
  clear LG0
  go_wp2_with fail
  refine LG1.out.mono ?_
  rintro e w' ⟨rfl, hw⟩
  obtain rfl := hw.symm
  clear LG1
  go_upto_region 4 with (first | (go_at_call 6; refine DR.out.mono ?_; rintro e w1 ⟨x, tb, xs, ss, n0, n1, n2, n3, rfl, hn, htb, hxs, hss, hb1⟩; have hn' := hn; obtain ⟨qn, cn, rfl, -⟩ := hn') | fail)
  obtain ⟨s, hs⟩ : ∃ s, s = w1.heap.size := ⟨_, rfl⟩
  obtain ⟨F, hF⟩ : ∃ F, F = w1.alloc (.cells #[.int .i64 x.kind, .int .i64 x.a, .int .i64 x.b, .slice qn x.src.length cn] 26) := ⟨_, rfl⟩
  have hbF : Below w1.heap.size w1 F := by rw [hF]; exact (Below.refl _ _).alloc (Nat.le_refl _) _
  have bn : Box F s [.int .i64 x.kind, .int .i64 x.a, .int .i64 x.b, .slice qn x.src.length cn] 26 := by rw [hF, hs]; exact Box.newAt _ [.int .i64 x.kind, .int .i64 x.a, .int .i64 x.b, .slice qn x.src.length cn] _ rfl
  rw [← hF, ← hs]
  have HB := Lib.hid (hb1.trans (hbF.mono hb1.size))
  have HN := Lib.hid (hn.below hbF)
  have HTB := Lib.hid (htb.below hbF)
  have HXS := Lib.hid (hxs.below hbF)
  have HSS : Hid (VIc F n3 ss) := by
    obtain ⟨p, c, e, hr, hc⟩ := hss
    exact ⟨p, c, e, hr.below hbF, hc⟩
  have HT := Lib.hid (hT.below HB.out)
  have HEE := Lib.hid (hE.below HB.out)
  have HC := Lib.hid (hC.below HB.out)
  have HV1 := Lib.hid (h1.below HB.out)
  have SNC := Lib.hid (implStepNode_v F HN.out HTB.out HXS.out HSS.out)
  have z0 := bn.cell 0 rfl
  have z1 := bn.cell 1 rfl
  have z2 := bn.cell 2 rfl
  have z3 := bn.cell 3 rfl
  have HBN := Lib.hid bn
  obtain ⟨ptb, ctb, rfl, -⟩ := htb
  obtain ⟨pxs, cxs, rfl, -⟩ := hxs
  obtain ⟨pss, css, rfl, -, -⟩ := hss
  clear DR hn hF hs hbF bn hb1 hT hE hC h1
  by_cases hcode : snCode x tb xs ss = 0
  · obtain ⟨hv, ha⟩ := sn_code.1 hcode
    rw [hcode] at SNC
    have hx4 := snValid_node hv
    have hy : snOut x tb xs ss = outP x tb xs ss := by unfold snOut; rw [hv, ha]; rfl
    have hz : snNext x tb xs ss = nextP x xs ss (outP x tb xs ss) := by unfold snNext; rw [hv, ha]; rfl
    rw [hy, hz] at SNC
    have HV := Lib.hid hv
    have HA := Lib.hid ha
    have HX4 := Lib.hid hx4
    have NT : Hid (∀ W, Below F.heap.size F W → Calls Tryz.prog 9 #[.agg #[.int .i64 x.kind, .int .i64 x.a, .int .i64 x.b, .slice qn x.src.length cn]] W fun e w' => e = .returned (.string (bs (nodeStr x))) ∧ Below W.heap.size W w') := fun W hW => by
      have := implNodeText_v W (HN.out.below hW) (HT.out.below hW)
      unfold nodeRes at this
      rw [if_pos hx4] at this
      exact this
    have hsz : (bs (nodeStr x)).size ≤ 1048576 := by
      have := nodeStr_le hx4
      show (nodeStr x).toArray.size ≤ 1048576
      simp
      omega
    have RDN : Hid (∀ W, Below F.heap.size F W → Calls Tryz.prog 8 #[.string (bs (nodeStr x))] W fun e w' => ∃ q9 c9, e = .returned (.tuple #[.agg #[.int .i64 x.kind, .int .i64 x.a, .int .i64 x.b, .slice q9 x.src.length c9], .bool true]) ∧ OwnI W.heap.size w' (.slice q9 x.src.length c9) x.src ∧ Below W.heap.size W w') := fun W hW => (implReadNode_v W hsz (HT.out.below hW) (HEE.out.below hW) (HC.out.below hW)).mono fun e w' ⟨u, L, he, ho, hd, hb⟩ => by
      have e1 : readN (bs (nodeStr x)) = some x := (readN_iff _ x).2 ⟨hx4, rfl⟩
      have e2 : nodeRd (bs (nodeStr x)) = x := by unfold nodeRd; rw [e1]; rfl
      rw [e2] at ho
      obtain ⟨u3, L3, rfl, -, o3⟩ := ho
      have o4 := o3.1
      obtain ⟨q9, c9, rfl, -⟩ := o4.rd
      refine ⟨q9, c9, ?_, o4, hb⟩
      rw [he]; unfold okRd; rw [e1]; rfl
    generalize bs (nodeStr x) = TX at NT RDN hsz
    clear hcode hv ha hx4 hy hz
    go_upto_region 8 with (first | (go_at_call 7; refine SNC.out.mono ?_; rintro e w2 ⟨u2, L2, rfl, how, -, hb2⟩; have how := how.1; obtain ⟨q2, c2, rfl, -⟩ := how.rd; have y0 := (HBN.out.below hb2).cell 0 rfl; have y1 := (HBN.out.below hb2).cell 1 rfl; have y2 := (HBN.out.below hb2).cell 2 rfl; have y3 := (HBN.out.below hb2).cell 3 rfl) | (go_at_call 9; refine (NT.out _ hb2).mono ?_; rintro e w3 ⟨rfl, hb3⟩; have hb23 := hb2.trans (hb3.mono hb2.size)) | (go_at_call 8; refine (RDN.out _ hb23).mono ?_; rintro e w4 ⟨q9, c9, rfl, ho9, hb4⟩) | fail)
    obtain ⟨t, ht⟩ : ∃ t, t = w4.heap.size := ⟨_, rfl⟩
    obtain ⟨G, hG⟩ : ∃ G, G = w4.alloc (.cells #[.int .i64 x.kind, .int .i64 x.a, .int .i64 x.b, .slice q9 x.src.length c9] 26) := ⟨_, rfl⟩
    have hbG : Below w4.heap.size w4 G := by rw [hG]; exact (Below.refl _ _).alloc (Nat.le_refl _) _
    have bt : Box G t [.int .i64 x.kind, .int .i64 x.a, .int .i64 x.b, .slice q9 x.src.length c9] 26 := by rw [hG, ht]; exact Box.newAt _ [.int .i64 x.kind, .int .i64 x.a, .int .i64 x.b, .slice q9 x.src.length c9] _ rfl
    have hb2G := (hb3.trans (hb4.mono hb3.size)).trans (hbG.mono (Nat.le_trans hb3.size hb4.size))
    have hFG := hb2.trans (hb2G.mono hb2.size)
    have bs1 := HBN.out.below hFG
    have HOW := Lib.hid (how.below hb2G)
    have HFG := Lib.hid hFG
    have r9 := (ho9.below hbG).rd
    obtain ⟨q9', c9', e9, r9⟩ := r9
    obtain ⟨rfl, -, rfl⟩ := (Value.slice.injEq _ _ _ _ _ _).mp e9
    have rn := HN.out.below hFG
    obtain ⟨qn', cn', en, rn⟩ := rn
    simp only [Value.agg.injEq, Array.mk.injEq, List.cons.injEq, and_true, true_and, Value.slice.injEq] at en
    obtain ⟨rfl, rfl⟩ := en
    have hsl3 : x.src.length ≤ 1048576 := by
      have := nodeB_bounds HX4.out
      omega
    have BN : Hid (∀ W, Below G.heap.size G W → Calls Tryz.prog 10 #[.slice q9 x.src.length c9, .slice qn x.src.length cn] W fun e w' => e = .returned (.bool true) ∧ Below W.heap.size W w') := fun W hW => b10Nums_true W (r9.below hW) (rn.below hW) hsl3
    obtain ⟨nS, hnS⟩ : ∃ n, n = (startL x).length := ⟨_, rfl⟩
    have SZ : Hid (∀ W, Below G.heap.size G W → Calls Tryz.prog 11 #[.agg #[.int .i64 x.kind, .int .i64 x.a, .int .i64 x.b, .slice qn x.src.length cn]] W fun e w' => e = .returned (.int .i64 (nS : Int)) ∧ Below W.heap.size W w') := fun W hW => by
      have := implStateSize_v W (HN.out.below (hFG.trans (hW.mono hFG.size)))
      unfold startSize at this
      rw [if_pos HX4.out, ← hnS] at this
      exact this
    have ST : Hid (∀ W, Below G.heap.size G W → Calls Tryz.prog 12 #[.agg #[.int .i64 x.kind, .int .i64 x.a, .int .i64 x.b, .slice qn x.src.length cn]] W fun e w' => ∃ q4 c4, e = .returned (.slice q4 nS c4) ∧ Below W.heap.size W w') := fun W hW => (implStartNode_v W (HN.out.below (hFG.trans (hW.mono hFG.size)))).mono fun e w' h => by
      obtain ⟨u4, L4, he, ho, -, hb⟩ := h
      obtain ⟨q4, c4, rfl, -⟩ := ho.1.rd
      refine ⟨q4, c4, ?_, hb⟩
      rw [he, hnS]
      unfold startRes
      rw [if_pos HX4.out]
    have hlen : (nextP x xs ss (outP x tb xs ss)).length = nS := by rw [hnS]; exact nextP_len HV.out HA.out
    have CK : Hid (∀ W, Below G.heap.size G W → W.cell? ⟨s, 0, none⟩ = some (.int .i64 x.kind) ∧ W.cell? ⟨s, 1, none⟩ = some (.int .i64 x.a) ∧ W.cell? ⟨s, 2, none⟩ = some (.int .i64 x.b) ∧ W.cell? ⟨s, 3, none⟩ = some (.slice qn x.src.length cn) ∧ W.cell? ⟨t, 0, none⟩ = some (.int .i64 x.kind) ∧ W.cell? ⟨t, 1, none⟩ = some (.int .i64 x.a) ∧ W.cell? ⟨t, 2, none⟩ = some (.int .i64 x.b) ∧ W.cell? ⟨t, 3, none⟩ = some (.slice q9 x.src.length c9)) := fun W hW => ⟨(bs1.below hW).cell 0 rfl, (bs1.below hW).cell 1 rfl, (bs1.below hW).cell 2 rfl, (bs1.below hW).cell 3 rfl, (bt.below hW).cell 0 rfl, (bt.below hW).cell 1 rfl, (bt.below hW).cell 2 rfl, (bt.below hW).cell 3 rfl⟩
    rw [← hG, ← ht, hlen]
    have HLN := Lib.hid hlen
    have HNS := Lib.hid hnS
    have hcur := belowDrewD G
    clear hG ht hbG bt hb2G hFG bs1 how r9 rn e9 ho9 hb2 hb3 hb4 hb23 hlen hnS y0 y1 y2 y3 hsz hsl3 z0 z1 z2 z3
    obtain ⟨k0, k1, k2, k3, k4, k5, k6, k7⟩ := CK.out G.drew hcur
    go_wp2_with fail
    go_region_held3 (fun W => W.cell? ⟨s, 0, none⟩ = some (.int .i64 x.kind) ∧ W.cell? ⟨s, 1, none⟩ = some (.int .i64 x.a) ∧ W.cell? ⟨s, 2, none⟩ = some (.int .i64 x.b) ∧ W.cell? ⟨s, 3, none⟩ = some (.slice qn x.src.length cn) ∧ W.cell? ⟨t, 0, none⟩ = some (.int .i64 x.kind) ∧ W.cell? ⟨t, 1, none⟩ = some (.int .i64 x.a) ∧ W.cell? ⟨t, 2, none⟩ = some (.int .i64 x.b) ∧ W.cell? ⟨t, 3, none⟩ = some (.slice q9 x.src.length c9)) (first | go_keep | exact CK.out _ (by (repeat (first | exact Below.refl _ _ | assumption | refine Below.setCell ?_ (by first | exact Nat.le_refl _ | omega | (simp; done) | (simp; omega)) _ | refine Below.alloc ?_ (by first | exact Nat.le_refl _ | omega | (simp; done) | (simp; omega)) _ | refine below_drewN ?_ _)))) ((first | (go_at_call 10; refine (BN.out _ hcur).mono ?_; rintro e W1 ⟨rfl, hb⟩; have hcur := hcur.trans (hb.mono hcur.size)) | (go_at_call 11; refine (SZ.out _ hcur).mono ?_; rintro e W2 ⟨rfl, hb⟩; have hcur := hcur.trans (hb.mono hcur.size)) | (go_at_call 12; refine (ST.out _ hcur).mono ?_; rintro e W3 ⟨q4, c4, rfl, hb⟩; have hcur := hcur.trans (hb.mono hcur.size)) | fail))
    all_goals
      have HG := Lib.hid hcur
      clear hcur k0 k1 k2 k3 k4 k5 k6 k7
      obtain ⟨Wa, hWa⟩ : ∃ W, W = W2 := ⟨_, rfl⟩
      rw [← hWa] at HG ⊢
      have b0 := ((HFG.out.trans (HG.out.mono HFG.out.size)))
      have HBA := Lib.hid b0
      have BX := Lib.hid (HBN.out.below b0)
      have HTA := Lib.hid (HB.out.trans (b0.mono HB.out.size))
      have HOA := Lib.hid (HOW.out.below HG.out)
      have HVA := Lib.hid (HV1.out.below b0)
      have LK := Lib.hid (implLinearKind_any x.kind Wa)
      have z0 := BX.out.cell 0 rfl
      clear hWa b0 CK BN SZ ST HOW HFG
      cases hkl : kindLinear x.kind
      · rw [hkl] at LK
        clear hkl
        go_wp2_with (first | (go_at_call 13; refine LK.out.mono ?_; rintro e w5 ⟨rfl, hb5⟩) | fail)
        go_ret
        exact ⟨rfl, HTA.out.trans (hb5.mono HTA.out.size)⟩
      · rw [hkl] at LK
        have HKL := Lib.hid hkl
        clear hkl
        go_upto_region 12 with (first | (go_at_call 13; refine LK.out.mono ?_; rintro e w5 ⟨rfl, hb5⟩) | fail)
        obtain ⟨B, hB⟩ : ∃ B, B = w5.heap.size := ⟨_, rfl⟩
        obtain ⟨w6, hw6⟩ : ∃ W, W = w5.alloc (.cells #[] 2) := ⟨_, rfl⟩
        have hb6 : Below w5.heap.size w5 w6 := by rw [hw6]; exact (Below.refl _ _).alloc (Nat.le_refl _) _
        have ho6 : OwnI B w6 (.slice (some ⟨B, 0, none⟩) 0 0) [] := by rw [hw6, hB]; exact OwnI.lit (B := w5.heap.size) w5 [] (Nat.le_refl _) (by simp [maxLen])
        have HW6 := Lib.hid hw6
        have HBB := Lib.hid hB
        have HO6 := Lib.hid ho6
        have H5 := Lib.hid hb5
        have H6 : Hid (Below B w5 w6) := by rw [hB]; exact hb6
        have hxl : xs.length ≤ 3 := by
          have h1 := HA.out
          unfold stArgB at h1
          simp only [Bool.and_eq_true, decide_eq_true_eq] at h1
          have h2 := h1.1.1.1
          have h3 := HX4.out
          unfold nodeB at h3
          simp only [Bool.and_eq_true] at h3
          have h4 := kAr_le3' h3.1.1.1.1
          unfold inN at h2
          split at h2 <;> omega
        clear hw6 hB ho6 hb5 hb6 LK z0
        go_upto_region 13 with fail
        rw [← HW6.out, ← HBB.out]
        go_wp2_with fail
        go_loopw [14, 15] (fun v i wr => ∃ (k : Nat) (ys : List Int), k ≤ xs.length ∧ i = .int .i64 (k : Int) ∧ ys.length = k ∧ ys.all isSmp = true ∧ OwnI B wr v ys ∧ Below B w5 wr) (fun _ i _ => xs.length - (intOf i).toNat)
        case atStart => exact ⟨0, [], Nat.zero_le _, rfl, rfl, rfl, HO6.out, H6.out⟩
        case round =>
          obtain ⟨k, ys, hk, rfl, hyl, hys, hoy, hby⟩ := hrel
          obtain ⟨wi, rfl⟩ : ∃ W : World, W = wr := ⟨_, rfl⟩
          have HYS := Lib.hid hys
          clear HO6 H6 hys
          by_cases hlt : k < xs.length
          · have hz : B ≤ wi.heap.size := by have := hby.size; rw [HBB.out]; exact this
            have hl5 : ys.length < 17592186044415 := by omega
            have AT := Lib.hid (b10At_any k 256 wi ((HVA.out.below H5.out).below (by rw [← HBB.out]; exact hby)) l1 (by omega) (by omega) (by omega))
            go_wp2_with (first | (go_at_call 14; refine AT.out.mono ?_; rintro e w7 ⟨y, hy1, hy2, rfl, rfl⟩) | (at_builtin; refine wpList_append_one rfl _ _ rfl rfl hoy rfl hby hl5 hz (Nat.le_refl _) ?_; intro v' w8 hv hb8 hz8 hk8) | fail)
            have hy3 : isSmp (y - 100) = true := isSmp_iff.2 (by omega)
            go_roundw
            case rel => exact ⟨k + 1, ys ++ [y - 100], by omega, by go_num, by simp; omega, by rw [List.all_append, HYS.out]; simp [hy3], hv, hb8⟩
            case measure => simp [intOf] <;> omega
          · obtain rfl : k = xs.length := by omega
            obtain ⟨qo, co, rfl, -⟩ := hoy.rd
            rw [hyl] at hoy ⊢
            have HYL := Lib.hid hyl
            clear hyl
            have hBi : Below w5.heap.size w5 wi := by rw [← HBB.out]; exact hby
            obtain ⟨B2, hB2⟩ : ∃ B, B = wi.heap.size := ⟨_, rfl⟩
            obtain ⟨x6, hx6⟩ : ∃ W, W = wi.alloc (.cells #[] 2) := ⟨_, rfl⟩
            have hb6 : Below B2 wi x6 := by rw [hx6, hB2]; exact (Below.refl _ _).alloc (Nat.le_refl _) _
            have ho6 : OwnI B2 x6 (.slice (some ⟨B2, 0, none⟩) 0 0) [] := by rw [hx6, hB2]; exact OwnI.lit (B := wi.heap.size) wi [] (Nat.le_refl _) (by simp [maxLen])
            have HX6 := Lib.hid hx6
            have HB2 := Lib.hid hB2
            have HO6 := Lib.hid ho6
            have H6 := Lib.hid hb6
            have HOY := Lib.hid hoy
            have H5i := Lib.hid (H5.out.trans (hBi.mono H5.out.size))
            have hsl2 : ss.length ≤ 16 := by
              have h1 := HA.out
              unfold stArgB at h1
              simp only [Bool.and_eq_true, decide_eq_true_eq] at h1
              have h2 := startL_length (startOk_of HX4.out)
              omega
            clear hx6 hB2 ho6 hb6 hby hoy hBi hlt hk
            go_upto_region 18 with fail
            rw [← HX6.out, ← HB2.out]
            go_wp2_with fail
            go_loopw [16, 17] (fun v i wr => ∃ (k : Nat) (cs : List Int), k ≤ ss.length ∧ i = .int .i64 (k : Int) ∧ cs.length = k ∧ cs.all isSmp = true ∧ OwnI B2 wr v cs ∧ Below B2 wi wr) (fun _ i _ => ss.length - (intOf i).toNat)
            case atStart => exact ⟨0, [], Nat.zero_le _, rfl, rfl, rfl, HO6.out, H6.out⟩
            case round =>
              obtain ⟨k, cs, hk, rfl, hcl, hcs, hoc, hbc⟩ := hrel
              obtain ⟨wj, rfl⟩ : ∃ W : World, W = wr := ⟨_, rfl⟩
              have HCS := Lib.hid hcs
              clear HO6 H6 hcs
              have hBj : Hid (Below wi.heap.size wi wj) := by unfold Hid; rw [← HB2.out]; exact hbc
              by_cases hlt : k < ss.length
              · have hz : B2 ≤ wj.heap.size := by have := hbc.size; rw [HB2.out]; exact this
                have hl5 : cs.length < 17592186044415 := by omega
                have AT : Hid (Calls Tryz.prog 14 #[.slice p1 bs1.length c1, .int .i64 (4 + (k : Int)), .int .i64 256] wj fun e w' => ∃ r, 0 ≤ r ∧ r < 256 ∧ e = .returned (.int .i64 r) ∧ wj = w') := by
                  rw [show (4 : Int) + (k : Int) = ((4 + k : Nat) : Int) by omega]
                  exact b10At_any (4 + k) 256 wj ((HVA.out.below H5i.out).below hBj.out) l1 (by omega) (by omega) (by omega)
                go_wp2_with (first | (go_at_call 14; refine AT.out.mono ?_; rintro e w7 ⟨y, hy1, hy2, rfl, rfl⟩) | (at_builtin; refine wpList_append_one rfl _ _ rfl rfl hoc rfl hbc hl5 hz (Nat.le_refl _) ?_; intro v' w8 hv hb8 hz8 hk8) | fail)
                have hy3 : isSmp (y - 100) = true := isSmp_iff.2 (by omega)
                go_roundw
                case rel => exact ⟨k + 1, cs ++ [y - 100], by omega, by go_num, by simp; omega, by rw [List.all_append, HCS.out]; simp [hy3], hv, hb8⟩
                case measure => simp [intOf] <;> omega
              · obtain rfl : k = ss.length := by omega
                obtain ⟨qc, cc, rfl, -⟩ := hoc.rd
                rw [hcl] at hoc ⊢
                have HCL := Lib.hid hcl
                clear hcl
                have hB5 := H5i.out.trans (hBj.out.mono H5i.out.size)
                have HFJ := Lib.hid (HBA.out.trans (hB5.mono HBA.out.size))
                have HA2 : Hid (stArgB x ys cs = true) := by
                  have h1 := HA.out
                  unfold Hid
                  unfold stArgB at h1 ⊢
                  simp only [Bool.and_eq_true, decide_eq_true_eq] at h1 ⊢
                  exact ⟨⟨⟨by rw [HYL.out]; exact h1.1.1.1, by rw [HCL.out]; exact h1.1.1.2⟩, HYS.out⟩, HCS.out⟩
                have rO : VI wj (.slice qo xs.length co) ys := by
                  obtain ⟨q', c', e, r⟩ := ((HOY.out.below hBj.out)).rd
                  rw [HYL.out] at e
                  obtain ⟨rfl, -, rfl⟩ := (Value.slice.injEq _ _ _ _ _ _).mp e
                  exact ⟨_, _, by rw [HYL.out], r⟩
                have rC : VIc wj (.slice qc ss.length cc) cs := by
                  obtain ⟨q', c', e, r⟩ := hoc.rd
                  rw [HCL.out] at e
                  obtain ⟨rfl, -, rfl⟩ := (Value.slice.injEq _ _ _ _ _ _).mp e
                  exact ⟨_, _, by rw [HCL.out], r, by have := hoc.cap; rw [HCL.out]; exact this⟩
                have SN2 := Lib.hid (implStepNode_v wj (HN.out.below HFJ.out) (HTB.out.below HFJ.out) rO rC)
                have hy2 : snOut x tb ys cs = outP x tb ys cs := by unfold snOut; rw [HV.out, HA2.out]; rfl
                have hz2 : snNext x tb ys cs = nextP x ys cs (outP x tb ys cs) := by unfold snNext; rw [HV.out, HA2.out]; rfl
                rw [sn_code.2 ⟨HV.out, HA2.out⟩, hy2, hz2] at SN2
                clear hy2 hz2
                have BXJ := HBN.out.below HFJ.out
                have z0 := BXJ.cell 0 rfl
                have z1 := BXJ.cell 1 rfl
                have z2 := BXJ.cell 2 rfl
                have z3 := BXJ.cell 3 rfl
                clear hlt hbc BXJ
                go_upto_region 23 with (first | (go_at_call 7; refine SN2.out.mono ?_; rintro e w9 ⟨u9, L9, rfl, how9, -, hb9⟩; have how9 := how9.1; obtain ⟨q9, c9, rfl, r9⟩ := how9.rd; rw [nextP_len HV.out HA2.out, ← HNS.out]) | fail)
                have HR9 := Lib.hid r9
                have HOW9 := Lib.hid how9
                clear how9 r9
                have hAx : xs.all isSmp = true ∧ ss.all isSmp = true := by
                  have h1 := HA.out
                  unfold stArgB at h1
                  simp only [Bool.and_eq_true] at h1
                  exact ⟨h1.1.2, h1.2⟩
                have HAX := Lib.hid hAx
                have HF9 := Lib.hid (HFJ.out.trans (hb9.mono HFJ.out.size))
                have rC1 : VI wj (.slice qc ss.length cc) cs := by
                  obtain ⟨q', c', e, r, -⟩ := rC
                  exact ⟨q', c', e, r⟩
                have AD1 := Lib.hid (specAdd_any w9 (HXS.out.below HF9.out) (rO.below hb9) hAx.1 HYS.out HYL.out (by omega))
                have VSS : Hid (VI F (.slice pss ss.length css) ss) := by
                  obtain ⟨q', c', e, r, -⟩ := HSS.out
                  exact ⟨q', c', e, r⟩
                have AD2 : Hid (∀ W, Below w9.heap.size w9 W → Calls Tryz.prog 15 #[.slice pss ss.length css, .slice qc ss.length cc] W fun e w' => ∃ x, e = .returned (.tuple #[x, .int .i64 0]) ∧ OwnI W.heap.size w' x (adL ss cs ss.length) ∧ Below W.heap.size W w') := fun W hW => specAdd_any W (VSS.out.below (HF9.out.trans (hW.mono HF9.out.size))) ((rC1.below hb9).below hW) HAX.out.2 HCS.out HCL.out (by omega)
                clear z0 z1 z2 z3 hAx SN2
                go_upto_region 25 with (first | (go_at_call_of 15 (Value.slice pxs xs.length cxs); refine AD1.out.mono ?_; rintro e v1 ⟨a1, rfl, oa1, hc1⟩; rw [adL_zs HYL.out] at oa1; obtain ⟨qa1, ca1, rfl, ra1⟩ := oa1.rd) | (go_at_call_of 15 (Value.slice pss ss.length css); refine (AD2.out _ hc1).mono ?_; rintro e v2 ⟨a2, rfl, oa2, hc2⟩; rw [adL_zs HCL.out] at oa2; obtain ⟨qa2, ca2, rfl, ra2⟩ := oa2.rd) | fail)
                have N12 : Hid (outP x tb (zs xs ys) (zs ss cs) = smp (outP x tb xs ss + outP x tb ys cs) ∧ nextP x (zs xs ys) (zs ss cs) (smp (outP x tb xs ss + outP x tb ys cs)) = zs (nextP x xs ss (outP x tb xs ss)) (nextP x ys cs (outP x tb ys cs)) ∧ (nextP x xs ss (outP x tb xs ss)).length = ss.length ∧ (nextP x ys cs (outP x tb ys cs)).length = ss.length) := node_linear HV.out HA.out HA2.out HKL.out
                have HA3 : Hid (stArgB x (zs xs ys) (zs ss cs) = true) := by
                  have h1 := HA.out
                  unfold Hid
                  unfold stArgB at h1 ⊢
                  simp only [Bool.and_eq_true, decide_eq_true_eq] at h1 ⊢
                  exact ⟨⟨⟨by rw [zs_length HYL.out]; exact h1.1.1.1, by rw [zs_length HCL.out]; exact h1.1.1.2⟩, zs_smp _ _⟩, zs_smp _ _⟩
                have F2 := Lib.hid ((HF9.out.trans (hc1.mono HF9.out.size)).trans (hc2.mono (Nat.le_trans HF9.out.size hc1.size)))
                have SN3 : Hid (Calls Tryz.prog 7 #[.agg #[.int .i64 x.kind, .int .i64 x.a, .int .i64 x.b, .slice qn x.src.length cn], .slice ptb tb.length ctb, .slice qa1 (zs xs ys).length ca1, .slice qa2 (zs ss cs).length ca2] v2 (RetS v2 (smp (outP x tb xs ss + outP x tb ys cs)) (zs (nextP x xs ss (outP x tb xs ss)) (nextP x ys cs (outP x tb ys cs))) 0)) := by
                  have r1 : VI v2 (.slice qa1 (zs xs ys).length ca1) (zs xs ys) := ⟨_, _, rfl, ra1.below hc2⟩
                  have r2 : VIc v2 (.slice qa2 (zs ss cs).length ca2) (zs ss cs) := ⟨_, _, rfl, ra2, oa2.cap⟩
                  have h := implStepNode_v v2 (HN.out.below F2.out) (HTB.out.below F2.out) r1 r2
                  have hy2 : snOut x tb (zs xs ys) (zs ss cs) = smp (outP x tb xs ss + outP x tb ys cs) := by unfold snOut; rw [HV.out, HA3.out]; exact N12.out.1
                  have hz2 : snNext x tb (zs xs ys) (zs ss cs) = zs (nextP x xs ss (outP x tb xs ss)) (nextP x ys cs (outP x tb ys cs)) := by unfold snNext; rw [HV.out, HA3.out]; show nextP x _ _ (outP x tb _ _) = _; rw [N12.out.1]; exact N12.out.2.1
                  rw [sn_code.2 ⟨HV.out, HA3.out⟩, hy2, hz2] at h
                  exact h
                have BX2 := HBN.out.below F2.out
                have z0 := BX2.cell 0 rfl
                have z1 := BX2.cell 1 rfl
                have z2 := BX2.cell 2 rfl
                have z3 := BX2.cell 3 rfl
                have HR9b := Lib.hid ((HR9.out.below hc1).below hc2)
                have hW2 := HB.out.trans (F2.out.mono HB.out.size)
                clear oa1 oa2 ra1 ra2 BX2
                go_upto_region 26 with (first | (go_at_call 7; refine SN3.out.mono ?_; rintro e v3 ⟨u3, L3, rfl, how3, -, hc3⟩; have how3 := how3.1; obtain ⟨q3, c3, rfl, r3⟩ := how3.rd) | fail)
                have F3 := Lib.hid (F2.out.trans (hc3.mono F2.out.size))
                have hW3 := hW2.trans (hc3.mono hW2.size)
                have hnl : (nextP x xs ss (outP x tb xs ss)).length = nS := HLN.out
                have hnl2 : (nextP x ys cs (outP x tb ys cs)).length = nS := by rw [nextP_len HV.out HA2.out]; exact HNS.out.symm
                have AD3 : Hid (Calls Tryz.prog 15 #[.slice q2 nS c2, .slice q9 nS c9] v3 fun e w' => ∃ x1, e = .returned (.tuple #[x1, .int .i64 0]) ∧ OwnI v3.heap.size w' x1 (zs (nextP x xs ss (outP x tb xs ss)) (nextP x ys cs (outP x tb ys cs))) ∧ Below v3.heap.size v3 w') := by
                  have r1 : VI v3 (.slice q2 nS c2) (nextP x xs ss (outP x tb xs ss)) := by
                    have hWa := HTA.out
                    obtain ⟨q', c', e, r⟩ := ((((((HOA.out.below H5i.out).below hBj.out).below hb9).below hc1).below hc2).below hc3).rd
                    obtain ⟨rfl, -, rfl⟩ := (Value.slice.injEq _ _ _ _ _ _).mp e
                    exact ⟨_, _, by rw [hnl], r⟩
                  have r2 : VI v3 (.slice q9 nS c9) (nextP x ys cs (outP x tb ys cs)) := ⟨_, _, by rw [hnl2], HR9b.out.below hc3⟩
                  have h := specAdd_any v3 r1 r2 (nextP_isSmp HKL.out HAX.out.1 HAX.out.2 (outP_isSmp HKL.out HAX.out.1 HAX.out.2)) (nextP_isSmp HKL.out HYS.out HCS.out (outP_isSmp HKL.out HYS.out HCS.out)) (by rw [hnl, hnl2]) (by rw [N12.out.2.2.1]; omega)
                  rw [adL_zs (by rw [hnl, hnl2])] at h
                  exact h
                clear z0 z1 z2 z3 hnl hnl2
                go_upto_region 27 with (first | (go_at_call 15; refine AD3.out.mono ?_; rintro e v4 ⟨a4, rfl, oa4, hc4⟩; obtain ⟨q4, c4, rfl, r4⟩ := oa4.rd) | fail)
                have NUM := Lib.hid (b10Nums_true v4 (c := c3) (d := c4) (r3.below hc4) r4 (by rw [zs_length (by rw [N12.out.2.2.1, N12.out.2.2.2]), N12.out.2.2.1]; omega))
                have hW4 := hW3.trans (hc4.mono hW3.size)
                clear oa4 how3 r3 r4 hW2 hW3
                go_wp2_with (first | (go_at_call 16; refine (wrapAdd_any _ _ _).mono ?_; rintro e w' ⟨rfl, rfl⟩) | (go_at_call 10; refine NUM.out.mono ?_; rintro e v5 ⟨rfl, hc5⟩) | fail)
                go_ret
                exact ⟨rfl, hW4.trans (hc5.mono hW4.size)⟩
  · have hc : (snCode x tb xs ss == 0) = false := by rw [beq_eq_false_iff_ne]; exact hcode
    have hc2 : (snCode x tb xs ss != 0) = true := by rw [bne, hc]; rfl
    go_wp2_with (first | (go_at_call 7; refine SNC.out.mono ?_; rintro e w2 ⟨u2, L2, rfl, how, -, hb2⟩) | fail)
    go_ret
    exact ⟨rfl, HB.out.trans (hb2.mono HB.out.size)⟩
end Go.Proofs.YtdcacmmglkcliaaGreatDoor
