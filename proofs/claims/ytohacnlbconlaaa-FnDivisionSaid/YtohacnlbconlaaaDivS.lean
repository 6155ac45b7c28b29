/-
  Sums and products of polynomials by the reference.
-/
import Derived.Test.YtohacnlbconlaaaDivP
import Derived.StillTailTactics
namespace Go.Proofs.Ytohacnlbconlaaa
open Go.ChangeShapes Go.WideShapes Go.ChangeAt Go.RowKit
set_option linter.unusedVariables false

theorem mulL_alt {a b : List Int} (ha : 1 ≤ a.length) (hb : 1 ≤ b.length) : trimL (mpL a b (a.length + b.length - 1) a.length 0) = mulL a b := by
  refine canon_ext (trimL_canon _) (trimL_canon _) fun j => ?_
  rw [trimL_get, mulL_get]
  by_cases h : j < a.length + b.length - 1
  · rw [mpL_get a b h, mp_cv]
  · rw [getD_nil' _ (by rw [mpL_length]; exact h)]
    have : cv (fun i => a.getD i 0) (fun i => b.getD i 0) j = 0 := sumN_zero _ fun i hi => by
      show a.getD i 0 * b.getD (j - i) 0 = 0
      by_cases h1 : i < a.length
      · rw [getD_nil' b (by omega), Int.mul_zero]
      · rw [getD_nil' a h1, Int.zero_mul]
    rw [this]; rfl
set_option maxHeartbeats 3200000 in
set_option maxRecDepth 100000 in
theorem l04Mul_any {p q : Option Addr} {c d : Nat} {a b : List Int} (w : World) (h : RdI w p a) (h' : RdI w q b) (ha : 1 ≤ a.length) (hb : 1 ≤ b.length) (hal : a.length ≤ 65) (hbl : b.length ≤ 65) :
    Calls Try.prog 60 #[.slice p a.length c, .slice q b.length d] w fun e w' => ∃ v, e = .returned v ∧ OwnI w.heap.size w' v (mulL a b) ∧ Below w.heap.size w w' := by
  obtain ⟨n, hn⟩ : ∃ n, n + 1 = a.length + b.length := ⟨a.length + b.length - 1, by omega⟩
  have HMU : Hid (trimL (mpL a b n a.length 0) = mulL a b) := by
    unfold Hid; rw [← mulL_alt ha hb, show a.length + b.length - 1 = n by omega]
  generalize mulL a b = ML at HMU ⊢
  have hn130 : n ≤ 129 := by omega
  have hmk := fun W => run_make_row' (P := Try.prog) 24 2 (.int .i64 0) 8 Try.underlying24 infoI rfl .i64 .i64 n (by omega) (by omega) W
  have hown0 := OwnI.made (B := w.heap.size) w n (Nat.le_refl _) (by unfold maxLen; omega)
  have hbel0 : Below w.heap.size w (w.alloc (.cells (madeCells #[.int .i64 0] n) 2)) := (Below.refl _ _).alloc (Nat.le_refl _) _
  have hra := Lib.hid h
  have hrb := Lib.hid h'
  have q1 : (((a.length : Int)) == 0) = false := by rw [beq_eq_false_iff_ne]; omega
  have q2 : (((b.length : Int)) == 0) = false := by rw [beq_eq_false_iff_ne]; omega
  have q3 : ((a.length : Int) + (b.length : Int) - 1) = (n : Int) := by omega
  have HN := Lib.hid hn
  clear h h' hn
  obtain ⟨g, hgg⟩ : ∃ g, g = w.heap.size := ⟨_, rfl⟩
  rw [← hgg] at hown0 hbel0
  have HGG := Lib.hid hgg
  clear hgg
  go_enter Try.func60, Try.ntmps60
  go_wp2_with fail
  rw [← HGG.out]
  go_loopw [6] (fun i wr => ∃ k : Nat, k ≤ a.length ∧ i = .int .i64 (k : Int) ∧ OwnI g wr (.slice (some ⟨g, 0, none⟩) n n) (mpL a b n k 0) ∧ Below g w wr) (fun i _ => a.length - (intOf i).toNat)
  case atStart => exact ⟨0, Nat.zero_le _, rfl, by rw [mpL_zero]; exact hown0, hbel0⟩
  case round =>
    obtain ⟨i, hi, rfl, hown, hbel⟩ := hrel
    clear hown0 hbel0
    obtain ⟨wi, rfl⟩ : ∃ wi : World, wi = wr := ⟨_, rfl⟩
    by_cases hlt : i < a.length
    · have HX : Hid (a.getD i 0 = a[i]) := getD_at hlt
      go_wp2_with fail
      go_loopw [7] (fun k wr => ∃ j : Nat, j ≤ b.length ∧ k = .int .i64 (j : Int) ∧ OwnI g wr (.slice (some ⟨g, 0, none⟩) n n) (mpL a b n i j) ∧ Below g w wr) (fun k _ => b.length - (intOf k).toNat)
      case atStart => exact ⟨0, Nat.zero_le _, rfl, hown, hbel⟩
      case round =>
        obtain ⟨j, hj, rfl, hown2, hbel2⟩ := hrel
        clear hown hbel
        obtain ⟨wj, rfl⟩ : ∃ wj : World, wj = wr := ⟨_, rfl⟩
        by_cases hlt2 : j < b.length
        · have hbelB : Below w.heap.size w wj := by rw [← HGG.out]; exact hbel2
          obtain ⟨b1, o1, e1, hbk1, hc1⟩ := (hra.out.below hbelB).pos hlt
          cases e1
          have z1 := hc1 i hlt
          obtain ⟨b2, o2, e2, hbk2, hc2⟩ := (hrb.out.below hbelB).pos hlt2
          cases e2
          have z2 := hc2 j hlt2
          have hij : i + j < n := by have := HN.out; omega
          have HST := Lib.hid (mpL_set a b hij)
          have HL : Hid (i + j < (mpL a b n i j).length) := by unfold Hid; rw [mpL_length]; exact hij
          generalize mpL a b n i j = out at hown2 HST HL
          rw [HX.out, getD_at hlt2, getD_at HL.out] at HST
          obtain ⟨-, -, hgl, hz, hfr, hset⟩ := hown2.storing (k := i + j) HL.out
          generalize out[i + j]'HL.out = z at hz HST
          generalize b[j] = y at z2 HST
          generalize a[i] = xx at z1 HST
          have HSET := Lib.hid hset
          clear hc1 hc2 hbelB HX hset hown2
          have eij : ((i : Int) + (j : Int)).toNat = i + j := by omega
          have lij : (i : Int) + (j : Int) < (n : Int) := by omega
          have wij : IntKind.i64.wrap ((i : Int) + (j : Int)) = (i : Int) + (j : Int) := IntWalk.i64_in _ (by omega)
          have pij : (0 : Int) ≤ (i : Int) + (j : Int) := by omega
          go_wp2_with fail
          refine wp_region_still_tail 20 (by kernel_rfl) (by kernel_rfl) ?_
          simp only [List.take_succ_cons, List.take_zero, List.drop_succ_cons, List.drop_zero]
          change wpStill _ _ (World.drew _) _ _ _
          repeat (first | still_step | (refine wpStill_step (fun K hK => ?_); go_simp; refine ⟨_, (by first | exact Calls.turn (l01Mul_any _ _ _) | exact Calls.turn (l01Add_any _ _ _)), hK _ ?_⟩; clear hK K))
          refine wpStill_nil ?_
          change wpList _ _ _ _ _ (World.drew _)
          go_wp2_with fail
          go_roundw
          case rel => exact ⟨j + 1, by omega, by go_num, by rw [HST.out]; simp only [smp_right]; exact HSET.out _, hbel2.trans ⟨rfl, rfl, rfl, by simp [World.setCell, World.drew], fun k hk => Below.heap_setCell _ _ _ _ (show k ≠ g by omega)⟩⟩
          case measure => simp [intOf] <;> omega
        · obtain rfl : j = b.length := by omega
          go_wp2_with fail
          go_roundw
          case rel => exact ⟨i + 1, by omega, by go_num, by rw [← mpL_row]; exact hown2, hbel2⟩
          case measure => simp [intOf] <;> omega
    · obtain rfl : i = a.length := by omega
      obtain ⟨-, hro⟩ := hown.rdAt
      have hl : (mpL a b n a.length 0).length = n := mpL_length _ _ _ _ _
      have TR := Lib.hid (l04Trim_any (c := n) wi hro (by rw [hl]; omega) (by rw [hl]; exact Nat.le_refl _))
      rw [hl] at TR
      have hbelA : Below w.heap.size w wi := by rw [← HGG.out]; exact hbel
      rw [HMU.out] at TR
      clear hro hl hown
      go_wp2_with (go_at_call 76; refine TR.out.mono ?_; rintro e w2 ⟨v, rfl, ho2, hb2⟩)
      go_ret
      exact ⟨_, rfl, ho2.mono hbelA.size, hbelA.trans (hb2.mono hbelA.size)⟩
theorem l04Fit_any {u : Value} {xs : List Int} (w : World) (h : RdP w u xs) (hl : xs.length ≤ 65) :
    Calls Try.prog 59 #[u] w fun e w' => ∃ v, e = .returned (.tuple #[v, .int .i64 0]) ∧ OwnI w.heap.size w' v (trimL xs) ∧ Below w.heap.size w w' := by
  obtain ⟨p, c, rfl, hr, hc⟩ := h
  have TR := Lib.hid (l04Trim_any (c := c) w hr (by omega) hc)
  have htl := trimL_le xs
  have htl2 : (trimL xs).length ≤ 65 := by omega
  generalize trimL xs = T at TR htl2 ⊢
  clear htl
  go_enter Try.func59, Try.ntmps59
  go_wp2_with fail
  refine TR.out.mono ?_
  rintro e w2 ⟨v, rfl, ho, hb⟩
  have hh := ho
  obtain ⟨vp, vc, rfl, -⟩ := hh.rd
  clear hh
  go_wp2_with fail
  refine bodyPost_ret (v := .tuple #[.slice vp T.length vc, .int .i64 0]) (by simp [results, Try.results59, go_sem, *]) rfl ⟨_, rfl, ho, hb⟩
set_option maxHeartbeats 800000 in
theorem specMulPoly_any {u v : Value} {a b : List Int} (w : World) (h : RdP w u a) (h' : RdP w v b) (ha : PolyV a) (hb : PolyV b) (hab : a.length + b.length ≤ 65) :
    Calls Try.prog 26 #[u, v] w fun e w' => ∃ x, e = .returned (.tuple #[x, .int .i64 0]) ∧ OwnI w.heap.size w' x (mulL a b) ∧ Below w.heap.size w w' := by
  have OA := Lib.hid (l04Ok_true w h ha)
  have OB := Lib.hid (l04Ok_true w h' hb)
  obtain ⟨p, c, rfl, hr, hc⟩ := h
  obtain ⟨q, d, rfl, hr', hc'⟩ := h'
  have MU := Lib.hid (l04Mul_any (c := c) (d := d) w hr hr' ha.1.1 hb.1.1 ha.2.2 hb.2.2)
  have HLn : Hid ((mulL a b).length ≤ 65) := (mulL_poly hab).2.2
  have HT : Hid (trimL (mulL a b) = mulL a b) := trimL_self (trimL_canon _)
  generalize mulL a b = M at MU HLn HT ⊢
  clear hr hr' ha hb hc hc' hab
  go_enter Try.func26, Try.ntmps26
  go_wp2_with (first | (go_at_call_of 50 (Value.slice p a.length c); refine OA.out.mono ?_; rintro e w' ⟨rfl, rfl⟩) | (go_at_call_of 50 (Value.slice q b.length d); refine OB.out.mono ?_; rintro e w' ⟨rfl, rfl⟩))
  refine MU.out.mono ?_
  rintro e w2 ⟨x, rfl, ho, hb2⟩
  go_wp2_with fail
  refine (l04Fit_any w2 ho.rdP HLn.out).mono ?_
  rintro e w3 ⟨y, rfl, ho3, hb3⟩
  rw [HT.out] at ho3
  go_wp2_with fail
  refine bodyPost_ret (v := .tuple #[y, .int .i64 0]) (by simp [results, Try.results26, go_sem, *]) rfl ⟨_, rfl, ho3.mono hb2.size, hb2.trans (hb3.mono hb2.size)⟩
theorem l03At_any {p : Option Addr} {c : Nat} {xs : List Int} (i : Nat) (w : World) (h : RdI w p xs) (hi : i ≤ 1048576) :
    Calls Try.prog 81 #[.slice p xs.length c, .int .i64 (i : Int)] w fun e w' => e = .returned (.int .i64 (xs.getD i 0)) ∧ w = w' := by
  have hl := h.len
  unfold maxLen at hl
  have IN := Lib.hid (l00In_any (i : Int) 0 ((xs.length : Int) - 1) w)
  by_cases h1 : i < xs.length
  · obtain ⟨b, o, rfl, hb, hc⟩ := h.pos h1
    have hck := hc i h1
    rw [getD_at h1]
    rw [inB_true (by omega)] at IN
    generalize xs[i] = x at hck ⊢
    clear hc
    go_enter Try.func81, Try.ntmps81
    go_wp2_with (go_at_call 69; refine IN.out.mono ?_; rintro e w' ⟨rfl, rfl⟩)
    go_ret
    exact ⟨rfl, rfl⟩
  · rw [getD_nil' xs h1]
    rw [inB_false (by omega)] at IN
    go_enter Try.func81, Try.ntmps81
    go_wp2_with (go_at_call 69; refine IN.out.mono ?_; rintro e w' ⟨rfl, rfl⟩)
    go_ret
    exact ⟨rfl, rfl⟩
theorem l00MaxI_any (a b : Int) (w : World) :
    Calls Try.prog 80 #[.int .i64 a, .int .i64 b] w fun e w' => e = .returned (.int .i64 (max a b)) ∧ w = w' := by
  by_cases h : b < a
  · have e : max a b = a := by omega
    rw [e]; clear e
    go_enter Try.func80, Try.ntmps80
    go_wp2
    go_ret
    exact ⟨rfl, rfl⟩
  · have e : max a b = b := by omega
    rw [e]; clear e
    go_enter Try.func80, Try.ntmps80
    go_wp2
    go_ret
    exact ⟨rfl, rfl⟩
theorem atl_succ (a b : List Int) (f : Int) (k : Nat) : atl a b f (k + 1) = atl a b f k ++ [smp (a.getD k 0 + f * b.getD k 0)] := by
  unfold atl; rw [List.range_succ, List.map_append]; rfl
set_option maxHeartbeats 1600000 in
theorem l04Add_any {p q : Option Addr} {c d : Nat} {a b : List Int} (w : World) (h : RdI w p a) (h' : RdI w q b) (hal : a.length ≤ 65) (hbl : b.length ≤ 65) :
    Calls Try.prog 61 #[.slice p a.length c, .slice q b.length d, .int .i64 1] w fun e w' => ∃ v, e = .returned v ∧ OwnI w.heap.size w' v (addL a b 1) ∧ Below w.heap.size w w' := by
  obtain ⟨n, hn⟩ : ∃ n, n = max a.length b.length := ⟨_, rfl⟩
  have HAD : Hid (trimL (atl a b 1 n) = addL a b 1) := by rw [hn]; rfl
  generalize addL a b 1 = AL at HAD ⊢
  have hn65 : n ≤ 65 := by omega
  have MX : Hid (∀ W, Calls Try.prog 80 #[.int .i64 (a.length : Int), .int .i64 (b.length : Int)] W fun e w' => e = .returned (.int .i64 (n : Int)) ∧ W = w') := fun W => by
    have := l00MaxI_any (a.length : Int) (b.length : Int) W
    rwa [show max (a.length : Int) (b.length : Int) = (n : Int) by omega] at this
  have AT1 : Hid (∀ (W : World) (k : Nat), Below w.heap.size w W → k ≤ 1000000 → Calls Try.prog 81 #[.slice p a.length c, .int .i64 (k : Int)] W fun e w' => e = .returned (.int .i64 (a.getD k 0)) ∧ W = w') := fun W k hW hk => l03At_any (c := c) k W (h.below hW) (by omega)
  have AT2 : Hid (∀ (W : World) (k : Nat), Below w.heap.size w W → k ≤ 1000000 → Calls Try.prog 81 #[.slice q b.length d, .int .i64 (k : Int)] W fun e w' => e = .returned (.int .i64 (b.getD k 0)) ∧ W = w') := fun W k hW hk => l03At_any (c := d) k W (h'.below hW) (by omega)
  have h0 := OwnI.lit (B := w.heap.size) w [] (Nat.le_refl _) (by simp [maxLen])
  have hb0 := (Below.refl w.heap.size w).alloc (Nat.le_refl _) (.cells #[] 2)
  clear h h' hn
  go_enter Try.func61, Try.ntmps61
  go_wp2_with fail
  go_loopw [7, 8] (fun ov i wr => ∃ k : Nat, k ≤ n ∧ i = .int .i64 (k : Int) ∧ OwnI w.heap.size wr ov (atl a b 1 k) ∧ Below w.heap.size w wr) (fun _ i _ => n - (intOf i).toNat)
  case atStart => exact ⟨0, Nat.zero_le _, rfl, h0, hb0⟩
  case round =>
    obtain ⟨k, hk, rfl, hown, hbel⟩ := hrel
    clear h0 hb0
    obtain ⟨wi, rfl⟩ : ∃ wi : World, wi = wr := ⟨_, rfl⟩
    by_cases hlt : k < n
    · have A1 := Lib.hid (AT1.out wi k hbel (by omega))
      have A2 := Lib.hid (AT2.out wi k hbel (by omega))
      have HSU := Lib.hid (atl_succ a b 1 k)
      have hal' := atl_length a b 1 k
      have hl2 : (atl a b 1 k).length < 17592186044415 := by omega
      generalize a.getD k 0 = x at A1 HSU
      generalize b.getD k 0 = y at A2 HSU
      rw [Int.one_mul] at HSU
      have hsz := hbel.size
      clear hal'
      go_wp2_with (first | (go_at_call 80; refine (MX.out _).mono ?_; rintro e w' ⟨rfl, rfl⟩) | (go_at_call_of 81 (Value.slice p a.length c); refine A1.out.mono ?_; rintro e w' ⟨rfl, rfl⟩) | (go_at_call_of 81 (Value.slice q b.length d); refine A2.out.mono ?_; rintro e w' ⟨rfl, rfl⟩) | (go_at_call 45; refine (l01Mul_any _ _ _).mono ?_; rintro e w' ⟨rfl, rfl⟩) | (go_at_call 44; refine (l01Add_any _ _ _).mono ?_; rintro e w' ⟨rfl, rfl⟩) | (at_builtin; refine wpList_append_one rfl _ _ rfl rfl hown rfl hbel hl2 hsz (Nat.le_refl _) ?_; intro v' w4 hown4 hb4 hz4 hk4))
      go_roundw
      case rel => exact ⟨k + 1, by omega, by go_num, by rw [HSU.out]; rw [smp_right] at hown4; exact hown4, hb4⟩
      case measure => simp [intOf] <;> omega
    · obtain rfl : k = n := by omega
      have hl : (atl a b 1 k).length = k := atl_length _ _ _ _
      have hp := hown.rdP
      obtain ⟨op, oc, rfl, hro, hcap⟩ := hp
      have TR := Lib.hid (l04Trim_any (c := oc) wi hro (by omega) hcap)
      rw [HAD.out] at TR
      clear hro hcap hown hl
      go_wp2_with (first | (go_at_call 80; refine (MX.out _).mono ?_; rintro e w' ⟨rfl, rfl⟩) | (go_at_call 76; refine TR.out.mono ?_; rintro e w2 ⟨v, rfl, ho2, hb2⟩))
      go_ret
      exact ⟨_, rfl, ho2.mono hbel.size, hbel.trans (hb2.mono hbel.size)⟩
set_option maxHeartbeats 800000 in
theorem specAddPoly_any {u v : Value} {a b : List Int} (w : World) (h : RdP w u a) (h' : RdP w v b) (ha : PolyV a) (hb : PolyV b) :
    Calls Try.prog 27 #[u, v] w fun e w' => ∃ x, e = .returned (.tuple #[x, .int .i64 0]) ∧ OwnI w.heap.size w' x (addL a b 1) ∧ Below w.heap.size w w' := by
  have OA := Lib.hid (l04Ok_true w h ha)
  have OB := Lib.hid (l04Ok_true w h' hb)
  obtain ⟨p, c, rfl, hr, hc⟩ := h
  obtain ⟨q, d, rfl, hr', hc'⟩ := h'
  have AD := Lib.hid (l04Add_any (c := c) (d := d) w hr hr' ha.2.2 hb.2.2)
  clear hr hr' ha hb hc hc'
  go_enter Try.func27, Try.ntmps27
  go_wp2_with (first | (go_at_call_of 50 (Value.slice p a.length c); refine OA.out.mono ?_; rintro e w' ⟨rfl, rfl⟩) | (go_at_call_of 50 (Value.slice q b.length d); refine OB.out.mono ?_; rintro e w' ⟨rfl, rfl⟩))
  refine AD.out.mono ?_
  rintro e w2 ⟨x, rfl, ho, hb2⟩
  go_wp2_with fail
  refine bodyPost_ret (v := .tuple #[x, .int .i64 0]) (by simp [results, Try.results27, go_sem, *]) rfl ⟨_, rfl, ho, hb2⟩
end Go.Proofs.Ytohacnlbconlaaa
