/-
  Polynomials on the program's side: products, values, powers; a drawn divisor; validity by the reference.
-/
import Derived.Test.YtohacnlbconlaaaPolyE
import Derived.Test.YtohacnlbconlaaaWalkSer
namespace Go.Proofs.Ytohacnlbconlaaa
open Go.ChangeShapes Go.WideShapes Go.ChangeAt Go.RowKit
set_option linter.unusedVariables false

set_option maxHeartbeats 800000 in
theorem mulPoly_any {u v : Value} {a b : List Int} (w : World) (h : RdP w u a) (h' : RdP w v b) (ha : PolyV a) (hb : PolyV b) (hab : a.length + b.length ≤ 65) :
    Calls Try.prog 19 #[u, v] w fun e w' => ∃ x, e = .returned (.tuple #[x, .int .i64 0]) ∧ OwnI w.heap.size w' x (mulL a b) ∧ Below w.heap.size w w' := by
  obtain ⟨p, c, rfl, hr, hc⟩ := h
  obtain ⟨q, d, rfl, hr', hc'⟩ := h'
  have hB : Below w.heap.size w (w.alloc (.cells #[.slice p a.length c, .slice q b.length d] 24)) := (Below.refl _ _).alloc (Nat.le_refl _) _
  have AP := Lib.hid (arePolys_true (c := 2) _ (rdII_two hr hr' hc hc') (by
    intro xs hxs
    simp only [List.mem_cons, List.not_mem_nil, or_false] at hxs
    rcases hxs with rfl | rfl
    · exact ha
    · exact hb))
  have AT := Lib.hid (mulPolyI_any (c := c) (d := d) _ (hr.below hB) (hr'.below hB) ha.2.2 hb.2.2)
  have HLn : Hid ((mulL a b).length ≤ 65) := (mulL_poly hab).2.2
  generalize hE : (w.alloc (.cells #[.slice p a.length c, .slice q b.length d] 24)) = E at *
  have HE := Lib.hid hE
  clear hE ha hb
  go_enter Try.func19, Try.ntmps19
  go_wp2_with fail
  rw [HE.out]
  refine AP.out.mono ?_
  rintro e w' ⟨rfl, rfl⟩
  go_wp2_with fail
  refine AT.out.mono ?_
  rintro e w2 ⟨x, rfl, ho, hb2⟩
  have hl := HLn.out
  have hv := ho.rdP
  obtain ⟨xp, xc, rfl, xr, xcap⟩ := hv
  go_wp2_with fail
  refine (told_any xp _ xc w2 hl).mono ?_
  rintro e w3 ⟨rfl, rfl⟩
  go_wp2_with fail
  refine bodyPost_ret (v := .tuple #[.slice xp (mulL a b).length xc, .int .i64 0]) (by simp [results, Try.results19, go_sem, *]) rfl ⟨_, rfl, ho.mono hB.size, hB.trans (hb2.mono hB.size)⟩
theorem smp_wr_add (a b : Int) : smp (wrap64 a + b) = smp (a + b) := by unfold smp wrap64; omega
set_option maxHeartbeats 800000 in
theorem evalPoly_any {u : Value} {a : List Int} (x : Int) (w : World) (h : RdP w u a) (ha : PolyV a) (hx : isSmp x = true) :
    Calls Try.prog 23 #[u, .int .i64 x] w fun e w' => e = .returned (.tuple #[.int .i64 (evL a x), .int .i64 0]) ∧ w = w' := by
  obtain ⟨p, c, rfl, hr, hc⟩ := h
  have IP := Lib.hid (isPoly_true (c := c) w hr ha.1 ha.2.1 ha.2.2)
  have IS := Lib.hid (isSample_any x w)
  rw [hx] at IS
  have hl := ha.2.2
  have HZ := Lib.hid (hor_end a x)
  rw [← hor_zero a x]
  clear ha hx hc
  go_enter Try.func23, Try.ntmps23
  go_wp2_with (first | (go_at_call 52; refine IP.out.mono ?_; rintro e w' ⟨rfl, rfl⟩) | (go_at_call 53; refine IS.out.mono ?_; rintro e w' ⟨rfl, rfl⟩))
  go_loop [6, 7] (fun s i => ∃ k : Nat, k ≤ a.length ∧ i = .int .i64 ((k : Int) - 1) ∧ s = .int .i64 (hor a x k)) (fun _ i => (intOf i + 1).toNat)
  case atStart => exact ⟨a.length, Nat.le_refl _, rfl, by rw [HZ.out]⟩
  case round =>
    obtain ⟨k, hk, rfl, rfl⟩ := hrel
    by_cases hk0 : k = 0
    · subst hk0
      go_wp2_with fail
      refine bodyPost_ret (v := .tuple #[.int .i64 (hor a x 0), .int .i64 0]) (by simp [results, Try.results23, go_sem, *]) rfl ⟨rfl, rfl⟩
    · obtain ⟨j, rfl⟩ : ∃ j, k = j + 1 := ⟨k - 1, by omega⟩
      have hja : j < a.length := by omega
      obtain ⟨b, o, rfl, hb1, hck⟩ := hr.pos hja
      have z := hck j hja
      have HS := Lib.hid (hor_step x hja)
      rw [getD_at hja] at HS
      generalize a[j] = y at z HS
      generalize hor a x (j + 1) = s1 at HS
      clear hck hk0
      rw [show (((j + 1 : Nat) : Int) - 1) = (j : Int) by omega]
      go_wp2_with (go_at_call 54; refine (implWrap_any _ _).mono ?_; rintro e w' ⟨rfl, rfl⟩)
      go_round
      case rel => exact ⟨j, by omega, by first | rfl | go_num, by rw [HS.out]; simp only [smp_wrap64, smp_wr_add]⟩
      case measure => simp [intOf] <;> omega
def powL (a : List Int) : Nat → List Int
  | 0 => [1]
  | k + 1 => mulL (powL a k) a
theorem powL_two {a : List Int} (ha : PolyV a) : powL a 2 = mulL a a := by
  show mulL (mulL [1] a) a = mulL a a
  rw [one_mul' ha]
theorem powL_len {a : List Int} (ha : PolyV a) (hl : a.length ≤ 9) {j : Nat} (hj : j ≤ 1) : (powL a j).length ≤ 9 := by
  rcases (show j = 0 ∨ j = 1 by omega) with rfl | rfl
  · show 1 ≤ 9; omega
  · show (mulL [1] a).length ≤ 9
    rw [one_mul' ha]; exact hl
set_option maxHeartbeats 1600000 in
theorem powPoly_any {u : Value} {a : List Int} (w : World) (h : RdP w u a) (ha : PolyV a) (hl : a.length ≤ 9) :
    Calls Try.prog 24 #[u, .int .i64 2] w fun e w' => ∃ x, e = .returned (.tuple #[x, .int .i64 0]) ∧ OwnI w.heap.size w' x (powL a 2) ∧ Below w.heap.size w w' := by
  obtain ⟨p, c, rfl, hr, hc⟩ := h
  have IP := Lib.hid (isPoly_true (c := c) w hr ha.1 ha.2.1 ha.2.2)
  have WI : Hid (∀ W, Calls Try.prog 41 #[.int .i64 2, .int .i64 0, .int .i64 64] W fun e w' => e = .returned (.bool true) ∧ W = w') := fun W => within_any 2 0 64 W
  have h0 := OwnI.lit (B := w.heap.size) w [1] (Nat.le_refl _) (by simp [maxLen])
  have hb0 := (Below.refl w.heap.size w).alloc (Nat.le_refl _) (.cells #[.int .i64 1] 2)
  have H0 := Lib.hid h0
  have HB0 := Lib.hid hb0
  clear h0 hb0
  go_enter Try.func24, Try.ntmps24
  go_wp2_with (first | (go_at_call 52; refine IP.out.mono ?_; rintro e w' ⟨rfl, rfl⟩) | (go_at_call 41; refine (WI.out _).mono ?_; rintro e w' ⟨rfl, rfl⟩))
  go_loopw [1, 6] (fun n v wr => ∃ (k j : Nat), k + j = 2 ∧ n = .int .i64 (k : Int) ∧ OwnI w.heap.size wr v (powL a j) ∧ Below w.heap.size w wr) (fun n _ _ => (intOf n).toNat)
  case atStart => exact ⟨2, 0, rfl, rfl, H0.out, HB0.out⟩
  case round =>
    obtain ⟨k, j, hkj, rfl, hown, hbel⟩ := hrel
    obtain ⟨wi, rfl⟩ : ∃ wi : World, wi = wr := ⟨_, rfl⟩
    have hh := hown
    obtain ⟨q, d, rfl, xr⟩ := hh.rd
    by_cases hk : k = 0
    · subst hk
      obtain rfl : j = 2 := by omega
      go_wp2_with fail
      refine bodyPost_ret (v := .tuple #[.slice q (powL a 2).length d, .int .i64 0]) (by simp [results, Try.results24, go_sem, *]) rfl ⟨_, rfl, hown, hbel⟩
    · obtain ⟨m, rfl⟩ : ∃ m, k = m + 1 := ⟨k - 1, by omega⟩
      have hj1 : j ≤ 1 := by omega
      have hpl := powL_len ha hl hj1
      have ML := Lib.hid (mulPolyI_any (c := d) (d := c) wi xr (hr.below hbel) (by omega) (by omega))
      have HLn : (mulL (powL a j) a).length ≤ 65 := (mulL_poly (by omega)).2.2
      clear hk xr hh
      go_wp2_with (first | (go_at_call 49; refine ML.out.mono ?_; rintro e w2 ⟨v2, rfl, ho2, hb2⟩; have hv := ho2.rd; obtain ⟨q2, d2, rfl, -⟩ := hv) | (go_at_call 48; refine (told_any _ _ _ _ HLn).mono ?_; rintro e w' ⟨rfl, rfl⟩))
      go_roundw
      case rel => exact ⟨m, j + 1, by omega, by go_num, ho2.mono hbel.size, hbel.trans (hb2.mono hbel.size)⟩
      case measure => simp [intOf] <;> omega
theorem canon_last {xs : List Int} (h : 1 ≤ xs.length) {x : Int} (hx : x ≠ 0) : Canon (xs.set (xs.length - 1) x) := by
  refine ⟨by rw [List.length_set]; exact h, .inr ?_⟩
  rw [List.length_set, List.getD_eq_getElem?_getD, List.getElem?_set_self (by omega)]
  exact hx
set_option maxHeartbeats 1000000 in
theorem e8Divisor_any {v : Value} {bs : List Int} (w : World) (h : VB w v bs) (hl : bs.length ≤ 1048576) :
    Calls Try.prog 16 #[v] w fun e w' => ∃ u ys, e = .returned u ∧ PolyV ys ∧ ys.length ≤ 6 ∧ ys.getD (ys.length - 1) 0 % 2 = 1 ∧ OwnI w.heap.size w' u ys ∧ Below w.heap.size w w' := by
  obtain ⟨p, c, rfl, hr⟩ := h
  go_enter Try.func16, Try.ntmps16
  go_wp2_with fail
  refine (l00From_any (c := c) w hr hl).mono ?_
  rintro e w1 ⟨rfl, hs1, hb1⟩
  have hz1 : w.heap.size < w1.heap.size := hs1.lt
  obtain ⟨g, hg⟩ : ∃ g, g = w.heap.size := ⟨_, rfl⟩
  rw [← hg] at hs1 hz1 ⊢
  have HG := Lib.hid hg
  clear hg
  go_wp2_with fail
  refine (l04Draw_any 5 w1 hs1 (by omega) (by omega)).mono ?_
  rintro e w2 ⟨u, ys, rfl, hc, ha, hn, ho, hs2, hf⟩
  have hb2 : Below g w w2 := by
    rw [HG.out]; exact hb1.trans (hf.below (B := w.heap.size) (fun k hk => by have : k = g := hk; rw [this, HG.out]; exact Nat.le_refl _) hb1.size)
  rcases ho.cases with ⟨-, he⟩ | ⟨k, cap, rfl, hk1, hk2, hk3, hrd⟩
  · have := hc.1; rw [he] at this; simp at this
  obtain ⟨n, hnn⟩ : ∃ n, ys.length = n + 1 := ⟨ys.length - 1, by have := hc.1; omega⟩
  have hpos : n < ys.length := by omega
  have HN := Lib.hid hnn
  have hn6 : n ≤ 5 := by omega
  have AM := Lib.hid (amongLit_any [1, -1, 3, 2147483647, -5] w2 hs2 (by simp) (by simp) (by omega))
  have HC := Lib.hid hc.1
  have HA := Lib.hid ha
  have HP := Lib.hid hpos
  rw [hnn] at ho ⊢
  clear hc ha hrd hb1 hs1 hf hs2 hnn hpos hn hk3
  have e2 : ((n : Int) + 1 - 1) = (n : Int) := by omega
  have e3 : ((n : Int)).toNat = n := by omega
  go_wp2_with (go_at_call 39; refine AM.out.mono ?_; rintro e w3 ⟨x, hx, rfl, hs3, ho3⟩; have HX := Lib.hid hx; clear hx; have ho4 := ho.off ho3 (by omega); obtain ⟨-, -, hgl, hz, hfr, hset⟩ := ho4.storing (k := n) HP.out; have hb3 : Below g w w3 := hb2.trans (ho3.below (B := g) (fun k hk => by have : k = g := hk; omega) (by omega)))
  go_ret
  have hx1 : x % 2 = 1 ∧ isSmp x = true ∧ x ≠ 0 := by
    have hx := HX.out
    simp only [List.mem_cons, List.not_mem_nil, or_false] at hx
    refine ⟨by omega, isSmp_iff.2 (by omega), by omega⟩
  have hN : n = ys.length - 1 := by have := HN.out; omega
  have hlen : (ys.set n x).length = n + 1 := by rw [List.length_set]; exact HN.out
  refine ⟨_, ys.set n x, rfl, ⟨by rw [hN]; exact canon_last HC.out hx1.2.2, alls_set HA.out hx1.2.1 n, by omega⟩, by omega, ?_, (hset x).mono (by rw [← HG.out]; omega), by rw [← HG.out]; exact hb3.setCell (p := ⟨k, n, none⟩) (show g ≤ k by omega) _⟩
  rw [hlen, Nat.add_sub_cancel, List.getD_eq_getElem?_getD, List.getElem?_set_self HP.out]
  exact hx1.1
theorem l04Samples_true {p : Option Addr} {c : Nat} {xs : List Int} (w : World) (h : RdI w p xs) (ha : AllS xs) :
    Calls Try.prog 78 #[.slice p xs.length c] w fun e w' => e = .returned (.bool true) ∧ w = w' := by
  have hlen := h.len
  unfold maxLen at hlen
  have HA := Lib.hid ha
  clear ha
  go_enter Try.func78, Try.ntmps78
  go_wp2_with fail
  go_loop [3] (fun i => ∃ k : Nat, k ≤ xs.length ∧ i = .int .i64 k) (fun i => xs.length - (intOf i).toNat)
  case atStart => exact ⟨0, Nat.zero_le _, rfl⟩
  case round =>
    obtain ⟨k, hk, rfl⟩ := hrel
    by_cases hlt : k < xs.length
    · obtain ⟨b, o, rfl, hb, hck⟩ := h.pos hlt
      have hcell := hck k hlt
      have SM := HA.out _ (List.getElem_mem hlt)
      clear hck
      generalize xs[k] = x at hcell SM
      have IS := Lib.hid (l01Sample_any x w)
      rw [SM] at IS
      clear SM
      go_wp2_with (go_at_call 82; refine IS.out.mono ?_; rintro e w' ⟨rfl, rfl⟩)
      go_round
      case rel => exact ⟨k + 1, by omega, by go_num⟩
      case measure => simp [intOf] <;> omega
    · obtain rfl : k = xs.length := by omega
      go_wp2_with fail
      go_ret
      exact ⟨rfl, rfl⟩
set_option maxHeartbeats 800000 in
theorem l04Ok_true {u : Value} {xs : List Int} (w : World) (h : RdP w u xs) (hv : PolyV xs) :
    Calls Try.prog 50 #[u] w fun e w' => e = .returned (.bool true) ∧ w = w' := by
  obtain ⟨p, c, rfl, hr, -⟩ := h
  obtain ⟨⟨h1, h2⟩, ha, hl⟩ := hv
  have SA := Lib.hid (l04Samples_true (c := c) w hr ha)
  have IN : Hid (∀ W, Calls Try.prog 69 #[.int .i64 (xs.length : Int), .int .i64 1, .int .i64 65] W fun e w' => e = .returned (.bool true) ∧ W = w') := fun W => by
    have := l00In_any (xs.length : Int) 1 65 W
    rwa [inB_true (by omega)] at this
  by_cases e1 : xs.length = 1
  · rw [e1] at SA IN ⊢
    clear h2 hl ha hr e1 h1
    go_enter Try.func50, Try.ntmps50
    go_wp2_with (first | (go_at_call 69; refine (IN.out _).mono ?_; rintro e w' ⟨rfl, rfl⟩) | (go_at_call 78; refine SA.out.mono ?_; rintro e w' ⟨rfl, rfl⟩))
    go_ret
    exact ⟨rfl, rfl⟩
  · obtain ⟨n, hn⟩ : ∃ n, xs.length = n + 2 := ⟨xs.length - 2, by omega⟩
    have h3 := h2.resolve_left e1
    obtain ⟨b, o, rfl, hb, hck⟩ := hr.pos (k := n + 1) (by omega)
    have hcl := hck (n + 1) (by omega)
    rw [show xs.length - 1 = n + 1 by omega, getD_at (by omega)] at h3
    generalize xs[n + 1]'(by omega) = x at hcl h3
    have q2 : (x != 0) = true := by rw [bne_iff_ne]; exact h3
    have q : (((n : Int) + 2) == 1) = false := by rw [beq_eq_false_iff_ne]; omega
    have e2 : ((n : Int) + 2 - 1) = (n : Int) + 1 := by omega
    have e3 : ((n : Int) + 1).toNat = n + 1 := by omega
    have hn65 : n + 2 ≤ 65 := by omega
    rw [hn] at SA IN ⊢
    simp only [Int.natCast_add, Int.cast_ofNat_Int] at IN
    clear h2 h3 hck h1 hl ha hr e1 hn
    go_enter Try.func50, Try.ntmps50
    go_wp2_with (first | (go_at_call 69; refine (IN.out _).mono ?_; rintro e w' ⟨rfl, rfl⟩) | (go_at_call 78; refine SA.out.mono ?_; rintro e w' ⟨rfl, rfl⟩))
    go_ret
    exact ⟨rfl, rfl⟩
theorem validPoly_true {u : Value} {xs : List Int} (w : World) (h : RdP w u xs) (hv : PolyV xs) :
    Calls Try.prog 21 #[u] w fun e w' => e = .returned (.bool true) ∧ w = w' := by
  have OK := Lib.hid (l04Ok_true w h hv)
  go_enter Try.func21, Try.ntmps21
  go_wp2_with (go_at_call 50; refine OK.out.mono ?_; rintro e w' ⟨rfl, rfl⟩)
  go_ret
  exact ⟨rfl, rfl⟩
theorem specWrap_any (n : Int) (w : World) :
    Calls Try.prog 22 #[.int .i64 n] w fun e w' => e = .returned (.int .i64 (smp n)) ∧ w = w' := by
  go_enter Try.func22, Try.ntmps22
  go_wp2_with (go_at_call 51; refine (l01Wrap_any _ _).mono ?_; rintro e w' ⟨rfl, rfl⟩)
  go_ret
  exact ⟨rfl, rfl⟩
theorem v8Same_rd {u v : Value} {xs : List Int} (w : World) (h : RdP w u xs) (h' : RdP w v xs) (hl : xs.length ≤ 1048576) :
    Calls Try.prog 20 #[u, v] w fun e w' => e = .returned (.bool true) ∧ Below w.heap.size w w' := by
  obtain ⟨p, c, rfl, hr, -⟩ := h
  obtain ⟨q, d, rfl, hr', -⟩ := h'
  exact v8Same_true w hr hr' hl
end Go.Proofs.Ytohacnlbconlaaa
