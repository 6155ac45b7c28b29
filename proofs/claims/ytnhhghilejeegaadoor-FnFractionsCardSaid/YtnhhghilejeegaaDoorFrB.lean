/-
  Order, floor and text of fractions on the program's side; a text is read again.
-/
import Derived.Test.YtnhhghilejeegaaDoorFrA
import Derived.Test.YtnhhghilejeegaaDoorTxtS
import Derived.Test.YtnhhghilejeegaaDoorShelf2
import Derived.Lib.QuietBelow
namespace Go.Proofs.YtnhhghilejeegaaDoor
open Go.ChangeShapes Go.WideShapes Go.ChangeAt Go.RowKit Go.Sort
set_option linter.unusedVariables false
set_option linter.unusedSimpArgs false

set_option maxHeartbeats 2000000 in
theorem compareI_any {n d n' d' : Int} (w : World) (hf : fracB n d = true) (hf' : fracB n' d' = true) :
    Calls Tryd.prog 58 #[.agg #[.int .i64 n, .int .i64 d], .agg #[.int .i64 n', .int .i64 d']] w fun e w' => e = .returned (.int .i64 (sgn (n * d') (n' * d))) ∧ Below w.heap.size w w' := by
  obtain ⟨d1, d2, n1, n2, -⟩ := fracB_of hf
  obtain ⟨d1', d2', n1', n2', -⟩ := fracB_of hf'
  have m1 := mul_bd (a := n) (b := d') (A := 1000000000) (B := 1000000) (by omega) n2 (by omega) d2' (by omega) (by omega)
  have m2 := mul_bd (a := n') (b := d) (A := 1000000000) (B := 1000000) (by omega) n2' (by omega) d2 (by omega) (by omega)
  have hB0 : Below w.heap.size w ((w.alloc (.cells #[.int .i64 n, .int .i64 d] 34)).alloc (.cells #[.int .i64 n', .int .i64 d'] 34)) := ((Below.refl _ _).alloc (Nat.le_refl _) _).alloc (by simp) _
  have HS : Hid (∀ x y, x = n * d' → y = n' * d → sgn (n * d') (n' * d) = sgn x y) := by rintro _ _ rfl rfl; rfl
  generalize sgn (n * d') (n' * d) = R at HS ⊢
  obtain ⟨x, hx⟩ : ∃ x, x = n * d' := ⟨_, rfl⟩
  obtain ⟨y, hy⟩ : ∃ y, y = n' * d := ⟨_, rfl⟩
  have HR := HS.out x y hx hy
  rw [← hx] at m1
  rw [← hy] at m2
  have ex : n * d' = x := hx.symm
  have ey : n' * d = y := hy.symm
  have hx1 := m1.1; have hx2 := m1.2; have hy1 := m2.1; have hy2 := m2.2
  clear hx hy m1 m2 HS
  have HR2 := Lib.hid HR
  clear HR
  by_cases h1 : x < y
  · obtain rfl : R = -1 := by rw [HR2.out]; unfold sgn; rw [if_pos h1]
    have q1 : x - y < 0 := by omega
    go_enter Tryd.func58, Tryd.ntmps58
    go_wp2_with fail
    go_ret
    exact ⟨rfl, hB0⟩
  by_cases h2 : y < x
  · obtain rfl : R = 1 := by rw [HR2.out]; unfold sgn; rw [if_neg h1, if_pos h2]
    have q1 : ¬ x - y < 0 := by omega
    have q2 : 0 < x - y := by omega
    go_enter Tryd.func58, Tryd.ntmps58
    go_wp2_with fail
    go_ret
    exact ⟨rfl, hB0⟩
  obtain rfl : R = 0 := by rw [HR2.out]; unfold sgn; rw [if_neg h1, if_neg h2]
  have q1 : ¬ x - y < 0 := by omega
  have q2 : ¬ 0 < x - y := by omega
  go_enter Tryd.func58, Tryd.ntmps58
  go_wp2_with fail
  go_ret
  exact ⟨rfl, hB0⟩
set_option maxHeartbeats 2000000 in
theorem compareFracI_any {n d n' d' : Int} (w : World) (hf : fracB n d = true) (hf' : fracB n' d' = true) :
    Calls Tryd.prog 25 #[.agg #[.int .i64 n, .int .i64 d], .agg #[.int .i64 n', .int .i64 d']] w fun e w' => e = .returned (.int .i64 (sgn (n * d') (n' * d))) ∧ Below w.heap.size w w' := by
  have CM : Hid (∀ W, Calls Tryd.prog 58 #[.agg #[.int .i64 n, .int .i64 d], .agg #[.int .i64 n', .int .i64 d']] W fun e w' => e = .returned (.int .i64 (sgn (n * d') (n' * d))) ∧ Below W.heap.size W w') := fun W => compareI_any W hf hf'
  generalize sgn (n * d') (n' * d) = R at CM ⊢
  obtain ⟨r, hr⟩ : ∃ r, r = w.heap.size := ⟨_, rfl⟩
  obtain ⟨E0, hE0⟩ : ∃ E, E = (w.alloc (.cells #[.int .i64 n, .int .i64 d] 34)).alloc (.cells #[.int .i64 n', .int .i64 d'] 34) := ⟨_, rfl⟩
  have hB0 : Below w.heap.size w E0 := by rw [hE0]; exact ((Below.refl _ _).alloc (Nat.le_refl _) _).alloc (by simp) _
  have b0 : Box E0 r [.int .i64 n, .int .i64 d] 34 := by rw [hE0, hr]; exact (Box.newAt w [.int .i64 n, .int .i64 d] _ rfl).alloc _
  have c0 : Box E0 (r + 1) [.int .i64 n', .int .i64 d'] 34 := by rw [hE0, hr]; exact Box.newAt (w.alloc _) [.int .i64 n', .int .i64 d'] _ (by simp)
  obtain ⟨E1, hE1⟩ : ∃ E, E = E0.alloc (.cells #[.int .i64 n, .int .i64 d, .int .i64 n', .int .i64 d'] 34) := ⟨_, rfl⟩
  have d0 : Box E1 E0.heap.size [.int .i64 n, .int .i64 d, .int .i64 n', .int .i64 d'] 34 := by rw [hE1]; exact Box.newAt E0 [.int .i64 n, .int .i64 d, .int .i64 n', .int .i64 d'] _ rfl
  have hb01 : Below E0.heap.size E0 E1 := by rw [hE1]; exact (Below.refl _ _).alloc (Nat.le_refl _) _
  have AF := Lib.hid (areFracs_any (b := E0.heap.size) (o := 0) (c := 2) (m := 2) (f := fun k => if k = 0 then (n, d) else (n', d')) E1 (by omega) (fun k hk => by
    rcases (show k = 0 ∨ k = 1 by omega) with rfl | rfl
    · exact ⟨d0.cell 0 rfl, d0.cell 1 rfl⟩
    · exact ⟨d0.cell 2 rfl, d0.cell 3 rfl⟩) (fun k hk => by
    rcases (show k = 0 ∨ k = 1 by omega) with rfl | rfl
    · exact hf
    · exact hf') d0.lt)
  have HE0 := Lib.hid hE0
  have HE1 := Lib.hid hE1
  have HR := Lib.hid hr
  have z0 := b0.cell 0 rfl
  have z1 := b0.cell 1 rfl
  have z2 := c0.cell 0 rfl
  have z3 := c0.cell 1 rfl
  clear hE0 hE1 hr hf hf' d0
  go_enter Tryd.func25, Tryd.ntmps25
  go_upto_region 1 with fail
  rw [← HE0.out, ← HR.out]
  go_wp2_with fail
  rw [← HE1.out]
  refine AF.out.mono ?_
  rintro e E2 ⟨rfl, hb2⟩
  have hb02 := hb01.trans (hb2.mono hb01.size)
  have b2 := b0.below hb02
  have c2 := c0.below hb02
  have hB2 := hB0.trans (hb02.mono hB0.size)
  clear z0 z1 z2 z3 HE1
  have z0 := b2.cell 0 rfl
  have z1 := b2.cell 1 rfl
  have z2 := c2.cell 0 rfl
  have z3 := c2.cell 1 rfl
  go_wp2_with fail
  refine (CM.out _).mono ?_
  rintro e E3 ⟨rfl, hb3⟩
  go_wp2_with fail
  go_ret
  exact ⟨rfl, hB2.trans (hb3.mono hB2.size)⟩
theorem floorFracI_any {n d : Int} (w : World) (hf : fracB n d = true) :
    Calls Tryd.prog 26 #[.agg #[.int .i64 n, .int .i64 d]] w fun e w' => e = .returned (.int .i64 (n / d)) ∧ Below w.heap.size w w' := by
  obtain ⟨d1, d2, n1, n2, -⟩ := fracB_of hf
  obtain ⟨E0, hE0⟩ : ∃ E, E = w.alloc (.cells #[.int .i64 n, .int .i64 d] 34) := ⟨_, rfl⟩
  have hB0 : Below w.heap.size w E0 := by rw [hE0]; exact (Below.refl _ _).alloc (Nat.le_refl _) _
  have b0 : Box E0 w.heap.size [.int .i64 n, .int .i64 d] 34 := by rw [hE0]; exact Box.newAt w [.int .i64 n, .int .i64 d] _ rfl
  have OK := Lib.hid (isFrac_any n d E0)
  rw [hf] at OK
  have HE0 := Lib.hid hE0
  have z0 := b0.cell 0 rfl
  have z1 := b0.cell 1 rfl
  clear hE0 hf
  go_enter Tryd.func26, Tryd.ntmps26
  go_upto_region 1 with fail
  rw [← HE0.out]
  go_wp2_with fail
  refine OK.out.mono ?_
  rintro e F ⟨rfl, hb⟩
  have b1 := b0.below hb
  clear z0 z1
  have z0 := b1.cell 0 rfl
  have z1 := b1.cell 1 rfl
  have hB1 := hB0.trans (hb.mono hB0.size)
  go_wp2_with fail
  refine (floorDiv_any n d F (by omega) (by omega) (by omega) (by omega)).mono ?_
  rintro e w' ⟨rfl, rfl⟩
  go_wp2_with fail
  go_ret
  exact ⟨rfl, hB1⟩
/-- a fraction's text -/
def fracStr (n d : Int) : List UInt8 := if d = 1 then Lib.itoa n else Lib.itoa n ++ 47 :: Lib.itoa d
theorem fracStr_len {n d : Int} (hf : fracB n d = true) : (fracStr n d).length ≤ 43 := by
  obtain ⟨d1, d2, n1, n2, -⟩ := fracB_of hf
  have h1 := Lib.itoa_length_le n (by omega) (by omega)
  have h2 := Lib.itoa_length_le d (by omega) (by omega)
  unfold fracStr
  split
  · omega
  · simp only [List.length_append, List.length_cons]; omega
set_option maxHeartbeats 4000000 in
set_option maxRecDepth 100000 in
theorem fracText_any {n d : Int} (w : World) (hf : fracB n d = true) (hT : TxtT w) :
    Calls Tryd.prog 28 #[.agg #[.int .i64 n, .int .i64 d]] w fun e w' => e = .returned (.string (bs (fracStr n d))) ∧ Below w.heap.size w w' := by
  obtain ⟨d1, d2, n1, n2, -⟩ := fracB_of hf
  obtain ⟨E0, hE0⟩ : ∃ E, E = w.alloc (.cells #[.int .i64 n, .int .i64 d] 34) := ⟨_, rfl⟩
  have hB0 : Below w.heap.size w E0 := by rw [hE0]; exact (Below.refl _ _).alloc (Nat.le_refl _) _
  have b0 : Box E0 w.heap.size [.int .i64 n, .int .i64 d] 34 := by rw [hE0]; exact Box.newAt w [.int .i64 n, .int .i64 d] _ rfl
  have OK := Lib.hid (isFrac_any n d E0)
  rw [hf] at OK
  have HE0 := Lib.hid hE0
  have hT0 := hT.below hB0
  have z0 := b0.cell 0 rfl
  have z1 := b0.cell 1 rfl
  clear hE0 hf hT
  by_cases h1 : d = 1
  · have HR : Hid (fracStr n d = Lib.itoa n) := by unfold Hid fracStr; rw [if_pos h1]
    have hk : (d == 1) = true := by simp [h1]
    have DN : Hid (∀ W, TxtT W → Calls Tryd.prog 16 #[.int .i64 n] W fun e w' => e = .returned (.string (bs (Lib.itoa n))) ∧ Below W.heap.size W w') := fun W hW => decimal_any n (by omega) (by omega) W hW
    clear h1
    go_enter Tryd.func28, Tryd.ntmps28
    go_upto_region 1 with fail
    rw [← HE0.out]
    go_wp2_with (first
      | (go_at_call 59; refine OK.out.mono ?_; rintro e F ⟨rfl, hb⟩; have y0 := (b0.below hb).cell 0 rfl; have y1 := (b0.below hb).cell 1 rfl)
      | (go_at_call 16; refine (DN.out _ (hT0.below hb)).mono ?_; rintro e F2 ⟨rfl, hb2⟩)
      | fail)
    go_ret
    exact ⟨by rw [HR.out]; rfl, hB0.trans ((hb.trans (hb2.mono hb.size)).mono hB0.size)⟩
  · have HR : Hid (bs (fracStr n d) = bs (Lib.itoa n) ++ ⟨#[47]⟩ ++ bs (Lib.itoa d)) := by
      unfold Hid fracStr
      rw [if_neg h1, show (ByteArray.mk #[47]) = bs [47] from rfl, bs_app, bs_app, List.append_assoc]
      rfl
    have hk : (d == 1) = false := by simp [h1]
    have sa : (bs (Lib.itoa n)).size ≤ 21 := by rw [bs_size]; exact Lib.itoa_length_le _ (by omega) (by omega)
    have sd : (bs (Lib.itoa d)).size ≤ 21 := by rw [bs_size]; exact Lib.itoa_length_le _ (by omega) (by omega)
    have e1 : (ByteArray.mk #[47]).size = 1 := rfl
    have t1 : (bs (Lib.itoa n) ++ ByteArray.mk #[47]).size ≤ 22 := by rw [ByteArray.size_append, e1]; omega
    clear h1 e1
    go_enter Tryd.func28, Tryd.ntmps28
    go_upto_region 1 with fail
    rw [← HE0.out]
    go_upto_region 5 with (first
      | (go_at_call 59; refine OK.out.mono ?_; rintro e F ⟨rfl, hb⟩; have y0 := (b0.below hb).cell 0 rfl; have y1 := (b0.below hb).cell 1 rfl)
      | fail)
    have r0 := cell_regrown y0
    have r1 := cell_regrown y1
    have hTF := hT0.below hb
    have KN : Hid (∀ q os, Calls Tryd.prog 16 #[.int .i64 n] (grow (redrawn F q) os) fun e w'' => e = .returned (.string (bs (Lib.itoa n))) ∧ ∃ p : Regrown, w'' = grow (redrawn F p.d) p.os) := fun q os => Calls.regrown_of (decimal_any _ (by omega) (by omega) _ (hTF.below (below_regrown _ _ _)))
    have KD : Hid (∀ q os, Calls Tryd.prog 16 #[.int .i64 d] (grow (redrawn F q) os) fun e w'' => e = .returned (.string (bs (Lib.itoa d))) ∧ ∃ p : Regrown, w'' = grow (redrawn F p.d) p.os) := fun q os => Calls.regrown_of (decimal_any _ (by omega) (by omega) _ (hTF.below (below_regrown _ _ _)))
    refine wp_region_quiet_below (by kernel_rfl) (by kernel_rfl) ?_
    repeat (first | go_big_quiet_step ((first | (go_at_call 16; with_reducible exact KN.out _ _) | (go_at_call 16; with_reducible exact KD.out _ _))) | quiet_step ((first | (go_at_call 16; with_reducible exact KN.out _ _) | (go_at_call 16; with_reducible exact KD.out _ _))))
    refine wpQuiet_nil ?_
    intro _ hw'
    obtain ⟨⟨dq, osq⟩, hw''⟩ := hw'
    subst hw''
    have hq := below_regrown F dq osq
    go_wp2_with fail
    go_ret
    exact ⟨by rw [HR.out]; rfl, hB0.trans ((hb.trans (hq.mono hb.size)).mono hB0.size)⟩
/-- the library's limit of short searches holds some number -/
def TxtC (w : World) : Prop := ∃ m, w.cell? ⟨3, 0, none⟩ = some (.int .i64 m)
theorem TxtC.below {w w' : World} (h : TxtC w) (hb : Below w.heap.size w w') : TxtC w' := by
  obtain ⟨m, hm⟩ := h
  exact ⟨m, (hb.cell (World.block_lt_of_cell? w _ hm)).trans hm⟩
theorem txtC_of_shape {w : World} (h : w.ShapedOpen Tryd.prog) : TxtC w := Tryd.laysM145.s1_3 w h
theorem itoa_no {n : Int} {c : UInt8} (h : c.toNat < 45 ∨ (45 < c.toNat ∧ c.toNat < 48) ∨ 57 < c.toNat) : c ∉ Lib.itoa n := by
  intro hm
  unfold Lib.itoa at hm
  have key : ∀ u, c ∈ Lib.decDigits u → False := fun u hu => by
    have := decDigits_digit u c hu
    omega
  split at hm
  · rcases List.mem_cons.1 hm with rfl | hm
    · have : (45 : UInt8).toNat = 45 := rfl
      omega
    · exact key _ hm
  · exact key _ hm
theorem index_none : ∀ (l : List UInt8) (c : UInt8), c ∉ l → Lib.index l [c] = -1
  | [], c, _ => by simp [Lib.index]
  | b :: l, c, h => by
    have h1 : ¬ c = b := fun e => h (by simp [e])
    have h2 := index_none l c (fun e => h (by simp [e]))
    simp [Lib.index, List.isPrefixOf, h1, h2]
theorem index_at : ∀ (l r : List UInt8) (c : UInt8), c ∉ l → Lib.index (l ++ c :: r) [c] = l.length
  | [], r, c, _ => by simp [Lib.index, List.isPrefixOf]
  | b :: l, r, c, h => by
    have h1 : ¬ c = b := fun e => h (by simp [e])
    have h2 := index_at l r c (fun e => h (by simp [e]))
    have h3 : ¬ (l.length : Int) = -1 := by omega
    simp [Lib.index, List.isPrefixOf, h1, h2, h3]
theorem cut_none {l : List UInt8} {c : UInt8} (h : c ∉ l) : Lib.cut l [c] = (l, [], false) := by
  unfold Lib.cut
  rw [index_none l c h]
  rfl
theorem cut_at {l r : List UInt8} {c : UInt8} (h : c ∉ l) : Lib.cut (l ++ c :: r) [c] = (l, r, true) := by
  unfold Lib.cut
  rw [index_at l r c h, if_pos (by omega)]
  have e : ((l.length : Nat) : Int).toNat = l.length := by omega
  rw [e]
  simp
set_option maxHeartbeats 4000000 in
set_option maxRecDepth 100000 in
theorem readFrac_any {n d : Int} (w : World) (hf : fracB n d = true) (hT : TxtT w) (hE : TxtE w) (hC : TxtC w) :
    Calls Tryd.prog 27 #[.string (bs (fracStr n d))] w fun e w' => e = .returned (.tuple #[.agg #[.int .i64 n, .int .i64 d], .bool true]) ∧ Below w.heap.size w w' := by
  obtain ⟨d1, d2, n1, n2, -⟩ := fracB_of hf
  have hlen := fracStr_len hf
  obtain ⟨m, hm⟩ := hC
  obtain ⟨E0, hE0⟩ : ∃ E, E = w.alloc (.cells #[.int .i64 0, .int .i64 0] 34) := ⟨_, rfl⟩
  have hB0 : Below w.heap.size w E0 := by rw [hE0]; exact (Below.refl _ _).alloc (Nat.le_refl _) _
  have q0 : Box E0 w.heap.size [.int .i64 0, .int .i64 0] 34 := by rw [hE0]; exact Box.newAt w [.int .i64 0, .int .i64 0] _ rfl
  have hm0 := (hB0.cell (World.block_lt_of_cell? w _ hm)).trans hm
  have HT := Lib.hid (hT.below hB0)
  have HEE := Lib.hid (hE.below hB0)
  have HE0 := Lib.hid hE0
  have CU : Hid (Calls Tryd.prog 61 #[.string (bs (fracStr n d)), .string ⟨#[47]⟩] E0 fun e w' => e = .returned (.tuple #[.string (bs (Lib.itoa n)), .string (bs (if d = 1 then [] else Lib.itoa d)), .bool (decide (d ≠ 1))]) ∧ Below E0.heap.size E0 w') := by
    refine (Tryd.strings_Cut (bs (fracStr n d)) ⟨#[47]⟩ m E0 (by rw [bs_size]; omega) hm0).mono ?_
    rintro e w' ⟨rfl, q, rfl⟩
    have ec : Lib.cut (bs (fracStr n d)).data.toList (ByteArray.mk #[47]).data.toList = (Lib.itoa n, if d = 1 then [] else Lib.itoa d, decide (d ≠ 1)) := by
      rw [bs_list, show (ByteArray.mk #[47]).data.toList = [47] from rfl]
      unfold fracStr
      by_cases h1 : d = 1
      · rw [if_pos h1, if_pos h1, cut_none (itoa_no (by decide))]
        simp [h1]
      · rw [if_neg h1, if_neg h1, cut_at (itoa_no (by decide))]
        simp [h1]
    rw [ec]
    exact ⟨rfl, below_drewN (Below.refl _ _) _⟩
  have RN : Hid (∀ W, TxtT W → TxtE W → Calls Tryd.prog 15 #[.string (bs (Lib.itoa n))] W fun e w' => e = .returned (.tuple #[.int .i64 n, .bool true]) ∧ Below W.heap.size W w') := fun W h1 h2 => by
    have h := readDecimal_any (bs (Lib.itoa n)) (by have := Lib.itoa_length_le n (by omega) (by omega); rw [bs_size]; omega) W h1 h2
    rwa [bs_list, decV_some (readDec_itoa (by unfold small18; omega))] at h
  have RD : Hid (∀ W, TxtT W → TxtE W → Calls Tryd.prog 15 #[.string (bs (Lib.itoa d))] W fun e w' => e = .returned (.tuple #[.int .i64 d, .bool true]) ∧ Below W.heap.size W w') := fun W h1 h2 => by
    have h := readDecimal_any (bs (Lib.itoa d)) (by have := Lib.itoa_length_le d (by omega) (by omega); rw [bs_size]; omega) W h1 h2
    rwa [bs_list, decV_some (readDec_itoa (by unfold small18; omega))] at h
  have IF : Hid (∀ W, Calls Tryd.prog 59 #[.agg #[.int .i64 n, .int .i64 d]] W fun e w' => e = .returned (.bool true) ∧ Below W.heap.size W w') := fun W => by rw [← hf]; exact isFrac_any n d W
  have FT : Hid (∀ W, TxtT W → Calls Tryd.prog 28 #[.agg #[.int .i64 n, .int .i64 d]] W fun e w' => e = .returned (.string (bs (fracStr n d))) ∧ Below W.heap.size W w') := fun W h1 => fracText_any W hf h1
  generalize fracStr n d = FS at *
  clear hE0 hT hE hf hm hm0 hlen
  go_enter Tryd.func27, Tryd.ntmps27
  go_upto_region 3 with (first
    | (go_at_call 61; rw [← HE0.out]; refine CU.out.mono ?_; rintro e E1 ⟨rfl, hb1⟩)
    | (go_at_call 15; refine (RN.out _ (HT.out.below hb1) (HEE.out.below hb1)).mono ?_; rintro e E2 ⟨rfl, hb2⟩)
    | fail)
  have hb02 := hb1.trans (hb2.mono hb1.size)
  have q2 := q0.below hb02
  have hB2 := hB0.trans (hb02.mono hB0.size)
  obtain ⟨g, hg⟩ : ∃ g, g = E2.heap.size := ⟨_, rfl⟩
  obtain ⟨E3, hE3⟩ : ∃ E, E = E2.alloc (.cells #[.int .i64 n, .int .i64 1] 34) := ⟨_, rfl⟩
  have hb3 : Below E2.heap.size E2 E3 := by rw [hE3]; exact (Below.refl _ _).alloc (Nat.le_refl _) _
  have hb03 := hb02.trans (hb3.mono hb02.size)
  have hB3 := hB2.trans (hb3.mono hB2.size)
  have f3 : Box E3 g [.int .i64 n, .int .i64 1] 34 := by rw [hE3, hg]; exact Box.newAt E2 [.int .i64 n, .int .i64 1] _ rfl
  have q3 := q2.below hb3
  have hgw : w.heap.size ≤ g := by rw [hg]; exact hB2.size
  have hne : w.heap.size ≠ g := by have := q2.lt; omega
  have HE3 := Lib.hid hE3
  have HG := Lib.hid hg
  clear hE3 hg
  by_cases h1 : d = 1
  · subst h1
    have z0 := f3.cell 0 rfl
    have z1 := f3.cell 1 rfl
    have hgl := f3.lt
    go_upto_region 5 with fail
    rw [← HG.out, ← HE3.out]
    go_upto_region 9 with (first
      | (go_at_call 59; refine (IF.out _).mono ?_; rintro e E4 ⟨rfl, hb4⟩; have y0 := (f3.below hb4).cell 0 rfl; have y1 := (f3.below hb4).cell 1 rfl)
      | (go_at_call 28; refine (FT.out _ (HT.out.below (hb03.trans (hb4.mono hb03.size)))).mono ?_; rintro e E5 ⟨rfl, hb5⟩)
      | fail)
    have hb45 := hb4.trans (hb5.mono hb4.size)
    have f5 := f3.below hb45
    have y2 := f5.cell 0 rfl
    have y3 := f5.cell 1 rfl
    have hB6 := hB3.trans (hb45.mono hB3.size)
    have q6 := q3.below hb45
    have u0 := q6.cell 0 rfl
    have u1 := q6.cell 1 rfl
    have v0 := q6.frozen 0
    have v1 := q6.frozen 1
    have q7 := (q6.set 0 (.int .i64 n)).set 1 (.int .i64 1)
    have hB7 : Below w.heap.size w ((E5.setCell ⟨w.heap.size, 0, none⟩ (.int .i64 n)).setCell ⟨w.heap.size, 1, none⟩ (.int .i64 1)) := by (repeat (first | exact Below.refl _ _ | assumption | refine Below.setCell ?_ (by first | exact Nat.le_refl _ | omega | (simp; done) | (simp; omega)) _ | refine Below.alloc ?_ (by first | exact Nat.le_refl _ | omega | (simp; done) | (simp; omega)) _ | refine below_drewN ?_ _))
    obtain ⟨W, hW⟩ : ∃ W, W = ((E5.setCell ⟨w.heap.size, 0, none⟩ (.int .i64 n)).setCell ⟨w.heap.size, 1, none⟩ (.int .i64 1)) := ⟨_, rfl⟩
    rw [← hW] at q7 hB7
    have k0 := q7.cell 0 rfl
    have k1 := q7.cell 1 rfl
    have HW := Lib.hid hW
    clear hW q7
    go_wp2_with fail
    rw [← HW.out]
    refine bodyPost_ret (v := .tuple #[.agg #[.int .i64 n, .int .i64 1], .bool true]) (by simp [results, Tryd.results27, go_sem, *]) rfl ?_
    exact ⟨rfl, hB7⟩
  · have hgl := f3.lt
    have z0 := f3.cell 0 rfl
    have z1 := f3.cell 1 rfl
    simp only [h1, decide_false, Bool.not_false, if_false]
    go_upto_region 5 with fail
    rw [← HG.out, ← HE3.out]
    clear h1
    go_upto_region 6 with fail
    go_upto_region 7 with (first
      | (go_at_call 15; refine (RD.out _ (HT.out.below hb03) (HEE.out.below hb03)).mono ?_; rintro e E4 ⟨rfl, hb4⟩; have w0 := (f3.below hb4).cell 0 rfl; have w1 := (f3.below hb4).cell 1 rfl; have w2 := (f3.below hb4).frozen 1)
      | fail)
    have f4 := (f3.below hb4).set 1 (.int .i64 d)
    have hb04 := hb03.trans (hb4.mono hb03.size)
    have hge : E0.heap.size ≤ g := by rw [HG.out]; exact hb02.size
    have hb05 : Below E0.heap.size E0 (E4.setCell ⟨g, 1, none⟩ (.int .i64 d)) := hb04.setCell (p := ⟨g, 1, none⟩) hge (.int .i64 d)
    have q4 := (q3.below hb4)
    have q5 : Box (E4.setCell ⟨g, 1, none⟩ (.int .i64 d)) w.heap.size [.int .i64 0, .int .i64 0] 34 := by
      unfold Box at q4 ⊢
      rw [Below.heap_setCell _ _ _ _ (show w.heap.size ≠ (⟨g, 1, none⟩ : Addr).block from hne)]
      exact q4
    generalize E4.setCell ⟨g, 1, none⟩ (.int .i64 d) = E5 at *
    clear w0 w1 w2 z0 z1 hgl
    have z0 := f4.cell 0 rfl
    have z1 := f4.cell 1 rfl
    simp only [List.set_cons_succ, List.set_cons_zero] at f4
    have hgl := f4.lt
    go_upto_region 9 with (first
      | (go_at_call 59; refine (IF.out _).mono ?_; rintro e E6 ⟨rfl, hb6⟩; have y0 := (f4.below hb6).cell 0 rfl; have y1 := (f4.below hb6).cell 1 rfl)
      | (go_at_call 28; refine (FT.out _ (HT.out.below (hb05.trans (hb6.mono hb05.size)))).mono ?_; rintro e E7 ⟨rfl, hb7⟩)
      | fail)
    have hb67 := hb6.trans (hb7.mono hb6.size)
    have f5 := f4.below hb67
    have y2 := f5.cell 0 rfl
    have y3 := f5.cell 1 rfl
    have hB6 := hB0.trans ((hb05.trans (hb67.mono hb05.size)).mono hB0.size)
    have q6 := q5.below hb67
    have u0 := q6.cell 0 rfl
    have u1 := q6.cell 1 rfl
    have v0 := q6.frozen 0
    have v1 := q6.frozen 1
    have q7 := (q6.set 0 (.int .i64 n)).set 1 (.int .i64 d)
    have hB7 : Below w.heap.size w ((E7.setCell ⟨w.heap.size, 0, none⟩ (.int .i64 n)).setCell ⟨w.heap.size, 1, none⟩ (.int .i64 d)) := by (repeat (first | exact Below.refl _ _ | assumption | refine Below.setCell ?_ (by first | exact Nat.le_refl _ | omega | (simp; done) | (simp; omega)) _ | refine Below.alloc ?_ (by first | exact Nat.le_refl _ | omega | (simp; done) | (simp; omega)) _ | refine below_drewN ?_ _))
    obtain ⟨W, hW⟩ : ∃ W, W = ((E7.setCell ⟨w.heap.size, 0, none⟩ (.int .i64 n)).setCell ⟨w.heap.size, 1, none⟩ (.int .i64 d)) := ⟨_, rfl⟩
    rw [← hW] at q7 hB7
    have k0 := q7.cell 0 rfl
    have k1 := q7.cell 1 rfl
    have HW := Lib.hid hW
    clear hW q7
    go_wp2_with fail
    rw [← HW.out]
    refine bodyPost_ret (v := .tuple #[.agg #[.int .i64 n, .int .i64 d], .bool true]) (by simp [results, Tryd.results27, go_sem, *]) rfl ?_
    exact ⟨rfl, hB7⟩
end Go.Proofs.YtnhhghilejeegaaDoor
