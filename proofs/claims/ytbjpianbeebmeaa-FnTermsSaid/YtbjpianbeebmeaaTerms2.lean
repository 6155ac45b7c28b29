/-
  Terms of fractions: two fractions are drawn; floor, comparison, mediant, terms: contracts.
-/
import Derived.Test.YtbjpianbeebmeaaTerms
namespace Go.Proofs.Ytbjpianbeebmeaa
open Go.ChangeShapes Go.WideShapes Go.ChangeAt Go.RowKit Go.Sort
set_option linter.unusedVariables false

def DrewFracs (w : World) (e : Ending) (w' : World) : Prop := ∃ n d n' d', fracB n d = true ∧ fracB n' d' = true ∧ e = .returned (.tuple #[.agg #[.int .i64 n, .int .i64 d], .agg #[.int .i64 n', .int .i64 d']]) ∧ Below w.heap.size w w'
set_option maxHeartbeats 4000000 in
theorem a2Fracs_any {v : Value} {bs : List Int} (w : World) (h : VB w v bs) (hl : bs.length ≤ 1048576) :
    Calls Try.prog 5 #[v] w (DrewFracs w) := by
  obtain ⟨p, c, rfl, hr⟩ := h
  obtain ⟨E0, hE0⟩ : ∃ E, E = (w.alloc (.cells #[.int .i64 0, .int .i64 0] 25)).alloc (.cells #[.int .i64 0, .int .i64 0] 25) := ⟨_, rfl⟩
  have hB0 : Below w.heap.size w E0 := by rw [hE0]; exact ((Below.refl _ _).alloc (Nat.le_refl _) _).alloc (by simp) _
  obtain ⟨r1, hr1⟩ : ∃ r, r = w.heap.size := ⟨_, rfl⟩
  have br0 : Box E0 r1 [.int .i64 0, .int .i64 0] 25 := by rw [hE0, hr1]; exact (Box.newAt w [.int .i64 0, .int .i64 0] _ rfl).alloc _
  have bq0 : Box E0 (r1 + 1) [.int .i64 0, .int .i64 0] 25 := by rw [hE0, hr1]; exact Box.newAt (w.alloc _) [.int .i64 0, .int .i64 0] _ (by simp)
  have hs0 : E0.heap.size = r1 + 2 := by rw [hE0, hr1]; simp
  have HE0 := Lib.hid hE0
  have HR1 := Lib.hid hr1
  have hrw : w.heap.size ≤ r1 := by omega
  clear hE0 hr1
  go_enter Try.func5, Try.ntmps5
  go_upto_region 1 with fail
  rw [← HE0.out, ← HR1.out]
  clear HE0
  go_wp2_with fail
  refine (l00From_any (c := c) E0 (hr.below hB0) hl).mono ?_
  rintro e E1 ⟨rfl, hs1, hb1⟩
  have hB1 := hB0.trans (hb1.mono (by omega))
  have br1 := br0.below hb1
  have bq1 := bq0.below hb1
  obtain ⟨g, hg⟩ : ∃ g, g = E0.heap.size := ⟨_, rfl⟩
  rw [← hg] at hs1 ⊢
  have hgw : r1 + 2 ≤ g := by omega
  clear hg br0 bq0 hb1 hB0 hs0
  go_wp2_with fail
  refine (l02Draw_any E1 hs1 (by omega)).mono ?_
  rintro e E2 ⟨n, d, hf, rfl, hs2, ho2⟩
  have hB2 := hB1.trans (ho2.below (B := w.heap.size) (fun k hk => by have : k = g := hk; omega) hB1.size)
  have br2 := br1.off ho2 (show ¬ r1 = g by omega)
  have bq2 := bq1.off ho2 (show ¬ r1 + 1 = g by omega)
  obtain ⟨E5, hE5⟩ : ∃ E, E = E2.alloc (.cells #[.int .i64 n, .int .i64 d] 25) := ⟨_, rfl⟩
  obtain ⟨gf, hgf⟩ : ∃ g, g = E2.heap.size := ⟨_, rfl⟩
  have hb5 : Below E2.heap.size E2 E5 := by rw [hE5]; exact (Below.refl _ _).alloc (Nat.le_refl _) _
  have bf5 : Box E5 gf [.int .i64 n, .int .i64 d] 25 := by rw [hE5, hgf]; exact Box.newAt E2 [.int .i64 n, .int .i64 d] _ rfl
  have hs5 := hs2.below hb5
  have br5 := br2.below hb5
  have bq5 := bq2.below hb5
  have hB5 := hB2.trans (hb5.mono hB2.size)
  have hne : g ≠ gf := by have := hs2.lt; omega
  have hlf : r1 + 2 ≤ gf := by have := hs2.lt; omega
  have HE5 := Lib.hid hE5
  have HGF := Lib.hid hgf
  clear hE5 hgf hs2 br2 bq2 hB2 hb5 ho2 br1 bq1 hB1 hs1
  go_upto_region 3 with fail
  rw [← HE5.out, ← HGF.out]
  clear HE5 HGF
  have z0 := bf5.cell 0 rfl
  have z1 := bf5.cell 1 rfl
  have y0 := br5.cell 0 rfl
  have y1 := br5.cell 1 rfl
  have u0 := br5.frozen 0
  have u1 := br5.frozen 1
  have x0 := bq5.cell 0 rfl
  have x1 := bq5.cell 1 rfl
  have v0 := bq5.frozen 0
  have v1 := bq5.frozen 1
  have HF := Lib.hid hf
  clear hf
  have hs6 : SrcAt E5.drew g (0 + 10) := hs5.below ⟨rfl, rfl, rfl, Nat.le_refl _, fun _ _ => rfl⟩
  have bf6 : Box E5.drew gf [.int .i64 n, .int .i64 d] 25 := bf5
  have br6 : Box E5.drew r1 [.int .i64 0, .int .i64 0] 25 := br5
  have bq6 : Box E5.drew (r1 + 1) [.int .i64 0, .int .i64 0] 25 := bq5
  have hB6 : Below w.heap.size w E5.drew := ⟨hB5.os, hB5.tape, hB5.output, hB5.size, hB5.block⟩
  go_region_held3 (fun W => W.cell? ⟨gf, 0, none⟩ = some (.int .i64 n) ∧ W.cell? ⟨gf, 1, none⟩ = some (.int .i64 d)) (first | go_keep | (refine ⟨Box.cell (g := gf) (L := [.int .i64 n, .int .i64 d]) (T := 25) ?_ 0 rfl, Box.cell (g := gf) (L := [.int .i64 n, .int .i64 d]) (T := 25) ?_ 1 rfl⟩ <;> (repeat (first | (with_reducible exact bf6) | (with_reducible refine Box.other ?_ (by first | (show gf ≠ r1; omega) | (show gf ≠ r1 + 1; omega)) _))))) (first | (go_at_call 12; refine (l02Draw_any _ hs6 (by omega)).mono ?_; rintro e E7 ⟨n', d', hf', rfl, hs7, ho7⟩; have bf6 := bf6.off ho7 (show ¬ gf = g by omega); have br6 := br6.off ho7 (show ¬ r1 = g by omega); have bq6 := bq6.off ho7 (show ¬ r1 + 1 = g by omega); have y0 := br6.cell 0 rfl; have y1 := br6.cell 1 rfl; have u0 := br6.frozen 0; have u1 := br6.frozen 1; have x0 := bq6.cell 0 rfl; have x1 := bq6.cell 1 rfl; have v0 := bq6.frozen 0; have v1 := bq6.frozen 1; have hB7 := hB6.trans (ho7.below (B := w.heap.size) (fun k hk => by have : k = g := hk; omega) hB6.size); have hlt7 := br6.lt; have hlt8 := bq6.lt))
  all_goals
    have bR := ((((br6.set 0 (.int .i64 n)).set 1 (.int .i64 d)).other (a := ⟨r1 + 1, 0, none⟩) (by show r1 ≠ r1 + 1; omega) (.int .i64 n')).other (a := ⟨r1 + 1, 1, none⟩) (by show r1 ≠ r1 + 1; omega) (.int .i64 d'))
    have bQ := ((((bq6.other (a := ⟨r1, 0, none⟩) (by show r1 + 1 ≠ r1; omega) (.int .i64 n)).other (a := ⟨r1, 1, none⟩) (by show r1 + 1 ≠ r1; omega) (.int .i64 d)).set 0 (.int .i64 n')).set 1 (.int .i64 d'))
    have hB8 : Below w.heap.size w ((((E7.setCell ⟨r1, 0, none⟩ (.int .i64 n)).setCell ⟨r1, 1, none⟩ (.int .i64 d)).setCell ⟨r1 + 1, 0, none⟩ (.int .i64 n')).setCell ⟨r1 + 1, 1, none⟩ (.int .i64 d')) := by (repeat (first | exact Below.refl _ _ | assumption | refine Below.setCell ?_ (by first | exact Nat.le_refl _ | omega | (simp; done) | (simp; omega)) _ | refine Below.alloc ?_ (by first | exact Nat.le_refl _ | omega | (simp; done) | (simp; omega)) _ | refine below_drewN ?_ _))
    obtain ⟨W, hW⟩ : ∃ W, W = ((((E7.setCell ⟨r1, 0, none⟩ (.int .i64 n)).setCell ⟨r1, 1, none⟩ (.int .i64 d)).setCell ⟨r1 + 1, 0, none⟩ (.int .i64 n')).setCell ⟨r1 + 1, 1, none⟩ (.int .i64 d')) := ⟨_, rfl⟩
    rw [← hW] at bR bQ hB8 ⊢
    have k0 := bR.cell 0 rfl
    have k1 := bR.cell 1 rfl
    have k2 := bQ.cell 0 rfl
    have k3 := bQ.cell 1 rfl
    clear hW
    go_wp2_with fail
    refine bodyPost_ret (v := .tuple #[.agg #[.int .i64 n, .int .i64 d], .agg #[.int .i64 n', .int .i64 d']]) (by simp [results, Try.results5, go_sem, *]) rfl ?_
    exact ⟨n, d, n', d', HF.out, hf', rfl, hB8⟩
theorem floorFrac_any {n d : Int} (w : World) (hf : fracB n d = true) :
    Calls Try.prog 8 #[.agg #[.int .i64 n, .int .i64 d]] w fun e w' => e = .returned (.int .i64 (n / d)) ∧ Below w.heap.size w w' := by
  obtain ⟨d1, d2, n1, n2, -⟩ := fracB_of hf
  obtain ⟨E0, hE0⟩ : ∃ E, E = w.alloc (.cells #[.int .i64 n, .int .i64 d] 25) := ⟨_, rfl⟩
  have hB0 : Below w.heap.size w E0 := by rw [hE0]; exact (Below.refl _ _).alloc (Nat.le_refl _) _
  have b0 : Box E0 w.heap.size [.int .i64 n, .int .i64 d] 25 := by rw [hE0]; exact Box.newAt w [.int .i64 n, .int .i64 d] _ rfl
  have OK := Lib.hid (l02Ok_any n d E0)
  rw [hf] at OK
  have HE0 := Lib.hid hE0
  have z0 := b0.cell 0 rfl
  have z1 := b0.cell 1 rfl
  clear hE0 hf
  go_enter Try.func8, Try.ntmps8
  go_upto_region 1 with fail
  rw [← HE0.out]
  go_wp2_with fail
  refine OK.out.mono ?_
  rintro e F ⟨rfl, hb⟩
  have b1 := b0.below hb
  clear z0 z1
  have z0 := b1.cell 0 rfl
  have z1 := b1.cell 1 rfl
  have hB1 := hB0.trans (hb.mono hB0.size)
  go_wp2_with fail
  refine (l02Div_any n d F (by omega) (by omega) (by omega) (by omega)).mono ?_
  rintro e w' ⟨rfl, rfl⟩
  go_wp2_with fail
  go_ret
  exact ⟨rfl, hB1⟩
theorem l02Compare_any {n d n' d' : Int} (w : World) (hf : fracB n d = true) (hf' : fracB n' d' = true) :
    Calls Try.prog 21 #[.agg #[.int .i64 n, .int .i64 d], .agg #[.int .i64 n', .int .i64 d']] w fun e w' => e = .returned (.int .i64 (sgn (n * d') (n' * d))) ∧ Below w.heap.size w w' := by
  obtain ⟨d1, d2, n1, n2, -⟩ := fracB_of hf
  obtain ⟨d1', d2', n1', n2', -⟩ := fracB_of hf'
  have m1 := mul_bd (a := n) (b := d') (A := 1000000000) (B := 1000000) (by omega) n2 (by omega) d2' (by omega) (by omega)
  have m2 := mul_bd (a := n') (b := d) (A := 1000000000) (B := 1000000) (by omega) n2' (by omega) d2 (by omega) (by omega)
  have hB0 : Below w.heap.size w ((w.alloc (.cells #[.int .i64 n, .int .i64 d] 25)).alloc (.cells #[.int .i64 n', .int .i64 d'] 25)) := ((Below.refl _ _).alloc (Nat.le_refl _) _).alloc (by simp) _
  have HS : Hid (∀ x y, x = n * d' → y = n' * d → sgn (n * d') (n' * d) = sgn x y) := by rintro _ _ rfl rfl; rfl
  generalize sgn (n * d') (n' * d) = R at HS ⊢
  obtain ⟨x, hx⟩ : ∃ x, x = n * d' := ⟨_, rfl⟩
  obtain ⟨y, hy⟩ : ∃ y, y = n' * d := ⟨_, rfl⟩
  have HR := HS.out x y hx hy
  rw [← hx] at m1
  rw [← hy] at m2
  have ex : n * d' = x := hx.symm
  have ey : n' * d = y := hy.symm
  have hx1 := m1.1; have hx2 := m1.2; have hy1 := m2.1; have hy2 := m2.2
  clear hx hy m1 m2 HS
  have HR2 := Lib.hid HR
  clear HR
  by_cases h1 : x < y
  · obtain rfl : R = -1 := by rw [HR2.out]; unfold sgn; rw [if_pos h1]
    have q1 : decide (x < y) = true := decide_eq_true h1
    go_enter Try.func21, Try.ntmps21
    go_wp2_with fail
    go_ret
    exact ⟨rfl, hB0⟩
  by_cases h2 : y < x
  · obtain rfl : R = 1 := by rw [HR2.out]; unfold sgn; rw [if_neg h1, if_pos h2]
    have q1 : decide (x < y) = false := decide_eq_false h1
    have q2 : decide (y < x) = true := decide_eq_true h2
    go_enter Try.func21, Try.ntmps21
    go_wp2_with fail
    go_ret
    exact ⟨rfl, hB0⟩
  obtain rfl : R = 0 := by rw [HR2.out]; unfold sgn; rw [if_neg h1, if_neg h2]
  have q1 : decide (x < y) = false := decide_eq_false h1
  have q2 : decide (y < x) = false := decide_eq_false h2
  go_enter Try.func21, Try.ntmps21
  go_wp2_with fail
  go_ret
  exact ⟨rfl, hB0⟩
theorem compareFrac_any {n d n' d' : Int} (w : World) (hf : fracB n d = true) (hf' : fracB n' d' = true) :
    Calls Try.prog 10 #[.agg #[.int .i64 n, .int .i64 d], .agg #[.int .i64 n', .int .i64 d']] w fun e w' => e = .returned (.int .i64 (sgn (n * d') (n' * d))) ∧ Below w.heap.size w w' := by
  have CM : Hid (∀ W, Calls Try.prog 21 #[.agg #[.int .i64 n, .int .i64 d], .agg #[.int .i64 n', .int .i64 d']] W fun e w' => e = .returned (.int .i64 (sgn (n * d') (n' * d))) ∧ Below W.heap.size W w') := fun W => l02Compare_any W hf hf'
  generalize sgn (n * d') (n' * d) = R at CM ⊢
  obtain ⟨r, hr⟩ : ∃ r, r = w.heap.size := ⟨_, rfl⟩
  obtain ⟨E0, hE0⟩ : ∃ E, E = (w.alloc (.cells #[.int .i64 n, .int .i64 d] 25)).alloc (.cells #[.int .i64 n', .int .i64 d'] 25) := ⟨_, rfl⟩
  have hB0 : Below w.heap.size w E0 := by rw [hE0]; exact ((Below.refl _ _).alloc (Nat.le_refl _) _).alloc (by simp) _
  have b0 : Box E0 r [.int .i64 n, .int .i64 d] 25 := by rw [hE0, hr]; exact (Box.newAt w [.int .i64 n, .int .i64 d] _ rfl).alloc _
  have c0 : Box E0 (r + 1) [.int .i64 n', .int .i64 d'] 25 := by rw [hE0, hr]; exact Box.newAt (w.alloc _) [.int .i64 n', .int .i64 d'] _ (by simp)
  have O1 : Hid (∀ W, Calls Try.prog 18 #[.agg #[.int .i64 n, .int .i64 d]] W fun e w' => e = .returned (.bool true) ∧ Below W.heap.size W w') := fun W => by rw [← hf]; exact l02Ok_any n d W
  have O2 : Hid (∀ W, Calls Try.prog 18 #[.agg #[.int .i64 n', .int .i64 d']] W fun e w' => e = .returned (.bool true) ∧ Below W.heap.size W w') := fun W => by rw [← hf']; exact l02Ok_any n' d' W
  have HE0 := Lib.hid hE0
  have HR := Lib.hid hr
  have z0 := b0.cell 0 rfl
  have z1 := b0.cell 1 rfl
  have z2 := c0.cell 0 rfl
  have z3 := c0.cell 1 rfl
  clear hE0 hr hf hf'
  go_enter Try.func10, Try.ntmps10
  go_upto_region 1 with fail
  rw [← HE0.out, ← HR.out]
  go_wp2_with fail
  refine (O1.out _).mono ?_
  rintro e E1 ⟨rfl, hb1⟩
  have b1 := b0.below hb1
  have c1 := c0.below hb1
  have hB1 := hB0.trans (hb1.mono hB0.size)
  clear z0 z1 z2 z3
  have z0 := b1.cell 0 rfl
  have z1 := b1.cell 1 rfl
  have z2 := c1.cell 0 rfl
  have z3 := c1.cell 1 rfl
  go_wp2_with fail
  refine (O2.out _).mono ?_
  rintro e E2 ⟨rfl, hb2⟩
  have b2 := b1.below hb2
  have c2 := c1.below hb2
  have hB2 := hB1.trans (hb2.mono hB1.size)
  clear z0 z1 z2 z3
  have z0 := b2.cell 0 rfl
  have z1 := b2.cell 1 rfl
  have z2 := c2.cell 0 rfl
  have z3 := c2.cell 1 rfl
  go_wp2_with fail
  refine (CM.out _).mono ?_
  rintro e E3 ⟨rfl, hb3⟩
  go_wp2_with fail
  go_ret
  exact ⟨rfl, hB2.trans (hb3.mono hB2.size)⟩
theorem areFracs_any {b o c m : Nat} {f : Nat → Int × Int} (w : World) (hm : m ≤ 1024) (hc : ∀ k, k < m → w.cell? ⟨b, o + k * 2, none⟩ = some (.int .i64 (f k).1) ∧ w.cell? ⟨b, o + k * 2 + 1, none⟩ = some (.int .i64 (f k).2)) (hf : ∀ k, k < m → fracB (f k).1 (f k).2 = true) (hb : b < w.heap.size) :
    Calls Try.prog 20 #[.slice (some ⟨b, o, none⟩) m c] w fun e w' => e = .returned (.bool true) ∧ Below w.heap.size w w' := by
  have HC := Lib.hid hc
  have HF := Lib.hid hf
  clear hc hf
  go_enter Try.func20, Try.ntmps20
  go_wp2_with fail
  go_loopw [4, 7] (fun _ i wr => ∃ k : Nat, k ≤ m ∧ i = .int .i64 k ∧ Below w.heap.size w wr) (fun _ i _ => m - (intOf i).toNat)
  case atStart => exact ⟨0, Nat.zero_le _, rfl, Below.refl _ _⟩
  case round =>
    obtain ⟨k, hk, rfl, hbel⟩ := hrel
    obtain ⟨wi, rfl⟩ : ∃ wi : World, wi = wr := ⟨_, rfl⟩
    by_cases hlt : k < m
    · obtain ⟨c0, c1⟩ := HC.out k hlt
      have hF := HF.out k hlt
      have z0 := (hbel.cell (p := ⟨b, o + k * 2, none⟩) hb).trans c0
      have z1 := (hbel.cell (p := ⟨b, o + k * 2 + 1, none⟩) hb).trans c1
      generalize (f k).1 = n at z0 z1 hF
      generalize (f k).2 = d at z0 z1 hF
      have OK : Hid (∀ W, Calls Try.prog 13 #[.agg #[.int .i64 n, .int .i64 d]] W fun e w' => e = .returned (.bool true) ∧ Below W.heap.size W w') := fun W => by rw [← hF]; exact isFrac_any n d W
      clear c0 c1 hF
      go_wp2_with fail
      refine (OK.out _).mono ?_
      rintro e w1 ⟨rfl, hb1⟩
      have hb2 : Below w.heap.size w w1 := (hbel.alloc hbel.size _).trans (hb1.mono (by have := hbel.size; simp; omega))
      go_wp2_with fail
      go_roundw
      case rel => exact ⟨k + 1, by omega, by go_num, hb2⟩
      case measure => simp [intOf] <;> omega
    · obtain rfl : k = m := by omega
      go_wp2_with fail
      go_ret
      exact ⟨rfl, hbel⟩
end Go.Proofs.Ytbjpianbeebmeaa
