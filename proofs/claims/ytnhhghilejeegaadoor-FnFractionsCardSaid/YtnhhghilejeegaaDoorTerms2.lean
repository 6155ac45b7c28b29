/-
  Terms of fractions: two fractions are drawn; floor, comparison, mediant, terms: contracts.
-/
import Derived.Test.YtnhhghilejeegaaDoorTerms
namespace Go.Proofs.YtnhhghilejeegaaDoor
open Go.ChangeShapes Go.WideShapes Go.ChangeAt Go.RowKit Go.Sort
set_option linter.unusedVariables false

def DrewFracs (w : World) (e : Ending) (w' : World) : Prop := ∃ n d n' d', fracB n d = true ∧ fracB n' d' = true ∧ e = .returned (.tuple #[.agg #[.int .i64 n, .int .i64 d], .agg #[.int .i64 n', .int .i64 d']]) ∧ Below w.heap.size w w'
set_option maxHeartbeats 4000000 in
theorem a2Fracs_any {v : Value} {bs : List Int} (w : World) (h : VB w v bs) (hl : bs.length ≤ 1048576) :
    Calls Tryd.prog 19 #[v] w (DrewFracs w) := by
  obtain ⟨p, c, rfl, hr⟩ := h
  obtain ⟨E0, hE0⟩ : ∃ E, E = (w.alloc (.cells #[.int .i64 0, .int .i64 0] 34)).alloc (.cells #[.int .i64 0, .int .i64 0] 34) := ⟨_, rfl⟩
  have hB0 : Below w.heap.size w E0 := by rw [hE0]; exact ((Below.refl _ _).alloc (Nat.le_refl _) _).alloc (by simp) _
  obtain ⟨r1, hr1⟩ : ∃ r, r = w.heap.size := ⟨_, rfl⟩
  have br0 : Box E0 r1 [.int .i64 0, .int .i64 0] 34 := by rw [hE0, hr1]; exact (Box.newAt w [.int .i64 0, .int .i64 0] _ rfl).alloc _
  have bq0 : Box E0 (r1 + 1) [.int .i64 0, .int .i64 0] 34 := by rw [hE0, hr1]; exact Box.newAt (w.alloc _) [.int .i64 0, .int .i64 0] _ (by simp)
  have hs0 : E0.heap.size = r1 + 2 := by rw [hE0, hr1]; simp
  have HE0 := Lib.hid hE0
  have HR1 := Lib.hid hr1
  have hrw : w.heap.size ≤ r1 := by omega
  clear hE0 hr1
  go_enter Tryd.func19, Tryd.ntmps19
  go_upto_region 1 with fail
  rw [← HE0.out, ← HR1.out]
  clear HE0
  go_wp2_with fail
  refine (l00From_any (c := c) E0 (hr.below hB0) hl).mono ?_
  rintro e E1 ⟨rfl, hs1, hb1⟩
  have hB1 := hB0.trans (hb1.mono (by omega))
  have br1 := br0.below hb1
  have bq1 := bq0.below hb1
  obtain ⟨g, hg⟩ : ∃ g, g = E0.heap.size := ⟨_, rfl⟩
  rw [← hg] at hs1 ⊢
  have hgw : r1 + 2 ≤ g := by omega
  clear hg br0 bq0 hb1 hB0 hs0
  go_wp2_with fail
  refine (l02Draw_any E1 hs1 (by omega)).mono ?_
  rintro e E2 ⟨n, d, hf, rfl, hs2, ho2⟩
  have hB2 := hB1.trans (ho2.below (B := w.heap.size) (fun k hk => by have : k = g := hk; omega) hB1.size)
  have br2 := br1.off ho2 (show ¬ r1 = g by omega)
  have bq2 := bq1.off ho2 (show ¬ r1 + 1 = g by omega)
  obtain ⟨E5, hE5⟩ : ∃ E, E = E2.alloc (.cells #[.int .i64 n, .int .i64 d] 34) := ⟨_, rfl⟩
  obtain ⟨gf, hgf⟩ : ∃ g, g = E2.heap.size := ⟨_, rfl⟩
  have hb5 : Below E2.heap.size E2 E5 := by rw [hE5]; exact (Below.refl _ _).alloc (Nat.le_refl _) _
  have bf5 : Box E5 gf [.int .i64 n, .int .i64 d] 34 := by rw [hE5, hgf]; exact Box.newAt E2 [.int .i64 n, .int .i64 d] _ rfl
  have hs5 := hs2.below hb5
  have br5 := br2.below hb5
  have bq5 := bq2.below hb5
  have hB5 := hB2.trans (hb5.mono hB2.size)
  have hne : g ≠ gf := by have := hs2.lt; omega
  have hlf : r1 + 2 ≤ gf := by have := hs2.lt; omega
  have HE5 := Lib.hid hE5
  have HGF := Lib.hid hgf
  clear hE5 hgf hs2 br2 bq2 hB2 hb5 ho2 br1 bq1 hB1 hs1
  go_upto_region 3 with fail
  rw [← HE5.out, ← HGF.out]
  clear HE5 HGF
  have z0 := bf5.cell 0 rfl
  have z1 := bf5.cell 1 rfl
  have y0 := br5.cell 0 rfl
  have y1 := br5.cell 1 rfl
  have u0 := br5.frozen 0
  have u1 := br5.frozen 1
  have x0 := bq5.cell 0 rfl
  have x1 := bq5.cell 1 rfl
  have v0 := bq5.frozen 0
  have v1 := bq5.frozen 1
  have HF := Lib.hid hf
  clear hf
  have hs6 : SrcAt E5.drew g (0 + 10) := hs5.below ⟨rfl, rfl, rfl, Nat.le_refl _, fun _ _ => rfl⟩
  have bf6 : Box E5.drew gf [.int .i64 n, .int .i64 d] 34 := bf5
  have br6 : Box E5.drew r1 [.int .i64 0, .int .i64 0] 34 := br5
  have bq6 : Box E5.drew (r1 + 1) [.int .i64 0, .int .i64 0] 34 := bq5
  have hB6 : Below w.heap.size w E5.drew := ⟨hB5.os, hB5.tape, hB5.output, hB5.size, hB5.block⟩
  go_region_held3 (fun W => W.cell? ⟨gf, 0, none⟩ = some (.int .i64 n) ∧ W.cell? ⟨gf, 1, none⟩ = some (.int .i64 d)) (first | go_keep | (refine ⟨Box.cell (g := gf) (L := [.int .i64 n, .int .i64 d]) (T := 34) ?_ 0 rfl, Box.cell (g := gf) (L := [.int .i64 n, .int .i64 d]) (T := 34) ?_ 1 rfl⟩ <;> (repeat (first | (with_reducible exact bf6) | (with_reducible refine Box.other ?_ (by first | (show gf ≠ r1; omega) | (show gf ≠ r1 + 1; omega)) _))))) (first | (go_at_call 54; refine (l02Draw_any _ hs6 (by omega)).mono ?_; rintro e E7 ⟨n', d', hf', rfl, hs7, ho7⟩; have bf6 := bf6.off ho7 (show ¬ gf = g by omega); have br6 := br6.off ho7 (show ¬ r1 = g by omega); have bq6 := bq6.off ho7 (show ¬ r1 + 1 = g by omega); have y0 := br6.cell 0 rfl; have y1 := br6.cell 1 rfl; have u0 := br6.frozen 0; have u1 := br6.frozen 1; have x0 := bq6.cell 0 rfl; have x1 := bq6.cell 1 rfl; have v0 := bq6.frozen 0; have v1 := bq6.frozen 1; have hB7 := hB6.trans (ho7.below (B := w.heap.size) (fun k hk => by have : k = g := hk; omega) hB6.size); have hlt7 := br6.lt; have hlt8 := bq6.lt))
  all_goals
    have bR := ((((br6.set 0 (.int .i64 n)).set 1 (.int .i64 d)).other (a := ⟨r1 + 1, 0, none⟩) (by show r1 ≠ r1 + 1; omega) (.int .i64 n')).other (a := ⟨r1 + 1, 1, none⟩) (by show r1 ≠ r1 + 1; omega) (.int .i64 d'))
    have bQ := ((((bq6.other (a := ⟨r1, 0, none⟩) (by show r1 + 1 ≠ r1; omega) (.int .i64 n)).other (a := ⟨r1, 1, none⟩) (by show r1 + 1 ≠ r1; omega) (.int .i64 d)).set 0 (.int .i64 n')).set 1 (.int .i64 d'))
    have hB8 : Below w.heap.size w ((((E7.setCell ⟨r1, 0, none⟩ (.int .i64 n)).setCell ⟨r1, 1, none⟩ (.int .i64 d)).setCell ⟨r1 + 1, 0, none⟩ (.int .i64 n')).setCell ⟨r1 + 1, 1, none⟩ (.int .i64 d')) := by (repeat (first | exact Below.refl _ _ | assumption | refine Below.setCell ?_ (by first | exact Nat.le_refl _ | omega | (simp; done) | (simp; omega)) _ | refine Below.alloc ?_ (by first | exact Nat.le_refl _ | omega | (simp; done) | (simp; omega)) _ | refine below_drewN ?_ _))
    obtain ⟨W, hW⟩ : ∃ W, W = ((((E7.setCell ⟨r1, 0, none⟩ (.int .i64 n)).setCell ⟨r1, 1, none⟩ (.int .i64 d)).setCell ⟨r1 + 1, 0, none⟩ (.int .i64 n')).setCell ⟨r1 + 1, 1, none⟩ (.int .i64 d')) := ⟨_, rfl⟩
    rw [← hW] at bR bQ hB8 ⊢
    have k0 := bR.cell 0 rfl
    have k1 := bR.cell 1 rfl
    have k2 := bQ.cell 0 rfl
    have k3 := bQ.cell 1 rfl
    clear hW
    go_wp2_with fail
    refine bodyPost_ret (v := .tuple #[.agg #[.int .i64 n, .int .i64 d], .agg #[.int .i64 n', .int .i64 d']]) (by simp [results, Tryd.results19, go_sem, *]) rfl ?_
    exact ⟨n, d, n', d', HF.out, hf', rfl, hB8⟩
theorem areFracs_any {b o c m : Nat} {f : Nat → Int × Int} (w : World) (hm : m ≤ 1024) (hc : ∀ k, k < m → w.cell? ⟨b, o + k * 2, none⟩ = some (.int .i64 (f k).1) ∧ w.cell? ⟨b, o + k * 2 + 1, none⟩ = some (.int .i64 (f k).2)) (hf : ∀ k, k < m → fracB (f k).1 (f k).2 = true) (hb : b < w.heap.size) :
    Calls Tryd.prog 55 #[.slice (some ⟨b, o, none⟩) m c] w fun e w' => e = .returned (.bool true) ∧ Below w.heap.size w w' := by
  have HC := Lib.hid hc
  have HF := Lib.hid hf
  clear hc hf
  go_enter Tryd.func55, Tryd.ntmps55
  go_wp2_with fail
  go_loopw [4, 7] (fun _ i wr => ∃ k : Nat, k ≤ m ∧ i = .int .i64 k ∧ Below w.heap.size w wr) (fun _ i _ => m - (intOf i).toNat)
  case atStart => exact ⟨0, Nat.zero_le _, rfl, Below.refl _ _⟩
  case round =>
    obtain ⟨k, hk, rfl, hbel⟩ := hrel
    obtain ⟨wi, rfl⟩ : ∃ wi : World, wi = wr := ⟨_, rfl⟩
    by_cases hlt : k < m
    · obtain ⟨c0, c1⟩ := HC.out k hlt
      have hF := HF.out k hlt
      have z0 := (hbel.cell (p := ⟨b, o + k * 2, none⟩) hb).trans c0
      have z1 := (hbel.cell (p := ⟨b, o + k * 2 + 1, none⟩) hb).trans c1
      generalize (f k).1 = n at z0 z1 hF
      generalize (f k).2 = d at z0 z1 hF
      have OK : Hid (∀ W, Calls Tryd.prog 59 #[.agg #[.int .i64 n, .int .i64 d]] W fun e w' => e = .returned (.bool true) ∧ Below W.heap.size W w') := fun W => by rw [← hF]; exact isFrac_any n d W
      clear c0 c1 hF
      go_wp2_with fail
      refine (OK.out _).mono ?_
      rintro e w1 ⟨rfl, hb1⟩
      have hb2 : Below w.heap.size w w1 := (hbel.alloc hbel.size _).trans (hb1.mono (by have := hbel.size; simp; omega))
      go_wp2_with fail
      go_roundw
      case rel => exact ⟨k + 1, by omega, by go_num, hb2⟩
      case measure => simp [intOf] <;> omega
    · obtain rfl : k = m := by omega
      go_wp2_with fail
      go_ret
      exact ⟨rfl, hbel⟩
end Go.Proofs.YtnhhghilejeegaaDoor
