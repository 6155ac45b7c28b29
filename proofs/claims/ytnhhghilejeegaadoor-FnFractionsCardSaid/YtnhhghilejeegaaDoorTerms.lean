/-
  Terms of fractions: what is drawn, the terms, their value; floor, mediant, comparison.
-/
import Derived.Test.YtnhhghilejeegaaDoorBest2
import Derived.Test.YtnhhghilejeegaaDoorTermsM
namespace Go.Proofs.YtnhhghilejeegaaDoor
open Go.ChangeShapes Go.WideShapes Go.ChangeAt Go.RowKit Go.Sort
set_option linter.unusedVariables false

theorem toOff {S : Nat → Prop} {w w' : World} (h : Below w.heap.size w w') : Off S w w' := ⟨h.os, h.tape, h.output, h.size, fun k hk _ => h.block k hk⟩
/-! ### comparing -/
def sgn (x y : Int) : Int := if x < y then -1 else if y < x then 1 else 0
theorem sgn_swap (x y : Int) : sgn y x = -sgn x y := by unfold sgn; split <;> split <;> omega
theorem sgn_scale {x y g : Int} (hg : 0 < g) : sgn (x * g) (y * g) = sgn x y := by
  unfold sgn
  by_cases h1 : x < y
  · rw [if_pos h1, if_pos (Int.mul_lt_mul_of_pos_right h1 hg)]
  · have h2 : ¬ x * g < y * g := fun h => h1 (Int.lt_of_mul_lt_mul_right h (by omega))
    rw [if_neg h1, if_neg h2]
    by_cases h3 : y < x
    · rw [if_pos h3, if_pos (Int.mul_lt_mul_of_pos_right h3 hg)]
    · have h4 : ¬ y * g < x * g := fun h => h3 (Int.lt_of_mul_lt_mul_right h (by omega))
      rw [if_neg h3, if_neg h4]
theorem sgn_add {x y z : Int} : sgn (x + z) (y + z) = sgn x y := by unfold sgn; simp only [Int.add_lt_add_iff_right]
/-- the mediant lies between -/
theorem mediant_law {n d n' d' N D : Int} {g : Nat} (hg : 0 < g) (h1 : n + n' = N * g) (h2 : d + d' = D * g) : sgn (N * d) (n * D) = -sgn (N * d') (n' * D) := by
  have hg' : (0 : Int) < g := by omega
  have e1 : sgn (N * d) (n * D) = sgn (n' * d) (n * d') := by
    rw [← sgn_scale hg', show N * d * g = n' * d + n * d by rw [Int.mul_right_comm, ← h1, Int.add_mul, Int.add_comm], show n * D * g = n * d' + n * d by rw [Int.mul_assoc, ← h2, Int.mul_add, Int.add_comm], sgn_add]
  have e2 : sgn (N * d') (n' * D) = sgn (n * d') (n' * d) := by
    rw [← sgn_scale hg', show N * d' * g = n * d' + n' * d' by rw [Int.mul_right_comm, ← h1, Int.add_mul], show n' * D * g = n' * d + n' * d' by rw [Int.mul_assoc, ← h2, Int.mul_add], sgn_add]
  rw [e1, e2, sgn_swap]
def DrewFrac (w : World) (g m : Nat) (e : Ending) (w' : World) : Prop := ∃ n d, fracB n d = true ∧ e = .returned (.agg #[.int .i64 n, .int .i64 d]) ∧ SrcAt w' g m ∧ Off (· = g) w w'
theorem lit_rd (w : World) (xs : List Int) (h : xs.length ≤ maxLen) : RdI (w.alloc (.cells (xs.map (Value.int .i64)).toArray 2)) (some ⟨w.heap.size, 0, none⟩) xs := by
  obtain ⟨p, c, e, hr⟩ := (OwnI.lit (B := w.heap.size) w xs (Nat.le_refl _) h).rd
  simp only [Value.slice.injEq] at e
  obtain ⟨rfl, -, -⟩ := e
  exact hr
set_option maxHeartbeats 2000000 in
theorem l02Draw_any {g m : Nat} (w : World) (h : SrcAt w g m) (hm : m + 20 ≤ 1099511627776) :
    Calls Tryd.prog 54 #[.pointer (some ⟨g, 0, none⟩)] w (DrewFrac w g (m + 10)) := by
  obtain ⟨E0, hE0⟩ : ∃ E, E = w.alloc (.cells #[.int .i64 0, .int .i64 0] 34) := ⟨_, rfl⟩
  have hB0 : Below w.heap.size w E0 := by rw [hE0]; exact (Below.refl _ _).alloc (Nat.le_refl _) _
  have br0 : Box E0 w.heap.size [.int .i64 0, .int .i64 0] 34 := by rw [hE0]; exact Box.newAt w [.int .i64 0, .int .i64 0] _ rfl
  have hgw : g < w.heap.size := h.lt
  have hs0 := h.below hB0
  have ho0 : Off (· = g) w E0 := (toOff hB0)
  have HE0 := Lib.hid hE0
  clear hE0
  go_enter Tryd.func54, Tryd.ntmps54
  go_upto_region 1 with fail
  rw [← HE0.out]
  clear HE0
  go_wp2_with fail
  refine (pick_any 40 E0 hs0 (by omega) (by omega)).mono ?_
  rintro e E1 ⟨x, hx, rfl, hs1, ho1⟩
  have hx' := pickP_pos hx (by omega)
  have hx1 := hx'.1
  have hx2 := hx'.2
  have br1 := br0.off ho1 (show ¬ w.heap.size = g by omega)
  have o1 := ho0.trans ho1
  clear hx hx' hs0 br0 ho0 ho1
  go_wp2_with fail
  refine (pick_any 12 E1 hs1 (by omega) (by omega)).mono ?_
  rintro e E2 ⟨y, hy, rfl, hs2, ho2⟩
  have hy' := pickP_pos hy (by omega)
  have hy1 := hy'.1
  have hy2 := hy'.2
  have br2 := br1.off ho2 (show ¬ w.heap.size = g by omega)
  have o2 := o1.trans ho2
  clear hy hy' hs1 br1 o1 ho2
  go_upto_region 3 with fail
  go_cut [14] (fun s wr => ∃ b, s = .bool b ∧ SrcAt wr g (m + 6) ∧ Off (· = g) w wr ∧ Box wr w.heap.size [.int .i64 0, .int .i64 0] 34)
  case first =>
    go_wp2_with fail
    refine (one_any 8 E2 hs2 (by omega) (by omega)).mono ?_
    rintro e E3 ⟨b, rfl, hs3, ho3⟩
    have br3 := br2.off ho3 (show ¬ w.heap.size = g by omega)
    go_wp2_with fail
    go_meet
    exact ⟨_, rfl, hs3, o2.trans ho3, br3⟩
  case rest =>
  obtain ⟨b, rfl, hs3, o3, br3⟩ := hcut
  obtain ⟨E3, rfl⟩ : ∃ F, F = wc := ⟨_, rfl⟩
  clear hs2 br2 o2
  rename_i KK hKK
  refine hKK _ _ ?_
  clear hKK KK
  go_cut [3, 4] (fun s3 s4 wr => ∃ u v : Int, s3 = .int .i64 u ∧ s4 = .int .i64 v ∧ -1000000000 ≤ u ∧ u ≤ 1000000000 ∧ 1 ≤ v ∧ v ≤ 1000000 ∧ SrcAt wr g (m + 10) ∧ Off (· = g) w wr ∧ Box wr w.heap.size [.int .i64 0, .int .i64 0] 34)
  case first =>
    cases b
    case false =>
      go_wp2_with fail
      go_meet
      exact ⟨_, _, rfl, rfl, by omega, by omega, by omega, by omega, hs3.mono (by omega), o3, br3⟩
    case true =>
      have a1 := (Below.refl E3.heap.size E3).alloc (Nat.le_refl _) (.cells #[.int .i64 1000000000, .int .i64 (-1000000000), .int .i64 355, .int .i64 999999, .int .i64 123456789, .int .i64 0] 2)
      have r1 := lit_rd E3 [1000000000, -1000000000, 355, 999999, 123456789, 0] (by simp [maxLen])
      have AM := Lib.hid (among_any (c := 6) _ (hs3.below a1) r1 (by rintro b o e; cases e; have := hs3.lt; omega) (by simp) (by simp) (by omega))
      have br4 := br3.below a1
      have o4 := o3.trans (toOff a1)
      clear a1 r1 hs3 br3 o3
      go_wp2_with fail
      refine AM.out.mono ?_
      rintro e E5 ⟨u, hu, rfl, hs5, ho5⟩
      have br5 := br4.off ho5 (show ¬ w.heap.size = g by omega)
      have o5 := o4.trans ho5
      have hu1 : -1000000000 ≤ u ∧ u ≤ 1000000000 := by simp only [List.mem_cons, List.not_mem_nil, or_false] at hu; omega
      have a2 := (Below.refl E5.heap.size E5).alloc (Nat.le_refl _) (.cells #[.int .i64 1, .int .i64 7, .int .i64 113, .int .i64 999983, .int .i64 1000000] 2)
      have r2 := lit_rd E5 [1, 7, 113, 999983, 1000000] (by simp [maxLen])
      have AN := Lib.hid (among_any (c := 5) _ (hs5.below a2) r2 (by rintro b o e; cases e; have := hs5.lt; omega) (by simp) (by simp) (by omega))
      have br6 := br5.below a2
      have o6 := o5.trans (toOff a2)
      clear a2 r2 hs5 br5 o5 AM hu br4 o4 ho5
      go_wp2_with fail
      refine AN.out.mono ?_
      rintro e E7 ⟨v, hv, rfl, hs7, ho7⟩
      have br7 := br6.off ho7 (show ¬ w.heap.size = g by omega)
      have o7 := o6.trans ho7
      have hv1 : 1 ≤ v ∧ v ≤ 1000000 := by simp only [List.mem_cons, List.not_mem_nil, or_false] at hv; omega
      go_wp2_with fail
      go_meet
      exact ⟨_, _, rfl, rfl, hu1.1, hu1.2, hv1.1, hv1.2, hs7.mono (by omega), o7, br7⟩
  case rest =>
    obtain ⟨u, v, rfl, rfl, u1, u2, v1, v2, hs, ho, br⟩ := hcut
    obtain ⟨F, rfl⟩ : ∃ F, F = wc := ⟨_, rfl⟩
    have hok := Lib.hid (fun h : mkC u v = 0 => (mk_ok (n := u) (d := v) (by omega) h).1)
    have hC : Hid (mkC u v = 0 ∨ mkC u v = 2) := by unfold Hid mkC; split <;> simp
    have MK := Lib.hid (makeSpec_any u v F (by omega) (by omega) (by omega) (by omega))
    generalize mkN u v = fn at hok MK
    generalize mkD u v = fd at hok MK
    generalize mkC u v = fc at hok MK hC
    go_wp2_with fail
    refine MK.out.mono ?_
    rintro e E4 ⟨rfl, hb4⟩
    have hs4 := hs.below hb4
    have br4 := br.below hb4
    have o4 := ho.trans (toOff hb4)
    obtain ⟨E5, hE5⟩ : ∃ E, E = E4.alloc (.cells #[.int .i64 fn, .int .i64 fd] 34) := ⟨_, rfl⟩
    obtain ⟨gf, hgf⟩ : ∃ g, g = E4.heap.size := ⟨_, rfl⟩
    have hb5 : Below E4.heap.size E4 E5 := by rw [hE5]; exact (Below.refl _ _).alloc (Nat.le_refl _) _
    have bf5 : Box E5 gf [.int .i64 fn, .int .i64 fd] 34 := by rw [hE5, hgf]; exact Box.newAt E4 [.int .i64 fn, .int .i64 fd] _ rfl
    have hs5 := hs4.below hb5
    have br5 := br4.below hb5
    have o5 := o4.trans (toOff hb5)
    have hne : w.heap.size ≠ gf := by have := br4.lt; omega
    have HE5 := Lib.hid hE5
    have HGF := Lib.hid hgf
    clear hE5 hgf hs br ho hs4 br4 o4 hb4 hb5 MK
    go_upto_region 7 with fail
    rw [← HE5.out, ← HGF.out]
    clear HE5 HGF
    have fin : ∀ a b : Int, fracB a b = true → DrewFrac w g (m + 10) (.returned (.agg #[.int .i64 a, .int .i64 b])) ((E5.setCell ⟨w.heap.size, 0, none⟩ (.int .i64 a)).setCell ⟨w.heap.size, 1, none⟩ (.int .i64 b)) := fun a b hab => by
      have hoff : Off (· = w.heap.size) E5 ((E5.setCell ⟨w.heap.size, 0, none⟩ (.int .i64 a)).setCell ⟨w.heap.size, 1, none⟩ (.int .i64 b)) := ⟨rfl, rfl, rfl, by simp, fun k hk hn => (Below.heap_setCell _ _ _ _ hn).trans (Below.heap_setCell _ _ _ _ hn)⟩
      exact ⟨a, b, hab, rfl, hs5.stay (B := w.heap.size) hgw fun k hk hl => hoff.block k hl (by show ¬ k = w.heap.size; omega), ⟨o5.os, o5.tape, o5.output, by have := o5.size; simpa using this, fun k hk hn => (hoff.block k (Nat.lt_of_lt_of_le hk o5.size) (by show ¬ k = w.heap.size; omega)).trans (o5.block k hk hn)⟩⟩
    have z0 := bf5.cell 0 rfl
    have z1 := bf5.cell 1 rfl
    have y0 := br5.cell 0 rfl
    have y1 := br5.cell 1 rfl
    have f0 := br5.frozen 0
    have f1 := br5.frozen 1
    have q : ∀ a b : Int, Hid (∃ W, W = ((E5.setCell ⟨w.heap.size, 0, none⟩ (.int .i64 a)).setCell ⟨w.heap.size, 1, none⟩ (.int .i64 b)) ∧ Box W w.heap.size [.int .i64 a, .int .i64 b] 34) := fun a b => ⟨_, rfl, (br5.set 0 _).set 1 _⟩
    have FIN := Lib.hid fin
    have Q := Lib.hid q
    clear fin q hs5 o5
    rcases hC.out with rfl | rfl
    · obtain ⟨W, hW, bW⟩ := (Q.out fn fd).out
      have hF := FIN.out fn fd (hok.out rfl)
      rw [← hW] at hF
      have x0 := bW.cell 0 rfl
      have x1 := bW.cell 1 rfl
      have HF := Lib.hid hF
      have HW := Lib.hid hW
      clear hF hW bW FIN Q hok hC
      go_wp2_with fail
      rw [← HW.out]
      refine bodyPost_ret (v := .agg #[.int .i64 fn, .int .i64 fd]) (by simp [results, Tryd.results54, go_sem, *]) rfl ?_
      exact HF.out
    · obtain ⟨W, hW, bW⟩ := (Q.out 1 1).out
      have hF := FIN.out 1 1 (by rfl)
      rw [← hW] at hF
      have x0 := bW.cell 0 rfl
      have x1 := bW.cell 1 rfl
      have HF := Lib.hid hF
      have HW := Lib.hid hW
      clear hF hW bW FIN Q hok hC
      go_wp2_with fail
      rw [← HW.out]
      refine bodyPost_ret (v := .agg #[.int .i64 1, .int .i64 1]) (by simp [results, Tryd.results54, go_sem, *]) rfl ?_
      exact HF.out
end Go.Proofs.YtnhhghilejeegaaDoor
