/-
  Lists of places that have become others: contracts of both sides; copies of lists of lists.
-/
import Derived.Test.YtonkdndpfnapjaaGreatOwnP
namespace Go.Proofs.YtonkdndpfnapjaaGreat
open Go.ChangeShapes Go.WideShapes Go.ChangeAt Go.RowKit
set_option linter.unusedVariables false

def mapL (by_ xs : List Int) : List Int := xs.map fun i => by_.getD i.toNat 0
theorem mapL_length (by_ xs : List Int) : (mapL by_ xs).length = xs.length := by simp [mapL]
theorem mapL_succ {by_ xs : List Int} {k m : Nat} (h : k < xs.length) (hm : xs[k] = (m : Int)) (hb : m < by_.length) : mapL by_ (xs.take (k + 1)) = mapL by_ (xs.take k) ++ [by_[m]] := by
  unfold mapL
  rw [List.take_succ_eq_append_getElem h, List.map_append]
  congr 1
  simp only [List.map_cons, List.map_nil]
  rw [hm, Int.toNat_natCast, List.getD_eq_getElem?_getD, List.getElem?_eq_getElem hb]; rfl
set_option maxHeartbeats 800000 in
theorem mapped_any {p q : Option Addr} {c d : Nat} {xs by_ : List Int} (w : World) (h : RdI w p xs) (h' : RdI w q by_) (hl : xs.length ≤ 1048576) (hr : ∀ i ∈ xs, 0 ≤ i ∧ i < (by_.length : Int)) :
    Calls Tryz.prog 99 #[.slice p xs.length c, .slice q by_.length d] w fun e w' => ∃ v, e = .returned v ∧ OwnI w.heap.size w' v (mapL by_ xs) ∧ Below w.heap.size w w' := by
  have h0 := OwnI.lit (B := w.heap.size) w [] (Nat.le_refl _) (by simp [maxLen])
  have hb0 := (Below.refl w.heap.size w).alloc (Nat.le_refl _) (.cells #[] 2)
  have HR := Lib.hid hr
  clear hr
  go_enter Tryz.func99, Tryz.ntmps99
  go_wp2_with fail
  go_loopw [5, 7, 11] (fun ov _ iv wr => ∃ k : Nat, k ≤ xs.length ∧ iv = .int .i64 k ∧ OwnI w.heap.size wr ov (mapL by_ (xs.take k)) ∧ Below w.heap.size w wr) (fun _ _ iv _ => xs.length - (intOf iv).toNat)
  case atStart => exact ⟨0, Nat.zero_le _, rfl, by simpa [mapL] using h0, hb0⟩
  case round =>
    obtain ⟨k, hk, rfl, hown, hbel⟩ := hrel
    clear h0 hb0
    obtain ⟨wi, rfl⟩ : ∃ wi : World, wi = wr := ⟨_, rfl⟩
    have hsz := hbel.size
    by_cases hlt : k < xs.length
    · obtain ⟨b, o, rfl, hb, hc⟩ := (h.below hbel).pos hlt
      have hck := hc k hlt
      have hrk := HR.out _ (List.getElem_mem hlt)
      obtain ⟨m, hm⟩ : ∃ m : Nat, xs[k] = m := ⟨xs[k].toNat, by omega⟩
      rw [hm] at hck hrk
      have hmb : m < by_.length := by omega
      have HS := Lib.hid (mapL_succ hlt hm hmb)
      obtain ⟨b2, o2, rfl, hb2, hc2⟩ := (h'.below hbel).pos hmb
      have hcm := hc2 m hmb
      have hll : (mapL by_ (xs.take k)).length < 17592186044415 := by rw [mapL_length, List.length_take]; omega
      generalize mapL by_ (xs.take k) = cur at hown HS hll
      generalize by_[m] = y at hcm HS
      clear hc hc2 hm hrk
      go_wp2_with (at_builtin; refine wpList_append_one rfl _ _ rfl rfl hown rfl hbel hll hsz (Nat.le_refl _) ?_; intro v' w4 hown4 hb4 hz4 hk4)
      go_roundw
      case rel => exact ⟨k + 1, by omega, by go_num, by rw [HS.out]; exact hown4, hb4⟩
      case measure => simp [intOf] <;> omega
    · obtain rfl : k = xs.length := by omega
      rw [List.take_length] at hown
      go_wp2_with fail
      go_ret
      exact ⟨_, rfl, hown, hbel⟩
set_option maxHeartbeats 800000 in
theorem l07Map_any {p q : Option Addr} {c d : Nat} {xs by_ : List Int} (w : World) (h : RdI w p xs) (h' : RdI w q by_) (hl : xs.length ≤ 1048576) (hr : ∀ i ∈ xs, 0 ≤ i ∧ i < (by_.length : Int)) :
    Calls Tryz.prog 89 #[.slice p xs.length c, .slice q by_.length d] w fun e w' => ∃ v, e = .returned v ∧ OwnI w.heap.size w' v (mapL by_ xs) ∧ Below w.heap.size w w' := by
  have h0 := OwnI.lit (B := w.heap.size) w [] (Nat.le_refl _) (by simp [maxLen])
  have hb0 := (Below.refl w.heap.size w).alloc (Nat.le_refl _) (.cells #[] 2)
  have HR := Lib.hid hr
  clear hr
  go_enter Tryz.func89, Tryz.ntmps89
  go_wp2_with fail
  go_loopw [5, 6] (fun ov iv wr => ∃ k : Nat, k ≤ xs.length ∧ iv = .int .i64 k ∧ OwnI w.heap.size wr ov (mapL by_ (xs.take k)) ∧ Below w.heap.size w wr) (fun _ iv _ => xs.length - (intOf iv).toNat)
  case atStart => exact ⟨0, Nat.zero_le _, rfl, by simpa [mapL] using h0, hb0⟩
  case round =>
    obtain ⟨k, hk, rfl, hown, hbel⟩ := hrel
    clear h0 hb0
    obtain ⟨wi, rfl⟩ : ∃ wi : World, wi = wr := ⟨_, rfl⟩
    have hsz := hbel.size
    by_cases hlt : k < xs.length
    · obtain ⟨b, o, rfl, hb, hc⟩ := (h.below hbel).pos hlt
      have hck := hc k hlt
      have hrk := HR.out _ (List.getElem_mem hlt)
      obtain ⟨m, hm⟩ : ∃ m : Nat, xs[k] = m := ⟨xs[k].toNat, by omega⟩
      rw [hm] at hck hrk
      have hmb : m < by_.length := by omega
      have HS := Lib.hid (mapL_succ hlt hm hmb)
      obtain ⟨b2, o2, rfl, hb2, hc2⟩ := (h'.below hbel).pos hmb
      have hcm := hc2 m hmb
      have hll : (mapL by_ (xs.take k)).length < 17592186044415 := by rw [mapL_length, List.length_take]; omega
      generalize mapL by_ (xs.take k) = cur at hown HS hll
      generalize by_[m] = y at hcm HS
      clear hc hc2 hm hrk
      go_wp2_with (at_builtin; refine wpList_append_one rfl _ _ rfl rfl hown rfl hbel hll hsz (Nat.le_refl _) ?_; intro v' w4 hown4 hb4 hz4 hk4)
      go_roundw
      case rel => exact ⟨k + 1, by omega, by go_num, by rw [HS.out]; exact hown4, hb4⟩
      case measure => simp [intOf] <;> omega
    · obtain rfl : k = xs.length := by omega
      rw [List.take_length] at hown
      go_wp2_with fail
      go_ret
      exact ⟨_, rfl, hown, hbel⟩
set_option maxHeartbeats 800000 in
theorem clones_any {p : Option Addr} {c : Nat} {xss : List (List Int)} (w : World) (h : RdII w p xss) (hl : xss.length ≤ 1048576) (hr : ∀ xs ∈ xss, xs.length ≤ 1048576) :
    Calls Tryz.prog 98 #[.slice p xss.length c] w fun e w' => ∃ v L, e = .returned v ∧ OwnII w.heap.size w' v xss L ∧ Below w.heap.size w w' := by
  have h0 := OwnII.empty (B := w.heap.size) w (Nat.le_refl _)
  have hb0 := (Below.refl w.heap.size w).alloc (Nat.le_refl _) (.cells #[] 24)
  have HR := Lib.hid hr
  clear hr
  go_enter Tryz.func98, Tryz.ntmps98
  go_wp2_with fail
  go_loopw [3, 5, 9] (fun ov _ iv wr => ∃ (k : Nat) (L : List Value), k ≤ xss.length ∧ iv = .int .i64 k ∧ OwnII w.heap.size wr ov (xss.take k) L ∧ Below w.heap.size w wr) (fun _ _ iv _ => xss.length - (intOf iv).toNat)
  case atStart => exact ⟨0, [], Nat.zero_le _, rfl, by simpa using h0, hb0⟩
  case round =>
    obtain ⟨k, L, hk, rfl, hown, hbel⟩ := hrel
    clear h0 hb0
    obtain ⟨wi, rfl⟩ : ∃ wi : World, wi = wr := ⟨_, rfl⟩
    have hsz := hbel.size
    by_cases hlt : k < xss.length
    · obtain ⟨b, o, rfl, hb, hc⟩ := (h.below hbel).pos hlt
      obtain ⟨q, d, hck, hrk⟩ := hc k hlt
      have hlk := HR.out _ (List.getElem_mem hlt)
      have HS : Hid (xss.take (k + 1) = xss.take k ++ [xss[k]]) := List.take_succ_eq_append_getElem hlt
      have hlL : L.length < 1099511627776 := by have := hown.2.1.1; rw [List.length_take] at this; omega
      generalize xss[k] = xs at hck hrk hlk HS
      clear hc
      have CL := Lib.hid (clone_any (c := d) wi hrk hlk)
      obtain ⟨oq, oc, e⟩ := hown.1.sl'
      subst e
      have HOW := Lib.hid hown
      clear hown
      go_wp2_with fail
      refine CL.out.mono ?_
      rintro e W1 ⟨u, rfl, hu, hb1⟩
      have hown1 := HOW.out.below hb1
      have hbel1 := hbel.trans (hb1.mono hbel.size)
      have huc := hu.oneCell
      have hnew : ∀ b, u.ownBlock = some b → ¬ Blk L b := fun b hb' hbk => by
        have h1 := (hu.lt hb').1
        have h2 := (HOW.out.2.1.blk hbk).2.1
        omega
      have HNW := Lib.hid hnew
      have hs1 := hb1.size
      have hs2 : w.heap.size ≤ W1.heap.size := by omega
      clear hnew CL HOW
      obtain ⟨uq, ucc, rfl, -⟩ := hu.rd
      go_wp2_with (at_builtin; refine wpList_append_val rfl _ _ rfl 24 (.slice none 0 0) Tryz.underlying22 infoII rfl (by omega) rfl hown1.1 rfl huc hbel1 hlL hs2 (Nat.le_refl _) ?_; intro v' w4 ho4 hb4 hz4 hk4)
      have ho5 := hown1.snoc (hu.mono hsz) HNW.out ho4 hk4
      go_roundw
      case rel => exact ⟨k + 1, L ++ [_], by omega, by go_num, by rw [HS.out]; exact ho5, hb4⟩
      case measure => simp [intOf] <;> omega
    · obtain rfl : k = xss.length := by omega
      rw [List.take_length] at hown
      go_wp2_with fail
      go_ret
      exact ⟨_, _, rfl, hown, hbel⟩
theorem copyNode_v {v : Value} {x : NodeD} (w : World) (h : VNode w v x) (hl : x.src.length ≤ 1048576) :
    Calls Tryz.prog 131 #[v] w fun e w' => ∃ u, e = .returned (.agg #[.int .i64 x.kind, .int .i64 x.a, .int .i64 x.b, u]) ∧ OwnI w.heap.size w' u x.src ∧ Below w.heap.size w w' := by
  obtain ⟨p, c, rfl, hr⟩ := h
  obtain ⟨g, hg⟩ : ∃ g, g = w.heap.size := ⟨_, rfl⟩
  obtain ⟨E0, hE⟩ : ∃ E, E = (w.alloc (.cells #[.int .i64 x.kind, .int .i64 x.a, .int .i64 x.b, .slice p x.src.length c] 64)).alloc (.cells #[.int .i64 0, .int .i64 0, .int .i64 0, .slice none 0 0] 64) := ⟨_, rfl⟩
  have hB0 : Below w.heap.size w E0 := by rw [hE]; exact ((Below.refl _ _).alloc (Nat.le_refl _) _).alloc (by simp) _
  have bx : Box E0 g [.int .i64 x.kind, .int .i64 x.a, .int .i64 x.b, .slice p x.src.length c] 64 := by rw [hE, hg]; exact (Box.newAt w _ _ rfl).alloc _
  have br : Box E0 (g + 1) [.int .i64 0, .int .i64 0, .int .i64 0, .slice none 0 0] 64 := by rw [hE, hg]; exact Box.newAt (w.alloc _) _ _ (by simp)
  have CL := Lib.hid (clone_any (c := c) E0 (hr.below hB0) hl)
  have HE := Lib.hid hE
  have HG := Lib.hid hg
  have i1 := br.lt
  have i2 : w.heap.size ≤ g := by omega
  clear hE hg
  have z3 := bx.cell 3 rfl
  go_enter Tryz.func131, Tryz.ntmps131
  go_wp2_with fail
  rw [← HE.out, ← HG.out]
  refine CL.out.mono ?_
  rintro e W1 ⟨u, rfl, hu, hb1⟩
  have b1 := bx.below hb1
  have r1 := br.below hb1
  have hw1 := hB0.trans (hb1.mono hB0.size)
  obtain ⟨uq, uc, rfl, -⟩ := hu.rd
  clear z3
  have z3 := b1.cell 3 rfl
  have f3 := b1.frozen 3
  have b2 := b1.set 3 (.slice uq x.src.length uc)
  have r2 := r1.other (a := ⟨g, 3, none⟩) (by simp) (.slice uq x.src.length uc)
  have hu2 := hu.keep (w' := W1.setCell ⟨g, 3, none⟩ (.slice uq x.src.length uc)) fun k hk => Below.heap_setCell _ _ _ _ (by have := (hu.lt hk).1; simp; omega)
  have hw2 := hw1.setCell (p := ⟨g, 3, none⟩) (show w.heap.size ≤ g by omega) (.slice uq x.src.length uc)
  obtain ⟨W2, hW2⟩ : ∃ W, W = W1.setCell ⟨g, 3, none⟩ (.slice uq x.src.length uc) := ⟨_, rfl⟩
  rw [← hW2] at b2 r2 hu2 hw2
  have HW2 := Lib.hid hW2
  have y0 := b2.cell 0 rfl
  have y1 := b2.cell 1 rfl
  have y2 := b2.cell 2 rfl
  have y3 := b2.cell 3 rfl
  have t0 := r2.cell 0 rfl
  have t1 := r2.cell 1 rfl
  have t2 := r2.cell 2 rfl
  have t3 := r2.cell 3 rfl
  have k0 := r2.frozen 0
  have k1 := r2.frozen 1
  have k2 := r2.frozen 2
  have k3 := r2.frozen 3
  clear hW2
  go_upto_region 2 with fail
  rw [← HW2.out]
  clear z3 f3 HW2
  have R4 := (((r2.set 0 (.int .i64 x.kind)).set 1 (.int .i64 x.a)).set 2 (.int .i64 x.b)).set 3 (.slice uq x.src.length uc)
  have hw4 := (((hw2.setCell (p := ⟨g + 1, 0, none⟩) (show w.heap.size ≤ g + 1 by omega) (.int .i64 x.kind)).setCell (p := ⟨g + 1, 1, none⟩) (show w.heap.size ≤ g + 1 by omega) (.int .i64 x.a)).setCell (p := ⟨g + 1, 2, none⟩) (show w.heap.size ≤ g + 1 by omega) (.int .i64 x.b)).setCell (p := ⟨g + 1, 3, none⟩) (show w.heap.size ≤ g + 1 by omega) (.slice uq x.src.length uc)
  have hg1 : ∀ k, (Value.slice uq x.src.length uc).ownBlock = some k → k ≠ g + 1 := fun k hk => by have := (hu.lt hk).1; omega
  have hu4 := (((hu2.keep (w' := W2.setCell ⟨g + 1, 0, none⟩ (.int .i64 x.kind)) fun k hk => Below.heap_setCell _ _ _ _ (hg1 k hk)).keep (w' := (W2.setCell ⟨g + 1, 0, none⟩ (.int .i64 x.kind)).setCell ⟨g + 1, 1, none⟩ (.int .i64 x.a)) fun k hk => Below.heap_setCell _ _ _ _ (hg1 k hk)).keep
    (w' := ((W2.setCell ⟨g + 1, 0, none⟩ (.int .i64 x.kind)).setCell ⟨g + 1, 1, none⟩ (.int .i64 x.a)).setCell ⟨g + 1, 2, none⟩ (.int .i64 x.b)) fun k hk => Below.heap_setCell _ _ _ _ (hg1 k hk)).keep
    (w' := (((W2.setCell ⟨g + 1, 0, none⟩ (.int .i64 x.kind)).setCell ⟨g + 1, 1, none⟩ (.int .i64 x.a)).setCell ⟨g + 1, 2, none⟩ (.int .i64 x.b)).setCell ⟨g + 1, 3, none⟩ (.slice uq x.src.length uc)) fun k hk => Below.heap_setCell _ _ _ _ (hg1 k hk)
  have q0 := R4.cell 0 rfl
  have q1 := R4.cell 1 rfl
  have q2 := R4.cell 2 rfl
  have q3 := R4.cell 3 rfl
  have HU4 := Lib.hid hu4
  have HW4 := Lib.hid hw4
  clear hu4 hw4 hg1 R4 hu2 hw2
  go_wp2_with fail
  refine bodyPost_ret (v := .agg #[.int .i64 x.kind, .int .i64 x.a, .int .i64 x.b, .slice uq x.src.length uc]) (by simp [results, Tryz.results131, go_sem, *]) rfl ?_
  exact ⟨_, rfl, HU4.out.mono (by omega), HW4.out⟩
end Go.Proofs.YtonkdndpfnapjaaGreat
