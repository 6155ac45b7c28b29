/-
  A step of a linear system: contracts of both sides.
-/
import Derived.Test.YtlfhdocgemiogaaChar
import Derived.Test.YtlfhdocgemiogaaLinFns
import Derived.Deep.RegionHeld3
namespace Go.Proofs.Ytlfhdocgemiogaa
open Go.ChangeShapes Go.WideShapes Go.ChangeAt Go.RowKit
set_option linter.unusedVariables false

theorem smp_iwrap (n : Int) : smp (IntKind.i64.wrap n) = smp n := by rw [IntWalk.i64_left]; exact smp_wrap64 n
def stepV (rows : List (List Int)) (xs : List Int) (others : List (List Int)) (ys : List Int) : List Int := (List.range rows.length).map fun i => smp (dotN (rows.getD i []) xs xs.length + dotN (others.getD i []) ys ys.length)
def stepN (rows : List (List Int)) (xs : List Int) (others : List (List Int)) (ys : List Int) (k : Nat) : List Int := (List.range k).map fun i => smp (dotN (rows.getD i []) xs xs.length + dotN (others.getD i []) ys ys.length)
theorem stepN_succ (rows : List (List Int)) (xs : List Int) (others : List (List Int)) (ys : List Int) (k : Nat) : stepN rows xs others ys (k + 1) = stepN rows xs others ys k ++ [smp (dotN (rows.getD k []) xs xs.length + dotN (others.getD k []) ys ys.length)] := by
  simp [stepN, List.range_succ]
theorem stepN_length (rows : List (List Int)) (xs : List Int) (others : List (List Int)) (ys : List Int) (k : Nat) : (stepN rows xs others ys k).length = k := by simp [stepN]
def sumL (a b : List Int) (k : Nat) : List Int := (List.range k).map fun i => smp (a.getD i 0 + b.getD i 0)
theorem sumL_succ (a b : List Int) (k : Nat) : sumL a b (k + 1) = sumL a b k ++ [smp (a.getD k 0 + b.getD k 0)] := by simp [sumL, List.range_succ]
theorem sumL_length (a b : List Int) (k : Nat) : (sumL a b k).length = k := by simp [sumL]
theorem sumL_times (rows : List (List Int)) (xs : List Int) (others : List (List Int)) (ys : List Int) (h : others.length = rows.length) : sumL (timesL rows xs) (timesL others ys) rows.length = stepV rows xs others ys := by
  unfold sumL stepV
  refine List.map_congr_left fun i hi => ?_
  rw [List.mem_range] at hi
  rw [getD_of_lt 0 (by simpa [timesL] using hi), getD_of_lt 0 (by simp [timesL]; omega), getD_of_lt [] hi, getD_of_lt [] (by omega)]
  simp [timesL]
set_option maxHeartbeats 1000000 in
theorem applied_any {p q p' q' : Option Addr} {c d c' d' : Nat} {rows others : List (List Int)} {xs ys : List Int} (w : World) (h : RdII w p rows) (hx : RdI w q xs) (h' : RdII w p' others) (hy : RdI w q' ys)
    (h1 : ∀ r ∈ rows, r.length = xs.length) (h2 : ∀ r ∈ others, r.length = ys.length) (h3 : others.length = rows.length) (hn : rows.length ≤ 1048576) :
    Calls Try.prog 65 #[.slice p rows.length c, .slice q xs.length d, .slice p' others.length c', .slice q' ys.length d'] w fun e w' => ∃ v, e = .returned v ∧ OwnI w.heap.size w' v (stepV rows xs others ys) ∧ Below w.heap.size w w' := by
  have H1 := Lib.hid h1
  have H2 := Lib.hid h2
  have H3 := Lib.hid h3
  clear h1 h2 h3
  have hl1 := hx.len
  have hl2 := hy.len
  unfold maxLen at hl1 hl2
  have h0 := OwnI.lit (B := w.heap.size) w [] (Nat.le_refl _) (by simp [maxLen])
  have ho : others.length ≤ 1048576 := by rw [H3.out]; exact hn
  go_enter Try.func65, Try.ntmps65
  go_wp2_with fail
  go_loopw [9, 15] (fun v i wr => ∃ k : Nat, k ≤ rows.length ∧ i = .int .i64 k ∧ OwnI w.heap.size wr v (stepN rows xs others ys k) ∧ Below w.heap.size w wr) (fun _ i _ => rows.length - (intOf i).toNat)
  case atStart => exact ⟨0, Nat.zero_le _, rfl, by simpa [stepN] using h0, (Below.refl _ _).alloc (Nat.le_refl _) _⟩
  case round =>
    obtain ⟨k, hk, rfl, hown, hbel⟩ := hrel
    clear h0
    obtain ⟨wo, rfl⟩ : ∃ wo : World, wo = wr := ⟨_, rfl⟩
    by_cases hlt : k < rows.length
    · have hlt2 : k < others.length := by rw [H3.out]; exact hlt
      obtain ⟨b, o, rfl, hb1, hc⟩ := (h.below hbel).pos hlt
      obtain ⟨pr, cr, hck, hr⟩ := hc k hlt
      obtain ⟨b', o', rfl, hb1', hc'⟩ := (h'.below hbel).pos hlt2
      obtain ⟨pr', cr', hck', hr'⟩ := hc' k hlt2
      clear hc hc'
      have e1 := H1.out _ (List.getElem_mem hlt)
      have e2 := H2.out _ (List.getElem_mem hlt2)
      have D1 : Hid (Calls Try.prog 54 #[.slice pr xs.length cr, .slice q xs.length d] wo.drew fun e w' => e = .returned (.int .i64 (dotN (rows.getD k []) xs xs.length)) ∧ wo.drew = w') := by
        have := dot_any (c := cr) (d := d) wo.drew (hr.below (below_drew' (Below.refl _ _))) ((hx.below hbel).below (below_drew' (Below.refl _ _))) (Nat.le_of_eq e1)
        rw [e1] at this
        rw [getD_of_lt [] hlt]
        exact this
      have D2 : Hid (Calls Try.prog 54 #[.slice pr' ys.length cr', .slice q' ys.length d'] wo.drew fun e w' => e = .returned (.int .i64 (dotN (others.getD k []) ys ys.length)) ∧ wo.drew = w') := by
        have := dot_any (c := cr') (d := d') wo.drew (hr'.below (below_drew' (Below.refl _ _))) ((hy.below hbel).below (below_drew' (Below.refl _ _))) (Nat.le_of_eq e2)
        rw [e2] at this
        rw [getD_of_lt [] hlt2]
        exact this
      rw [e1] at hck
      rw [e2] at hck'
      have hst := Lib.hid (stepN_succ rows xs others ys k)
      have hlen : (stepN rows xs others ys k).length < 17592186044415 := by rw [stepN_length]; omega
      generalize dotN (rows.getD k []) xs xs.length = y1 at D1 hst
      generalize dotN (others.getD k []) ys ys.length = y2 at D2 hst
      clear e1 e2 hr hr'
      have hsz := hbel.size
      have hsz' : w.heap.size ≤ wo.drew.heap.size := hsz
      have hown' : OwnI w.heap.size wo.drew u9 (stepN rows xs others ys k) := hown
      have hbel' : Below w.heap.size w wo.drew := ⟨hbel.os, hbel.tape, hbel.output, hbel.size, hbel.block⟩
      go_wp2_with fail
      go_region_law (first | (refine step_append_drew rfl _ _ rfl rfl hown rfl hlen hsz ?_; intro q2 k2 w2 ho2 o1 o2 o3 hs2 hk2) | (go_simp; go_at_call_of 54 (Value.slice pr xs.length cr); refine D1.out.mono ?_; rintro e w' ⟨rfl, rfl⟩) | (go_simp; go_at_call_of 54 (Value.slice pr' ys.length cr'); refine D2.out.mono ?_; rintro e w' ⟨rfl, rfl⟩) | (go_simp; go_at_call 58; refine (implWrap_any _ _).mono ?_; rintro e w' ⟨rfl, rfl⟩))
      all_goals
        have hbf : Below w.heap.size w w2 := hbel.trans ⟨o1.symm, o2.symm, o3.symm, hs2, fun b hb => hk2 b (Nat.lt_of_lt_of_le hb hsz) fun e => by have := (hown.lt e).1; omega⟩
        have HO := Lib.hid ho2
        have HB := Lib.hid hbf
        clear ho2 o1 o2 o3 hs2 hk2 hbf
        go_wp2_with fail
        go_roundw
        case rel => exact ⟨k + 1, by omega, by go_num, by have h1 := HO.out; simp only [smp_wrap64, smp_iwrap] at h1; rw [hst.out]; exact h1, HB.out⟩
        case measure => simp [intOf] <;> omega
    · obtain rfl : k = rows.length := by omega
      go_wp2_with fail
      go_ret
      exact ⟨_, rfl, hown, hbel⟩
set_option maxHeartbeats 1000000 in
theorem l09Sum_any {p q : Option Addr} {c d : Nat} {xs ys : List Int} (w : World) (h : RdI w p xs) (h' : RdI w q ys) (hl : xs.length ≤ ys.length) (hn : ys.length ≤ 1048576) :
    Calls Try.prog 77 #[.slice p xs.length c, .slice q ys.length d] w fun e w' => ∃ v, e = .returned v ∧ OwnI w.heap.size w' v (sumL xs ys xs.length) ∧ Below w.heap.size w w' := by
  have h0 := OwnI.lit (B := w.heap.size) w [] (Nat.le_refl _) (by simp [maxLen])
  have hn2 : xs.length ≤ 1048576 := by omega
  go_enter Try.func77, Try.ntmps77
  go_wp2_with fail
  go_loopw [5, 6] (fun v i wr => ∃ k : Nat, k ≤ xs.length ∧ i = .int .i64 k ∧ OwnI w.heap.size wr v (sumL xs ys k) ∧ Below w.heap.size w wr) (fun _ i _ => xs.length - (intOf i).toNat)
  case atStart => exact ⟨0, Nat.zero_le _, rfl, by simpa [sumL] using h0, (Below.refl _ _).alloc (Nat.le_refl _) _⟩
  case round =>
    obtain ⟨k, hk, rfl, hown, hbel⟩ := hrel
    clear h0
    obtain ⟨wo, rfl⟩ : ∃ wo : World, wo = wr := ⟨_, rfl⟩
    by_cases hlt : k < xs.length
    · have hlt2 : k < ys.length := by omega
      obtain ⟨b, o, rfl, hb1, hc⟩ := (h.below hbel).pos hlt
      have hck := hc k hlt
      obtain ⟨b', o', rfl, hb1', hc'⟩ := (h'.below hbel).pos hlt2
      have hck' := hc' k hlt2
      clear hc hc'
      have hst : Hid (sumL xs ys (k + 1) = sumL xs ys k ++ [smp (xs[k] + ys[k])]) := by unfold Hid; rw [sumL_succ, getD_of_lt 0 hlt, getD_of_lt 0 hlt2]
      have hlen : (sumL xs ys k).length < 17592186044415 := by rw [sumL_length]; omega
      generalize xs[k] = y1 at hck hst
      generalize ys[k] = y2 at hck' hst
      have hsz := hbel.size
      have hsz' : w.heap.size ≤ wo.drew.heap.size := hsz
      have hown' : OwnI w.heap.size wo.drew u5 (sumL xs ys k) := hown
      have hbel' : Below w.heap.size w wo.drew := ⟨hbel.os, hbel.tape, hbel.output, hbel.size, hbel.block⟩
      have hkz : (0 : Int) ≤ (k : Int) := by omega
      have hkl : (k : Int) < (xs.length : Int) := by omega
      have hkm : (k : Int) < (ys.length : Int) := by omega
      have hkw : IntKind.i64.wrap (k : Int) = (k : Int) := IntWalk.i64_in _ (by omega)
      go_wp2_with fail
      go_region_law (first | (refine step_append_drew rfl _ _ rfl rfl hown rfl hlen hsz ?_; intro q2 k2 w2 ho2 o1 o2 o3 hs2 hk2) | (go_simp; go_at_call 51; refine (l01Add_any _ _ _).mono ?_; rintro e w' ⟨rfl, rfl⟩))
      all_goals
        have hbf : Below w.heap.size w w2 := hbel.trans ⟨o1.symm, o2.symm, o3.symm, hs2, fun b hb => hk2 b (Nat.lt_of_lt_of_le hb hsz) fun e => by have := (hown.lt e).1; omega⟩
        have HO := Lib.hid ho2
        have HB := Lib.hid hbf
        clear ho2 o1 o2 o3 hs2 hk2 hbf
        go_wp2_with fail
        go_roundw
        case rel => exact ⟨k + 1, by omega, by go_num, by rw [hst.out]; exact HO.out, HB.out⟩
        case measure => simp [intOf] <;> omega
    · obtain rfl : k = xs.length := by omega
      go_wp2_with fail
      go_ret
      exact ⟨_, rfl, hown, hbel⟩
end Go.Proofs.Ytlfhdocgemiogaa
