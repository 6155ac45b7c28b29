/-
  Contracts of the helpers of the exact laws at slices of integers: sizes, copies, comparisons, marks.
-/
import Derived.Test.YtdcacmmglkcliaaGreatDoorOwn
namespace Go.Proofs.YtdcacmmglkcliaaGreatDoor
open Go.ChangeShapes Go.WideShapes Go.ChangeAt Go.RowKit
set_option linter.unusedVariables false

theorem eq_false_at {xs ys : List Int} {k : Nat} (h1 : k < xs.length) (h2 : k < ys.length) (h : xs[k] ≠ ys[k]) : decide (xs = ys) = false := by
  rw [decide_eq_false_iff_not]
  rintro rfl
  exact h rfl
theorem eq_true_of {xs ys : List Int} (hl : xs.length = ys.length) (h : xs.take xs.length = ys.take xs.length) : decide (xs = ys) = true := by
  rw [List.take_length, hl, List.take_length] at h
  simp [h]
theorem take_succ_eq {xs ys : List Int} {k : Nat} (h1 : k < xs.length) (h2 : k < ys.length) (h : xs.take k = ys.take k) (he : xs[k] = ys[k]) : xs.take (k + 1) = ys.take (k + 1) := by
  rw [List.take_succ_eq_append_getElem h1, List.take_succ_eq_append_getElem h2, h, he]

set_option maxHeartbeats 400000 in
theorem eqInt64S_any {p q : Option Addr} {c d : Nat} {xs ys : List Int} (w : World) (h : RdI w p xs) (h' : RdI w q ys) :
    Calls Tryz.prog 56 #[.slice p xs.length c, .slice q ys.length d] w fun e w' => e = .returned (.bool (decide (xs = ys))) ∧ Drawn w w' := by
  have hl1 := h.len
  have hl2 := h'.len
  unfold maxLen at hl1 hl2
  by_cases hl : xs.length = ys.length
  · have HL := Lib.hid hl
    have hb : (((xs.length : Int) != (ys.length : Int))) = false := by rw [bne_eq_false_iff_eq]; omega
    clear hl
    go_enter Tryz.func56, Tryz.ntmps56
    go_wp2_with fail
    go_loopw [5] (fun i wr => ∃ k : Nat, k ≤ xs.length ∧ i = .int .i64 k ∧ xs.take k = ys.take k ∧ Drawn w wr) (fun i _ => xs.length - (intOf i).toNat)
    case atStart => exact ⟨0, Nat.zero_le _, rfl, rfl, Drawn.refl w⟩
    case round =>
      obtain ⟨k, hk, rfl, ht, hdr⟩ := hrel
      have HT := Lib.hid ht; clear ht
      have h1 := hdr.rdI h
      have h2 := hdr.rdI h'
      clear h h'
      by_cases hlt : k < xs.length
      · obtain ⟨b, o, rfl, hb1, hc⟩ := h1.pos hlt
        obtain ⟨b', o', rfl, hb2, hc'⟩ := h2.pos (k := k) (by have := HL.out; omega)
        have hlt2 : k < ys.length := by have := HL.out; omega
        have hck := hc k hlt
        have hck' := hc' k hlt2
        clear hc hc'
        generalize hx : xs[k] = x at hck
        generalize hy : ys[k] = y at hck'
        have HX := Lib.hid hx; clear hx
        have HY := Lib.hid hy; clear hy
        by_cases hxy : x = y
        · have hne : (x != y) = false := by rw [bne_eq_false_iff_eq]; exact hxy
          have HXY := Lib.hid hxy; clear hxy
          go_wp2_with fail
          go_quiet (fail)
          go_wp2_with fail
          go_roundw
          case rel => exact ⟨k + 1, by omega, by go_num, take_succ_eq hlt hlt2 HT.out (by rw [HX.out, HY.out, HXY.out]), hdr.on _⟩
          case measure => simp [intOf] <;> omega
        · have hne : (x != y) = true := by rw [bne_iff_ne]; exact hxy
          have HXY := Lib.hid hxy; clear hxy
          go_wp2_with fail
          go_quiet (fail)
          go_wp2_with fail
          go_ret
          exact ⟨ret_bool (eq_false_at hlt hlt2 (by rw [HX.out, HY.out]; exact HXY.out)).symm, hdr.on _⟩
      · obtain rfl : k = xs.length := by omega
        go_wp2_with fail
        go_ret
        exact ⟨ret_bool (eq_true_of HL.out HT.out).symm, hdr⟩
  · have hb : (((xs.length : Int) != (ys.length : Int))) = true := by rw [bne_iff_ne]; omega
    have he : decide (xs = ys) = false := by rw [decide_eq_false_iff_not]; rintro rfl; exact hl rfl
    rw [he]
    clear he hl
    go_enter Tryz.func56, Tryz.ntmps56
    go_wp2_with fail
    go_ret
    exact ⟨rfl, Drawn.refl w⟩
/-- k, k + 1, .. -/
def seqI (k : Int) (n : Nat) : List Int := (List.range n).map fun (i : Nat) => k + (i : Int)
theorem seqI_length (k : Int) (n : Nat) : (seqI k n).length = n := by simp [seqI]
theorem seqI_get (k : Int) (n i : Nat) (h : i < (seqI k n).length) : (seqI k n)[i] = k + i := by simp [seqI]
theorem set_marks (xs : List Int) (m : Int) (k : Nat) (h : k < xs.length) : (seqI m k ++ xs.drop k).set k (m + k) = seqI m (k + 1) ++ xs.drop (k + 1) := by
  rw [List.drop_eq_getElem_cons h, List.set_append_right _ _ (by rw [seqI_length]; exact Nat.le_refl _), seqI_length, Nat.sub_self, List.set_cons_zero]
  simp [seqI, List.range_succ]

set_option maxHeartbeats 400000 in
theorem markInt64S_any {B : Nat} {v : Value} {xs : List Int} (m : Int) (w : World) (h : OwnI B w v xs) (hm0 : 0 ≤ m) (hm : m + xs.length ≤ 1099511627776) :
    Calls Tryz.prog 59 #[v, .int .i64 m] w fun e w' => e = .returned (.int .i64 (m + xs.length)) ∧ OwnI B w' v (seqI m xs.length) ∧ Off (fun b => v.ownBlock = some b) w w' := by
  rcases h.cases with ⟨rfl, rfl⟩ | ⟨g, cap, rfl, hB, hg, hl, hr⟩
  · go_enter Tryz.func59, Tryz.ntmps59
    go_wp2_with fail
    refine wp_loop_rounds 1 ?_
    rw [rounds_succ]
    go_wp2_with fail
    go_ret
    exact ⟨ret_int (by simp), by simpa [seqI] using h, Off.refl _ _⟩
  · clear hr
    unfold maxLen at hl
    go_enter Tryz.func59, Tryz.ntmps59
    go_wp2_with fail
    go_loopw [1, 5] (fun q i wr => ∃ k : Nat, k ≤ xs.length ∧ i = .int .i64 k ∧ q = .int .i64 (m + k) ∧ OwnI B wr (.slice (some ⟨g, 0, none⟩) xs.length cap) (seqI m k ++ xs.drop k) ∧ Off (fun b => g = b) w wr) (fun _ i _ => xs.length - (intOf i).toNat)
    case atStart => exact ⟨0, Nat.zero_le _, rfl, by simp, by simpa [seqI] using h, Off.refl _ _⟩
    case round =>
      obtain ⟨k, hk, rfl, rfl, hown, hoff⟩ := hrel
      by_cases hlt : k < xs.length
      · obtain ⟨-, -, -, hg1, hg2, hst⟩ := hown.storing (k := k) (by rw [List.length_append, seqI_length, List.length_drop]; omega)
        have hst' := hst (m + k)
        rw [set_marks xs m k hlt] at hst'
        clear hst
        generalize hy : (seqI m k ++ xs.drop k)[k]'(by rw [List.length_append, seqI_length, List.length_drop]; omega) = y at hg1
        clear hy
        have HO := Lib.hid hst'; clear hst'
        go_wp2_with fail
        go_roundw
        case rel => exact ⟨k + 1, by omega, by go_num, by go_num, HO.out, hoff.trans ⟨rfl, rfl, rfl, by simp [World.setCell], fun i _ hi => Below.heap_setCell _ _ _ _ (fun e => hi e.symm)⟩⟩
        case measure => simp [intOf] <;> omega
      · obtain rfl : k = xs.length := by omega
        go_wp2_with fail
        go_ret
        exact ⟨rfl, by simpa using hown, hoff.mono fun b hb => by simp [Value.ownBlock, hb]⟩
set_option maxHeartbeats 400000 in
theorem heldInt64S_any {p : Option Addr} {c n : Nat} (m : Int) (w : World) (h : RdI w p (seqI m n)) (hm0 : 0 ≤ m) (hm : m + n ≤ 1099511627776) :
    Calls Tryz.prog 62 #[.slice p n c, .int .i64 m] w fun e w' => e = .returned (.int .i64 (m + n)) ∧ w = w' := by
  have hl := h.len
  rw [seqI_length] at hl
  unfold maxLen at hl
  go_enter Tryz.func62, Tryz.ntmps62
  go_wp2_with fail
  go_loop [1, 5] (fun q i => ∃ k : Nat, k ≤ n ∧ i = .int .i64 k ∧ q = .int .i64 (m + k)) (fun _ i => n - (intOf i).toNat)
  case atStart => exact ⟨0, Nat.zero_le _, rfl, by simp⟩
  case round =>
    obtain ⟨k, hk, rfl, rfl⟩ := hrel
    by_cases hlt : k < n
    · obtain ⟨b, o, rfl, hb, hc⟩ := h.pos (k := k) (by rw [seqI_length]; exact hlt)
      have hck := hc k (by rw [seqI_length]; exact hlt)
      rw [seqI_get] at hck
      clear hc
      have hne : ((m + (k : Int)) != (m + (k : Int))) = false := by simp
      go_wp2_with fail
      go_round
      case rel => exact ⟨k + 1, by omega, by go_num, by go_num⟩
      case measure => simp [intOf] <;> omega
    · obtain rfl : k = n := by omega
      go_wp2_with fail
      go_ret
      exact ⟨rfl, rfl⟩
def lens (xss : List (List Int)) : Nat := (xss.map List.length).sum
theorem lens_nil : lens [] = 0 := rfl
theorem lens_cons (x : List Int) (r : List (List Int)) : lens (x :: r) = x.length + lens r := by simp [lens]
theorem lens_append (a b : List (List Int)) : lens (a ++ b) = lens a + lens b := by simp [lens]
theorem lens_take_succ (xss : List (List Int)) (k : Nat) (h : k < xss.length) : lens (xss.take (k + 1)) = lens (xss.take k) + xss[k].length := by
  rw [List.take_succ_eq_append_getElem h, lens_append]; simp [lens]
theorem lens_take_le (xss : List (List Int)) (k : Nat) : lens (xss.take k) ≤ lens xss := by
  have : lens xss = lens (xss.take k) + lens (xss.drop k) := by rw [← lens_append, List.take_append_drop]
  omega
def szLL (left : Int) (xss : List (List Int)) : Int := if left < (xss.length : Int) + lens xss then -1 else left - ((xss.length : Int) + lens xss)
theorem len_le_lens {xss : List (List Int)} {xs : List Int} (h : xs ∈ xss) : xs.length ≤ lens xss := by
  induction xss with
  | nil => cases h
  | cons x r ih =>
    rw [lens_cons]
    cases List.mem_cons.1 h with
    | inl e => subst e; omega
    | inr e => have := ih e; omega

theorem eqq_false_at {xs ys : List (List Int)} {k : Nat} (h1 : k < xs.length) (h2 : k < ys.length) (h : xs[k] ≠ ys[k]) : decide (xs = ys) = false := by
  rw [decide_eq_false_iff_not]
  rintro rfl
  exact h rfl
theorem eqq_true_of {xs ys : List (List Int)} (hl : xs.length = ys.length) (h : xs.take xs.length = ys.take xs.length) : decide (xs = ys) = true := by
  rw [List.take_length, hl, List.take_length] at h
  simp [h]
theorem takes_succ_eq {xs ys : List (List Int)} {k : Nat} (h1 : k < xs.length) (h2 : k < ys.length) (h : xs.take k = ys.take k) (he : xs[k] = ys[k]) : xs.take (k + 1) = ys.take (k + 1) := by
  rw [List.take_succ_eq_append_getElem h1, List.take_succ_eq_append_getElem h2, h, he]

set_option maxHeartbeats 400000 in
theorem eqInt64SS_any {p q : Option Addr} {c d : Nat} {xs ys : List (List Int)} (w : World) (h : RdII w p xs) (h' : RdII w q ys) :
    Calls Tryz.prog 54 #[.slice p xs.length c, .slice q ys.length d] w fun e w' => e = .returned (.bool (decide (xs = ys))) ∧ Drawn w w' := by
  have hl1 := h.len
  have hl2 := h'.len
  unfold maxLen at hl1 hl2
  by_cases hl : xs.length = ys.length
  · have HL := Lib.hid hl
    have hb : (((xs.length : Int) != (ys.length : Int))) = false := by rw [bne_eq_false_iff_eq]; omega
    clear hl
    go_enter Tryz.func54, Tryz.ntmps54
    go_wp2_with fail
    go_loopw [5] (fun i wr => ∃ k : Nat, k ≤ xs.length ∧ i = .int .i64 k ∧ xs.take k = ys.take k ∧ Drawn w wr) (fun i _ => xs.length - (intOf i).toNat)
    case atStart => exact ⟨0, Nat.zero_le _, rfl, rfl, Drawn.refl w⟩
    case round =>
      obtain ⟨k, hk, rfl, ht, hdr⟩ := hrel
      have HT := Lib.hid ht; clear ht
      have h1 := hdr.rdII h
      have h2 := hdr.rdII h'
      clear h h'
      by_cases hlt : k < xs.length
      · obtain ⟨b, o, rfl, hb1, hc⟩ := h1.pos hlt
        obtain ⟨b', o', rfl, hb2, hc'⟩ := h2.pos (k := k) (by have := HL.out; omega)
        have hlt2 : k < ys.length := by have := HL.out; omega
        obtain ⟨r, cr, hck, hr⟩ := hc k hlt
        obtain ⟨r', cr', hck', hr'⟩ := hc' k hlt2
        clear hc hc'
        generalize hx : xs[k] = x at hck hr
        generalize hy : ys[k] = y at hck' hr'
        have HX := Lib.hid hx; clear hx
        have HY := Lib.hid hy; clear hy
        by_cases hxy : x = y
        · have HN : Hid (∀ m, Calls Tryz.prog 56 #[.slice r x.length cr, .slice r' y.length cr'] (wr.drewN m) fun e w' => e = .returned (.bool true) ∧ ∃ j, w' = (wr.drewN m).drewN j) := by
            intro m
            have := eqInt64S_any (c := cr) (d := cr') _ (hr.drewN m) (hr'.drewN m)
            rwa [show decide (x = y) = true by simp [hxy]] at this
          have HXY := Lib.hid hxy; clear hxy
          go_wp2_with fail
          go_quiet ((go_at_call 56; exact Calls.quiet_of (HN.out _)))
          go_wp2_with fail
          go_roundw
          case rel => exact ⟨k + 1, by omega, by go_num, takes_succ_eq hlt hlt2 HT.out (by rw [HX.out, HY.out, HXY.out]), hdr.on _⟩
          case measure => simp [intOf] <;> omega
        · have HN : Hid (∀ m, Calls Tryz.prog 56 #[.slice r x.length cr, .slice r' y.length cr'] (wr.drewN m) fun e w' => e = .returned (.bool false) ∧ ∃ j, w' = (wr.drewN m).drewN j) := by
            intro m
            have := eqInt64S_any (c := cr) (d := cr') _ (hr.drewN m) (hr'.drewN m)
            rwa [show decide (x = y) = false by simp [hxy]] at this
          have HXY := Lib.hid hxy; clear hxy
          go_wp2_with fail
          go_quiet ((go_at_call 56; exact Calls.quiet_of (HN.out _)))
          go_wp2_with fail
          go_ret
          exact ⟨ret_bool (eqq_false_at hlt hlt2 (by rw [HX.out, HY.out]; exact HXY.out)).symm, hdr.on _⟩
      · obtain rfl : k = xs.length := by omega
        go_wp2_with fail
        go_ret
        exact ⟨ret_bool (eqq_true_of HL.out HT.out).symm, hdr⟩
  · have hb : (((xs.length : Int) != (ys.length : Int))) = true := by rw [bne_iff_ne]; omega
    have he : decide (xs = ys) = false := by rw [decide_eq_false_iff_not]; rintro rfl; exact hl rfl
    rw [he]
    clear he hl
    go_enter Tryz.func54, Tryz.ntmps54
    go_wp2_with fail
    go_ret
    exact ⟨rfl, Drawn.refl w⟩
/-- all numbers counted up from k on -/
def marks : Int → List (List Int) → List (List Int)
  | _, [] => []
  | k, xs :: r => seqI k xs.length :: marks (k + xs.length) r
theorem marks_length (k : Int) (xss : List (List Int)) : (marks k xss).length = xss.length := by
  induction xss generalizing k with
  | nil => rfl
  | cons x r ih => simp [marks, ih]
theorem marks_append (k : Int) (a b : List (List Int)) : marks k (a ++ b) = marks k a ++ marks (k + lens a) b := by
  induction a generalizing k with
  | nil => simp [marks, lens]
  | cons x r ih => rw [List.cons_append, marks, ih, marks, lens_cons, List.cons_append]; congr 3; simp; omega
theorem marks_get (k : Int) (xss : List (List Int)) (i : Nat) (h : i < xss.length) : (marks k xss)[i]'(by rw [marks_length]; exact h) = seqI (k + lens (xss.take i)) xss[i].length := by
  induction xss generalizing k i with
  | nil => simp at h
  | cons x r ih =>
    cases i with
    | zero => simp [marks, lens]
    | succ i =>
      simp only [marks, List.getElem_cons_succ, List.take_succ_cons, lens_cons]
      rw [ih _ _ (by simpa using h)]
      congr 1; simp; omega

theorem marks_step (m : Int) (xss : List (List Int)) (k : Nat) (h : k < xss.length) (i : Nat) (hne : i ≠ k) : (marks m (xss.take (k + 1)) ++ xss.drop (k + 1))[i]? = (marks m (xss.take k) ++ xss.drop k)[i]? := by
  have hl : (marks m (xss.take k)).length = k := by rw [marks_length]; simp; omega
  rw [List.take_succ_eq_append_getElem h, marks_append, List.append_assoc]
  by_cases e2 : i < k
  · rw [List.getElem?_append_left (by omega), List.getElem?_append_left (by omega)]
  · obtain ⟨j, rfl⟩ : ∃ j, i = k + (j + 1) := ⟨i - (k + 1), by omega⟩
    have e3 : k + (j + 1) - k = j + 1 := by omega
    have e4 : (marks m (xss.take k) ++ xss.drop k)[k + (j + 1)]? = xss[k + (j + 1)]? := by
      rw [List.getElem?_append_right (by omega), hl, e3, List.getElem?_drop]
    rw [e4, List.getElem?_append_right (by omega), hl, e3]
    simp only [marks, List.cons_append, List.nil_append, List.getElem?_cons_succ, List.getElem?_drop]
    congr 1; omega

set_option maxHeartbeats 800000 in
theorem markInt64SS_any {B : Nat} {p : Option Addr} {c : Nat} {L : List Value} {xss : List (List Int)} (m : Int) (w : World) (h : RdV w p L) (hin : OwnIs B w L xss) (hdis : Dis L) (hoff : ∀ b o, p = some ⟨b, o, none⟩ → ¬ Blk L b)
    (hm0 : 0 ≤ m) (hm : m + lens xss ≤ 1099511627776) :
    Calls Tryz.prog 57 #[.slice p L.length c, .int .i64 m] w fun e w' => e = .returned (.int .i64 (m + lens xss)) ∧ OwnIs B w' L (marks m xss) ∧ Off (Blk L) w w' := by
  have hl := h.len
  unfold maxLen at hl
  go_enter Tryz.func57, Tryz.ntmps57
  go_wp2_with fail
  go_loopw [1, 5] (fun q i wr => ∃ k : Nat, k ≤ L.length ∧ i = .int .i64 k ∧ q = .int .i64 (m + lens (xss.take k)) ∧ OwnIs B wr L (marks m (xss.take k) ++ xss.drop k) ∧ Off (Blk L) w wr) (fun _ i _ => L.length - (intOf i).toNat)
  case atStart => exact ⟨0, Nat.zero_le _, rfl, by simp [lens], by simpa [marks] using hin, Off.refl _ _⟩
  case round =>
    obtain ⟨k, hk, rfl, rfl, hown, hof⟩ := hrel
    have HL := Lib.hid hin.1
    clear hin
    by_cases hlt : k < L.length
    · have hltx : k < xss.length := by have := HL.out; omega
      obtain ⟨b, o, rfl, hb, hc⟩ := h.pos hlt
      have hck : wr.cell? ⟨b, o + k, none⟩ = some L[k] := (World.cell?_of_block (w := w) (a := ⟨b, o + k, none⟩) (hof.block b hb (hoff b o rfl))).trans (hc k hlt)
      clear hc
      have hlk : k < (marks m (xss.take k) ++ xss.drop k).length := by rw [List.length_append, marks_length]; simp; omega
      have hek : (marks m (xss.take k) ++ xss.drop k)[k] = xss[k] := by
        rw [List.getElem_append_right (by rw [marks_length]; simp; omega)]
        simp only [marks_length, List.length_take]
        rw [List.getElem_drop]
        congr 1; omega
      obtain ⟨hL0, hu⟩ := hown.at_ hlk
      rw [hek] at hu
      obtain ⟨r, d, hur, -⟩ := hu.rd
      have hlt1 := lens_take_succ xss k hltx
      have hle := lens_take_le xss (k + 1)
      have huL : L[k] = L[k] := rfl
      have HM : Hid (∀ w1, OwnI B w1 L[k] (seqI (m + lens (xss.take k)) xss[k].length) → Off (fun b => L[k].ownBlock = some b) wr w1 → OwnIs B w1 L (marks m (xss.take (k + 1)) ++ xss.drop (k + 1))) := by
        intro w1 h1 h2
        refine ⟨by rw [List.length_append, marks_length]; have := HL.out; simp; omega, fun i hi => ?_⟩
        have hiL : i < L.length := by rw [List.length_append, marks_length] at hi; simp at hi; have := HL.out; omega
        refine ⟨L[i], List.getElem?_eq_getElem hiL, ?_⟩
        have hi' : i < (marks m (xss.take k) ++ xss.drop k).length := by rw [List.length_append, marks_length]; have := HL.out; simp; omega
        by_cases e : i = k
        · subst e
          have : (marks m (xss.take (i + 1)) ++ xss.drop (i + 1))[i] = seqI (m + lens (xss.take i)) xss[i].length := by
            rw [List.getElem_append_left (by rw [marks_length]; simp; omega), marks_get _ _ _ (by simp; omega)]
            simp [List.take_take]
          rw [this]
          exact h1
        · obtain ⟨_, ho⟩ := hown.at_ hi'
          have : (marks m (xss.take (k + 1)) ++ xss.drop (k + 1))[i] = (marks m (xss.take k) ++ xss.drop k)[i] := by
            have := marks_step m xss k hltx i e
            rwa [List.getElem?_eq_getElem hi, List.getElem?_eq_getElem hi', Option.some.injEq] at this
          rw [this]
          exact ho.keep fun j hj => h2.block j (ho.lt hj).2 fun hk' => hdis.at_ hlt hiL (fun h => e h.symm) hk' hj
      have hblk : ∀ b, L[k].ownBlock = some b → Blk L b := fun b hb => ⟨L[k], List.getElem_mem hlt, hb⟩
      clear hown hek hlk
      rw [hur] at hck hu hblk HM
      clear hur huL
      generalize hx : xss[k] = xs at *
      generalize hS : lens (xss.take k) = S at *
      have HX := Lib.hid hx; have HS := Lib.hid hS; have HT := Lib.hid hlt1; have HB := Lib.hid hblk
      have hsx : S + xs.length ≤ lens xss := by omega
      clear hx hS hlt1 hblk
      go_wp2_with fail
      refine (markInt64S_any _ _ hu (by omega) (by omega)).mono ?_
      rintro e w1 ⟨rfl, h1, h2⟩
      have h3 := HM.out w1 h1 h2
      have h4 := hof.trans (h2.mono HB.out)
      have HM3 := Lib.hid h3
      clear h1 h2 h3 hu hof HM
      go_wp2_with fail
      go_roundw
      case rel => exact ⟨k + 1, by omega, by go_num, by rw [HT.out]; go_num, HM3.out, h4⟩
      case measure => simp [intOf] <;> omega
    · obtain rfl : k = L.length := by omega
      go_wp2_with fail
      go_ret
      have e := HL.out
      rw [e] at hown ⊢
      rw [List.take_length] at hown ⊢
      exact ⟨rfl, by simpa using hown, hof⟩
set_option maxHeartbeats 400000 in
theorem heldInt64SS_any {p : Option Addr} {c : Nat} {xss : List (List Int)} (m : Int) (w : World) (h : RdII w p (marks m xss)) (hm0 : 0 ≤ m) (hm : m + lens xss ≤ 1099511627776) :
    Calls Tryz.prog 60 #[.slice p xss.length c, .int .i64 m] w fun e w' => e = .returned (.int .i64 (m + lens xss)) ∧ w = w' := by
  have hl := h.len
  rw [marks_length] at hl
  unfold maxLen at hl
  go_enter Tryz.func60, Tryz.ntmps60
  go_wp2_with fail
  go_loop [1, 5] (fun q i => ∃ k : Nat, k ≤ xss.length ∧ i = .int .i64 k ∧ q = .int .i64 (m + lens (xss.take k))) (fun _ i => xss.length - (intOf i).toNat)
  case atStart => exact ⟨0, Nat.zero_le _, rfl, by simp [lens]⟩
  case round =>
    obtain ⟨k, hk, rfl, rfl⟩ := hrel
    by_cases hlt : k < xss.length
    · obtain ⟨b, o, rfl, hb, hc⟩ := h.pos (k := k) (by rw [marks_length]; exact hlt)
      obtain ⟨r, d, hck, hr⟩ := hc k (by rw [marks_length]; exact hlt)
      rw [marks_get _ _ _ hlt] at hck hr
      rw [seqI_length] at hck
      clear hc
      have hlt1 := lens_take_succ xss k hlt
      have hle := lens_take_le xss (k + 1)
      generalize hx : xss[k] = xs at *
      generalize hS : lens (xss.take k) = S at *
      have HT := Lib.hid hlt1; 
      have hsx : S + xs.length ≤ lens xss := by omega
      clear hx hS hlt1
      go_wp2_with fail
      refine (heldInt64S_any _ _ hr (by omega) (by omega)).mono ?_
      rintro e w' ⟨rfl, rfl⟩
      have hpos : ¬ m + (S : Int) + xs.length < 0 := by omega
      go_wp2_with fail
      go_round
      case rel => exact ⟨k + 1, by omega, by go_num, by rw [HT.out]; go_num⟩
      case measure => simp [intOf] <;> omega
    · obtain rfl : k = xss.length := by omega
      rw [List.take_length]
      go_wp2_with fail
      go_ret
      exact ⟨rfl, rfl⟩
end Go.Proofs.YtdcacmmglkcliaaGreatDoor
