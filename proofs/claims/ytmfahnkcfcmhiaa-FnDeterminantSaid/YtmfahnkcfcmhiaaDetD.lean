/-
  Determinants: the drawn matrices.
-/
import Derived.Test.YtmfahnkcfcmhiaaDetS
import Derived.Test.YtmfahnkcfcmhiaaDrw
namespace Go.Proofs.Ytmfahnkcfcmhiaa
open Go.ChangeShapes Go.WideShapes Go.ChangeAt Go.RowKit
set_option linter.unusedVariables false
set_option linter.unusedSimpArgs false

theorem OwnI.off {B g : Nat} {w w' : World} {v : Value} {xs : List Int} (h : OwnI B w v xs) (ho : Off (· = g) w w') (hg : g < B) : OwnI B w' v xs :=
  h.keep fun k hk => ho.block k (h.lt hk).2 (by have := (h.lt hk).1; show ¬ k = g; omega)
theorem OwnII.offG {B g : Nat} {w w' : World} {v : Value} {xss : List (List Int)} {L : List Value} (h : OwnII B w v xss L) (ho : Off (· = g) w w') (hg : g < B) : OwnII B w' v xss L :=
  h.keeps fun k h1 h2 => ho.block k h2 (by show ¬ k = g; omega)
theorem Off.after {S : Nat → Prop} {w a b : World} (h : Off S w a) (hb : Below w.heap.size a b) : Off S w b :=
  ⟨hb.os.trans h.os, hb.tape.trans h.tape, hb.output.trans h.output, Nat.le_trans h.size hb.size, fun k hk hs => (hb.block k hk).trans (h.block k hk hs)⟩
/-- rows of n samples -/
def RowsS (n : Nat) (xss : List (List Int)) : Prop := ∀ r ∈ xss, r.length = n ∧ ∀ x ∈ r, isSmp x = true
theorem RowsS.snoc {n : Nat} {xss : List (List Int)} (h : RowsS n xss) {r : List Int} (hr : r.length = n) (hs : AllS r) : RowsS n (xss ++ [r]) := by
  intro y hy
  rcases List.mem_append.1 hy with h1 | h1
  · exact h y h1
  · rw [List.mem_singleton.1 h1]; exact ⟨hr, hs⟩
theorem AllS.snoc {xs : List Int} (h : AllS xs) {x : Int} (hx : isSmp x = true) : AllS (xs ++ [x]) := by
  intro y hy
  rcases List.mem_append.1 hy with h1 | h1
  · exact h y h1
  · rw [List.mem_singleton.1 h1]; exact hx
/-- a matrix of its own, drawn -/
def DrewM (n g m : Nat) (w : World) (e : Ending) (w' : World) : Prop := ∃ v xss L, e = .returned v ∧ matB xss = true ∧ xss.length = n ∧ OwnII w.heap.size w' v xss L ∧ SrcAt w' g m ∧ Off (· = g) w w'
set_option maxHeartbeats 4000000 in
theorem l09DrawMatrix_any {g m : Nat} (n : Nat) (w : World) (h : SrcAt w g m) (hn : n ≤ 5) (hm : m + 2000 ≤ 1099511627776) :
    Calls Try.prog 15 #[.pointer (some ⟨g, 0, none⟩), .int .i64 (n : Int)] w (DrewM n g (m + 1000) w) := by
  have hg := h.lt
  have h0 := OwnII.empty (B := w.heap.size) w (Nat.le_refl _)
  have hb := (Below.refl w.heap.size w).alloc (Nat.le_refl _) (.cells #[] 31)
  have hs0 := h.below hb
  have HO0 := Lib.hid (Off.of_below (· = g) hb)
  have HM : Hid (∀ xss : List (List Int), xss.length = n → RowsS n xss → matB xss = true) := by
    intro xss h1 h2
    rw [matB_iff]
    exact ⟨by omega, fun r hr => by rw [h1]; exact h2 r hr⟩
  go_enter Try.func15, Try.ntmps15
  go_wp2_with fail
  clear h hb
  go_loopw [5, 6] (fun v i wr => ∃ (k : Nat) (xss : List (List Int)) (L : List Value), k ≤ n ∧ i = .int .i64 (k : Int) ∧ xss.length = k ∧ RowsS n xss ∧ OwnII w.heap.size wr v xss L ∧ SrcAt wr g (m + 150 * k) ∧ Off (· = g) w wr) (fun _ i _ => n - (intOf i).toNat)
  case atStart => exact ⟨0, [], [], Nat.zero_le _, rfl, rfl, (by intro r hr; simp at hr), h0, hs0.mono (by omega), HO0.out⟩
  case round =>
    obtain ⟨k, xss, L, hk, rfl, hxl, hrs, hown, hs, ho⟩ := hrel
    have HXL := Lib.hid hxl
    have HRS := Lib.hid hrs
    clear h0 hs0 HO0 hxl hrs
    obtain ⟨wo, rfl⟩ : ∃ wo : World, wo = wr := ⟨_, rfl⟩
    have hB : w.heap.size ≤ wo.heap.size := ho.size
    have HO := Lib.hid ho
    have HOW := Lib.hid hown
    clear ho hown
    by_cases hlt : k < n
    · have r0 := OwnI.lit (B := wo.heap.size) wo [] (Nat.le_refl _) (by simp [maxLen])
      have rb := (Below.refl wo.heap.size wo).alloc (Nat.le_refl _) (.cells #[] 2)
      have HRB := Lib.hid (Off.of_below (· = g) rb)
      have rs := hs.below rb
      have hgo : g < wo.heap.size := hs.lt
      clear hs rb
      go_wp2_with fail
      go_loopw [7, 8] (fun v i wr => ∃ (j : Nat) (xs : List Int), j ≤ n ∧ i = .int .i64 (j : Int) ∧ xs.length = j ∧ AllS xs ∧ OwnI wo.heap.size wr v xs ∧ SrcAt wr g (m + 150 * k + 30 * j) ∧ Off (· = g) wo wr) (fun _ i _ => n - (intOf i).toNat)
      case atStart => exact ⟨0, [], Nat.zero_le _, rfl, rfl, (by intro r hr; simp at hr), r0, rs.mono (by omega), HRB.out⟩
      case round =>
        obtain ⟨j, xs, hj, rfl, hjl, hal, hrow, hs, hor⟩ := hrel
        have HJL := Lib.hid hjl
        have HAL := Lib.hid hal
        have HOR := Lib.hid hor
        have hz0 : wo.heap.size ≤ wr.heap.size := hor.size
        clear r0 rs HRB hjl hal hor
        obtain ⟨wi, rfl⟩ : ∃ wi : World, wi = wr := ⟨_, rfl⟩
        by_cases hjt : j < n
        · go_wp2_with fail
          refine (pick_any 7 wi hs (by omega) (by omega)).mono ?_
          rintro e w1 ⟨x, hx, rfl, hs1, ho1⟩
          have hx1 := (pickP_pos hx (by omega)).1
          have hx2 := (pickP_pos hx (by omega)).2
          have hrow1 := hrow.off ho1 hgo
          have HO1 := Lib.hid (HOR.out.trans ho1)
          clear hx hrow hs ho1
          go_wp2_with fail
          refine (one_any 4 w1 hs1 (by omega) (by omega)).mono ?_
          rintro e w2 ⟨b, rfl, hs2, ho2⟩
          have hrow2 := hrow1.off ho2 hgo
          have HO2 := Lib.hid (HO1.out.trans ho2)
          have hz2 : wo.heap.size ≤ w2.heap.size := HO2.out.size
          clear hrow1 hs1 ho2
          cases b with
          | false =>
            have hy : isSmp (x - 3) = true := isSmp_iff.2 (by omega)
            have HY := Lib.hid (HAL.out.snoc hy)
            clear hy
            have hl5 : xs.length < 17592186044415 := by rw [HJL.out]; omega
            go_wp2_with (first | (at_builtin; refine wpList_append_one rfl _ _ rfl rfl hrow2 rfl (Below.refl wo.heap.size w2) hl5 hz2 (Nat.le_refl _) ?_; intro v' w4 hown4 hb4 hz4 hk4) | fail)
            have hs4 := hs2.stay hgo (fun k h1 _ => hb4.block k h1)
            have HO4 := HO2.out.after hb4
            go_roundw
            case rel => exact ⟨j + 1, xs ++ [x - 3], by omega, by go_num, by simp [HJL.out], HY.out, hown4, hs4.mono (by omega), HO4⟩
            case measure => simp [intOf] <;> omega
          | true =>
            go_wp2_with fail
            refine (l01Draw_any w2 hs2 (by omega)).mono ?_
            rintro e w3 ⟨y, hy, rfl, hs3, ho3⟩
            have hrow3 := hrow2.off ho3 hgo
            have HO3 := Lib.hid (HO2.out.trans ho3)
            have hz3 : wo.heap.size ≤ w3.heap.size := HO3.out.size
            have HY := Lib.hid (HAL.out.snoc hy)
            have hl5 : xs.length < 17592186044415 := by rw [HJL.out]; omega
            clear hrow2 hs2 ho3 hy
            go_wp2_with (first | (at_builtin; refine wpList_append_one rfl _ _ rfl rfl hrow3 rfl (Below.refl wo.heap.size w3) hl5 hz3 (Nat.le_refl _) ?_; intro v' w4 hown4 hb4 hz4 hk4) | fail)
            have hs4 := hs3.stay hgo (fun k h1 _ => hb4.block k h1)
            have HO4 := HO3.out.after hb4
            go_roundw
            case rel => exact ⟨j + 1, xs ++ [y], by omega, by go_num, by simp [HJL.out], HY.out, hown4, hs4.mono (by omega), HO4⟩
            case measure => simp [intOf] <;> omega
        · obtain rfl : j = n := by omega
          have hown := HOW.out.keeps (w' := wi) fun k h1 h2 => HOR.out.block k h2 (by show ¬ k = g; omega)
          obtain ⟨qv, cv, rfl, -⟩ := hrow.rd
          have hrow2 := hrow.mono hB
          have hnew : ∀ x, (Value.slice qv xs.length cv).ownBlock = some x → ¬ Blk L x := fun x hx hbk => by have := (hrow.lt hx).1; have := (HOW.out.2.1.blk hbk).2.1; omega
          have HNEW := Lib.hid hnew
          have HOf := Lib.hid (HO.out.trans HOR.out)
          have hsz : w.heap.size ≤ wi.heap.size := HOf.out.size
          have hlen : L.length < 1099511627776 := by have := hown.2.1.1; have := HXL.out; omega
          have hone := hrow.oneCell
          have HR2 := Lib.hid (HRS.out.snoc HJL.out HAL.out)
          clear hnew hrow
          rw [HJL.out] at hrow2 HNEW hone ⊢
          go_wp2_with (first | (at_builtin; refine wpList_append_val rfl _ _ rfl 24 (.slice none 0 0) Try.underlying23 infoII rfl (by omega) rfl hown.1 rfl hone (Below.refl w.heap.size wi) hlen hsz (Nat.le_refl _) ?_; intro v' w1 hown1 hbel1 _ hk1) | fail)
          have hfin := hown.snoc hrow2 HNEW.out hown1 hk1
          have HF := Lib.hid hfin
          have hs5 := hs.stay hg (fun k h1 _ => hbel1.block k h1)
          have HO5 := Lib.hid (HOf.out.after hbel1)
          clear hfin hk1 hown1 hown
          go_roundw
          case rel => exact ⟨k + 1, _, _, by omega, by go_num, by simp [HXL.out], HR2.out, HF.out, hs5.mono (by omega), HO5.out⟩
          case measure => simp [intOf] <;> omega
    · obtain rfl : k = n := by omega
      go_wp2_with fail
      go_ret
      exact ⟨_, xss, L, rfl, HM.out _ HXL.out HRS.out, HXL.out, HOW.out, hs.mono (by omega), HO.out⟩
/-- two matrices of their own -/
def DrewTwoM (w : World) (e : Ending) (w' : World) : Prop := ∃ u v a b La Lb, e = .returned (.tuple #[u, v]) ∧ matB a = true ∧ matB b = true ∧ a.length = b.length ∧ a.length ≤ 5 ∧ OwnII w.heap.size w' u a La ∧ OwnII w.heap.size w' v b Lb ∧ Below w.heap.size w w'
set_option maxHeartbeats 2000000 in
theorem e8Matrices_any {v : Value} {bs : List Int} (w : World) (h : VB w v bs) (hl : bs.length ≤ 1048576) :
    Calls Try.prog 4 #[v] w (DrewTwoM w) := by
  obtain ⟨p, c, rfl, hr⟩ := h
  go_enter Try.func4, Try.ntmps4
  go_wp2_with fail
  refine (l00From_any (c := c) w hr hl).mono ?_
  rintro e w1 ⟨rfl, hs1, hb1⟩
  have hz1 : w.heap.size < w1.heap.size := hs1.lt
  go_wp2_with fail
  refine (pick_any 6 w1 hs1 (by omega) (by omega)).mono ?_
  rintro e w2 ⟨x, hx, rfl, hs2, ho2⟩
  have hx1 := (pickP_pos hx (by omega)).1
  have hx2 := (pickP_pos hx (by omega)).2
  obtain ⟨n, rfl⟩ : ∃ n : Nat, x = n := ⟨x.toNat, by omega⟩
  have hn : n ≤ 5 := by omega
  have hz2 := ho2.size
  clear hx hs1
  go_wp2_with fail
  refine (l09DrawMatrix_any n w2 hs2 hn (by omega)).mono ?_
  rintro e w3 ⟨u, a, La, rfl, ha, hla, hoa, hs3, ho3⟩
  have hz3 := ho3.size
  clear hs2
  go_wp2_with fail
  refine (l09DrawMatrix_any n w3 hs3 hn (by omega)).mono ?_
  rintro e w4 ⟨v, b, Lb, rfl, hb, hlb, hob, hs4, ho4⟩
  have hoa4 := hoa.offG ho4 (by omega)
  go_wp2_with fail
  go_ret2
  exact ⟨u, v, a, b, La, Lb, rfl, ha, hb, by omega, by omega, hoa4.mono (by omega), hob.mono (by omega), hb1.trans (((ho2.trans ho3).trans ho4).below (B := w.heap.size) (fun k hk => by have : k = w.heap.size := hk; omega) hb1.size)⟩
end Go.Proofs.Ytmfahnkcfcmhiaa
