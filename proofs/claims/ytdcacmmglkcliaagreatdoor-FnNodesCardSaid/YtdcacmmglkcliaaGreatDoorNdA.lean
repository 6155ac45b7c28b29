/-
  Several texts in one: NdD, NdE, NdF, NdG.
-/
import Derived.Test.YtdcacmmglkcliaaGreatDoorDrw
import Derived.Test.YtdcacmmglkcliaaGreatDoorStepN2
import Derived.Deep.RegionWith
import Derived.Test.YtdcacmmglkcliaaGreatDoorTxtF
import Derived.Test.YtdcacmmglkcliaaGreatDoorAppN
namespace Go.Proofs.YtdcacmmglkcliaaGreatDoor
open Go.ChangeShapes Go.WideShapes Go.ChangeAt Go.RowKit
set_option linter.unusedVariables false
set_option linter.unusedSimpArgs false

theorem OwnI.offD {B g : Nat} {w w' : World} {v : Value} {xs : List Int} (h : OwnI B w v xs) (ho : Off (· = g) w w') (hg : g < B) : OwnI B w' v xs :=
  h.keep fun k hk => ho.block k (h.lt hk).2 (by have := (h.lt hk).1; show ¬ k = g; omega)
theorem OwnII.offD {B g : Nat} {w w' : World} {v : Value} {xss : List (List Int)} {L : List Value} (h : OwnII B w v xss L) (ho : Off (· = g) w w') (hg : g < B) : OwnII B w' v xss L :=
  h.keeps fun k h1 h2 => ho.block k h2 (by show ¬ k = g; omega)
theorem Off.afterD {S : Nat → Prop} {w a b : World} (h : Off S w a) (hb : Below w.heap.size a b) : Off S w b :=
  ⟨hb.os.trans h.os, hb.tape.trans h.tape, hb.output.trans h.output, Nat.le_trans h.size hb.size, fun k hk hs => (hb.block k hk).trans (h.block k hk hs)⟩
/-- some drawn tables -/
def DrewT (g m : Nat) (w : World) (e : Ending) (w' : World) : Prop := ∃ v xss L, e = .returned v ∧ 1 ≤ xss.length ∧ xss.length ≤ 2 ∧ (∀ r ∈ xss, r.length ≤ 8) ∧ OwnII w.heap.size w' v xss L ∧ SrcAt w' g m ∧ Off (· = g) w w'
set_option maxHeartbeats 4000000 in
set_option maxRecDepth 100000 in
theorem l06DrawTables_any {g m : Nat} (w : World) (h : SrcAt w g m) (hm : m + 2000 ≤ 1099511627776) :
    Calls Tryz.prog 23 #[.pointer (some ⟨g, 0, none⟩)] w (DrewT g (m + 1000) w) := by
  have hg := h.lt
  have h0 := OwnII.empty (B := w.heap.size) w (Nat.le_refl _)
  have hb := (Below.refl w.heap.size w).alloc (Nat.le_refl _) (.cells #[] 24)
  have hs0 := h.below hb
  have HO0 := Lib.hid (Off.of_below (· = g) hb)
  go_enter Tryz.func23, Tryz.ntmps23
  go_wp2_with fail
  refine (pick_any 2 _ hs0 (by omega) (by omega)).mono ?_
  rintro e w1 ⟨x, hx, rfl, hs1, ho1⟩
  have hx1 := (pickP_pos hx (by omega)).1
  have hx2 := (pickP_pos hx (by omega)).2
  have hown1 := h0.offD ho1 hg
  have HO1 := Lib.hid (HO0.out.trans ho1)
  have HS1 := Lib.hid hs1
  clear h hb hs0 HO0 ho1 hs1 hx h0
  go_wp2_with fail
  go_loopw [3, 4] (fun v i wr => ∃ (j : Int) (xss : List (List Int)) (L : List Value), i = .int .i64 j ∧ 0 ≤ j ∧ (xss.length : Int) + j = x + 1 ∧ (∀ r ∈ xss, r.length ≤ 8) ∧ OwnII w.heap.size wr v xss L ∧ SrcAt wr g (m + 30 + 300 * xss.length) ∧ Off (· = g) w wr) (fun _ i _ => (intOf i).toNat)
  case atStart => exact ⟨1 + x, [], [], by go_num, by omega, by simp; omega, (by intro r hr; simp at hr), hown1, HS1.out.mono (by simp), HO1.out⟩
  case round =>
    obtain ⟨j, xss, L, rfl, hj, hxl, hrs, hown, hs, ho⟩ := hrel
    have HRS := Lib.hid hrs
    clear hown1 HS1 HO1 hrs
    obtain ⟨wo, rfl⟩ : ∃ wo : World, wo = wr := ⟨_, rfl⟩
    have hB : w.heap.size ≤ wo.heap.size := ho.size
    have HO := Lib.hid ho
    have HOW := Lib.hid hown
    clear ho hown
    by_cases hlt : 0 < j
    · have r0 := OwnI.lit (B := wo.heap.size) wo [] (Nat.le_refl _) (by simp [maxLen])
      have rb := (Below.refl wo.heap.size wo).alloc (Nat.le_refl _) (.cells #[] 2)
      have HRB := Lib.hid (Off.of_below (· = g) rb)
      have rs := hs.below rb
      have hgo : g < wo.heap.size := hs.lt
      have hx3 : xss.length ≤ 2 := by omega
      obtain ⟨wp, hwp⟩ : ∃ W, W = wo.alloc (.cells #[] 2) := ⟨_, rfl⟩
      rw [show (wo.alloc (.cells ((([] : List Int).map (Value.int .i64)).toArray) 2)) = wp from hwp.symm] at r0
      rw [← hwp] at rs HRB
      have HWP := Lib.hid hwp
      have A1 := Lib.hid (amongLit_any [2, 4, 8, 4] wp rs (by simp) (by simp) (by omega))
      clear hs rb rs hwp
      go_upto_region 6 with fail
      rw [← HWP.out]
      go_wp2_with (first | (go_at_call 63; refine A1.out.mono ?_; rintro e w3 ⟨y, hy, rfl, hs3, ho3⟩; have hy1 : 0 ≤ y ∧ y ≤ 8 := (by simp only [List.mem_cons, List.not_mem_nil, or_false] at hy; omega); have r3 := r0.offD ho3 hgo; have HO3 := Lib.hid (HRB.out.trans ho3); have HS3 := Lib.hid hs3; clear hy ho3 hs3 r0) | fail)
      obtain ⟨hy0, hy8⟩ := hy1
      go_loopw [5, 6] (fun v i wr => ∃ (k : Int) (xs : List Int), i = .int .i64 k ∧ 0 ≤ k ∧ (xs.length : Int) + k = y ∧ OwnI wo.heap.size wr v xs ∧ SrcAt wr g (m + 40 + 300 * xss.length + 25 * xs.length) ∧ Off (· = g) wo wr) (fun _ i _ => (intOf i).toNat)
      case atStart => exact ⟨y, [], rfl, hy0, by simp, r3, HS3.out.mono (by simp; omega), HO3.out⟩
      case round =>
        obtain ⟨k, xs, rfl, hk, hkl, hrow, hs, hor⟩ := hrel
        have HOR := Lib.hid hor
        have hz0 : wo.heap.size ≤ wr.heap.size := hor.size
        clear r3 HS3 HO3 HRB hor A1
        obtain ⟨wi, rfl⟩ : ∃ wi : World, wi = wr := ⟨_, rfl⟩
        by_cases hkt : 0 < k
        · have hl5 : xs.length < 17592186044415 := by omega
          go_wp2_with fail
          refine (l01Draw_any wi hs (by omega)).mono ?_
          rintro e w2 ⟨z, hz, rfl, hs2, ho2⟩
          have hrow2 := hrow.offD ho2 hgo
          have HO2 := Lib.hid (HOR.out.trans ho2)
          have hz2 : wo.heap.size ≤ w2.heap.size := HO2.out.size
          clear hrow hs ho2 hz
          go_wp2_with (first | (at_builtin; refine wpList_append_one rfl _ _ rfl rfl hrow2 rfl (Below.refl wo.heap.size w2) hl5 hz2 (Nat.le_refl _) ?_; intro v' w4 hown4 hb4 hz4 hk4) | fail)
          have hs4 := hs2.stay hgo (fun k h1 _ => hb4.block k h1)
          have HO4 := HO2.out.afterD hb4
          go_roundw
          case rel => exact ⟨k - 1, xs ++ [z], by go_num, by omega, by simp; omega, hown4, hs4.mono (by simp; omega), HO4⟩
          case measure => simp [intOf] <;> omega
        · obtain rfl : k = 0 := by omega
          have hown := HOW.out.keeps (w' := wi) fun k h1 h2 => HOR.out.block k h2 (by show ¬ k = g; omega)
          have hgw : g < w.heap.size := hg
          obtain ⟨qv, cv, rfl, -⟩ := hrow.rd
          have hrow2 := hrow.mono hB
          have hnew : ∀ x, (Value.slice qv xs.length cv).ownBlock = some x → ¬ Blk L x := fun x hx hbk => by have := (hrow.lt hx).1; have := (HOW.out.2.1.blk hbk).2.1; omega
          have HNEW := Lib.hid hnew
          have HOf := Lib.hid (HO.out.trans HOR.out)
          have hsz : w.heap.size ≤ wi.heap.size := HOf.out.size
          have hlen : L.length < 1099511627776 := by have := hown.2.1.1; omega
          have hone := hrow.oneCell
          have hxs8 : xs.length ≤ 8 := by omega
          have HR2 : Hid (∀ r ∈ xss ++ [xs], r.length ≤ 8) := fun r hr => by
            rcases List.mem_append.1 hr with h1 | h1
            · exact HRS.out r h1
            · rw [List.mem_singleton.1 h1]; exact hxs8
          clear hnew hrow
          go_wp2_with (first | (at_builtin; refine wpList_append_val rfl _ _ rfl 24 (.slice none 0 0) Tryz.underlying27 infoII rfl (by omega) rfl hown.1 rfl hone (Below.refl w.heap.size wi) hlen hsz (Nat.le_refl _) ?_; intro v' w1 hown1 hbel1 _ hk1) | fail)
          have hfin := hown.snoc hrow2 HNEW.out hown1 hk1
          have HF := Lib.hid hfin
          have hs5 := hs.stay hg (fun k h1 _ => hbel1.block k h1)
          have HO5 := Lib.hid (HOf.out.afterD hbel1)
          clear hfin hk1 hown1 hown
          go_roundw
          case rel => exact ⟨j - 1, _, _, by go_num, by omega, by simp; omega, HR2.out, HF.out, hs5.mono (by simp; omega), HO5.out⟩
          case measure => simp [intOf] <;> omega
    · obtain rfl : j = 0 := by omega
      go_wp2_with fail
      go_ret
      exact ⟨_, xss, L, rfl, by omega, by omega, HRS.out, HOW.out, hs.mono (by omega), HO.out⟩
theorem l06DrawA_any {g m : Nat} (kind nt : Int) (w : World) (h : SrcAt w g m) (hn : nt ≤ 1000) (hm : m + 100 ≤ 1099511627776) :
    Calls Tryz.prog 101 #[.pointer (some ⟨g, 0, none⟩), .int .i64 kind, .int .i64 nt] w (Draws w g (m + 40) fun _ => True) := by
  have hg := h.lt
  by_cases k1 : kind = 1
  · subst k1
    go_enter Tryz.func101, Tryz.ntmps101
    go_wp2_with fail
    refine (pick_any 2 w h (by omega) (by omega)).mono ?_
    rintro e w1 ⟨x, hx, rfl, hs1, ho1⟩
    go_wp2_with fail
    go_ret
    exact ⟨_, trivial, rfl, hs1.mono (by omega), ho1⟩
  by_cases k6 : kind = 6
  · subst k6
    go_enter Tryz.func101, Tryz.ntmps101
    go_wp2_with fail
    refine (pick_any 4 w h (by omega) (by omega)).mono ?_
    rintro e w1 ⟨x, hx, rfl, hs1, ho1⟩
    go_wp2_with fail
    go_ret
    exact ⟨_, trivial, rfl, hs1.mono (by omega), ho1⟩
  by_cases k10 : kind = 10
  · subst k10
    have A1 := Lib.hid (amongLit_any [1, 2, 0, 16, 31] w h (by simp) (by simp) (by omega))
    clear h
    go_enter Tryz.func101, Tryz.ntmps101
    go_wp2_with (first | (go_at_call 63; refine A1.out.mono ?_; rintro e w3 ⟨y, hy, rfl, hs3, ho3⟩; clear hy) | fail)
    go_ret
    exact ⟨_, trivial, rfl, hs3.mono (by omega), ho3⟩
  by_cases k11 : kind = 11
  · subst k11
    have A1 := Lib.hid (amongLit_any [10, 0, 100, 2147483647] w h (by simp) (by simp) (by omega))
    clear h
    go_enter Tryz.func101, Tryz.ntmps101
    go_wp2_with (first | (go_at_call 63; refine A1.out.mono ?_; rintro e w3 ⟨y, hy, rfl, hs3, ho3⟩; clear hy) | fail)
    go_ret
    exact ⟨_, trivial, rfl, hs3.mono (by omega), ho3⟩
  by_cases k13 : kind = 13
  · subst k13
    go_enter Tryz.func101, Tryz.ntmps101
    go_wp2_with fail
    refine (pick_any nt w h (by omega) (by omega)).mono ?_
    rintro e w1 ⟨x, hx, rfl, hs1, ho1⟩
    go_wp2_with fail
    go_ret
    exact ⟨_, trivial, rfl, hs1.mono (by omega), ho1⟩
  have q1 : (kind == 1) = false := by rw [beq_eq_false_iff_ne]; exact k1
  have q6 : (kind == 6) = false := by rw [beq_eq_false_iff_ne]; exact k6
  have q10 : (kind == 10) = false := by rw [beq_eq_false_iff_ne]; exact k10
  have q11 : (kind == 11) = false := by rw [beq_eq_false_iff_ne]; exact k11
  have q13 : (kind == 13) = false := by rw [beq_eq_false_iff_ne]; exact k13
  go_enter Tryz.func101, Tryz.ntmps101
  go_wp2_with fail
  refine (l06HasA_any kind w).mono ?_
  rintro e w1 ⟨rfl, hb1⟩
  generalize hasAB kind = b
  have hs1 := h.below hb1
  have HO1 := Lib.hid (Off.of_below (· = g) hb1)
  clear h hb1
  cases b
  · go_wp2_with fail
    go_ret
    exact ⟨_, trivial, rfl, hs1.mono (by omega), HO1.out⟩
  · go_wp2_with fail
    refine (l01Draw_any w1 hs1 (by omega)).mono ?_
    rintro e w2 ⟨z, hz, rfl, hs2, ho2⟩
    go_wp2_with fail
    go_ret
    exact ⟨_, trivial, rfl, hs2.mono (by omega), HO1.out.trans ho2⟩
end Go.Proofs.YtdcacmmglkcliaaGreatDoor

namespace Go.Proofs.YtdcacmmglkcliaaGreatDoor
open Go.ChangeShapes Go.WideShapes Go.ChangeAt Go.RowKit
set_option linter.unusedVariables false
set_option linter.unusedSimpArgs false

theorem Off.setD {S : Nat → Prop} {w0 w : World} {s i : Nat} (h : Off S w0 w) (hs : w0.heap.size ≤ s) (v : Value) : Off S w0 (w.setCell ⟨s, i, none⟩ v) :=
  ⟨h.os, h.tape, h.output, by simpa [World.setCell] using h.size, fun k hk hn => (Below.heap_setCell _ _ _ _ (show k ≠ s by omega)).trans (h.block k hk hn)⟩
/-- while a node is drawn: the result's box, the node's box, its inputs, the source -/
structure NB (g m : Nat) (w0 w : World) (r s : Nat) (k a b : Int) (u : Value) (f : List Int) : Prop where
  res : Box w r [.int .i64 0, .int .i64 0, .int .i64 0, .slice none 0 0] 26
  box : Box w s [.int .i64 k, .int .i64 a, .int .i64 b, u] 26
  own : OwnI w0.heap.size w u f
  off : Off (· = g) w0 w
  src : SrcAt w g m
  hr : w0.heap.size ≤ r
  hs : w0.heap.size ≤ s
  ne : r ≠ s
  hg : g < w0.heap.size
section
variable {g m m' : Nat} {w0 w : World} {r s : Nat} {k a b : Int} {u : Value} {f : List Int}
theorem NB.step {w' : World} (h : NB g m w0 w r s k a b u f) (ho : Off (· = g) w w') (hs : SrcAt w' g m') : NB g m' w0 w' r s k a b u f :=
  ⟨h.res.off ho (by have := h.hr; have := h.hg; show ¬ r = g; omega), h.box.off ho (by have := h.hs; have := h.hg; show ¬ s = g; omega), h.own.offD ho h.hg, h.off.trans ho, hs, h.hr, h.hs, h.ne, h.hg⟩
theorem NB.below {w' : World} (h : NB g m w0 w r s k a b u f) (hb : Below w.heap.size w w') : NB g m w0 w' r s k a b u f := h.step (Off.of_below _ hb) (h.src.below hb)
theorem NB.mono (h : NB g m w0 w r s k a b u f) (hm : m ≤ m') : NB g m' w0 w r s k a b u f := ⟨h.res, h.box, h.own, h.off, h.src.mono hm, h.hr, h.hs, h.ne, h.hg⟩
theorem NB.putBox (h : NB g m w0 w r s k a b u f) (i : Nat) (v : Value) : Box (w.setCell ⟨s, i, none⟩ v) r [.int .i64 0, .int .i64 0, .int .i64 0, .slice none 0 0] 26 ∧ OwnI w0.heap.size (w.setCell ⟨s, i, none⟩ v) u f ∧ Off (· = g) w0 (w.setCell ⟨s, i, none⟩ v) ∧ SrcAt (w.setCell ⟨s, i, none⟩ v) g m := by
  have n1 := h.own.typ.notBox h.box (by decide)
  exact ⟨h.res.other (by show r ≠ s; exact h.ne) _, h.own.keep fun j hj => Below.heap_setCell _ _ _ _ (fun e => n1 (by rw [hj, e])), h.off.setD h.hs _, h.src.stay (B := w0.heap.size) h.hg fun j h1 _ => Below.heap_setCell _ _ _ _ (by show j ≠ s; have := h.hs; omega)⟩
theorem NB.setK (h : NB g m w0 w r s k a b u f) (n : Int) : NB g m w0 (w.setCell ⟨s, 0, none⟩ (.int .i64 n)) r s n a b u f := by
  obtain ⟨h1, h2, h3, h4⟩ := h.putBox 0 (.int .i64 n)
  exact ⟨h1, by simpa using h.box.set 0 (.int .i64 n), h2, h3, h4, h.hr, h.hs, h.ne, h.hg⟩
theorem NB.setA (h : NB g m w0 w r s k a b u f) (n : Int) : NB g m w0 (w.setCell ⟨s, 1, none⟩ (.int .i64 n)) r s k n b u f := by
  obtain ⟨h1, h2, h3, h4⟩ := h.putBox 1 (.int .i64 n)
  exact ⟨h1, by simpa using h.box.set 1 (.int .i64 n), h2, h3, h4, h.hr, h.hs, h.ne, h.hg⟩
theorem NB.setB (h : NB g m w0 w r s k a b u f) (n : Int) : NB g m w0 (w.setCell ⟨s, 2, none⟩ (.int .i64 n)) r s k a n u f := by
  obtain ⟨h1, h2, h3, h4⟩ := h.putBox 2 (.int .i64 n)
  exact ⟨h1, by simpa using h.box.set 2 (.int .i64 n), h2, h3, h4, h.hr, h.hs, h.ne, h.hg⟩
theorem NB.grow (h : NB g m w0 w r s k a b u f) {w' : World} {u' : Value} {f' : List Int} (hu : OwnI w0.heap.size w' u' f') (hk : Off (fun j => u.ownBlock = Option.some j) w w') :
    (w'.cell? ⟨s, 3, none⟩ = Option.some u ∧ w'.frozen? ⟨s, 3, none⟩ = false) ∧ NB g m w0 (w'.setCell ⟨s, 3, none⟩ u') r s k a b u' f' := by
  have n1 := h.own.typ.notBox h.box (by decide)
  have n3 := h.own.typ.notBox h.res (by decide)
  have bx := h.box.off hk n1
  have rs := h.res.off hk n3
  have n1' := hu.typ.notBox bx (by decide)
  have lo : ∀ j, j < w0.heap.size → ¬ u.ownBlock = Option.some j := fun j hj e => by have := (h.own.lt e).1; omega
  have of : Off (· = g) w0 w' := ⟨hk.os.trans h.off.os, hk.tape.trans h.off.tape, hk.output.trans h.off.output, Nat.le_trans h.off.size hk.size, fun j hj hn => (hk.block j (Nat.lt_of_lt_of_le hj h.off.size) (lo j hj)).trans (h.off.block j hj hn)⟩
  have sr := h.src.stay (w' := w') (B := w0.heap.size) h.hg fun j h1 h2 => hk.block j h2 (lo j h1)
  exact ⟨⟨bx.cell 3 rfl, bx.frozen 3⟩, rs.other (by show r ≠ s; exact h.ne) _, by simpa using bx.set 3 u', hu.keep fun j hj => Below.heap_setCell _ _ _ _ (fun e => n1' (by rw [hj, e])), of.setD h.hs _, sr.stay (B := w0.heap.size) h.hg fun j h1 _ => Below.heap_setCell _ _ _ _ (by show j ≠ s; have := h.hs; omega), h.hr, h.hs, h.ne, h.hg⟩
theorem NB.exit (h : NB g m w0 w r s k a b u f) (x0 x1 x2 x3 : Value) :
    ∃ W', W' = (((w.setCell ⟨r, 0, none⟩ x0).setCell ⟨r, 1, none⟩ x1).setCell ⟨r, 2, none⟩ x2).setCell ⟨r, 3, none⟩ x3 ∧ Box W' r [x0, x1, x2, x3] 26 ∧ Off (· = g) w0 W' ∧ SrcAt W' g m ∧ OwnI w0.heap.size W' u f := by
  have n3 := h.own.typ.notBox h.res (by decide)
  have b3 := (((h.res.set 0 x0).set 1 x1).set 2 x2).set 3 x3
  have ho := (((h.off.setD (i := 0) h.hr x0).setD (i := 1) h.hr x1).setD (i := 2) h.hr x2).setD (i := 3) h.hr x3
  have hq : ∀ j, j ≠ r → ((((w.setCell ⟨r, 0, none⟩ x0).setCell ⟨r, 1, none⟩ x1).setCell ⟨r, 2, none⟩ x2).setCell ⟨r, 3, none⟩ x3).heap[j]? = w.heap[j]? := fun j hne =>
    (Below.heap_setCell _ _ _ _ hne).trans ((Below.heap_setCell _ _ _ _ hne).trans ((Below.heap_setCell _ _ _ _ hne).trans (Below.heap_setCell _ _ _ _ hne)))
  exact ⟨_, rfl, by simpa using b3, ho, h.src.stay (B := w0.heap.size) h.hg fun j h1 _ => hq j (by have := h.hr; omega), h.own.keep fun j hj => hq j fun e => n3 (by rw [hj, e])⟩
end
theorem belowDrewD (w : World) : Below w.heap.size w w.drew := ⟨rfl, rfl, rfl, Nat.le_refl _, fun _ _ => rfl⟩
/-- a drawn node -/
def DrewN (g m n : Nat) (w : World) (e : Ending) (w' : World) : Prop := ∃ (x : NodeD) (u : Value), e = .returned (.agg #[.int .i64 x.kind, .int .i64 x.a, .int .i64 x.b, u]) ∧ x.src.length ≤ n ∧ OwnI w.heap.size w' u x.src ∧ SrcAt w' g m ∧ Off (· = g) w w'
set_option maxHeartbeats 8000000 in
set_option maxRecDepth 100000 in
theorem l06Draw_any {g m : Nat} (kind nt : Int) (w : World) (h : SrcAt w g m) (hk : 1 ≤ kind ∧ kind ≤ 17) (hn : nt ≤ 1000) (hm : m + 1000 ≤ 1099511627776) :
    Calls Tryz.prog 64 #[.pointer (some ⟨g, 0, none⟩), .int .i64 kind, .int .i64 nt, .int .i64 6] w (DrewN g (m + 200) 3 w) := by
  have hg := h.lt
  obtain ⟨r, hr⟩ : ∃ r, r = w.heap.size := ⟨_, rfl⟩
  obtain ⟨E0, hE0⟩ : ∃ E, E = w.alloc (.cells #[.int .i64 0, .int .i64 0, .int .i64 0, .slice none 0 0] 26) := ⟨_, rfl⟩
  have hB0 : Below w.heap.size w E0 := by rw [hE0]; exact (Below.refl _ _).alloc (Nat.le_refl _) _
  have q0 : Box E0 r [.int .i64 0, .int .i64 0, .int .i64 0, .slice none 0 0] 26 := by rw [hE0, hr]; exact Box.newAt w [.int .i64 0, .int .i64 0, .int .i64 0, .slice none 0 0] _ rfl
  have DA := Lib.hid (l06DrawA_any kind nt E0 (h.below hB0) hn (by omega))
  obtain ⟨ar, har⟩ : ∃ ar, ar = kAr (kind - 1).toNat := ⟨_, rfl⟩
  have ha0 : 0 ≤ ar ∧ ar ≤ 3 := by
    have := kinds_of (k := kind) (by simp [inB]; omega)
    rw [har]
    rcases this with rfl | rfl | rfl | rfl | rfl | rfl | rfl | rfl | rfl | rfl | rfl | rfl | rfl | rfl | rfl | rfl | rfl
    all_goals decide
  have AR : Hid (∀ W, Calls Tryz.prog 67 #[.int .i64 kind] W fun e w' => e = .returned (.int .i64 ar) ∧ Below W.heap.size W w') := fun W => by
    have := l06Arity_any (kind - 1).toNat (by omega) W
    rw [show (((kind - 1).toNat : Nat) : Int) + 1 = kind by omega, ← har] at this
    exact this
  obtain ⟨ha1, ha2⟩ := ha0
  have HE0 := Lib.hid hE0
  have HRR := Lib.hid hr
  have HB0 := Lib.hid hB0
  have HQ0 := Lib.hid q0
  have hrw : w.heap.size ≤ r := by omega
  have FIN : Hid (∀ W' a b u f, f.length ≤ 3 → OwnI w.heap.size W' u f → SrcAt W' g (m + 200) → Off (· = g) w W' → DrewN g (m + 200) 3 w (.returned (.agg #[.int .i64 kind, .int .i64 a, .int .i64 b, u])) W') := fun W' a b u f hf ho hs hof => ⟨⟨kind, a, b, f⟩, u, rfl, hf, ho, hs, hof⟩
  generalize DrewN g (m + 200) 3 w = RR at *
  clear h hE0 hr hB0 q0 har
  go_enter Tryz.func64, Tryz.ntmps64
  go_upto_region 1 with fail
  rw [← HE0.out, ← HRR.out]
  go_upto_region 2 with (first | (go_at_call 101; refine DA.out.mono ?_; rintro e w1 ⟨a, -, rfl, hs1, ho1⟩) | fail)
  obtain ⟨s, hs⟩ : ∃ s, s = w1.heap.size + 1 := ⟨_, rfl⟩
  obtain ⟨e1, he1⟩ : ∃ s, s = w1.heap.size := ⟨_, rfl⟩
  obtain ⟨F, hF⟩ : ∃ F, F = (w1.alloc (.cells #[] 2)).alloc (.cells #[.int .i64 kind, .int .i64 a, .int .i64 0, .slice (some ⟨w1.heap.size, 0, none⟩) 0 0] 26) := ⟨_, rfl⟩
  have hb1 : Below w1.heap.size w1 (w1.alloc (.cells #[] 2)) := (Below.refl _ _).alloc (Nat.le_refl _) _
  have hb2 : Below (w1.alloc (.cells #[] 2)).heap.size (w1.alloc (.cells #[] 2)) F := by rw [hF]; exact (Below.refl _ _).alloc (Nat.le_refl _) _
  have ow0 : OwnI w.heap.size (w1.alloc (.cells #[] 2)) (.slice (some ⟨w1.heap.size, 0, none⟩) 0 0) [] := OwnI.lit (B := w.heap.size) w1 [] (Nat.le_trans HB0.out.size ho1.size) (by simp [maxLen])
  have HN0 : NB g (m + 40) w F r s kind a 0 (.slice (some ⟨e1, 0, none⟩) 0 0) [] := by
    have hof := (Off.of_below (· = g) HB0.out).trans ho1
    refine ⟨((HQ0.out.off ho1 (by show ¬ r = g; omega)).below hb1).below hb2, ?_, ?_, (hof.afterD (hb1.mono hof.size)).afterD (hb2.mono (Nat.le_trans hof.size hb1.size)), (hs1.below hb1).below hb2, hrw, ?_, ?_, hg⟩
    · rw [hF, hs, he1]; exact Box.newAt _ [.int .i64 kind, .int .i64 a, .int .i64 0, .slice (some ⟨w1.heap.size, 0, none⟩) 0 0] _ (by simp)
    · rw [he1]; exact ow0.below hb2
    · have := hof.size; omega
    · have := HQ0.out.lt; have := ho1.size; omega
  rw [← hF, ← hs, ← he1]
  clear hF hb1 hb2 ow0 he1 hs ho1 hs1
  go_wp2_with (first | (go_at_call 67; refine (AR.out _).mono ?_; rintro e w2 ⟨rfl, hb2⟩; have HN1 := Lib.hid (HN0.below hb2); clear hb2 HN0) | fail)
  go_loopw [10] (fun i wr => ∃ (j : Int) (u : Value) (f : List Int), i = .int .i64 j ∧ 0 ≤ j ∧ (f.length : Int) + j = ar ∧ NB g (m + 40 + 4 * f.length) w wr r s kind a 0 u f) (fun i _ => (intOf i).toNat)
  case atStart => exact ⟨ar, _, [], rfl, ha1, by simp, HN1.out.mono (by simp)⟩
  case round =>
    obtain ⟨j, u, f, rfl, hj, hfl, hN⟩ := hrel
    obtain ⟨wi, rfl⟩ : ∃ wi : World, wi = wr := ⟨_, rfl⟩
    obtain ⟨q, c, rfl, -⟩ := hN.own.rd
    by_cases hlt : 0 < j
    · have KP : Hid (∀ W, Below wi.heap.size wi W → Calls Tryz.prog 29 #[.pointer (some ⟨g, 0, none⟩), .int .i64 6] W fun e W2 => ∃ y, e = .returned (.int .i64 y) ∧ NB g (m + 40 + 4 * f.length + 2) w W2 r s kind a 0 (.slice q f.length c) f) := fun W hW => (pick_any 6 W (hN.src.below hW) (by omega) (by omega)).mono fun e W2 ⟨y, _, he, hs2, ho2⟩ => ⟨y, he, (hN.below hW).step ho2 hs2⟩
      have hcur := belowDrewD wi
      have t3 := hN.box.cell 3 rfl
      have lt3 := hN.box.lt
      have hlen : f.length < 17592186044415 := by omega
      clear HN1
      go_wp2_with fail
      go_region_law (first | (go_simp; go_at_call 29; refine (KP.out _ hcur).mono ?_; rintro e W2 ⟨y, rfl, hN2⟩; have t3 := hN2.box.cell 3 rfl; have lt3 := hN2.box.lt; have hown2 := hN2.own; have hz2 : w.heap.size ≤ W2.heap.size := hN2.off.size) | ((first | refine step_append_drew rfl _ _ rfl rfl hown2 rfl hlen hz2 ?_ | refine step_append_one rfl _ _ rfl rfl hown2 rfl hlen hz2 ?_); intro q2 k2 w2 ho2 o1 o2 o3 hs2 hk2; have GR := hN2.grow ho2 ⟨o1.symm, o2.symm, o3.symm, hs2, fun k hk hne => hk2 k hk hne⟩; have c3 := GR.1.1; have f3 := GR.1.2) | fail)
      all_goals
        have G := Lib.hid GR.2
        clear GR c3 f3 t3 hN2 ho2
        go_wp2_with fail
        go_roundw
        case rel => exact ⟨j - 1, _, f ++ [y], by go_num, by omega, by simp; omega, G.out.mono (by simp; omega)⟩
        case measure => simp [intOf] <;> omega
    · obtain rfl : j = 0 := by omega
      have hf3 : f.length ≤ 3 := by omega
      by_cases k17 : kind = 17
      · subst k17
        clear HN1
        go_wp2_with fail
        refine (pick_any 3 _ hN.src (by omega) (by omega)).mono ?_
        rintro e w3 ⟨y, hy, rfl, hs3, ho3⟩
        have hy1 := (pickP_pos hy (by omega)).1
        have hy2 := (pickP_pos hy (by omega)).2
        have hN3 := hN.step ho3 hs3
        have c2 := hN3.box.cell 2 rfl
        have g2 := hN3.box.frozen 2
        clear hN hy hs3 ho3
        go_upto_region 8 with fail
        clear c2 g2
        have R1 := hN3.setB (1 + y)
        have u0 := R1.res.cell 0 rfl
        have u1 := R1.res.cell 1 rfl
        have u2 := R1.res.cell 2 rfl
        have u3 := R1.res.cell 3 rfl
        have f0 := R1.res.frozen 0
        have f1 := R1.res.frozen 1
        have f2 := R1.res.frozen 2
        have f3 := R1.res.frozen 3
        have x0 := R1.box.cell 0 rfl
        have x1 := R1.box.cell 1 rfl
        have x2 := R1.box.cell 2 rfl
        have x3 := R1.box.cell 3 rfl
        obtain ⟨W', hW, bx, hof, hsr, how⟩ := R1.exit (.int .i64 17) (.int .i64 a) (.int .i64 (1 + y)) (.slice q f.length c)
        have k0' := bx.cell 0 rfl
        have k1' := bx.cell 1 rfl
        have k2' := bx.cell 2 rfl
        have k3' := bx.cell 3 rfl
        have FN := Lib.hid (FIN.out W' a (1 + y) _ f hf3 how (hsr.mono (by omega)) hof)
        have HWW := Lib.hid hW
        clear hW bx hof hsr how R1 hN3
        go_wp2_with fail
        rw [← HWW.out]
        refine bodyPost_ret (v := .agg #[.int .i64 17, .int .i64 a, .int .i64 (1 + y), .slice q f.length c]) (by simp [results, Tryz.results64, go_sem, *]) rfl ?_
        exact FN.out
      · have q17 : (kind == 17) = false := by rw [beq_eq_false_iff_ne]; exact k17
        have R1 := hN
        have u0 := R1.res.cell 0 rfl
        have u1 := R1.res.cell 1 rfl
        have u2 := R1.res.cell 2 rfl
        have u3 := R1.res.cell 3 rfl
        have f0 := R1.res.frozen 0
        have f1 := R1.res.frozen 1
        have f2 := R1.res.frozen 2
        have f3 := R1.res.frozen 3
        have x0 := R1.box.cell 0 rfl
        have x1 := R1.box.cell 1 rfl
        have x2 := R1.box.cell 2 rfl
        have x3 := R1.box.cell 3 rfl
        obtain ⟨W', hW, bx, hof, hsr, how⟩ := R1.exit (.int .i64 kind) (.int .i64 a) (.int .i64 0) (.slice q f.length c)
        have k0' := bx.cell 0 rfl
        have k1' := bx.cell 1 rfl
        have k2' := bx.cell 2 rfl
        have k3' := bx.cell 3 rfl
        have FN := Lib.hid (FIN.out W' a 0 _ f hf3 how (hsr.mono (by omega)) hof)
        have HWW := Lib.hid hW
        clear hW bx hof hsr how R1 hN HN1
        go_wp2_with fail
        rw [← HWW.out]
        refine bodyPost_ret (v := .agg #[.int .i64 kind, .int .i64 a, .int .i64 0, .slice q f.length c]) (by simp [results, Tryz.results64, go_sem, *]) rfl ?_
        exact FN.out
end Go.Proofs.YtdcacmmglkcliaaGreatDoor

namespace Go.Proofs.YtdcacmmglkcliaaGreatDoor
open Go.ChangeShapes Go.WideShapes Go.ChangeAt Go.RowKit
set_option linter.unusedVariables false
set_option linter.unusedSimpArgs false

set_option maxHeartbeats 8000000 in
set_option maxRecDepth 100000 in
theorem l06Bent_any {g m : Nat} (nt : Int) (w : World) (h : SrcAt w g m) (hn : nt ≤ 1000) (hm : m + 2000 ≤ 1099511627776) :
    Calls Tryz.prog 24 #[.pointer (some ⟨g, 0, none⟩), .int .i64 nt] w (DrewN g (m + 400) 4 w) := by
  have hg := h.lt
  obtain ⟨r, hr⟩ : ∃ r, r = w.heap.size := ⟨_, rfl⟩
  obtain ⟨E0, hE0⟩ : ∃ E, E = w.alloc (.cells #[.int .i64 0, .int .i64 0, .int .i64 0, .slice none 0 0] 26) := ⟨_, rfl⟩
  have hB0 : Below w.heap.size w E0 := by rw [hE0]; exact (Below.refl _ _).alloc (Nat.le_refl _) _
  have q0 : Box E0 r [.int .i64 0, .int .i64 0, .int .i64 0, .slice none 0 0] 26 := by rw [hE0, hr]; exact Box.newAt w [.int .i64 0, .int .i64 0, .int .i64 0, .slice none 0 0] _ rfl
  have hs0 := h.below hB0
  have HE0 := Lib.hid hE0
  have HRR := Lib.hid hr
  have HB0 := Lib.hid hB0
  have HQ0 := Lib.hid q0
  have hrw : w.heap.size ≤ r := by omega
  have FIN : Hid (∀ W' k a b u f, f.length ≤ 4 → OwnI w.heap.size W' u f → SrcAt W' g (m + 400) → Off (· = g) w W' → DrewN g (m + 400) 4 w (.returned (.agg #[.int .i64 k, .int .i64 a, .int .i64 b, u])) W') := fun W' k a b u f hf ho hs hof => ⟨⟨k, a, b, f⟩, u, rfl, hf, ho, hs, hof⟩
  generalize DrewN g (m + 400) 4 w = RR at *
  clear h hE0 hr hB0 q0
  go_enter Tryz.func24, Tryz.ntmps24
  go_upto_region 1 with fail
  rw [← HE0.out, ← HRR.out]
  go_wp2_with fail
  refine (pick_any 17 _ hs0 (by omega) (by omega)).mono ?_
  rintro e w1 ⟨x, hx, rfl, hs1, ho1⟩
  have hx1 := (pickP_pos hx (by omega)).1
  have hx2 := (pickP_pos hx (by omega)).2
  have DW := Lib.hid (l06Draw_any (1 + x) nt w1 hs1 ⟨by omega, by omega⟩ hn (by omega))
  have HO1 := Lib.hid ho1
  clear hx hs0 hs1 ho1
  go_upto_region 2 with (first | (go_at_call 64; refine DW.out.mono ?_; rintro e w2 ⟨⟨kk, aa, bb, f⟩, u, rfl, hsl, how, hs2, ho2⟩; simp only at hsl how; obtain ⟨q, c, rfl, -⟩ := how.rd) | fail)
  obtain ⟨s, hs⟩ : ∃ s, s = w2.heap.size := ⟨_, rfl⟩
  obtain ⟨F, hF⟩ : ∃ F, F = w2.alloc (.cells #[.int .i64 kk, .int .i64 aa, .int .i64 bb, .slice q f.length c] 26) := ⟨_, rfl⟩
  have hb2 : Below w2.heap.size w2 F := by rw [hF]; exact (Below.refl _ _).alloc (Nat.le_refl _) _
  have HN0 : NB g (m + 220) w F r s kk aa bb (.slice q f.length c) f := by
    have ho12 := HO1.out.trans ho2
    have hof := (Off.of_below (· = g) HB0.out).trans ho12
    have h01 : w.heap.size ≤ w1.heap.size := Nat.le_trans HB0.out.size HO1.out.size
    refine ⟨(HQ0.out.off ho12 (by show ¬ r = g; omega)).below hb2, ?_, (how.mono h01).below hb2, hof.afterD (hb2.mono hof.size), (hs2.below hb2).mono (by omega), hrw, ?_, ?_, hg⟩
    · rw [hF, hs]; exact Box.newAt _ [.int .i64 kk, .int .i64 aa, .int .i64 bb, .slice q f.length c] _ rfl
    · have := hof.size; omega
    · have := HQ0.out.lt; have := ho12.size; omega
  rw [← hF, ← hs]
  clear hF hb2 hs hs2 ho2 how DW HO1
  go_wp2_with fail
  refine (pick_any 16 _ HN0.src (by omega) (by omega)).mono ?_
  rintro e w3 ⟨y, -, rfl, hs3, ho3⟩
  have hN3 := HN0.step ho3 hs3
  clear HN0 hs3 ho3
  by_cases y0 : y = 0
  · subst y0
    have A1 := Lib.hid (amongLit_any [0, 18, -1] w3 hN3.src (by simp) (by simp) (by omega))
    have HN3 := Lib.hid hN3
    clear hN3
    go_upto_region 11 with (first | (go_at_call 63; refine A1.out.mono ?_; rintro e w4 ⟨z, hz, rfl, hs4, ho4⟩; have hN4 := HN3.out.step ho4 hs4; have c2 := hN4.box.cell 0 rfl; have g2 := hN4.box.frozen 0; clear hz hs4 ho4) | fail)
    clear c2 g2
    have R1 := hN4.setK z
    have u0 := R1.res.cell 0 rfl
    have u1 := R1.res.cell 1 rfl
    have u2 := R1.res.cell 2 rfl
    have u3 := R1.res.cell 3 rfl
    have f0 := R1.res.frozen 0
    have f1 := R1.res.frozen 1
    have f2 := R1.res.frozen 2
    have f3 := R1.res.frozen 3
    have x0 := R1.box.cell 0 rfl
    have x1 := R1.box.cell 1 rfl
    have x2 := R1.box.cell 2 rfl
    have x3 := R1.box.cell 3 rfl
    obtain ⟨W', hW, bx, hof, hsr, how⟩ := R1.exit (.int .i64 (z)) (.int .i64 (aa)) (.int .i64 (bb)) (Value.slice q f.length c)
    have k0' := bx.cell 0 rfl
    have k1' := bx.cell 1 rfl
    have k2' := bx.cell 2 rfl
    have k3' := bx.cell 3 rfl
    have FN := Lib.hid (FIN.out W' (z) (aa) (bb) _ _ (by omega) how (hsr.mono (by omega)) hof)
    have HWW := Lib.hid hW
    clear hW bx hof hsr how R1
    go_wp2_with fail
    rw [← HWW.out]
    refine bodyPost_ret (v := .agg #[.int .i64 (z), .int .i64 (aa), .int .i64 (bb), Value.slice q f.length c]) (by simp [results, Tryz.results24, go_sem, *]) rfl ?_
    exact FN.out
  have yn0 : (y == 0) = false := by rw [beq_eq_false_iff_ne]; exact y0
  by_cases y1 : y = 1
  · subst y1
    have A1 := Lib.hid (amongLit_any [2147483648, 17, 32, -1, 4] w3 hN3.src (by simp) (by simp) (by omega))
    have HN3 := Lib.hid hN3
    clear hN3
    go_upto_region 11 with (first | (go_at_call 63; refine A1.out.mono ?_; rintro e w4 ⟨z, hz, rfl, hs4, ho4⟩; have hN4 := HN3.out.step ho4 hs4; have c2 := hN4.box.cell 1 rfl; have g2 := hN4.box.frozen 1; clear hz hs4 ho4) | fail)
    clear c2 g2
    have R1 := hN4.setA z
    have u0 := R1.res.cell 0 rfl
    have u1 := R1.res.cell 1 rfl
    have u2 := R1.res.cell 2 rfl
    have u3 := R1.res.cell 3 rfl
    have f0 := R1.res.frozen 0
    have f1 := R1.res.frozen 1
    have f2 := R1.res.frozen 2
    have f3 := R1.res.frozen 3
    have x0 := R1.box.cell 0 rfl
    have x1 := R1.box.cell 1 rfl
    have x2 := R1.box.cell 2 rfl
    have x3 := R1.box.cell 3 rfl
    obtain ⟨W', hW, bx, hof, hsr, how⟩ := R1.exit (.int .i64 (kk)) (.int .i64 (z)) (.int .i64 (bb)) (Value.slice q f.length c)
    have k0' := bx.cell 0 rfl
    have k1' := bx.cell 1 rfl
    have k2' := bx.cell 2 rfl
    have k3' := bx.cell 3 rfl
    have FN := Lib.hid (FIN.out W' (kk) (z) (bb) _ _ (by omega) how (hsr.mono (by omega)) hof)
    have HWW := Lib.hid hW
    clear hW bx hof hsr how R1
    go_wp2_with fail
    rw [← HWW.out]
    refine bodyPost_ret (v := .agg #[.int .i64 (kk), .int .i64 (z), .int .i64 (bb), Value.slice q f.length c]) (by simp [results, Tryz.results24, go_sem, *]) rfl ?_
    exact FN.out
  have yn1 : (y == 1) = false := by rw [beq_eq_false_iff_ne]; exact y1
  by_cases y2 : y = 2
  · subst y2
    have A1 := Lib.hid (amongLit_any [0, 1, 16, 17] w3 hN3.src (by simp) (by simp) (by omega))
    have HN3 := Lib.hid hN3
    clear hN3
    go_upto_region 11 with (first | (go_at_call 63; refine A1.out.mono ?_; rintro e w4 ⟨z, hz, rfl, hs4, ho4⟩; have hN4 := HN3.out.step ho4 hs4; have c2 := hN4.box.cell 2 rfl; have g2 := hN4.box.frozen 2; clear hz hs4 ho4) | fail)
    clear c2 g2
    have R1 := hN4.setB z
    have u0 := R1.res.cell 0 rfl
    have u1 := R1.res.cell 1 rfl
    have u2 := R1.res.cell 2 rfl
    have u3 := R1.res.cell 3 rfl
    have f0 := R1.res.frozen 0
    have f1 := R1.res.frozen 1
    have f2 := R1.res.frozen 2
    have f3 := R1.res.frozen 3
    have x0 := R1.box.cell 0 rfl
    have x1 := R1.box.cell 1 rfl
    have x2 := R1.box.cell 2 rfl
    have x3 := R1.box.cell 3 rfl
    obtain ⟨W', hW, bx, hof, hsr, how⟩ := R1.exit (.int .i64 (kk)) (.int .i64 (aa)) (.int .i64 (z)) (Value.slice q f.length c)
    have k0' := bx.cell 0 rfl
    have k1' := bx.cell 1 rfl
    have k2' := bx.cell 2 rfl
    have k3' := bx.cell 3 rfl
    have FN := Lib.hid (FIN.out W' (kk) (aa) (z) _ _ (by omega) how (hsr.mono (by omega)) hof)
    have HWW := Lib.hid hW
    clear hW bx hof hsr how R1
    go_wp2_with fail
    rw [← HWW.out]
    refine bodyPost_ret (v := .agg #[.int .i64 (kk), .int .i64 (aa), .int .i64 (z), Value.slice q f.length c]) (by simp [results, Tryz.results24, go_sem, *]) rfl ?_
    exact FN.out
  have yn2 : (y == 2) = false := by rw [beq_eq_false_iff_ne]; exact y2
  by_cases y3 : y = 3
  · subst y3
    have hcur := belowDrewD w3
    have KA : Hid (∀ W, Below w3.heap.size w3 W → Calls Tryz.prog 63 #[.pointer (some ⟨g, 0, none⟩), .slice (some ⟨W.heap.size, 0, none⟩) 4 4] (W.alloc (.cells #[.int .i64 0, .int .i64 23, .int .i64 24, .int .i64 (-1)] 2)) fun e W2 => ∃ z, e = .returned (.int .i64 z) ∧ NB g (m + 220 + 4) w W2 r s kk aa bb (.slice q f.length c) f) := fun W hW => (amongLit_any [0, 23, 24, -1] W (hN3.src.below hW) (by simp) (by simp) (by omega)).mono fun e W2 ⟨z, _, he, hs4, ho4⟩ => ⟨z, he, ((hN3.below hW).step ho4 hs4).mono (by omega)⟩
    have t3 := hN3.box.cell 3 rfl
    have lt3 := hN3.box.lt
    have hlen : f.length < 17592186044415 := by omega
    go_wp2_with fail
    go_region_law (first | (go_simp; go_at_call 63; refine (KA.out _ hcur).mono ?_; rintro e W2 ⟨z, rfl, hN4⟩; have t3 := hN4.box.cell 3 rfl; have lt3 := hN4.box.lt; have hown2 := hN4.own; have hz2 : w.heap.size ≤ W2.heap.size := hN4.off.size) | ((first | refine step_append_drew rfl _ _ rfl rfl hown2 rfl hlen hz2 ?_ | refine step_append_one rfl _ _ rfl rfl hown2 rfl hlen hz2 ?_); intro q2 k2 w2 ho2 o1 o2 o3 hs2 hk2; have GR := hN4.grow ho2 ⟨o1.symm, o2.symm, o3.symm, hs2, fun k hk hne => hk2 k hk hne⟩; have c3 := GR.1.1; have f3 := GR.1.2) | fail)
    all_goals
      have G := Lib.hid GR.2
      clear GR c3 f3 t3 hN4 ho2 hN3 lt3 hown2
      go_upto_region 11 with fail
      have R1 := G.out
      have u0 := R1.res.cell 0 rfl
      have u1 := R1.res.cell 1 rfl
      have u2 := R1.res.cell 2 rfl
      have u3 := R1.res.cell 3 rfl
      have f0 := R1.res.frozen 0
      have f1 := R1.res.frozen 1
      have f2 := R1.res.frozen 2
      have f3 := R1.res.frozen 3
      have x0 := R1.box.cell 0 rfl
      have x1 := R1.box.cell 1 rfl
      have x2 := R1.box.cell 2 rfl
      have x3 := R1.box.cell 3 rfl
      obtain ⟨W', hW, bx, hof, hsr, how⟩ := R1.exit (.int .i64 (kk)) (.int .i64 (aa)) (.int .i64 (bb)) (Value.slice q2 (f.length + 1) k2)
      have k0' := bx.cell 0 rfl
      have k1' := bx.cell 1 rfl
      have k2' := bx.cell 2 rfl
      have k3' := bx.cell 3 rfl
      have FN := Lib.hid (FIN.out W' (kk) (aa) (bb) _ _ (by simp; omega) how (hsr.mono (by omega)) hof)
      have HWW := Lib.hid hW
      clear hW bx hof hsr how R1
      go_wp2_with fail
      rw [← HWW.out]
      refine bodyPost_ret (v := .agg #[.int .i64 (kk), .int .i64 (aa), .int .i64 (bb), Value.slice q2 (f.length + 1) k2]) (by simp [results, Tryz.results24, go_sem, *]) rfl ?_
      exact FN.out
  have yn3 : (y == 3) = false := by rw [beq_eq_false_iff_ne]; exact y3
  go_upto_region 11 with fail
  have R1 := hN3
  have u0 := R1.res.cell 0 rfl
  have u1 := R1.res.cell 1 rfl
  have u2 := R1.res.cell 2 rfl
  have u3 := R1.res.cell 3 rfl
  have f0 := R1.res.frozen 0
  have f1 := R1.res.frozen 1
  have f2 := R1.res.frozen 2
  have f3 := R1.res.frozen 3
  have x0 := R1.box.cell 0 rfl
  have x1 := R1.box.cell 1 rfl
  have x2 := R1.box.cell 2 rfl
  have x3 := R1.box.cell 3 rfl
  obtain ⟨W', hW, bx, hof, hsr, how⟩ := R1.exit (.int .i64 (kk)) (.int .i64 (aa)) (.int .i64 (bb)) (Value.slice q f.length c)
  have k0' := bx.cell 0 rfl
  have k1' := bx.cell 1 rfl
  have k2' := bx.cell 2 rfl
  have k3' := bx.cell 3 rfl
  have FN := Lib.hid (FIN.out W' (kk) (aa) (bb) _ _ (by omega) how (hsr.mono (by omega)) hof)
  have HWW := Lib.hid hW
  clear hW bx hof hsr how R1
  go_wp2_with fail
  rw [← HWW.out]
  refine bodyPost_ret (v := .agg #[.int .i64 (kk), .int .i64 (aa), .int .i64 (bb), Value.slice q f.length c]) (by simp [results, Tryz.results24, go_sem, *]) rfl ?_
  exact FN.out
end Go.Proofs.YtdcacmmglkcliaaGreatDoor

namespace Go.Proofs.YtdcacmmglkcliaaGreatDoor
open Go.ChangeShapes Go.WideShapes Go.ChangeAt Go.RowKit
set_option linter.unusedVariables false
set_option linter.unusedSimpArgs false

/-- two drawn lists, apart -/
structure DP (g m B : Nat) (W : World) (vx vs : Value) (xs ss : List Int) : Prop where
  x : OwnI B W vx xs
  s : OwnI B W vs ss
  ne : ∀ k, vx.ownBlock = some k → vs.ownBlock ≠ some k
  src : SrcAt W g m
  hg : g < B
section
variable {g m m' B : Nat} {W W' : World} {vx vs v' : Value} {xs ss xs' : List Int}
theorem DP.step (h : DP g m B W vx vs xs ss) (ho : Off (· = g) W W') (hs : SrcAt W' g m') : DP g m' B W' vx vs xs ss :=
  ⟨h.x.offD ho h.hg, h.s.offD ho h.hg, h.ne, hs, h.hg⟩
theorem DP.mono (h : DP g m B W vx vs xs ss) (hm : m ≤ m') : DP g m' B W vx vs xs ss := ⟨h.x, h.s, h.ne, h.src.mono hm, h.hg⟩
theorem DP.growX (h : DP g m B W vx vs xs ss) (hx : OwnI B W' v' xs') (hk : ∀ k, k < W.heap.size → vx.ownBlock ≠ some k → W'.heap[k]? = W.heap[k]?) (hn : ∀ k, v'.ownBlock = some k → vx.ownBlock = some k ∨ W.heap.size ≤ k) : DP g m B W' v' vs xs' ss :=
  ⟨hx, h.s.keep fun k hs => hk k (h.s.lt hs).2 fun e => h.ne k e hs, fun k e hs => by
    rcases hn k e with h1 | h1
    · exact h.ne k h1 hs
    · have := (h.s.lt hs).2; omega, h.src.stay (B := B) h.hg fun k h1 h2 => hk k h2 fun e => by have := (h.x.lt e).1; omega, h.hg⟩
theorem DP.growS (h : DP g m B W vx vs xs ss) (hx : OwnI B W' v' xs') (hk : ∀ k, k < W.heap.size → vs.ownBlock ≠ some k → W'.heap[k]? = W.heap[k]?) (hn : ∀ k, v'.ownBlock = some k → vs.ownBlock = some k ∨ W.heap.size ≤ k) : DP g m B W' vx v' xs xs' :=
  ⟨h.x.keep fun k hs => hk k (h.x.lt hs).2 fun e => h.ne k hs e, hx, fun k e hs => by
    rcases hn k hs with h1 | h1
    · exact h.ne k e h1
    · have := (h.x.lt e).2; omega, h.src.stay (B := B) h.hg fun k h1 h2 => hk k h2 fun e => by have := (h.s.lt e).1; omega, h.hg⟩
end
theorem vII_of {B : Nat} {w : World} {v : Value} {L : List Value} {xss : List (List Int)} (hv : OwnV B w 24 v L) (hs : OwnIs B w L xss) : VII w v xss := by
  rcases hv.cases with ⟨rfl, rfl⟩ | ⟨g, cap, rfl, _, _, _, hr⟩
  · have : xss = [] := List.eq_nil_of_length_eq_zero (by rw [← hs.1]; rfl)
    subst this
    exact ⟨none, 0, rfl, RdII.nil _ _⟩
  · refine ⟨_, cap, by rw [hs.1], ⟨by rw [← hs.1]; exact hr.len, ?_, fun b o i q l c hp hi hcl => ?_⟩⟩
    rotate_left
    · obtain ⟨hL, ho⟩ := hs.at_ hi
      obtain ⟨b', o', e', _, hc'⟩ := hr.pos hL
      rw [hp] at e'
      simp only [Option.some.injEq, Addr.mk.injEq, and_true] at e'
      obtain ⟨rfl, rfl⟩ := e'
      rw [hc' i hL, Option.some.injEq] at hcl
      rw [hcl] at ho
      exact ho.cap
    rcases hr.cells with rfl | ⟨b, o, e, hc⟩
    · left
      exact List.eq_nil_of_length_eq_zero (by rw [← hs.1]; rfl)
    · right
      refine ⟨b, o, e, fun i hi => ?_⟩
      obtain ⟨hL, ho⟩ := hs.at_ hi
      obtain ⟨q, c, hq, hrd⟩ := ho.rd
      exact ⟨q, c, by rw [hc i hL, hq], hrd⟩
theorem OwnIs.putD {B : Nat} {w w' : World} {L : List Value} {xss : List (List Int)} (h : OwnIs B w L xss) {k : Nat} (hk : k < xss.length) {s : Value} {ys : List Int} (hs : OwnI B w' s ys)
    (hkeep : ∀ i (hi : i < L.length), i ≠ k → ∀ j, L[i].ownBlock = some j → w'.heap[j]? = w.heap[j]?) : OwnIs B w' (L.set k s) (xss.set k ys) := by
  have hl := h.1
  refine ⟨by rw [List.length_set, List.length_set]; exact hl, fun i hi => ?_⟩
  have hi' : i < xss.length := by rw [List.length_set] at hi; exact hi
  by_cases e : k = i
  · subst e
    exact ⟨s, List.getElem?_set_self (by omega), by rw [List.getElem_set_self]; exact hs⟩
  · obtain ⟨hL, ho⟩ := h.at_ hi'
    exact ⟨L[i], by rw [List.getElem?_set_ne e]; exact List.getElem?_eq_getElem hL, by rw [List.getElem_set_ne e]; exact ho.keep fun j hj => hkeep i hL (fun e' => e e'.symm) j hj⟩
/-- what a step is drawn from -/
def DrewSN (w : World) (e : Ending) (w' : World) : Prop := ∃ (x : NodeD) (xss : List (List Int)) (xs ss : List Int) (v0 v1 v2 v3 : Value), e = .returned (.tuple #[v0, v1, v2, v3]) ∧ VNode w' v0 x ∧ VII w' v1 xss ∧ VI w' v2 xs ∧ VIc w' v3 ss ∧ Below w.heap.size w w'
/-- the boxes, the node's inputs, the tables and the lists as the drawing ends -/
structure SN (b1 : Nat) (W : World) (r s : Nat) (k a b : Int) (u vt vx vs : Value) (f : List Int) (L : List Value) (xss : List (List Int)) (xs ss : List Int) : Prop where
  res : Box W r [.int .i64 0, .int .i64 0, .int .i64 0, .slice none 0 0] 26
  box : Box W s [.int .i64 k, .int .i64 a, .int .i64 b, u] 26
  own : OwnI b1 W u f
  ot : OwnV b1 W 24 vt L
  oi : OwnIs b1 W L xss
  ox : OwnI b1 W vx xs
  os : OwnI b1 W vs ss
  hr : r < b1
theorem SN.exit {b1 : Nat} {w W : World} {r s : Nat} {k a b : Int} {q qx qs : Option Addr} {c cx cs : Nat} {vt : Value} {f : List Int} {L : List Value} {xss : List (List Int)} {xs ss : List Int} (h : SN b1 W r s k a b (.slice q f.length c) vt (.slice qx xs.length cx) (.slice qs ss.length cs) f L xss xs ss) (hb : Below w.heap.size w W) (hr : w.heap.size ≤ r) :
    ∃ W', W' = (((W.setCell ⟨r, 0, none⟩ (.int .i64 k)).setCell ⟨r, 1, none⟩ (.int .i64 a)).setCell ⟨r, 2, none⟩ (.int .i64 b)).setCell ⟨r, 3, none⟩ (.slice q f.length c) ∧ Box W' r [.int .i64 k, .int .i64 a, .int .i64 b, .slice q f.length c] 26 ∧
      DrewSN w (.returned (.tuple #[.agg #[.int .i64 k, .int .i64 a, .int .i64 b, .slice q f.length c], vt, .slice qx xs.length cx, .slice qs ss.length cs])) W' := by
  have b3 := (((h.res.set 0 (.int .i64 k)).set 1 (.int .i64 a)).set 2 (.int .i64 b)).set 3 (.slice q f.length c)
  have hbl := (((hb.setCell (p := ⟨r, 0, none⟩) hr (.int .i64 k)).setCell (p := ⟨r, 1, none⟩) hr (.int .i64 a)).setCell (p := ⟨r, 2, none⟩) hr (.int .i64 b)).setCell (p := ⟨r, 3, none⟩) hr (.slice q f.length c)
  have hq : ∀ j, j ≠ r → ((((W.setCell ⟨r, 0, none⟩ (.int .i64 k)).setCell ⟨r, 1, none⟩ (.int .i64 a)).setCell ⟨r, 2, none⟩ (.int .i64 b)).setCell ⟨r, 3, none⟩ (.slice q f.length c)).heap[j]? = W.heap[j]? := fun j hne =>
    (Below.heap_setCell _ _ _ _ hne).trans ((Below.heap_setCell _ _ _ _ hne).trans ((Below.heap_setCell _ _ _ _ hne).trans (Below.heap_setCell _ _ _ _ hne)))
  have hlo : ∀ j, b1 ≤ j → j ≠ r := fun j hj => by have := h.hr; omega
  have o1 := h.own.keep fun j hj => hq j (hlo j (h.own.lt hj).1)
  have o2 := h.ot.keep fun j hj => hq j (hlo j (h.ot.lt hj).1)
  have o3 := h.oi.keep fun j hj => hq j (hlo j (h.oi.blk hj).1)
  have o4 := h.ox.keep fun j hj => hq j (hlo j (h.ox.lt hj).1)
  have o5 := h.os.keep fun j hj => hq j (hlo j (h.os.lt hj).1)
  obtain ⟨q', c', e1, r1⟩ := o1.rd
  obtain ⟨rfl, -, rfl⟩ := (Value.slice.injEq _ _ _ _ _ _).mp e1
  obtain ⟨q', c', e1, r4⟩ := o4.rd
  obtain ⟨rfl, -, rfl⟩ := (Value.slice.injEq _ _ _ _ _ _).mp e1
  obtain ⟨q', c', e1, r5⟩ := o5.rd
  obtain ⟨rfl, -, rfl⟩ := (Value.slice.injEq _ _ _ _ _ _).mp e1
  exact ⟨_, rfl, by simpa using b3, ⟨k, a, b, f⟩, xss, xs, ss, _, _, _, _, rfl, ⟨_, _, rfl, r1⟩, vII_of o2 o3, ⟨_, _, rfl, r4⟩, ⟨_, _, rfl, r5, o5.cap⟩, hbl⟩
theorem SN.rows {b1 : Nat} {W W' : World} {r s gt n ct : Nat} {k a b : Int} {u vx vs u0 v' : Value} {f x0 ys xs ss : List Int} {L' : List Value} {xss' : List (List Int)} (h : SN b1 W r s k a b u (.slice (some ⟨gt, 0, none⟩) n ct) vx vs f (u0 :: L') (x0 :: xss') xs ss) (hd : Dis (u0 :: L')) (hv : OwnI b1 W' v' ys)
    (hk : ∀ j, j < W.heap.size → u0.ownBlock ≠ some j → W'.heap[j]? = W.heap[j]?) (hu : ∀ j, u.ownBlock = some j → u0.ownBlock ≠ some j) (hx : ∀ j, vx.ownBlock = some j → u0.ownBlock ≠ some j) (hs : ∀ j, vs.ownBlock = some j → u0.ownBlock ≠ some j) :
    (W'.cell? ⟨gt, 0, none⟩ = some u0 ∧ W'.frozen? ⟨gt, 0, none⟩ = false) ∧ SN b1 (W'.setCell ⟨gt, 0, none⟩ v') r s k a b u (.slice (some ⟨gt, 0, none⟩) n ct) vx vs f (v' :: L') (ys :: xss') xs ss := by
  obtain ⟨_, ho0⟩ := h.oi.at_ (i := 0) (by simp)
  have hgt : (Value.slice (some ⟨gt, 0, none⟩) n ct).ownBlock = some gt := rfl
  have n0 : u0.ownBlock ≠ some gt := fun e => ho0.typ.notOwn h.ot (by decide) e hgt
  have t1 := h.ot.keep (w' := W') fun j hj => hk j (h.ot.lt hj).2 fun e => ho0.typ.notOwn h.ot (by decide) e hj
  have st := t1.storing (k := 0) (by simp)
  have hq : ∀ j, j ≠ gt → (W'.setCell ⟨gt, 0, none⟩ v').heap[j]? = W'.heap[j]? := fun j hj => Below.heap_setCell _ _ _ _ hj
  have nb := h.ot.notBox h.box (by decide)
  have nr : r ≠ gt := fun e => by have := (h.ot.lt hgt).1; have := h.hr; omega
  have ns : s ≠ gt := fun e => nb (by rw [hgt, e])
  have b0 := ho0.typ.notBox h.box (by decide)
  refine ⟨⟨by simpa using st.2.2.2.1, st.2.2.2.2.1⟩, (h.res.keep (hk r h.res.lt fun e => by have := (ho0.lt e).1; have := h.hr; omega)).keep (hq r nr), (h.box.keep (hk s h.box.lt b0)).keep (hq s ns), ?_, by simpa using st.2.2.2.2.2 v', ?_, ?_, ?_, h.hr⟩
  · exact h.own.keep fun j hj => (hq j fun e => h.own.typ.notOwn h.ot (by decide) hj (by rw [hgt, e])).trans (hk j (h.own.lt hj).2 (hu j hj))
  · have hs' : OwnI b1 (W'.setCell ⟨gt, 0, none⟩ v') v' ys := hv.keep fun j hj => hq j fun e => hv.typ.notOwn t1 (by decide) hj (by rw [hgt, e])
    refine h.oi.putD (k := 0) (by simp) hs' fun i hi hne j hj => ?_
    obtain ⟨_, hoi⟩ := h.oi.at_ (i := i) (by have := h.oi.1; omega)
    exact (hq j fun e => hoi.typ.notOwn h.ot (by decide) hj (by rw [hgt, e])).trans (hk j (hoi.lt hj).2 (hd.at_ hi (by simp) hne hj))
  · exact h.ox.keep fun j hj => (hq j fun e => h.ox.typ.notOwn h.ot (by decide) hj (by rw [hgt, e])).trans (hk j (h.ox.lt hj).2 (hx j hj))
  · exact h.os.keep fun j hj => (hq j fun e => h.os.typ.notOwn h.ot (by decide) hj (by rw [hgt, e])).trans (hk j (h.os.lt hj).2 (hs j hj))
theorem SN.table {b1 b2 : Nat} {w W : World} {r s ct : Nat} {k a b : Int} {u vx vs : Value} {pt : Option Addr} {f xs ss : List Int} {L : List Value} {xss : List (List Int)} (sn : SN b1 W r s k a b u (.slice pt xss.length ct) vx vs f L xss xs ss) (hT : OwnII b1 W (.slice pt xss.length ct) xss L) (hl : ∀ j, Blk L j → j < b2) (hu : ∀ j, u.ownBlock = some j → b2 ≤ j) (hx : ∀ j, vx.ownBlock = some j → b2 ≤ j) (hs : ∀ j, vs.ownBlock = some j → b2 ≤ j) (hbl : Below w.heap.size w W) (hw : w.heap.size ≤ b1) (hz : b1 ≤ W.heap.size) (hx1 : 1 ≤ xss.length) (hxr : ∀ t ∈ xss, t.length ≤ 8) :
    ∃ gt q0 n0 c0 x0 L' xss', pt = some ⟨gt, 0, none⟩ ∧ W.cell? ⟨gt, 0, none⟩ = some (.slice q0 n0 c0) ∧ OwnI b1 W (.slice q0 n0 c0) x0 ∧ x0.length ≤ 8 ∧ b1 ≤ W.heap.size ∧
      ∀ W' v', OwnI b1 W' v' (x0 ++ [1]) → Below b1 W W' → (∀ j, j < W.heap.size → (Value.slice q0 n0 c0).ownBlock ≠ some j → W'.heap[j]? = W.heap[j]?) →
        (W'.cell? ⟨gt, 0, none⟩ = some (.slice q0 n0 c0) ∧ W'.frozen? ⟨gt, 0, none⟩ = false) ∧ SN b1 (W'.setCell ⟨gt, 0, none⟩ v') r s k a b u (.slice pt xss.length ct) vx vs f (v' :: L') ((x0 ++ [1]) :: xss') xs ss ∧ Below w.heap.size w (W'.setCell ⟨gt, 0, none⟩ v') := by
  cases L with
  | nil => exfalso; have := hT.2.1.1; simp at this; omega
  | cons u0 L' =>
    cases xss with
    | nil => exfalso; simp at hx1
    | cons x0 xss' =>
      rcases OwnV.cases hT.1 with ⟨-, h0⟩ | ⟨gt, cap, e, hbg, -, -, -⟩
      · exact absurd h0 (by simp)
      simp only [Value.slice.injEq] at e
      obtain ⟨rfl, -, -⟩ := e
      obtain ⟨_, ho0⟩ := hT.2.1.at_ (i := 0) (by simp)
      have l0 : ∀ j, u0.ownBlock = some j → j < b2 := fun j hj => hl j ⟨u0, by simp, hj⟩
      obtain ⟨q0, c0, e0, -⟩ := ho0.rd
      simp only [List.getElem_cons_zero] at e0 ho0
      subst e0
      have st := hT.1.storing (k := 0) (by simp)
      refine ⟨gt, q0, _, c0, x0, L', xss', rfl, by simpa using st.2.2.2.1, ho0, hxr x0 (by simp), hz, fun W' v' hv hbb hk => ?_⟩
      have R := sn.rows hT.2.2 hv hk (fun j hj e => by have := l0 j e; have := hu j hj; omega) (fun j hj e => by have := l0 j e; have := hx j hj; omega) (fun j hj e => by have := l0 j e; have := hs j hj; omega)
      exact ⟨R.1, R.2, (hbl.trans (hbb.mono hw)).setCell (p := ⟨gt, 0, none⟩) (Nat.le_trans hw hbg) _⟩
set_option maxHeartbeats 16000000 in
set_option maxRecDepth 100000 in
theorem drawStepNode_any {v : Value} {bs : List Int} (w : World) (h : VB w v bs) (hl : bs.length ≤ 1048576) :
    Calls Tryz.prog 6 #[v] w (DrewSN w) := by
  obtain ⟨p, c, rfl, hr0⟩ := h
  obtain ⟨r, hr⟩ : ∃ r, r = w.heap.size := ⟨_, rfl⟩
  obtain ⟨E0, hE0⟩ : ∃ E, E = w.alloc (.cells #[.int .i64 0, .int .i64 0, .int .i64 0, .slice none 0 0] 26) := ⟨_, rfl⟩
  have hB0 : Below w.heap.size w E0 := by rw [hE0]; exact (Below.refl _ _).alloc (Nat.le_refl _) _
  have q0 : Box E0 r [.int .i64 0, .int .i64 0, .int .i64 0, .slice none 0 0] 26 := by rw [hE0, hr]; exact Box.newAt w [.int .i64 0, .int .i64 0, .int .i64 0, .slice none 0 0] _ rfl
  have LF := Lib.hid (l00From_any (c := c) E0 (hr0.below hB0) hl)
  have HE0 := Lib.hid hE0
  have HRR := Lib.hid hr
  have HB0 := Lib.hid hB0
  have HQ0 := Lib.hid q0
  have hrw : w.heap.size ≤ r := by omega
  clear hr0 hE0 hr hB0 q0
  generalize bs.length = n at *
  go_enter Tryz.func6, Tryz.ntmps6
  go_upto_region 1 with fail
  rw [← HE0.out, ← HRR.out]
  go_wp2_with fail
  refine LF.out.mono ?_
  rintro e w1 ⟨rfl, hs1, hb1⟩
  obtain ⟨g, hgE⟩ : ∃ g, g = E0.heap.size := ⟨_, rfl⟩
  rw [← hgE] at hs1 ⊢
  have HGE := Lib.hid hgE
  have hg1 := hs1.lt
  clear LF hgE
  go_wp2_with fail
  refine (l06DrawTables_any w1 hs1 (by omega)).mono ?_
  rintro e w2 ⟨vt, xss, L, rfl, hx1, hx2, hxr, hot, hs2, ho2⟩
  obtain ⟨pt, ct, rfl, -⟩ := hot.rdv
  have LB := Lib.hid (l06Bent_any (xss.length : Int) w2 hs2 (by omega) (by omega))
  have HXR := Lib.hid hxr
  have HOT := Lib.hid hot
  have HB1 := Lib.hid hb1
  have HO2 := Lib.hid ho2
  clear hs1 hs2 hot ho2 hb1 hxr
  go_upto_region 4 with (first | (go_at_call 24; refine LB.out.mono ?_; rintro e w3 ⟨⟨kk, aa, bb, f⟩, u, rfl, hsl, hou, hs3, ho3⟩; simp only at hsl hou; obtain ⟨q, c3, rfl, -⟩ := hou.rd) | fail)
  obtain ⟨s, hs⟩ : ∃ s, s = w3.heap.size := ⟨_, rfl⟩
  obtain ⟨F, hF⟩ : ∃ F, F = w3.alloc (.cells #[.int .i64 kk, .int .i64 aa, .int .i64 bb, .slice q f.length c3] 26) := ⟨_, rfl⟩
  have hb3 : Below w3.heap.size w3 F := by rw [hF]; exact (Below.refl _ _).alloc (Nat.le_refl _) _
  have bn : Box F s [.int .i64 kk, .int .i64 aa, .int .i64 bb, .slice q f.length c3] 26 := by rw [hF, hs]; exact Box.newAt _ [.int .i64 kk, .int .i64 aa, .int .i64 bb, .slice q f.length c3] _ rfl
  obtain ⟨B, hB⟩ : ∃ B, B = F.heap.size := ⟨_, rfl⟩
  obtain ⟨F1, hF1⟩ : ∃ W, W = F.alloc (.cells #[] 2) := ⟨_, rfl⟩
  obtain ⟨F2, hF2⟩ : ∃ W, W = F1.alloc (.cells #[] 2) := ⟨_, rfl⟩
  have hb4 : Below F.heap.size F F1 := by rw [hF1]; exact (Below.refl _ _).alloc (Nat.le_refl _) _
  have hb5 : Below F1.heap.size F1 F2 := by rw [hF2]; exact (Below.refl _ _).alloc (Nat.le_refl _) _
  have hz1 : F1.heap.size = B + 1 := by rw [hF1, hB]; simp
  have hwg : w.heap.size ≤ g := by rw [HGE.out]; exact HB0.out.size
  have ho12 := HO2.out.trans ho3
  have h12 : w1.heap.size ≤ w2.heap.size := HO2.out.size
  have hb1B : w1.heap.size ≤ B := by rw [hB]; exact Nat.le_trans ho12.size hb3.size
  have hBF : Below w.heap.size w F := ((HB0.out.trans (HB1.out.mono HB0.out.size)).trans (ho12.below (B := w.heap.size) (fun k hk => by have : k = g := hk; omega) (Nat.le_trans HB0.out.size HB1.out.size))).trans (hb3.mono (Nat.le_trans (Nat.le_trans HB0.out.size HB1.out.size) ho12.size))
  have hrg : r < g := by rw [HGE.out]; exact HQ0.out.lt
  have hre : Box F r [.int .i64 0, .int .i64 0, .int .i64 0, .slice none 0 0] 26 := ((HQ0.out.below HB1.out).off ho12 (by show ¬ r = g; omega)).below hb3
  have hou2 := (hou.mono h12).below hb3
  have hot2 := (HOT.out.offD ho3 hg1).below hb3
  have hD0 : DP g 1500 B F2 (.slice (some ⟨B, 0, none⟩) 0 0) (.slice (some ⟨B + 1, 0, none⟩) 0 0) [] [] := by
    have e1 : OwnI B F1 (.slice (some ⟨B, 0, none⟩) 0 0) [] := by rw [hF1, hB]; exact OwnI.lit (B := F.heap.size) F [] (Nat.le_refl _) (by simp [maxLen])
    have e2 : OwnI B F2 (.slice (some ⟨B + 1, 0, none⟩) 0 0) [] := by rw [← hz1, hF2]; exact OwnI.lit (B := B) F1 [] (by omega) (by simp [maxLen])
    refine ⟨e1.below hb5, e2, fun k hk hs => ?_, (((hs3.below hb3).below hb4).below hb5).mono (by omega), by omega⟩
    simp only [Value.ownBlock, Option.some.injEq] at hk hs
    omega
  have hO2 : Off (· = g) F F2 := (Off.of_below _ hb4).afterD (hb5.mono hb4.size)
  have MK : Hid (∀ W vx vs xs ss m, DP g m B W vx vs xs ss → Off (· = g) F W → SN w1.heap.size W r s kk aa bb (.slice q f.length c3) (.slice pt xss.length ct) vx vs f L xss xs ss ∧ Below w.heap.size w W) := fun W vx vs xs ss m hD ho => by
    have o1 := hou2.offD ho hg1
    have o2 := hot2.offD ho hg1
    have hgs : g < s := by rw [hs]; exact Nat.lt_of_lt_of_le hg1 ho12.size
    exact ⟨⟨hre.off ho (by show ¬ r = g; omega), bn.off ho (by show ¬ s = g; omega), o1, o2.1, o2.2.1, hD.x.mono hb1B, hD.s.mono hb1B, by omega⟩, hBF.trans (ho.below (B := w.heap.size) (fun k hk => by have : k = g := hk; omega) hBF.size)⟩
  have MKT : Hid (∀ W, Off (· = g) F W → OwnII w1.heap.size W (.slice pt xss.length ct) xss L) := fun W ho => hot2.offD ho hg1
  have HPW : Hid (∀ W, Off (· = g) F W → PNode W s 0 ⟨kk, aa, bb, f⟩) := fun W ho => by
    have hgs : g < s := by rw [hs]; exact Nat.lt_of_lt_of_le hg1 ho12.size
    obtain ⟨q', c', e1, r1⟩ := (hou2.offD ho hg1).rd
    obtain ⟨rfl, -, rfl⟩ := (Value.slice.injEq _ _ _ _ _ _).mp e1
    exact PNode.box (x := ⟨kk, aa, bb, f⟩) (bn.off ho (by show ¬ s = g; omega)) r1
  have w2B : w2.heap.size ≤ B := by rw [hB]; exact Nat.le_trans ho3.size hb3.size
  have hw01 : w.heap.size ≤ w1.heap.size := Nat.le_trans HB0.out.size HB1.out.size
  have hL2 : ∀ j, Blk L j → j < w2.heap.size := fun j hj => (HOT.out.2.1.blk hj).2.1
  have hu2 : ∀ j, (Value.slice q f.length c3).ownBlock = some j → w2.heap.size ≤ j := fun j hj => (hou.lt hj).1
  have MKR : Hid (∀ W qx cx qs cs xs ss m, DP g m B W (.slice qx xs.length cx) (.slice qs ss.length cs) xs ss → Off (· = g) F W → ∃ gt q0 n0 c0 x0 L' xss', pt = some ⟨gt, 0, none⟩ ∧ W.cell? ⟨gt, 0, none⟩ = some (.slice q0 n0 c0) ∧ OwnI w1.heap.size W (.slice q0 n0 c0) x0 ∧ x0.length ≤ 8 ∧ w1.heap.size ≤ W.heap.size ∧
      ∀ W' v', OwnI w1.heap.size W' v' (x0 ++ [1]) → Below w1.heap.size W W' → (∀ j, j < W.heap.size → (Value.slice q0 n0 c0).ownBlock ≠ some j → W'.heap[j]? = W.heap[j]?) →
        (W'.cell? ⟨gt, 0, none⟩ = some (.slice q0 n0 c0) ∧ W'.frozen? ⟨gt, 0, none⟩ = false) ∧ SN w1.heap.size (W'.setCell ⟨gt, 0, none⟩ v') r s kk aa bb (.slice q f.length c3) (.slice pt xss.length ct) (.slice qx xs.length cx) (.slice qs ss.length cs) f (v' :: L') ((x0 ++ [1]) :: xss') xs ss ∧ Below w.heap.size w (W'.setCell ⟨gt, 0, none⟩ v')) := fun W qx cx qs cs xs ss m hD ho =>
    (MK.out _ _ _ _ _ _ hD ho).1.table (MKT.out W ho) hL2 hu2 (fun j hj => Nat.le_trans w2B (hD.x.lt hj).1) (fun j hj => Nat.le_trans w2B (hD.s.lt hj).1) (MK.out _ _ _ _ _ _ hD ho).2 hw01 (Nat.le_trans hb1B (by rw [hB]; exact ho.size)) hx1 HXR.out
  clear hw01 hL2 hu2 w2B
  have PN : PNode F2 s 0 ⟨kk, aa, bb, f⟩ := by
    obtain ⟨q', c', e1, r1⟩ := hou2.rd
    obtain ⟨rfl, -, rfl⟩ := (Value.slice.injEq _ _ _ _ _ _).mp e1
    exact ((PNode.box (x := ⟨kk, aa, bb, f⟩) bn r1).below hb4).below hb5
  have HBB := Lib.hid hb1B
  have HD0 := Lib.hid hD0
  have HO2' := Lib.hid hO2
  have HPN := Lib.hid PN
  have HB := Lib.hid hB
  have HF2 : Hid (F2 = (F.alloc (.cells #[] 2)).alloc (.cells #[] 2)) := by unfold Hid; rw [hF2, hF1]
  rw [← hF, ← hs]
  clear hF hs bn hb3 hb4 hb5 hF1 hF2 hz1 hwg ho12 h12 hb1B hBF hrg hre hou2 hot2 hD0 hO2 PN hB hou ho3 hs3 HOT HO2 HB1 HQ0 LB hsl hg1
  go_upto_region 6 with fail
  rw [← HF2.out, ← HB.out]
  have LOK := Lib.hid (l06Ok_any 4 F2 HPN.out)
  cases hok : nodeB ⟨kk, aa, bb, f⟩ 4
  · rw [hok] at LOK
    clear hok
    go_upto_region 15 with (first | (go_at_call 25; refine LOK.out.mono ?_; rintro e w4 ⟨rfl, hb6⟩; have hD := (HD0.out.step (Off.of_below _ hb6) (HD0.out.src.below hb6)); have ho := HO2'.out.afterD (hb6.mono HO2'.out.size); clear hb6) | fail)
    clear LOK HD0 HO2' HPN
    obtain ⟨qx, hqx⟩ : ∃ q : Option Addr, q = some ⟨B, 0, none⟩ := ⟨_, rfl⟩
    obtain ⟨qs, hqs⟩ : ∃ q : Option Addr, q = some ⟨B + 1, 0, none⟩ := ⟨_, rfl⟩
    rw [← hqx, ← hqs] at hD ⊢
    clear hqx hqs
    obtain ⟨cx, hcx⟩ : ∃ c : Nat, c = 0 := ⟨_, rfl⟩
    obtain ⟨xs, hxs⟩ : ∃ c : List Int, c = [] := ⟨_, rfl⟩
    have hD : DP g 1500 B w4 (.slice qx xs.length cx) (.slice qs xs.length cx) xs xs := by rw [hxs, hcx]; exact hD
    rw [show Value.slice qx 0 0 = .slice qx xs.length cx by rw [hxs, hcx]; rfl, show Value.slice qs 0 0 = .slice qs xs.length cx by rw [hxs, hcx]; rfl]
    have hxl : xs.length ≤ 3 := by rw [hxs]; simp
    obtain ⟨ss, hss⟩ : ∃ c : List Int, c = xs := ⟨_, rfl⟩
    obtain ⟨cs, hcs⟩ : ∃ c : Nat, c = cx := ⟨_, rfl⟩
    have hD : DP g 1500 B w4 (.slice qx xs.length cx) (.slice qs ss.length cs) xs ss := by rw [hss, hcs]; exact hD
    rw [show Value.slice qs xs.length cx = .slice qs ss.length cs by rw [hss, hcs]]
    have hsl2 : ss.length ≤ 16 := by rw [hss]; omega
    clear hss hcs hxs hcx
    go_wp2_with fail
    refine (pick_any 20 _ hD.src (by omega) (by omega)).mono ?_
    rintro e w5 ⟨y, -, rfl, hs5, ho5⟩
    have hD5 := hD.step ho5 hs5
    have hO5 := ho.trans ho5
    clear hD ho hs5 ho5
    have hz5 : B ≤ w5.heap.size := by rw [HB.out]; exact hO5.size
    by_cases y0 : y = 0
    · subst y0
      have HD5 := Lib.hid hD5
      have HO5 := Lib.hid hO5
      have hox := hD5.x
      clear hD5 hO5
      go_upto_region 25 with (first | (at_builtin; refine wpList_append_new rfl _ _ rfl rfl hox rfl (Below.refl B w5) (by omega) hz5 (Nat.le_refl _) ?_; intro v' w6 hv hb6 hz6 hk6 hn6; have hD6 := HD5.out.growX hv hk6 hn6; have hO6 := HO5.out.afterD (by rw [← HB.out]; exact hb6); obtain ⟨q6, c6, rfl, -⟩ := hv.rd; clear hv hb6 hk6 hn6) | fail)
      obtain ⟨sn, hbl⟩ := MK.out _ _ _ _ _ _ hD6 hO6
      have u0 := sn.res.cell 0 rfl
      have u1 := sn.res.cell 1 rfl
      have u2 := sn.res.cell 2 rfl
      have u3 := sn.res.cell 3 rfl
      have f0 := sn.res.frozen 0
      have f1 := sn.res.frozen 1
      have f2 := sn.res.frozen 2
      have f3 := sn.res.frozen 3
      have x0 := sn.box.cell 0 rfl
      have x1 := sn.box.cell 1 rfl
      have x2 := sn.box.cell 2 rfl
      have x3 := sn.box.cell 3 rfl
      obtain ⟨W', hW, bx, FN⟩ := sn.exit hbl hrw
      have k0' := bx.cell 0 rfl
      have k1' := bx.cell 1 rfl
      have k2' := bx.cell 2 rfl
      have k3' := bx.cell 3 rfl
      have FN2 := Lib.hid FN
      have HWW := Lib.hid hW
      clear hW bx FN sn hbl
      go_wp2_with fail
      rw [← HWW.out]
      refine bodyPost_ret (v := .tuple #[.agg #[.int .i64 kk, .int .i64 aa, .int .i64 bb, .slice q f.length c3], .slice (pt) xss.length ct, .slice q6 (xs ++ [0]).length c6, .slice qs ss.length cs]) (by simp [results, Tryz.results6, go_sem, *]) rfl ?_
      exact FN2.out
    have yn0 : (y == 0) = false := by rw [beq_eq_false_iff_ne]; exact y0
    by_cases y1 : y = 1
    · subst y1
      have HD5 := Lib.hid hD5
      have HO5 := Lib.hid hO5
      have hox := hD5.s
      clear hD5 hO5
      go_upto_region 25 with (first | (at_builtin; refine wpList_append_new rfl _ _ rfl rfl hox rfl (Below.refl B w5) (by omega) hz5 (Nat.le_refl _) ?_; intro v' w6 hv hb6 hz6 hk6 hn6; have hD6 := HD5.out.growS hv hk6 hn6; have hO6 := HO5.out.afterD (by rw [← HB.out]; exact hb6); obtain ⟨q6, c6, rfl, -⟩ := hv.rd; clear hv hb6 hk6 hn6) | fail)
      obtain ⟨sn, hbl⟩ := MK.out _ _ _ _ _ _ hD6 hO6
      have u0 := sn.res.cell 0 rfl
      have u1 := sn.res.cell 1 rfl
      have u2 := sn.res.cell 2 rfl
      have u3 := sn.res.cell 3 rfl
      have f0 := sn.res.frozen 0
      have f1 := sn.res.frozen 1
      have f2 := sn.res.frozen 2
      have f3 := sn.res.frozen 3
      have x0 := sn.box.cell 0 rfl
      have x1 := sn.box.cell 1 rfl
      have x2 := sn.box.cell 2 rfl
      have x3 := sn.box.cell 3 rfl
      obtain ⟨W', hW, bx, FN⟩ := sn.exit hbl hrw
      have k0' := bx.cell 0 rfl
      have k1' := bx.cell 1 rfl
      have k2' := bx.cell 2 rfl
      have k3' := bx.cell 3 rfl
      have FN2 := Lib.hid FN
      have HWW := Lib.hid hW
      clear hW bx FN sn hbl
      go_wp2_with fail
      rw [← HWW.out]
      refine bodyPost_ret (v := .tuple #[.agg #[.int .i64 kk, .int .i64 aa, .int .i64 bb, .slice q f.length c3], .slice (pt) xss.length ct, .slice qx xs.length cx, .slice q6 (ss ++ [1]).length c6]) (by simp [results, Tryz.results6, go_sem, *]) rfl ?_
      exact FN2.out
    have yn1 : (y == 1) = false := by rw [beq_eq_false_iff_ne]; exact y1
    by_cases y2 : y = 2
    · subst y2
      obtain ⟨gt, q0, n0, c0, x0, L', xss', rfl, hcg, ho0, hx8, hw1z, hrow⟩ := MKR.out _ _ _ _ _ _ _ _ hD5 hO5
      have HROW := Lib.hid hrow
      clear hrow hD5 hO5
      go_upto_region 25 with (first | (at_builtin; refine wpList_append_new rfl _ _ rfl rfl ho0 rfl (Below.refl w1.heap.size w5) (by omega) hw1z (Nat.le_refl _) ?_; intro v' w6 hv hb6 hz6 hk6 hn6; obtain ⟨q6, c6, e6, -⟩ := hv.rd; obtain ⟨n6, en6⟩ : ∃ n, n = (x0 ++ [1]).length := ⟨_, rfl⟩; rw [← en6] at e6; clear en6; subst e6; have RR := HROW.out _ _ hv hb6 hk6; have c0' := RR.1.1; have f0' := RR.1.2; have HSN := Lib.hid RR.2; clear hv hb6 hk6 hn6 RR) | fail)
      clear c0' f0'
      obtain ⟨sn, hbl⟩ := HSN.out
      have u0 := sn.res.cell 0 rfl
      have u1 := sn.res.cell 1 rfl
      have u2 := sn.res.cell 2 rfl
      have u3 := sn.res.cell 3 rfl
      have f0 := sn.res.frozen 0
      have f1 := sn.res.frozen 1
      have f2 := sn.res.frozen 2
      have f3 := sn.res.frozen 3
      have x0 := sn.box.cell 0 rfl
      have x1 := sn.box.cell 1 rfl
      have x2 := sn.box.cell 2 rfl
      have x3 := sn.box.cell 3 rfl
      obtain ⟨W', hW, bx, FN⟩ := sn.exit hbl hrw
      have k0' := bx.cell 0 rfl
      have k1' := bx.cell 1 rfl
      have k2' := bx.cell 2 rfl
      have k3' := bx.cell 3 rfl
      have FN2 := Lib.hid FN
      have HWW := Lib.hid hW
      clear hW bx FN sn hbl
      go_wp2_with fail
      rw [← HWW.out]
      refine bodyPost_ret (v := .tuple #[.agg #[.int .i64 kk, .int .i64 aa, .int .i64 bb, .slice q f.length c3], .slice (some ⟨gt, 0, none⟩) xss.length ct, .slice qx xs.length cx, .slice qs ss.length cs]) (by simp [results, Tryz.results6, go_sem, *]) rfl ?_
      exact FN2.out
    have yn2 : (y == 2) = false := by rw [beq_eq_false_iff_ne]; exact y2
    by_cases y3 : y = 3
    · subst y3
      by_cases hx0 : xs = []
      · have hx00 : ((xs.length : Int) > 0) = False := by rw [hx0]; simp
        have hxz : xs.length = 0 := by rw [hx0]; rfl
        clear hx0
        go_upto_region 25 with fail
        obtain ⟨sn, hbl⟩ := MK.out _ _ _ _ _ _ hD5 hO5
        have u0 := sn.res.cell 0 rfl
        have u1 := sn.res.cell 1 rfl
        have u2 := sn.res.cell 2 rfl
        have u3 := sn.res.cell 3 rfl
        have f0 := sn.res.frozen 0
        have f1 := sn.res.frozen 1
        have f2 := sn.res.frozen 2
        have f3 := sn.res.frozen 3
        have x0 := sn.box.cell 0 rfl
        have x1 := sn.box.cell 1 rfl
        have x2 := sn.box.cell 2 rfl
        have x3 := sn.box.cell 3 rfl
        obtain ⟨W', hW, bx, FN⟩ := sn.exit hbl hrw
        have k0' := bx.cell 0 rfl
        have k1' := bx.cell 1 rfl
        have k2' := bx.cell 2 rfl
        have k3' := bx.cell 3 rfl
        have FN2 := Lib.hid FN
        have HWW := Lib.hid hW
        clear hW bx FN sn hbl
        go_wp2_with fail
        rw [← HWW.out]
        refine bodyPost_ret (v := .tuple #[.agg #[.int .i64 kk, .int .i64 aa, .int .i64 bb, .slice q f.length c3], .slice (pt) xss.length ct, .slice qx xs.length cx, .slice qs ss.length cs]) (by simp [results, Tryz.results6, go_sem, *]) rfl ?_
        exact FN2.out
      · have hxp : 0 < xs.length := List.length_pos_iff.2 hx0
        rcases hD5.x.cases with ⟨-, e0⟩ | ⟨gx, capx, ex, hBx, -, -, -⟩
        · exact absurd e0 hx0
        simp only [Value.slice.injEq] at ex
        obtain ⟨rfl, -, rfl⟩ := ex
        obtain ⟨-, -, -, sc, sf, so⟩ := hD5.x.storing hxp
        obtain ⟨xs2, hxs2⟩ : ∃ l, l = xs.set 0 2147483648 := ⟨_, rfl⟩
        have hl2 : xs.length = xs2.length := by rw [hxs2, List.length_set]
        have hD6 := hD5.growX (W' := w5.setCell ⟨gx, 0, none⟩ (.int .i64 2147483648)) (so 2147483648) (fun j _ hj => Below.heap_setCell _ _ _ _ (fun e => hj (by rw [e]; rfl))) (fun j hj => .inl hj)
        rw [← hxs2, hl2] at hD6
        have hO6 := hO5.setD (s := gx) (i := 0) (by rw [← HB.out]; exact hBx) (.int .i64 2147483648)
        have HD6 := Lib.hid hD6
        have HO6 := Lib.hid hO6
        have HL2 := Lib.hid hl2
        clear so hD5 hO5 hD6 hO6 hxs2 hx0 hl2
        go_upto_region 25 with fail
        clear sc sf
        rw [HL2.out]
        obtain ⟨sn, hbl⟩ := MK.out _ _ _ _ _ _ HD6.out HO6.out
        have u0 := sn.res.cell 0 rfl
        have u1 := sn.res.cell 1 rfl
        have u2 := sn.res.cell 2 rfl
        have u3 := sn.res.cell 3 rfl
        have f0 := sn.res.frozen 0
        have f1 := sn.res.frozen 1
        have f2 := sn.res.frozen 2
        have f3 := sn.res.frozen 3
        have x0 := sn.box.cell 0 rfl
        have x1 := sn.box.cell 1 rfl
        have x2 := sn.box.cell 2 rfl
        have x3 := sn.box.cell 3 rfl
        obtain ⟨W', hW, bx, FN⟩ := sn.exit hbl hrw
        have k0' := bx.cell 0 rfl
        have k1' := bx.cell 1 rfl
        have k2' := bx.cell 2 rfl
        have k3' := bx.cell 3 rfl
        have FN2 := Lib.hid FN
        have HWW := Lib.hid hW
        clear hW bx FN sn hbl
        go_wp2_with fail
        rw [← HWW.out]
        refine bodyPost_ret (v := .tuple #[.agg #[.int .i64 kk, .int .i64 aa, .int .i64 bb, .slice q f.length c3], .slice (pt) xss.length ct, .slice (some ⟨gx, 0, none⟩) xs2.length cx, .slice qs ss.length cs]) (by simp [results, Tryz.results6, go_sem, *]) rfl ?_
        exact FN2.out
    have yn3 : (y == 3) = false := by rw [beq_eq_false_iff_ne]; exact y3
    obtain ⟨sn, hbl⟩ := MK.out _ _ _ _ _ _ hD5 hO5
    have u0 := sn.res.cell 0 rfl
    have u1 := sn.res.cell 1 rfl
    have u2 := sn.res.cell 2 rfl
    have u3 := sn.res.cell 3 rfl
    have f0 := sn.res.frozen 0
    have f1 := sn.res.frozen 1
    have f2 := sn.res.frozen 2
    have f3 := sn.res.frozen 3
    have x0 := sn.box.cell 0 rfl
    have x1 := sn.box.cell 1 rfl
    have x2 := sn.box.cell 2 rfl
    have x3 := sn.box.cell 3 rfl
    obtain ⟨W', hW, bx, FN⟩ := sn.exit hbl hrw
    have k0' := bx.cell 0 rfl
    have k1' := bx.cell 1 rfl
    have k2' := bx.cell 2 rfl
    have k3' := bx.cell 3 rfl
    have FN2 := Lib.hid FN
    have HWW := Lib.hid hW
    clear hW bx FN sn hbl
    go_wp2_with fail
    rw [← HWW.out]
    refine bodyPost_ret (v := .tuple #[.agg #[.int .i64 kk, .int .i64 aa, .int .i64 bb, .slice q f.length c3], .slice (pt) xss.length ct, .slice qx xs.length cx, .slice qs ss.length cs]) (by simp [results, Tryz.results6, go_sem, *]) rfl ?_
    exact FN2.out
  · rw [hok] at LOK
    have hkd : inB kk 1 17 = true := by
      unfold nodeB at hok
      simp only [Bool.and_eq_true] at hok
      exact hok.1.1.1.1
    have hso := startOk_of hok
    have hsl := startL_length hso
    obtain ⟨nI, hnI⟩ : ∃ n, n = inN ⟨kk, aa, bb, f⟩ := ⟨_, rfl⟩
    have hn0 : 0 ≤ nI ∧ nI ≤ 3 := by
      rw [hnI]; unfold inN
      rcases kinds_of hkd with rfl | rfl | rfl | rfl | rfl | rfl | rfl | rfl | rfl | rfl | rfl | rfl | rfl | rfl | rfl | rfl | rfl
      all_goals (simp only; decide)
    obtain ⟨hn1, hn3⟩ := hn0
    have LIN : Hid (∀ W, Below F2.heap.size F2 W → Calls Tryz.prog 26 #[.pointer (some ⟨s, 0, none⟩)] W fun e w' => e = .returned (.int .i64 nI) ∧ Below W.heap.size W w') := fun W hW => by
      rw [hnI]; exact l06Inputs_any W (HPN.out.below hW) hkd
    have LST : Hid (∀ W, Off (· = g) F W → Calls Tryz.prog 28 #[.pointer (some ⟨s, 0, none⟩)] W fun e w' => ∃ q4 c4, e = .returned (.slice q4 (startL ⟨kk, aa, bb, f⟩).length c4) ∧ Below W.heap.size W w') := fun W hW => (l06Start_any W (HPW.out W hW) hso).mono fun e w' h => by
      obtain ⟨u4, he, hu4, hb4⟩ := h
      obtain ⟨q4, c4, rfl, -⟩ := hu4.rd
      exact ⟨q4, c4, he, hb4⟩
    generalize (startL ⟨kk, aa, bb, f⟩).length = nS at hsl LST
    clear hok hkd hso hnI
    go_upto_region 8 with (first | (go_at_call 25; refine LOK.out.mono ?_; rintro e w4 ⟨rfl, hb6⟩) | (go_at_call 26; refine (LIN.out _ hb6).mono ?_; rintro e w5 ⟨rfl, hb7⟩; have hb8 := hb6.trans (hb7.mono hb6.size); have HD := Lib.hid (HD0.out.step (Off.of_below _ hb8) (HD0.out.src.below hb8)); have HO := Lib.hid (HO2'.out.afterD (hb8.mono HO2'.out.size)); clear hb6 hb7 hb8) | fail)
    clear LOK LIN HD0 HO2' HPN
    go_loopw [9, 11] (fun v i wr => ∃ (j : Int) (xs : List Int), i = .int .i64 j ∧ 0 ≤ j ∧ (xs.length : Int) + j = nI ∧ DP g (1500 + 20 * xs.length) B wr v (.slice (some ⟨B + 1, 0, none⟩) 0 0) xs [] ∧ Off (· = g) F wr) (fun _ i _ => (intOf i).toNat)
    case atStart => exact ⟨nI, [], rfl, hn1, by simp, HD.out.mono (by simp), HO.out⟩
    case round =>
      obtain ⟨j, xs, rfl, hj, hxl, hD, ho⟩ := hrel
      obtain ⟨wi, rfl⟩ : ∃ wi : World, wi = wr := ⟨_, rfl⟩
      clear HD HO
      by_cases hlt : 0 < j
      · have HDD := Lib.hid hD
        have HOO := Lib.hid ho
        have hsr := hD.src
        clear hD ho
        go_upto_region 10 with fail
        go_wp2_with (first
          | (go_at_call 27; refine (l01Draw_any _ hsr (by omega)).mono ?_; rintro e w6 ⟨y, hy, rfl, hs6, ho6⟩; have hD6 := HDD.out.step ho6 hs6; have hO6 := HOO.out.trans ho6; have hox := hD6.x; have hz6 : B ≤ w6.heap.size := (by rw [HB.out]; exact hO6.size); have HD6 := Lib.hid hD6; have HO6 := Lib.hid hO6; clear hsr hD6 hO6 hs6 ho6)
          | (at_builtin; refine wpList_append_new rfl _ _ rfl rfl hox rfl (Below.refl B w6) (by omega) hz6 (Nat.le_refl _) ?_; intro v' w7 hv hb7 hz7 hk7 hn7; have HD7 := Lib.hid (HD6.out.growX hv hk7 hn7); have HO7 := Lib.hid (HO6.out.afterD (by rw [← HB.out]; exact hb7)); clear hv hb7 hk7 hn7 hox)
          | fail)
        go_roundw
        case rel => exact ⟨j - 1, xs ++ [y], by go_num, by omega, by simp; omega, HD7.out.mono (by simp; omega), HO7.out⟩
        case measure => simp [intOf] <;> omega
      · obtain rfl : j = 0 := by omega
        have hxl3 : xs.length ≤ 3 := by omega
        have LS := Lib.hid (LST.out wi ho)
        have HDD := Lib.hid hD
        have HOO := Lib.hid ho
        obtain ⟨qx, cx, rfl, -⟩ := hD.x.rd
        clear hD ho LST
        go_upto_region 12 with (first | (go_at_call 28; refine LS.out.mono ?_; rintro e w6 ⟨q4, c4, rfl, hb6⟩; have HD6 := Lib.hid (HDD.out.step (Off.of_below _ hb6) (HDD.out.src.below hb6)); have HO6 := Lib.hid (HOO.out.afterD (hb6.mono HOO.out.size)); clear hb6) | fail)
        clear HDD HOO LS
        go_loopw [10, 12] (fun v i wr => ∃ (j : Int) (ss : List Int), i = .int .i64 j ∧ 0 ≤ j ∧ (ss.length : Int) + j = nS ∧ DP g (1600 + 20 * ss.length) B wr (.slice qx xs.length cx) v xs ss ∧ Off (· = g) F wr) (fun _ i _ => (intOf i).toNat)
        case atStart => exact ⟨nS, [], rfl, by omega, by simp, HD6.out.mono (by simp; omega), HO6.out⟩
        case round =>
          obtain ⟨j, ss, rfl, hj, hsl2, hD, ho⟩ := hrel
          obtain ⟨w4, rfl⟩ : ∃ wi : World, wi = wr := ⟨_, rfl⟩
          clear HD6 HO6
          by_cases hlt : 0 < j
          · have HDD := Lib.hid hD
            have HOO := Lib.hid ho
            have hsr := hD.src
            clear hD ho
            go_upto_region 14 with fail
            go_wp2_with (first
              | (go_at_call 27; refine (l01Draw_any _ hsr (by omega)).mono ?_; rintro e w6 ⟨y, hy, rfl, hs6, ho6⟩; have hD6 := HDD.out.step ho6 hs6; have hO6 := HOO.out.trans ho6; have hox := hD6.s; have hz6 : B ≤ w6.heap.size := (by rw [HB.out]; exact hO6.size); have HD6 := Lib.hid hD6; have HO6 := Lib.hid hO6; clear hsr hD6 hO6 hs6 ho6)
              | (at_builtin; refine wpList_append_new rfl _ _ rfl rfl hox rfl (Below.refl B w6) (by omega) hz6 (Nat.le_refl _) ?_; intro v' w7 hv hb7 hz7 hk7 hn7; have HD7 := Lib.hid (HD6.out.growS hv hk7 hn7); have HO7 := Lib.hid (HO6.out.afterD (by rw [← HB.out]; exact hb7)); clear hv hb7 hk7 hn7 hox)
              | fail)
            go_roundw
            case rel => exact ⟨j - 1, ss ++ [y], by go_num, by omega, by simp; omega, HD7.out.mono (by simp; omega), HO7.out⟩
            case measure => simp [intOf] <;> omega
          · obtain rfl : j = 0 := by omega
            obtain ⟨qs, cs, rfl, -⟩ := hD.s.rd
            have hsl3 : ss.length ≤ 16 := by omega
            go_wp2_with fail
            refine (pick_any 20 _ hD.src (by omega) (by omega)).mono ?_
            rintro e w5 ⟨y, -, rfl, hs5, ho5⟩
            have hD5 := hD.step ho5 hs5
            have hO5 := ho.trans ho5
            clear hD ho hs5 ho5
            have hz5 : B ≤ w5.heap.size := by rw [HB.out]; exact hO5.size
            by_cases y0 : y = 0
            · subst y0
              have HD5 := Lib.hid hD5
              have HO5 := Lib.hid hO5
              have hox := hD5.x
              clear hD5 hO5
              go_upto_region 25 with (first | (at_builtin; refine wpList_append_new rfl _ _ rfl rfl hox rfl (Below.refl B w5) (by omega) hz5 (Nat.le_refl _) ?_; intro v' w6 hv hb6 hz6 hk6 hn6; have hD6 := HD5.out.growX hv hk6 hn6; have hO6 := HO5.out.afterD (by rw [← HB.out]; exact hb6); obtain ⟨q6, c6, rfl, -⟩ := hv.rd; clear hv hb6 hk6 hn6) | fail)
              obtain ⟨sn, hbl⟩ := MK.out _ _ _ _ _ _ hD6 hO6
              have u0 := sn.res.cell 0 rfl
              have u1 := sn.res.cell 1 rfl
              have u2 := sn.res.cell 2 rfl
              have u3 := sn.res.cell 3 rfl
              have f0 := sn.res.frozen 0
              have f1 := sn.res.frozen 1
              have f2 := sn.res.frozen 2
              have f3 := sn.res.frozen 3
              have x0 := sn.box.cell 0 rfl
              have x1 := sn.box.cell 1 rfl
              have x2 := sn.box.cell 2 rfl
              have x3 := sn.box.cell 3 rfl
              obtain ⟨W', hW, bx, FN⟩ := sn.exit hbl hrw
              have k0' := bx.cell 0 rfl
              have k1' := bx.cell 1 rfl
              have k2' := bx.cell 2 rfl
              have k3' := bx.cell 3 rfl
              have FN2 := Lib.hid FN
              have HWW := Lib.hid hW
              clear hW bx FN sn hbl
              go_wp2_with fail
              rw [← HWW.out]
              refine bodyPost_ret (v := .tuple #[.agg #[.int .i64 kk, .int .i64 aa, .int .i64 bb, .slice q f.length c3], .slice (pt) xss.length ct, .slice q6 (xs ++ [0]).length c6, .slice qs ss.length cs]) (by simp [results, Tryz.results6, go_sem, *]) rfl ?_
              exact FN2.out
            have yn0 : (y == 0) = false := by rw [beq_eq_false_iff_ne]; exact y0
            by_cases y1 : y = 1
            · subst y1
              have HD5 := Lib.hid hD5
              have HO5 := Lib.hid hO5
              have hox := hD5.s
              clear hD5 hO5
              go_upto_region 25 with (first | (at_builtin; refine wpList_append_new rfl _ _ rfl rfl hox rfl (Below.refl B w5) (by omega) hz5 (Nat.le_refl _) ?_; intro v' w6 hv hb6 hz6 hk6 hn6; have hD6 := HD5.out.growS hv hk6 hn6; have hO6 := HO5.out.afterD (by rw [← HB.out]; exact hb6); obtain ⟨q6, c6, rfl, -⟩ := hv.rd; clear hv hb6 hk6 hn6) | fail)
              obtain ⟨sn, hbl⟩ := MK.out _ _ _ _ _ _ hD6 hO6
              have u0 := sn.res.cell 0 rfl
              have u1 := sn.res.cell 1 rfl
              have u2 := sn.res.cell 2 rfl
              have u3 := sn.res.cell 3 rfl
              have f0 := sn.res.frozen 0
              have f1 := sn.res.frozen 1
              have f2 := sn.res.frozen 2
              have f3 := sn.res.frozen 3
              have x0 := sn.box.cell 0 rfl
              have x1 := sn.box.cell 1 rfl
              have x2 := sn.box.cell 2 rfl
              have x3 := sn.box.cell 3 rfl
              obtain ⟨W', hW, bx, FN⟩ := sn.exit hbl hrw
              have k0' := bx.cell 0 rfl
              have k1' := bx.cell 1 rfl
              have k2' := bx.cell 2 rfl
              have k3' := bx.cell 3 rfl
              have FN2 := Lib.hid FN
              have HWW := Lib.hid hW
              clear hW bx FN sn hbl
              go_wp2_with fail
              rw [← HWW.out]
              refine bodyPost_ret (v := .tuple #[.agg #[.int .i64 kk, .int .i64 aa, .int .i64 bb, .slice q f.length c3], .slice (pt) xss.length ct, .slice qx xs.length cx, .slice q6 (ss ++ [1]).length c6]) (by simp [results, Tryz.results6, go_sem, *]) rfl ?_
              exact FN2.out
            have yn1 : (y == 1) = false := by rw [beq_eq_false_iff_ne]; exact y1
            by_cases y2 : y = 2
            · subst y2
              obtain ⟨gt, q0, n0, c0, x0, L', xss', rfl, hcg, ho0, hx8, hw1z, hrow⟩ := MKR.out _ _ _ _ _ _ _ _ hD5 hO5
              have HROW := Lib.hid hrow
              clear hrow hD5 hO5
              go_upto_region 25 with (first | (at_builtin; refine wpList_append_new rfl _ _ rfl rfl ho0 rfl (Below.refl w1.heap.size w5) (by omega) hw1z (Nat.le_refl _) ?_; intro v' w6 hv hb6 hz6 hk6 hn6; obtain ⟨q6, c6, e6, -⟩ := hv.rd; obtain ⟨n6, en6⟩ : ∃ n, n = (x0 ++ [1]).length := ⟨_, rfl⟩; rw [← en6] at e6; clear en6; subst e6; have RR := HROW.out _ _ hv hb6 hk6; have c0' := RR.1.1; have f0' := RR.1.2; have HSN := Lib.hid RR.2; clear hv hb6 hk6 hn6 RR) | fail)
              clear c0' f0'
              obtain ⟨sn, hbl⟩ := HSN.out
              have u0 := sn.res.cell 0 rfl
              have u1 := sn.res.cell 1 rfl
              have u2 := sn.res.cell 2 rfl
              have u3 := sn.res.cell 3 rfl
              have f0 := sn.res.frozen 0
              have f1 := sn.res.frozen 1
              have f2 := sn.res.frozen 2
              have f3 := sn.res.frozen 3
              have x0 := sn.box.cell 0 rfl
              have x1 := sn.box.cell 1 rfl
              have x2 := sn.box.cell 2 rfl
              have x3 := sn.box.cell 3 rfl
              obtain ⟨W', hW, bx, FN⟩ := sn.exit hbl hrw
              have k0' := bx.cell 0 rfl
              have k1' := bx.cell 1 rfl
              have k2' := bx.cell 2 rfl
              have k3' := bx.cell 3 rfl
              have FN2 := Lib.hid FN
              have HWW := Lib.hid hW
              clear hW bx FN sn hbl
              go_wp2_with fail
              rw [← HWW.out]
              refine bodyPost_ret (v := .tuple #[.agg #[.int .i64 kk, .int .i64 aa, .int .i64 bb, .slice q f.length c3], .slice (some ⟨gt, 0, none⟩) xss.length ct, .slice qx xs.length cx, .slice qs ss.length cs]) (by simp [results, Tryz.results6, go_sem, *]) rfl ?_
              exact FN2.out
            have yn2 : (y == 2) = false := by rw [beq_eq_false_iff_ne]; exact y2
            by_cases y3 : y = 3
            · subst y3
              by_cases hx0 : xs = []
              · have hx00 : ((xs.length : Int) > 0) = False := by rw [hx0]; simp
                have hxz : xs.length = 0 := by rw [hx0]; rfl
                clear hx0
                go_upto_region 25 with fail
                obtain ⟨sn, hbl⟩ := MK.out _ _ _ _ _ _ hD5 hO5
                have u0 := sn.res.cell 0 rfl
                have u1 := sn.res.cell 1 rfl
                have u2 := sn.res.cell 2 rfl
                have u3 := sn.res.cell 3 rfl
                have f0 := sn.res.frozen 0
                have f1 := sn.res.frozen 1
                have f2 := sn.res.frozen 2
                have f3 := sn.res.frozen 3
                have x0 := sn.box.cell 0 rfl
                have x1 := sn.box.cell 1 rfl
                have x2 := sn.box.cell 2 rfl
                have x3 := sn.box.cell 3 rfl
                obtain ⟨W', hW, bx, FN⟩ := sn.exit hbl hrw
                have k0' := bx.cell 0 rfl
                have k1' := bx.cell 1 rfl
                have k2' := bx.cell 2 rfl
                have k3' := bx.cell 3 rfl
                have FN2 := Lib.hid FN
                have HWW := Lib.hid hW
                clear hW bx FN sn hbl
                go_wp2_with fail
                rw [← HWW.out]
                refine bodyPost_ret (v := .tuple #[.agg #[.int .i64 kk, .int .i64 aa, .int .i64 bb, .slice q f.length c3], .slice (pt) xss.length ct, .slice qx xs.length cx, .slice qs ss.length cs]) (by simp [results, Tryz.results6, go_sem, *]) rfl ?_
                exact FN2.out
              · have hxp : 0 < xs.length := List.length_pos_iff.2 hx0
                rcases hD5.x.cases with ⟨-, e0⟩ | ⟨gx, capx, ex, hBx, -, -, -⟩
                · exact absurd e0 hx0
                simp only [Value.slice.injEq] at ex
                obtain ⟨rfl, -, rfl⟩ := ex
                obtain ⟨-, -, -, sc, sf, so⟩ := hD5.x.storing hxp
                obtain ⟨xs2, hxs2⟩ : ∃ l, l = xs.set 0 2147483648 := ⟨_, rfl⟩
                have hl2 : xs.length = xs2.length := by rw [hxs2, List.length_set]
                have hD6 := hD5.growX (W' := w5.setCell ⟨gx, 0, none⟩ (.int .i64 2147483648)) (so 2147483648) (fun j _ hj => Below.heap_setCell _ _ _ _ (fun e => hj (by rw [e]; rfl))) (fun j hj => .inl hj)
                rw [← hxs2, hl2] at hD6
                have hO6 := hO5.setD (s := gx) (i := 0) (by rw [← HB.out]; exact hBx) (.int .i64 2147483648)
                have HD6 := Lib.hid hD6
                have HO6 := Lib.hid hO6
                have HL2 := Lib.hid hl2
                clear so hD5 hO5 hD6 hO6 hxs2 hx0 hl2
                go_upto_region 25 with fail
                clear sc sf
                rw [HL2.out]
                obtain ⟨sn, hbl⟩ := MK.out _ _ _ _ _ _ HD6.out HO6.out
                have u0 := sn.res.cell 0 rfl
                have u1 := sn.res.cell 1 rfl
                have u2 := sn.res.cell 2 rfl
                have u3 := sn.res.cell 3 rfl
                have f0 := sn.res.frozen 0
                have f1 := sn.res.frozen 1
                have f2 := sn.res.frozen 2
                have f3 := sn.res.frozen 3
                have x0 := sn.box.cell 0 rfl
                have x1 := sn.box.cell 1 rfl
                have x2 := sn.box.cell 2 rfl
                have x3 := sn.box.cell 3 rfl
                obtain ⟨W', hW, bx, FN⟩ := sn.exit hbl hrw
                have k0' := bx.cell 0 rfl
                have k1' := bx.cell 1 rfl
                have k2' := bx.cell 2 rfl
                have k3' := bx.cell 3 rfl
                have FN2 := Lib.hid FN
                have HWW := Lib.hid hW
                clear hW bx FN sn hbl
                go_wp2_with fail
                rw [← HWW.out]
                refine bodyPost_ret (v := .tuple #[.agg #[.int .i64 kk, .int .i64 aa, .int .i64 bb, .slice q f.length c3], .slice (pt) xss.length ct, .slice (some ⟨gx, 0, none⟩) xs2.length cx, .slice qs ss.length cs]) (by simp [results, Tryz.results6, go_sem, *]) rfl ?_
                exact FN2.out
            have yn3 : (y == 3) = false := by rw [beq_eq_false_iff_ne]; exact y3
            obtain ⟨sn, hbl⟩ := MK.out _ _ _ _ _ _ hD5 hO5
            have u0 := sn.res.cell 0 rfl
            have u1 := sn.res.cell 1 rfl
            have u2 := sn.res.cell 2 rfl
            have u3 := sn.res.cell 3 rfl
            have f0 := sn.res.frozen 0
            have f1 := sn.res.frozen 1
            have f2 := sn.res.frozen 2
            have f3 := sn.res.frozen 3
            have x0 := sn.box.cell 0 rfl
            have x1 := sn.box.cell 1 rfl
            have x2 := sn.box.cell 2 rfl
            have x3 := sn.box.cell 3 rfl
            obtain ⟨W', hW, bx, FN⟩ := sn.exit hbl hrw
            have k0' := bx.cell 0 rfl
            have k1' := bx.cell 1 rfl
            have k2' := bx.cell 2 rfl
            have k3' := bx.cell 3 rfl
            have FN2 := Lib.hid FN
            have HWW := Lib.hid hW
            clear hW bx FN sn hbl
            go_wp2_with fail
            rw [← HWW.out]
            refine bodyPost_ret (v := .tuple #[.agg #[.int .i64 kk, .int .i64 aa, .int .i64 bb, .slice q f.length c3], .slice (pt) xss.length ct, .slice qx xs.length cx, .slice qs ss.length cs]) (by simp [results, Tryz.results6, go_sem, *]) rfl ?_
            exact FN2.out
end Go.Proofs.YtdcacmmglkcliaaGreatDoor
