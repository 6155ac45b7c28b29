/-
  Several texts in one: DpA, DpB, RegT, PatG, PatO.
-/
import Derived.Test.YtcfhcmgmkhfjjaaGreatPk1
import Derived.Test.YtcfhcmgmkhfjjaaGreatPk4
import Derived.Deep.RegionLaw
import Derived.StillTailTactics
import Derived.OrdersHeld
namespace Go.Proofs.YtcfhcmgmkhfjjaaGreat
open Go.ChangeShapes Go.WideShapes Go.ChangeAt Go.RowKit
set_option linter.unusedVariables false
set_option linter.unusedSimpArgs false

theorem OwnI.offD {B g : Nat} {w w' : World} {v : Value} {xs : List Int} (h : OwnI B w v xs) (ho : Off (· = g) w w') (hg : g < B) : OwnI B w' v xs :=
  h.keep fun k hk => ho.block k (h.lt hk).2 (by have := (h.lt hk).1; show ¬ k = g; omega)
theorem OwnII.offD {B g : Nat} {w w' : World} {v : Value} {xss : List (List Int)} {L : List Value} (h : OwnII B w v xss L) (ho : Off (· = g) w w') (hg : g < B) : OwnII B w' v xss L :=
  h.keeps fun k h1 h2 => ho.block k h2 (by show ¬ k = g; omega)
theorem Off.afterD {S : Nat → Prop} {w a b : World} (h : Off S w a) (hb : Below w.heap.size a b) : Off S w b :=
  ⟨hb.os.trans h.os, hb.tape.trans h.tape, hb.output.trans h.output, Nat.le_trans h.size hb.size, fun k hk hs => (hb.block k hk).trans (h.block k hk hs)⟩
/-- some drawn tables -/
def DrewT (g m : Nat) (w : World) (e : Ending) (w' : World) : Prop := ∃ v xss L, e = .returned v ∧ 1 ≤ xss.length ∧ xss.length ≤ 2 ∧ (∀ r ∈ xss, r.length ≤ 8) ∧ OwnII w.heap.size w' v xss L ∧ SrcAt w' g m ∧ Off (· = g) w w'
set_option maxHeartbeats 4000000 in
set_option maxRecDepth 100000 in
theorem l06DrawTables_any {g m : Nat} (w : World) (h : SrcAt w g m) (hm : m + 2000 ≤ 1099511627776) :
    Calls Tryz.prog 98 #[.pointer (some ⟨g, 0, none⟩)] w (DrewT g (m + 1000) w) := by
  have hg := h.lt
  have h0 := OwnII.empty (B := w.heap.size) w (Nat.le_refl _)
  have hb := (Below.refl w.heap.size w).alloc (Nat.le_refl _) (.cells #[] 26)
  have hs0 := h.below hb
  have HO0 := Lib.hid (Off.of_below (· = g) hb)
  go_enter Tryz.func98, Tryz.ntmps98
  go_wp2_with fail
  refine (pick_any 2 _ hs0 (by omega) (by omega)).mono ?_
  rintro e w1 ⟨x, hx, rfl, hs1, ho1⟩
  have hx1 := (pickP_pos hx (by omega)).1
  have hx2 := (pickP_pos hx (by omega)).2
  have hown1 := h0.offD ho1 hg
  have HO1 := Lib.hid (HO0.out.trans ho1)
  have HS1 := Lib.hid hs1
  clear h hb hs0 HO0 ho1 hs1 hx h0
  go_wp2_with fail
  go_loopw [3, 4] (fun v i wr => ∃ (j : Int) (xss : List (List Int)) (L : List Value), i = .int .i64 j ∧ 0 ≤ j ∧ (xss.length : Int) + j = x + 1 ∧ (∀ r ∈ xss, r.length ≤ 8) ∧ OwnII w.heap.size wr v xss L ∧ SrcAt wr g (m + 30 + 300 * xss.length) ∧ Off (· = g) w wr) (fun _ i _ => (intOf i).toNat)
  case atStart => exact ⟨1 + x, [], [], by go_num, by omega, by simp; omega, (by intro r hr; simp at hr), hown1, HS1.out.mono (by simp), HO1.out⟩
  case round =>
    obtain ⟨j, xss, L, rfl, hj, hxl, hrs, hown, hs, ho⟩ := hrel
    have HRS := Lib.hid hrs
    clear hown1 HS1 HO1 hrs
    obtain ⟨wo, rfl⟩ : ∃ wo : World, wo = wr := ⟨_, rfl⟩
    have hB : w.heap.size ≤ wo.heap.size := ho.size
    have HO := Lib.hid ho
    have HOW := Lib.hid hown
    clear ho hown
    by_cases hlt : 0 < j
    · have r0 := OwnI.lit (B := wo.heap.size) wo [] (Nat.le_refl _) (by simp [maxLen])
      have rb := (Below.refl wo.heap.size wo).alloc (Nat.le_refl _) (.cells #[] 2)
      have HRB := Lib.hid (Off.of_below (· = g) rb)
      have rs := hs.below rb
      have hgo : g < wo.heap.size := hs.lt
      have hx3 : xss.length ≤ 2 := by omega
      obtain ⟨wp, hwp⟩ : ∃ W, W = wo.alloc (.cells #[] 2) := ⟨_, rfl⟩
      rw [show (wo.alloc (.cells ((([] : List Int).map (Value.int .i64)).toArray) 2)) = wp from hwp.symm] at r0
      rw [← hwp] at rs HRB
      have HWP := Lib.hid hwp
      have A1 := Lib.hid (amongLit_any [2, 4, 8, 4] wp rs (by simp) (by simp) (by omega))
      clear hs rb rs hwp
      go_upto_region 6 with fail
      rw [← HWP.out]
      go_wp2_with (first | (go_at_call 35; refine A1.out.mono ?_; rintro e w3 ⟨y, hy, rfl, hs3, ho3⟩; have hy1 : 0 ≤ y ∧ y ≤ 8 := (by simp only [List.mem_cons, List.not_mem_nil, or_false] at hy; omega); have r3 := r0.offD ho3 hgo; have HO3 := Lib.hid (HRB.out.trans ho3); have HS3 := Lib.hid hs3; clear hy ho3 hs3 r0) | fail)
      obtain ⟨hy0, hy8⟩ := hy1
      go_loopw [5, 6] (fun v i wr => ∃ (k : Int) (xs : List Int), i = .int .i64 k ∧ 0 ≤ k ∧ (xs.length : Int) + k = y ∧ OwnI wo.heap.size wr v xs ∧ SrcAt wr g (m + 40 + 300 * xss.length + 25 * xs.length) ∧ Off (· = g) wo wr) (fun _ i _ => (intOf i).toNat)
      case atStart => exact ⟨y, [], rfl, hy0, by simp, r3, HS3.out.mono (by simp; omega), HO3.out⟩
      case round =>
        obtain ⟨k, xs, rfl, hk, hkl, hrow, hs, hor⟩ := hrel
        have HOR := Lib.hid hor
        have hz0 : wo.heap.size ≤ wr.heap.size := hor.size
        clear r3 HS3 HO3 HRB hor A1
        obtain ⟨wi, rfl⟩ : ∃ wi : World, wi = wr := ⟨_, rfl⟩
        by_cases hkt : 0 < k
        · have hl5 : xs.length < 17592186044415 := by omega
          go_wp2_with fail
          refine (l01Draw_any wi hs (by omega)).mono ?_
          rintro e w2 ⟨z, hz, rfl, hs2, ho2⟩
          have hrow2 := hrow.offD ho2 hgo
          have HO2 := Lib.hid (HOR.out.trans ho2)
          have hz2 : wo.heap.size ≤ w2.heap.size := HO2.out.size
          clear hrow hs ho2 hz
          go_wp2_with (first | (at_builtin; refine wpList_append_one rfl _ _ rfl rfl hrow2 rfl (Below.refl wo.heap.size w2) hl5 hz2 (Nat.le_refl _) ?_; intro v' w4 hown4 hb4 hz4 hk4) | fail)
          have hs4 := hs2.stay hgo (fun k h1 _ => hb4.block k h1)
          have HO4 := HO2.out.afterD hb4
          go_roundw
          case rel => exact ⟨k - 1, xs ++ [z], by go_num, by omega, by simp; omega, hown4, hs4.mono (by simp; omega), HO4⟩
          case measure => simp [intOf] <;> omega
        · obtain rfl : k = 0 := by omega
          have hown := HOW.out.keeps (w' := wi) fun k h1 h2 => HOR.out.block k h2 (by show ¬ k = g; omega)
          have hgw : g < w.heap.size := hg
          obtain ⟨qv, cv, rfl, -⟩ := hrow.rd
          have hrow2 := hrow.mono hB
          have hnew : ∀ x, (Value.slice qv xs.length cv).ownBlock = some x → ¬ Blk L x := fun x hx hbk => by have := (hrow.lt hx).1; have := (HOW.out.2.1.blk hbk).2.1; omega
          have HNEW := Lib.hid hnew
          have HOf := Lib.hid (HO.out.trans HOR.out)
          have hsz : w.heap.size ≤ wi.heap.size := HOf.out.size
          have hlen : L.length < 1099511627776 := by have := hown.2.1.1; omega
          have hone := hrow.oneCell
          have hxs8 : xs.length ≤ 8 := by omega
          have HR2 : Hid (∀ r ∈ xss ++ [xs], r.length ≤ 8) := fun r hr => by
            rcases List.mem_append.1 hr with h1 | h1
            · exact HRS.out r h1
            · rw [List.mem_singleton.1 h1]; exact hxs8
          clear hnew hrow
          go_wp2_with (first | (at_builtin; refine wpList_append_val rfl _ _ rfl 24 (.slice none 0 0) Tryz.underlying24 infoII rfl (by omega) rfl hown.1 rfl hone (Below.refl w.heap.size wi) hlen hsz (Nat.le_refl _) ?_; intro v' w1 hown1 hbel1 _ hk1) | fail)
          have hfin := hown.snoc hrow2 HNEW.out hown1 hk1
          have HF := Lib.hid hfin
          have hs5 := hs.stay hg (fun k h1 _ => hbel1.block k h1)
          have HO5 := Lib.hid (HOf.out.afterD hbel1)
          clear hfin hk1 hown1 hown
          go_roundw
          case rel => exact ⟨j - 1, _, _, by go_num, by omega, by simp; omega, HR2.out, HF.out, hs5.mono (by simp; omega), HO5.out⟩
          case measure => simp [intOf] <;> omega
    · obtain rfl : j = 0 := by omega
      go_wp2_with fail
      go_ret
      exact ⟨_, xss, L, rfl, by omega, by omega, HRS.out, HOW.out, hs.mono (by omega), HO.out⟩
theorem l06DrawA_any {g m : Nat} (kind nt : Int) (w : World) (h : SrcAt w g m) (hn : nt ≤ 1000) (hm : m + 100 ≤ 1099511627776) :
    Calls Tryz.prog 62 #[.pointer (some ⟨g, 0, none⟩), .int .i64 kind, .int .i64 nt] w (Draws w g (m + 40) fun _ => True) := by
  have hg := h.lt
  by_cases k1 : kind = 1
  · subst k1
    go_enter Tryz.func62, Tryz.ntmps62
    go_wp2_with fail
    refine (pick_any 2 w h (by omega) (by omega)).mono ?_
    rintro e w1 ⟨x, hx, rfl, hs1, ho1⟩
    go_wp2_with fail
    go_ret
    exact ⟨_, trivial, rfl, hs1.mono (by omega), ho1⟩
  by_cases k6 : kind = 6
  · subst k6
    go_enter Tryz.func62, Tryz.ntmps62
    go_wp2_with fail
    refine (pick_any 4 w h (by omega) (by omega)).mono ?_
    rintro e w1 ⟨x, hx, rfl, hs1, ho1⟩
    go_wp2_with fail
    go_ret
    exact ⟨_, trivial, rfl, hs1.mono (by omega), ho1⟩
  by_cases k10 : kind = 10
  · subst k10
    have A1 := Lib.hid (amongLit_any [1, 2, 0, 16, 31] w h (by simp) (by simp) (by omega))
    clear h
    go_enter Tryz.func62, Tryz.ntmps62
    go_wp2_with (first | (go_at_call 35; refine A1.out.mono ?_; rintro e w3 ⟨y, hy, rfl, hs3, ho3⟩; clear hy) | fail)
    go_ret
    exact ⟨_, trivial, rfl, hs3.mono (by omega), ho3⟩
  by_cases k11 : kind = 11
  · subst k11
    have A1 := Lib.hid (amongLit_any [10, 0, 100, 2147483647] w h (by simp) (by simp) (by omega))
    clear h
    go_enter Tryz.func62, Tryz.ntmps62
    go_wp2_with (first | (go_at_call 35; refine A1.out.mono ?_; rintro e w3 ⟨y, hy, rfl, hs3, ho3⟩; clear hy) | fail)
    go_ret
    exact ⟨_, trivial, rfl, hs3.mono (by omega), ho3⟩
  by_cases k13 : kind = 13
  · subst k13
    go_enter Tryz.func62, Tryz.ntmps62
    go_wp2_with fail
    refine (pick_any nt w h (by omega) (by omega)).mono ?_
    rintro e w1 ⟨x, hx, rfl, hs1, ho1⟩
    go_wp2_with fail
    go_ret
    exact ⟨_, trivial, rfl, hs1.mono (by omega), ho1⟩
  have q1 : (kind == 1) = false := by rw [beq_eq_false_iff_ne]; exact k1
  have q6 : (kind == 6) = false := by rw [beq_eq_false_iff_ne]; exact k6
  have q10 : (kind == 10) = false := by rw [beq_eq_false_iff_ne]; exact k10
  have q11 : (kind == 11) = false := by rw [beq_eq_false_iff_ne]; exact k11
  have q13 : (kind == 13) = false := by rw [beq_eq_false_iff_ne]; exact k13
  go_enter Tryz.func62, Tryz.ntmps62
  go_wp2_with fail
  refine (l06HasA_any kind w).mono ?_
  rintro e w1 ⟨rfl, hb1⟩
  generalize hasAB kind = b
  have hs1 := h.below hb1
  have HO1 := Lib.hid (Off.of_below (· = g) hb1)
  clear h hb1
  cases b
  · go_wp2_with fail
    go_ret
    exact ⟨_, trivial, rfl, hs1.mono (by omega), HO1.out⟩
  · go_wp2_with fail
    refine (l01Draw_any w1 hs1 (by omega)).mono ?_
    rintro e w2 ⟨z, hz, rfl, hs2, ho2⟩
    go_wp2_with fail
    go_ret
    exact ⟨_, trivial, rfl, hs2.mono (by omega), HO1.out.trans ho2⟩
end Go.Proofs.YtcfhcmgmkhfjjaaGreat
namespace Go.Proofs.YtcfhcmgmkhfjjaaGreat
open Go.ChangeShapes Go.WideShapes Go.ChangeAt Go.RowKit
set_option linter.unusedVariables false
set_option linter.unusedSimpArgs false

theorem Off.setD {S : Nat → Prop} {w0 w : World} {s i : Nat} (h : Off S w0 w) (hs : w0.heap.size ≤ s) (v : Value) : Off S w0 (w.setCell ⟨s, i, none⟩ v) :=
  ⟨h.os, h.tape, h.output, by simpa [World.setCell] using h.size, fun k hk hn => (Below.heap_setCell _ _ _ _ (show k ≠ s by omega)).trans (h.block k hk hn)⟩
theorem OwnI.typD {B : Nat} {w : World} {v : Value} {xs : List Int} (h : OwnI B w v xs) : OwnV B w 2 v (xs.map (Value.int .i64)) := by simpa [OwnV, OwnI] using h
theorem OwnV.notBoxD {B : Nat} {w : World} {E T : TypeId} {v : Value} {L cs : List Value} {g : Nat} (h : OwnV B w E v L) (hb : Box w g cs T) (hT : E ≠ T) : v.ownBlock ≠ Option.some g := by
  intro e
  rcases OwnV.cases h with ⟨rfl, -⟩ | ⟨k, cap, rfl, -, -, ⟨cur, hc⟩, -⟩
  · simp [Value.ownBlock] at e
  · have hk : k = g := by simpa [Value.ownBlock] using e
    subst hk
    unfold Box at hb
    rw [hc] at hb
    simp at hb
    exact hT hb.2
/-- while a node is drawn: the result's box, the node's box, its inputs, the source -/
structure NB (g m : Nat) (w0 w : World) (r s : Nat) (k a b : Int) (u : Value) (f : List Int) : Prop where
  res : Box w r [.int .i64 0, .int .i64 0, .int .i64 0, .slice none 0 0] 55
  box : Box w s [.int .i64 k, .int .i64 a, .int .i64 b, u] 55
  own : OwnI w0.heap.size w u f
  off : Off (· = g) w0 w
  src : SrcAt w g m
  hr : w0.heap.size ≤ r
  hs : w0.heap.size ≤ s
  ne : r ≠ s
  hg : g < w0.heap.size
section
variable {g m m' : Nat} {w0 w : World} {r s : Nat} {k a b : Int} {u : Value} {f : List Int}
theorem NB.step {w' : World} (h : NB g m w0 w r s k a b u f) (ho : Off (· = g) w w') (hs : SrcAt w' g m') : NB g m' w0 w' r s k a b u f :=
  ⟨h.res.off ho (by have := h.hr; have := h.hg; show ¬ r = g; omega), h.box.off ho (by have := h.hs; have := h.hg; show ¬ s = g; omega), h.own.offD ho h.hg, h.off.trans ho, hs, h.hr, h.hs, h.ne, h.hg⟩
theorem NB.below {w' : World} (h : NB g m w0 w r s k a b u f) (hb : Below w.heap.size w w') : NB g m w0 w' r s k a b u f := h.step (Off.of_below _ hb) (h.src.below hb)
theorem NB.mono (h : NB g m w0 w r s k a b u f) (hm : m ≤ m') : NB g m' w0 w r s k a b u f := ⟨h.res, h.box, h.own, h.off, h.src.mono hm, h.hr, h.hs, h.ne, h.hg⟩
theorem NB.putBox (h : NB g m w0 w r s k a b u f) (i : Nat) (v : Value) : Box (w.setCell ⟨s, i, none⟩ v) r [.int .i64 0, .int .i64 0, .int .i64 0, .slice none 0 0] 55 ∧ OwnI w0.heap.size (w.setCell ⟨s, i, none⟩ v) u f ∧ Off (· = g) w0 (w.setCell ⟨s, i, none⟩ v) ∧ SrcAt (w.setCell ⟨s, i, none⟩ v) g m := by
  have n1 := h.own.typD.notBoxD h.box (by decide)
  exact ⟨h.res.other (by show r ≠ s; exact h.ne) _, h.own.keep fun j hj => Below.heap_setCell _ _ _ _ (fun e => n1 (by rw [hj, e])), h.off.setD h.hs _, h.src.stay (B := w0.heap.size) h.hg fun j h1 _ => Below.heap_setCell _ _ _ _ (by show j ≠ s; have := h.hs; omega)⟩
theorem NB.setK (h : NB g m w0 w r s k a b u f) (n : Int) : NB g m w0 (w.setCell ⟨s, 0, none⟩ (.int .i64 n)) r s n a b u f := by
  obtain ⟨h1, h2, h3, h4⟩ := h.putBox 0 (.int .i64 n)
  exact ⟨h1, by simpa using h.box.set 0 (.int .i64 n), h2, h3, h4, h.hr, h.hs, h.ne, h.hg⟩
theorem NB.setA (h : NB g m w0 w r s k a b u f) (n : Int) : NB g m w0 (w.setCell ⟨s, 1, none⟩ (.int .i64 n)) r s k n b u f := by
  obtain ⟨h1, h2, h3, h4⟩ := h.putBox 1 (.int .i64 n)
  exact ⟨h1, by simpa using h.box.set 1 (.int .i64 n), h2, h3, h4, h.hr, h.hs, h.ne, h.hg⟩
theorem NB.setB (h : NB g m w0 w r s k a b u f) (n : Int) : NB g m w0 (w.setCell ⟨s, 2, none⟩ (.int .i64 n)) r s k a n u f := by
  obtain ⟨h1, h2, h3, h4⟩ := h.putBox 2 (.int .i64 n)
  exact ⟨h1, by simpa using h.box.set 2 (.int .i64 n), h2, h3, h4, h.hr, h.hs, h.ne, h.hg⟩
theorem NB.grow (h : NB g m w0 w r s k a b u f) {w' : World} {u' : Value} {f' : List Int} (hu : OwnI w0.heap.size w' u' f') (hk : Off (fun j => u.ownBlock = Option.some j) w w') :
    (w'.cell? ⟨s, 3, none⟩ = Option.some u ∧ w'.frozen? ⟨s, 3, none⟩ = false) ∧ NB g m w0 (w'.setCell ⟨s, 3, none⟩ u') r s k a b u' f' := by
  have n1 := h.own.typD.notBoxD h.box (by decide)
  have n3 := h.own.typD.notBoxD h.res (by decide)
  have bx := h.box.off hk n1
  have rs := h.res.off hk n3
  have n1' := hu.typD.notBoxD bx (by decide)
  have lo : ∀ j, j < w0.heap.size → ¬ u.ownBlock = Option.some j := fun j hj e => by have := (h.own.lt e).1; omega
  have of : Off (· = g) w0 w' := ⟨hk.os.trans h.off.os, hk.tape.trans h.off.tape, hk.output.trans h.off.output, Nat.le_trans h.off.size hk.size, fun j hj hn => (hk.block j (Nat.lt_of_lt_of_le hj h.off.size) (lo j hj)).trans (h.off.block j hj hn)⟩
  have sr := h.src.stay (w' := w') (B := w0.heap.size) h.hg fun j h1 h2 => hk.block j h2 (lo j h1)
  exact ⟨⟨bx.cell 3 rfl, bx.frozen 3⟩, rs.other (by show r ≠ s; exact h.ne) _, by simpa using bx.set 3 u', hu.keep fun j hj => Below.heap_setCell _ _ _ _ (fun e => n1' (by rw [hj, e])), of.setD h.hs _, sr.stay (B := w0.heap.size) h.hg fun j h1 _ => Below.heap_setCell _ _ _ _ (by show j ≠ s; have := h.hs; omega), h.hr, h.hs, h.ne, h.hg⟩
theorem NB.exit (h : NB g m w0 w r s k a b u f) (x0 x1 x2 x3 : Value) :
    ∃ W', W' = (((w.setCell ⟨r, 0, none⟩ x0).setCell ⟨r, 1, none⟩ x1).setCell ⟨r, 2, none⟩ x2).setCell ⟨r, 3, none⟩ x3 ∧ Box W' r [x0, x1, x2, x3] 55 ∧ Off (· = g) w0 W' ∧ SrcAt W' g m ∧ OwnI w0.heap.size W' u f := by
  have n3 := h.own.typD.notBoxD h.res (by decide)
  have b3 := (((h.res.set 0 x0).set 1 x1).set 2 x2).set 3 x3
  have ho := (((h.off.setD (i := 0) h.hr x0).setD (i := 1) h.hr x1).setD (i := 2) h.hr x2).setD (i := 3) h.hr x3
  have hq : ∀ j, j ≠ r → ((((w.setCell ⟨r, 0, none⟩ x0).setCell ⟨r, 1, none⟩ x1).setCell ⟨r, 2, none⟩ x2).setCell ⟨r, 3, none⟩ x3).heap[j]? = w.heap[j]? := fun j hne =>
    (Below.heap_setCell _ _ _ _ hne).trans ((Below.heap_setCell _ _ _ _ hne).trans ((Below.heap_setCell _ _ _ _ hne).trans (Below.heap_setCell _ _ _ _ hne)))
  exact ⟨_, rfl, by simpa using b3, ho, h.src.stay (B := w0.heap.size) h.hg fun j h1 _ => hq j (by have := h.hr; omega), h.own.keep fun j hj => hq j fun e => n3 (by rw [hj, e])⟩
end
theorem belowDrewD (w : World) : Below w.heap.size w w.drew := ⟨rfl, rfl, rfl, Nat.le_refl _, fun _ _ => rfl⟩
/-- a drawn node -/
def DrewN (g m n : Nat) (w : World) (e : Ending) (w' : World) : Prop := ∃ (x : NodeD) (u : Value), e = .returned (.agg #[.int .i64 x.kind, .int .i64 x.a, .int .i64 x.b, u]) ∧ x.src.length ≤ n ∧ OwnI w.heap.size w' u x.src ∧ SrcAt w' g m ∧ Off (· = g) w w'
/-- a drawn node of a kind -/
def DrewX (g m : Nat) (kind : Int) (w : World) (e : Ending) (w' : World) : Prop := ∃ (x : NodeD) (u : Value), e = .returned (.agg #[.int .i64 x.kind, .int .i64 x.a, .int .i64 x.b, u]) ∧ x.kind = kind ∧ (x.src.length : Int) = kAr (kind - 1).toNat ∧ OwnI w.heap.size w' u x.src ∧ SrcAt w' g m ∧ Off (· = g) w w'
set_option maxHeartbeats 8000000 in
set_option maxRecDepth 100000 in
theorem l06DrawX_any {g m : Nat} (kind nt bl : Int) (w : World) (h : SrcAt w g m) (hk : 1 ≤ kind ∧ kind ≤ 17) (hn : nt ≤ 1000) (hbl : bl ≤ 1000) (hm : m + 1000 ≤ 1099511627776) :
    Calls Tryz.prog 34 #[.pointer (some ⟨g, 0, none⟩), .int .i64 kind, .int .i64 nt, .int .i64 bl] w (DrewX g (m + 200) kind w) := by
  have hg := h.lt
  obtain ⟨r, hr⟩ : ∃ r, r = w.heap.size := ⟨_, rfl⟩
  obtain ⟨E0, hE0⟩ : ∃ E, E = w.alloc (.cells #[.int .i64 0, .int .i64 0, .int .i64 0, .slice none 0 0] 55) := ⟨_, rfl⟩
  have hB0 : Below w.heap.size w E0 := by rw [hE0]; exact (Below.refl _ _).alloc (Nat.le_refl _) _
  have q0 : Box E0 r [.int .i64 0, .int .i64 0, .int .i64 0, .slice none 0 0] 55 := by rw [hE0, hr]; exact Box.newAt w [.int .i64 0, .int .i64 0, .int .i64 0, .slice none 0 0] _ rfl
  have DA := Lib.hid (l06DrawA_any kind nt E0 (h.below hB0) hn (by omega))
  obtain ⟨ar, har⟩ : ∃ ar, ar = kAr (kind - 1).toNat := ⟨_, rfl⟩
  have ha0 : 0 ≤ ar ∧ ar ≤ 3 := by
    have := kinds_of (k := kind) (by simp [inB]; omega)
    rw [har]
    rcases this with rfl | rfl | rfl | rfl | rfl | rfl | rfl | rfl | rfl | rfl | rfl | rfl | rfl | rfl | rfl | rfl | rfl
    all_goals decide
  have AR : Hid (∀ W, Calls Tryz.prog 63 #[.int .i64 kind] W fun e w' => e = .returned (.int .i64 ar) ∧ Below W.heap.size W w') := fun W => by
    have := l06Arity_any (kind - 1).toNat (by omega) W
    rw [show (((kind - 1).toNat : Nat) : Int) + 1 = kind by omega, ← har] at this
    exact this
  obtain ⟨ha1, ha2⟩ := ha0
  have HE0 := Lib.hid hE0
  have HRR := Lib.hid hr
  have HB0 := Lib.hid hB0
  have HQ0 := Lib.hid q0
  have hrw : w.heap.size ≤ r := by omega
  have FIN : Hid (∀ W' a b u f, (f.length : Int) = ar → OwnI w.heap.size W' u f → SrcAt W' g (m + 200) → Off (· = g) w W' → DrewX g (m + 200) kind w (.returned (.agg #[.int .i64 kind, .int .i64 a, .int .i64 b, u])) W') := fun W' a b u f hf ho hs hof => ⟨⟨kind, a, b, f⟩, u, rfl, rfl, by rw [← har]; exact hf, ho, hs, hof⟩
  generalize DrewX g (m + 200) kind w = RR at *
  clear h hE0 hr hB0 q0 har
  go_enter Tryz.func34, Tryz.ntmps34
  go_upto_region 1 with fail
  rw [← HE0.out, ← HRR.out]
  go_upto_region 2 with (first | (go_at_call 62; refine DA.out.mono ?_; rintro e w1 ⟨a, -, rfl, hs1, ho1⟩) | fail)
  obtain ⟨s, hs⟩ : ∃ s, s = w1.heap.size + 1 := ⟨_, rfl⟩
  obtain ⟨e1, he1⟩ : ∃ s, s = w1.heap.size := ⟨_, rfl⟩
  obtain ⟨F, hF⟩ : ∃ F, F = (w1.alloc (.cells #[] 2)).alloc (.cells #[.int .i64 kind, .int .i64 a, .int .i64 0, .slice (some ⟨w1.heap.size, 0, none⟩) 0 0] 55) := ⟨_, rfl⟩
  have hb1 : Below w1.heap.size w1 (w1.alloc (.cells #[] 2)) := (Below.refl _ _).alloc (Nat.le_refl _) _
  have hb2 : Below (w1.alloc (.cells #[] 2)).heap.size (w1.alloc (.cells #[] 2)) F := by rw [hF]; exact (Below.refl _ _).alloc (Nat.le_refl _) _
  have ow0 : OwnI w.heap.size (w1.alloc (.cells #[] 2)) (.slice (some ⟨w1.heap.size, 0, none⟩) 0 0) [] := OwnI.lit (B := w.heap.size) w1 [] (Nat.le_trans HB0.out.size ho1.size) (by simp [maxLen])
  have HN0 : NB g (m + 40) w F r s kind a 0 (.slice (some ⟨e1, 0, none⟩) 0 0) [] := by
    have hof := (Off.of_below (· = g) HB0.out).trans ho1
    refine ⟨((HQ0.out.off ho1 (by show ¬ r = g; omega)).below hb1).below hb2, ?_, ?_, (hof.afterD (hb1.mono hof.size)).afterD (hb2.mono (Nat.le_trans hof.size hb1.size)), (hs1.below hb1).below hb2, hrw, ?_, ?_, hg⟩
    · rw [hF, hs, he1]; exact Box.newAt _ [.int .i64 kind, .int .i64 a, .int .i64 0, .slice (some ⟨w1.heap.size, 0, none⟩) 0 0] _ (by simp)
    · rw [he1]; exact ow0.below hb2
    · have := hof.size; omega
    · have := HQ0.out.lt; have := ho1.size; omega
  rw [← hF, ← hs, ← he1]
  clear hF hb1 hb2 ow0 he1 hs ho1 hs1
  go_wp2_with (first | (go_at_call 63; refine (AR.out _).mono ?_; rintro e w2 ⟨rfl, hb2⟩; have HN1 := Lib.hid (HN0.below hb2); clear hb2 HN0) | fail)
  go_loopw [10] (fun i wr => ∃ (j : Int) (u : Value) (f : List Int), i = .int .i64 j ∧ 0 ≤ j ∧ (f.length : Int) + j = ar ∧ NB g (m + 40 + 4 * f.length) w wr r s kind a 0 u f) (fun i _ => (intOf i).toNat)
  case atStart => exact ⟨ar, _, [], rfl, ha1, by simp, HN1.out.mono (by simp)⟩
  case round =>
    obtain ⟨j, u, f, rfl, hj, hfl, hN⟩ := hrel
    obtain ⟨wi, rfl⟩ : ∃ wi : World, wi = wr := ⟨_, rfl⟩
    obtain ⟨q, c, rfl, -⟩ := hN.own.rd
    by_cases hlt : 0 < j
    · have KP : Hid (∀ W, Below wi.heap.size wi W → Calls Tryz.prog 33 #[.pointer (some ⟨g, 0, none⟩), .int .i64 bl] W fun e W2 => ∃ y, e = .returned (.int .i64 y) ∧ NB g (m + 40 + 4 * f.length + 2) w W2 r s kind a 0 (.slice q f.length c) f) := fun W hW => (pick_any bl W (hN.src.below hW) (by omega) (by omega)).mono fun e W2 ⟨y, _, he, hs2, ho2⟩ => ⟨y, he, (hN.below hW).step ho2 hs2⟩
      have hcur := belowDrewD wi
      have t3 := hN.box.cell 3 rfl
      have lt3 := hN.box.lt
      have hlen : f.length < 17592186044415 := by omega
      clear HN1
      go_wp2_with fail
      go_region_law (first | (go_simp; go_at_call 33; refine (KP.out _ hcur).mono ?_; rintro e W2 ⟨y, rfl, hN2⟩; have t3 := hN2.box.cell 3 rfl; have lt3 := hN2.box.lt; have hown2 := hN2.own; have hz2 : w.heap.size ≤ W2.heap.size := hN2.off.size) | ((first | refine step_append_drew rfl _ _ rfl rfl hown2 rfl hlen hz2 ?_ | refine step_append_one rfl _ _ rfl rfl hown2 rfl hlen hz2 ?_); intro q2 k2 w2 ho2 o1 o2 o3 hs2 hk2; have GR := hN2.grow ho2 ⟨o1.symm, o2.symm, o3.symm, hs2, fun k hk hne => hk2 k hk hne⟩; have c3 := GR.1.1; have f3 := GR.1.2) | fail)
      all_goals
        have G := Lib.hid GR.2
        clear GR c3 f3 t3 hN2 ho2
        go_wp2_with fail
        go_roundw
        case rel => exact ⟨j - 1, _, f ++ [y], by go_num, by omega, by simp; omega, G.out.mono (by simp; omega)⟩
        case measure => simp [intOf] <;> omega
    · obtain rfl : j = 0 := by omega
      have hf3 : (f.length : Int) = ar := by omega
      by_cases k17 : kind = 17
      · subst k17
        clear HN1
        go_wp2_with fail
        refine (pick_any 3 _ hN.src (by omega) (by omega)).mono ?_
        rintro e w3 ⟨y, hy, rfl, hs3, ho3⟩
        have hy1 := (pickP_pos hy (by omega)).1
        have hy2 := (pickP_pos hy (by omega)).2
        have hN3 := hN.step ho3 hs3
        have c2 := hN3.box.cell 2 rfl
        have g2 := hN3.box.frozen 2
        clear hN hy hs3 ho3
        go_upto_region 8 with fail
        clear c2 g2
        have R1 := hN3.setB (1 + y)
        have u0 := R1.res.cell 0 rfl
        have u1 := R1.res.cell 1 rfl
        have u2 := R1.res.cell 2 rfl
        have u3 := R1.res.cell 3 rfl
        have f0 := R1.res.frozen 0
        have f1 := R1.res.frozen 1
        have f2 := R1.res.frozen 2
        have f3 := R1.res.frozen 3
        have x0 := R1.box.cell 0 rfl
        have x1 := R1.box.cell 1 rfl
        have x2 := R1.box.cell 2 rfl
        have x3 := R1.box.cell 3 rfl
        obtain ⟨W', hW, bx, hof, hsr, how⟩ := R1.exit (.int .i64 17) (.int .i64 a) (.int .i64 (1 + y)) (.slice q f.length c)
        have k0' := bx.cell 0 rfl
        have k1' := bx.cell 1 rfl
        have k2' := bx.cell 2 rfl
        have k3' := bx.cell 3 rfl
        have FN := Lib.hid (FIN.out W' a (1 + y) _ f hf3 how (hsr.mono (by omega)) hof)
        have HWW := Lib.hid hW
        clear hW bx hof hsr how R1 hN3
        go_wp2_with fail
        rw [← HWW.out]
        refine bodyPost_ret (v := .agg #[.int .i64 17, .int .i64 a, .int .i64 (1 + y), .slice q f.length c]) (by simp [results, Tryz.results34, go_sem, *]) rfl ?_
        exact FN.out
      · have q17 : (kind == 17) = false := by rw [beq_eq_false_iff_ne]; exact k17
        have R1 := hN
        have u0 := R1.res.cell 0 rfl
        have u1 := R1.res.cell 1 rfl
        have u2 := R1.res.cell 2 rfl
        have u3 := R1.res.cell 3 rfl
        have f0 := R1.res.frozen 0
        have f1 := R1.res.frozen 1
        have f2 := R1.res.frozen 2
        have f3 := R1.res.frozen 3
        have x0 := R1.box.cell 0 rfl
        have x1 := R1.box.cell 1 rfl
        have x2 := R1.box.cell 2 rfl
        have x3 := R1.box.cell 3 rfl
        obtain ⟨W', hW, bx, hof, hsr, how⟩ := R1.exit (.int .i64 kind) (.int .i64 a) (.int .i64 0) (.slice q f.length c)
        have k0' := bx.cell 0 rfl
        have k1' := bx.cell 1 rfl
        have k2' := bx.cell 2 rfl
        have k3' := bx.cell 3 rfl
        have FN := Lib.hid (FIN.out W' a 0 _ f hf3 how (hsr.mono (by omega)) hof)
        have HWW := Lib.hid hW
        clear hW bx hof hsr how R1 hN HN1
        go_wp2_with fail
        rw [← HWW.out]
        refine bodyPost_ret (v := .agg #[.int .i64 kind, .int .i64 a, .int .i64 0, .slice q f.length c]) (by simp [results, Tryz.results34, go_sem, *]) rfl ?_
        exact FN.out
set_option maxHeartbeats 8000000 in
set_option maxRecDepth 100000 in
theorem l06Draw_any {g m : Nat} (kind nt : Int) (w : World) (h : SrcAt w g m) (hk : 1 ≤ kind ∧ kind ≤ 17) (hn : nt ≤ 1000) (hm : m + 1000 ≤ 1099511627776) :
    Calls Tryz.prog 34 #[.pointer (some ⟨g, 0, none⟩), .int .i64 kind, .int .i64 nt, .int .i64 6] w (DrewN g (m + 200) 3 w) := by
  have hg := h.lt
  obtain ⟨r, hr⟩ : ∃ r, r = w.heap.size := ⟨_, rfl⟩
  obtain ⟨E0, hE0⟩ : ∃ E, E = w.alloc (.cells #[.int .i64 0, .int .i64 0, .int .i64 0, .slice none 0 0] 55) := ⟨_, rfl⟩
  have hB0 : Below w.heap.size w E0 := by rw [hE0]; exact (Below.refl _ _).alloc (Nat.le_refl _) _
  have q0 : Box E0 r [.int .i64 0, .int .i64 0, .int .i64 0, .slice none 0 0] 55 := by rw [hE0, hr]; exact Box.newAt w [.int .i64 0, .int .i64 0, .int .i64 0, .slice none 0 0] _ rfl
  have DA := Lib.hid (l06DrawA_any kind nt E0 (h.below hB0) hn (by omega))
  obtain ⟨ar, har⟩ : ∃ ar, ar = kAr (kind - 1).toNat := ⟨_, rfl⟩
  have ha0 : 0 ≤ ar ∧ ar ≤ 3 := by
    have := kinds_of (k := kind) (by simp [inB]; omega)
    rw [har]
    rcases this with rfl | rfl | rfl | rfl | rfl | rfl | rfl | rfl | rfl | rfl | rfl | rfl | rfl | rfl | rfl | rfl | rfl
    all_goals decide
  have AR : Hid (∀ W, Calls Tryz.prog 63 #[.int .i64 kind] W fun e w' => e = .returned (.int .i64 ar) ∧ Below W.heap.size W w') := fun W => by
    have := l06Arity_any (kind - 1).toNat (by omega) W
    rw [show (((kind - 1).toNat : Nat) : Int) + 1 = kind by omega, ← har] at this
    exact this
  obtain ⟨ha1, ha2⟩ := ha0
  have HE0 := Lib.hid hE0
  have HRR := Lib.hid hr
  have HB0 := Lib.hid hB0
  have HQ0 := Lib.hid q0
  have hrw : w.heap.size ≤ r := by omega
  have FIN : Hid (∀ W' a b u f, f.length ≤ 3 → OwnI w.heap.size W' u f → SrcAt W' g (m + 200) → Off (· = g) w W' → DrewN g (m + 200) 3 w (.returned (.agg #[.int .i64 kind, .int .i64 a, .int .i64 b, u])) W') := fun W' a b u f hf ho hs hof => ⟨⟨kind, a, b, f⟩, u, rfl, hf, ho, hs, hof⟩
  generalize DrewN g (m + 200) 3 w = RR at *
  clear h hE0 hr hB0 q0 har
  go_enter Tryz.func34, Tryz.ntmps34
  go_upto_region 1 with fail
  rw [← HE0.out, ← HRR.out]
  go_upto_region 2 with (first | (go_at_call 62; refine DA.out.mono ?_; rintro e w1 ⟨a, -, rfl, hs1, ho1⟩) | fail)
  obtain ⟨s, hs⟩ : ∃ s, s = w1.heap.size + 1 := ⟨_, rfl⟩
  obtain ⟨e1, he1⟩ : ∃ s, s = w1.heap.size := ⟨_, rfl⟩
  obtain ⟨F, hF⟩ : ∃ F, F = (w1.alloc (.cells #[] 2)).alloc (.cells #[.int .i64 kind, .int .i64 a, .int .i64 0, .slice (some ⟨w1.heap.size, 0, none⟩) 0 0] 55) := ⟨_, rfl⟩
  have hb1 : Below w1.heap.size w1 (w1.alloc (.cells #[] 2)) := (Below.refl _ _).alloc (Nat.le_refl _) _
  have hb2 : Below (w1.alloc (.cells #[] 2)).heap.size (w1.alloc (.cells #[] 2)) F := by rw [hF]; exact (Below.refl _ _).alloc (Nat.le_refl _) _
  have ow0 : OwnI w.heap.size (w1.alloc (.cells #[] 2)) (.slice (some ⟨w1.heap.size, 0, none⟩) 0 0) [] := OwnI.lit (B := w.heap.size) w1 [] (Nat.le_trans HB0.out.size ho1.size) (by simp [maxLen])
  have HN0 : NB g (m + 40) w F r s kind a 0 (.slice (some ⟨e1, 0, none⟩) 0 0) [] := by
    have hof := (Off.of_below (· = g) HB0.out).trans ho1
    refine ⟨((HQ0.out.off ho1 (by show ¬ r = g; omega)).below hb1).below hb2, ?_, ?_, (hof.afterD (hb1.mono hof.size)).afterD (hb2.mono (Nat.le_trans hof.size hb1.size)), (hs1.below hb1).below hb2, hrw, ?_, ?_, hg⟩
    · rw [hF, hs, he1]; exact Box.newAt _ [.int .i64 kind, .int .i64 a, .int .i64 0, .slice (some ⟨w1.heap.size, 0, none⟩) 0 0] _ (by simp)
    · rw [he1]; exact ow0.below hb2
    · have := hof.size; omega
    · have := HQ0.out.lt; have := ho1.size; omega
  rw [← hF, ← hs, ← he1]
  clear hF hb1 hb2 ow0 he1 hs ho1 hs1
  go_wp2_with (first | (go_at_call 63; refine (AR.out _).mono ?_; rintro e w2 ⟨rfl, hb2⟩; have HN1 := Lib.hid (HN0.below hb2); clear hb2 HN0) | fail)
  go_loopw [10] (fun i wr => ∃ (j : Int) (u : Value) (f : List Int), i = .int .i64 j ∧ 0 ≤ j ∧ (f.length : Int) + j = ar ∧ NB g (m + 40 + 4 * f.length) w wr r s kind a 0 u f) (fun i _ => (intOf i).toNat)
  case atStart => exact ⟨ar, _, [], rfl, ha1, by simp, HN1.out.mono (by simp)⟩
  case round =>
    obtain ⟨j, u, f, rfl, hj, hfl, hN⟩ := hrel
    obtain ⟨wi, rfl⟩ : ∃ wi : World, wi = wr := ⟨_, rfl⟩
    obtain ⟨q, c, rfl, -⟩ := hN.own.rd
    by_cases hlt : 0 < j
    · have KP : Hid (∀ W, Below wi.heap.size wi W → Calls Tryz.prog 33 #[.pointer (some ⟨g, 0, none⟩), .int .i64 6] W fun e W2 => ∃ y, e = .returned (.int .i64 y) ∧ NB g (m + 40 + 4 * f.length + 2) w W2 r s kind a 0 (.slice q f.length c) f) := fun W hW => (pick_any 6 W (hN.src.below hW) (by omega) (by omega)).mono fun e W2 ⟨y, _, he, hs2, ho2⟩ => ⟨y, he, (hN.below hW).step ho2 hs2⟩
      have hcur := belowDrewD wi
      have t3 := hN.box.cell 3 rfl
      have lt3 := hN.box.lt
      have hlen : f.length < 17592186044415 := by omega
      clear HN1
      go_wp2_with fail
      go_region_law (first | (go_simp; go_at_call 33; refine (KP.out _ hcur).mono ?_; rintro e W2 ⟨y, rfl, hN2⟩; have t3 := hN2.box.cell 3 rfl; have lt3 := hN2.box.lt; have hown2 := hN2.own; have hz2 : w.heap.size ≤ W2.heap.size := hN2.off.size) | ((first | refine step_append_drew rfl _ _ rfl rfl hown2 rfl hlen hz2 ?_ | refine step_append_one rfl _ _ rfl rfl hown2 rfl hlen hz2 ?_); intro q2 k2 w2 ho2 o1 o2 o3 hs2 hk2; have GR := hN2.grow ho2 ⟨o1.symm, o2.symm, o3.symm, hs2, fun k hk hne => hk2 k hk hne⟩; have c3 := GR.1.1; have f3 := GR.1.2) | fail)
      all_goals
        have G := Lib.hid GR.2
        clear GR c3 f3 t3 hN2 ho2
        go_wp2_with fail
        go_roundw
        case rel => exact ⟨j - 1, _, f ++ [y], by go_num, by omega, by simp; omega, G.out.mono (by simp; omega)⟩
        case measure => simp [intOf] <;> omega
    · obtain rfl : j = 0 := by omega
      have hf3 : f.length ≤ 3 := by omega
      by_cases k17 : kind = 17
      · subst k17
        clear HN1
        go_wp2_with fail
        refine (pick_any 3 _ hN.src (by omega) (by omega)).mono ?_
        rintro e w3 ⟨y, hy, rfl, hs3, ho3⟩
        have hy1 := (pickP_pos hy (by omega)).1
        have hy2 := (pickP_pos hy (by omega)).2
        have hN3 := hN.step ho3 hs3
        have c2 := hN3.box.cell 2 rfl
        have g2 := hN3.box.frozen 2
        clear hN hy hs3 ho3
        go_upto_region 8 with fail
        clear c2 g2
        have R1 := hN3.setB (1 + y)
        have u0 := R1.res.cell 0 rfl
        have u1 := R1.res.cell 1 rfl
        have u2 := R1.res.cell 2 rfl
        have u3 := R1.res.cell 3 rfl
        have f0 := R1.res.frozen 0
        have f1 := R1.res.frozen 1
        have f2 := R1.res.frozen 2
        have f3 := R1.res.frozen 3
        have x0 := R1.box.cell 0 rfl
        have x1 := R1.box.cell 1 rfl
        have x2 := R1.box.cell 2 rfl
        have x3 := R1.box.cell 3 rfl
        obtain ⟨W', hW, bx, hof, hsr, how⟩ := R1.exit (.int .i64 17) (.int .i64 a) (.int .i64 (1 + y)) (.slice q f.length c)
        have k0' := bx.cell 0 rfl
        have k1' := bx.cell 1 rfl
        have k2' := bx.cell 2 rfl
        have k3' := bx.cell 3 rfl
        have FN := Lib.hid (FIN.out W' a (1 + y) _ f hf3 how (hsr.mono (by omega)) hof)
        have HWW := Lib.hid hW
        clear hW bx hof hsr how R1 hN3
        go_wp2_with fail
        rw [← HWW.out]
        refine bodyPost_ret (v := .agg #[.int .i64 17, .int .i64 a, .int .i64 (1 + y), .slice q f.length c]) (by simp [results, Tryz.results34, go_sem, *]) rfl ?_
        exact FN.out
      · have q17 : (kind == 17) = false := by rw [beq_eq_false_iff_ne]; exact k17
        have R1 := hN
        have u0 := R1.res.cell 0 rfl
        have u1 := R1.res.cell 1 rfl
        have u2 := R1.res.cell 2 rfl
        have u3 := R1.res.cell 3 rfl
        have f0 := R1.res.frozen 0
        have f1 := R1.res.frozen 1
        have f2 := R1.res.frozen 2
        have f3 := R1.res.frozen 3
        have x0 := R1.box.cell 0 rfl
        have x1 := R1.box.cell 1 rfl
        have x2 := R1.box.cell 2 rfl
        have x3 := R1.box.cell 3 rfl
        obtain ⟨W', hW, bx, hof, hsr, how⟩ := R1.exit (.int .i64 kind) (.int .i64 a) (.int .i64 0) (.slice q f.length c)
        have k0' := bx.cell 0 rfl
        have k1' := bx.cell 1 rfl
        have k2' := bx.cell 2 rfl
        have k3' := bx.cell 3 rfl
        have FN := Lib.hid (FIN.out W' a 0 _ f hf3 how (hsr.mono (by omega)) hof)
        have HWW := Lib.hid hW
        clear hW bx hof hsr how R1 hN HN1
        go_wp2_with fail
        rw [← HWW.out]
        refine bodyPost_ret (v := .agg #[.int .i64 kind, .int .i64 a, .int .i64 0, .slice q f.length c]) (by simp [results, Tryz.results34, go_sem, *]) rfl ?_
        exact FN.out
end Go.Proofs.YtcfhcmgmkhfjjaaGreat
namespace Go.Proofs.YtcfhcmgmkhfjjaaGreat
open Go.ChangeShapes Go.WideShapes Go.ChangeAt Go.RowKit
set_option linter.unusedVariables false
set_option linter.unusedSimpArgs false

set_option maxHeartbeats 8000000 in
set_option maxRecDepth 100000 in
theorem l06Bent_any {g m : Nat} (nt : Int) (w : World) (h : SrcAt w g m) (hn : nt ≤ 1000) (hm : m + 2000 ≤ 1099511627776) :
    Calls Tryz.prog 60 #[.pointer (some ⟨g, 0, none⟩), .int .i64 nt] w (DrewN g (m + 400) 4 w) := by
  have hg := h.lt
  obtain ⟨r, hr⟩ : ∃ r, r = w.heap.size := ⟨_, rfl⟩
  obtain ⟨E0, hE0⟩ : ∃ E, E = w.alloc (.cells #[.int .i64 0, .int .i64 0, .int .i64 0, .slice none 0 0] 55) := ⟨_, rfl⟩
  have hB0 : Below w.heap.size w E0 := by rw [hE0]; exact (Below.refl _ _).alloc (Nat.le_refl _) _
  have q0 : Box E0 r [.int .i64 0, .int .i64 0, .int .i64 0, .slice none 0 0] 55 := by rw [hE0, hr]; exact Box.newAt w [.int .i64 0, .int .i64 0, .int .i64 0, .slice none 0 0] _ rfl
  have hs0 := h.below hB0
  have HE0 := Lib.hid hE0
  have HRR := Lib.hid hr
  have HB0 := Lib.hid hB0
  have HQ0 := Lib.hid q0
  have hrw : w.heap.size ≤ r := by omega
  have FIN : Hid (∀ W' k a b u f, f.length ≤ 4 → OwnI w.heap.size W' u f → SrcAt W' g (m + 400) → Off (· = g) w W' → DrewN g (m + 400) 4 w (.returned (.agg #[.int .i64 k, .int .i64 a, .int .i64 b, u])) W') := fun W' k a b u f hf ho hs hof => ⟨⟨k, a, b, f⟩, u, rfl, hf, ho, hs, hof⟩
  generalize DrewN g (m + 400) 4 w = RR at *
  clear h hE0 hr hB0 q0
  go_enter Tryz.func60, Tryz.ntmps60
  go_upto_region 1 with fail
  rw [← HE0.out, ← HRR.out]
  go_wp2_with fail
  refine (pick_any 17 _ hs0 (by omega) (by omega)).mono ?_
  rintro e w1 ⟨x, hx, rfl, hs1, ho1⟩
  have hx1 := (pickP_pos hx (by omega)).1
  have hx2 := (pickP_pos hx (by omega)).2
  have DW := Lib.hid (l06Draw_any (1 + x) nt w1 hs1 ⟨by omega, by omega⟩ hn (by omega))
  have HO1 := Lib.hid ho1
  clear hx hs0 hs1 ho1
  go_upto_region 2 with (first | (go_at_call 34; refine DW.out.mono ?_; rintro e w2 ⟨⟨kk, aa, bb, f⟩, u, rfl, hsl, how, hs2, ho2⟩; simp only at hsl how; obtain ⟨q, c, rfl, -⟩ := how.rd) | fail)
  obtain ⟨s, hs⟩ : ∃ s, s = w2.heap.size := ⟨_, rfl⟩
  obtain ⟨F, hF⟩ : ∃ F, F = w2.alloc (.cells #[.int .i64 kk, .int .i64 aa, .int .i64 bb, .slice q f.length c] 55) := ⟨_, rfl⟩
  have hb2 : Below w2.heap.size w2 F := by rw [hF]; exact (Below.refl _ _).alloc (Nat.le_refl _) _
  have HN0 : NB g (m + 220) w F r s kk aa bb (.slice q f.length c) f := by
    have ho12 := HO1.out.trans ho2
    have hof := (Off.of_below (· = g) HB0.out).trans ho12
    have h01 : w.heap.size ≤ w1.heap.size := Nat.le_trans HB0.out.size HO1.out.size
    refine ⟨(HQ0.out.off ho12 (by show ¬ r = g; omega)).below hb2, ?_, (how.mono h01).below hb2, hof.afterD (hb2.mono hof.size), (hs2.below hb2).mono (by omega), hrw, ?_, ?_, hg⟩
    · rw [hF, hs]; exact Box.newAt _ [.int .i64 kk, .int .i64 aa, .int .i64 bb, .slice q f.length c] _ rfl
    · have := hof.size; omega
    · have := HQ0.out.lt; have := ho12.size; omega
  rw [← hF, ← hs]
  clear hF hb2 hs hs2 ho2 how DW HO1
  go_wp2_with fail
  refine (pick_any 16 _ HN0.src (by omega) (by omega)).mono ?_
  rintro e w3 ⟨y, -, rfl, hs3, ho3⟩
  have hN3 := HN0.step ho3 hs3
  clear HN0 hs3 ho3
  by_cases y0 : y = 0
  · subst y0
    have A1 := Lib.hid (amongLit_any [0, 18, -1] w3 hN3.src (by simp) (by simp) (by omega))
    have HN3 := Lib.hid hN3
    clear hN3
    go_upto_region 11 with (first | (go_at_call 35; refine A1.out.mono ?_; rintro e w4 ⟨z, hz, rfl, hs4, ho4⟩; have hN4 := HN3.out.step ho4 hs4; have c2 := hN4.box.cell 0 rfl; have g2 := hN4.box.frozen 0; clear hz hs4 ho4) | fail)
    clear c2 g2
    have R1 := hN4.setK z
    have u0 := R1.res.cell 0 rfl
    have u1 := R1.res.cell 1 rfl
    have u2 := R1.res.cell 2 rfl
    have u3 := R1.res.cell 3 rfl
    have f0 := R1.res.frozen 0
    have f1 := R1.res.frozen 1
    have f2 := R1.res.frozen 2
    have f3 := R1.res.frozen 3
    have x0 := R1.box.cell 0 rfl
    have x1 := R1.box.cell 1 rfl
    have x2 := R1.box.cell 2 rfl
    have x3 := R1.box.cell 3 rfl
    obtain ⟨W', hW, bx, hof, hsr, how⟩ := R1.exit (.int .i64 (z)) (.int .i64 (aa)) (.int .i64 (bb)) (Value.slice q f.length c)
    have k0' := bx.cell 0 rfl
    have k1' := bx.cell 1 rfl
    have k2' := bx.cell 2 rfl
    have k3' := bx.cell 3 rfl
    have FN := Lib.hid (FIN.out W' (z) (aa) (bb) _ _ (by omega) how (hsr.mono (by omega)) hof)
    have HWW := Lib.hid hW
    clear hW bx hof hsr how R1
    go_wp2_with fail
    rw [← HWW.out]
    refine bodyPost_ret (v := .agg #[.int .i64 (z), .int .i64 (aa), .int .i64 (bb), Value.slice q f.length c]) (by simp [results, Tryz.results60, go_sem, *]) rfl ?_
    exact FN.out
  have yn0 : (y == 0) = false := by rw [beq_eq_false_iff_ne]; exact y0
  by_cases y1 : y = 1
  · subst y1
    have A1 := Lib.hid (amongLit_any [2147483648, 17, 32, -1, 4] w3 hN3.src (by simp) (by simp) (by omega))
    have HN3 := Lib.hid hN3
    clear hN3
    go_upto_region 11 with (first | (go_at_call 35; refine A1.out.mono ?_; rintro e w4 ⟨z, hz, rfl, hs4, ho4⟩; have hN4 := HN3.out.step ho4 hs4; have c2 := hN4.box.cell 1 rfl; have g2 := hN4.box.frozen 1; clear hz hs4 ho4) | fail)
    clear c2 g2
    have R1 := hN4.setA z
    have u0 := R1.res.cell 0 rfl
    have u1 := R1.res.cell 1 rfl
    have u2 := R1.res.cell 2 rfl
    have u3 := R1.res.cell 3 rfl
    have f0 := R1.res.frozen 0
    have f1 := R1.res.frozen 1
    have f2 := R1.res.frozen 2
    have f3 := R1.res.frozen 3
    have x0 := R1.box.cell 0 rfl
    have x1 := R1.box.cell 1 rfl
    have x2 := R1.box.cell 2 rfl
    have x3 := R1.box.cell 3 rfl
    obtain ⟨W', hW, bx, hof, hsr, how⟩ := R1.exit (.int .i64 (kk)) (.int .i64 (z)) (.int .i64 (bb)) (Value.slice q f.length c)
    have k0' := bx.cell 0 rfl
    have k1' := bx.cell 1 rfl
    have k2' := bx.cell 2 rfl
    have k3' := bx.cell 3 rfl
    have FN := Lib.hid (FIN.out W' (kk) (z) (bb) _ _ (by omega) how (hsr.mono (by omega)) hof)
    have HWW := Lib.hid hW
    clear hW bx hof hsr how R1
    go_wp2_with fail
    rw [← HWW.out]
    refine bodyPost_ret (v := .agg #[.int .i64 (kk), .int .i64 (z), .int .i64 (bb), Value.slice q f.length c]) (by simp [results, Tryz.results60, go_sem, *]) rfl ?_
    exact FN.out
  have yn1 : (y == 1) = false := by rw [beq_eq_false_iff_ne]; exact y1
  by_cases y2 : y = 2
  · subst y2
    have A1 := Lib.hid (amongLit_any [0, 1, 16, 17] w3 hN3.src (by simp) (by simp) (by omega))
    have HN3 := Lib.hid hN3
    clear hN3
    go_upto_region 11 with (first | (go_at_call 35; refine A1.out.mono ?_; rintro e w4 ⟨z, hz, rfl, hs4, ho4⟩; have hN4 := HN3.out.step ho4 hs4; have c2 := hN4.box.cell 2 rfl; have g2 := hN4.box.frozen 2; clear hz hs4 ho4) | fail)
    clear c2 g2
    have R1 := hN4.setB z
    have u0 := R1.res.cell 0 rfl
    have u1 := R1.res.cell 1 rfl
    have u2 := R1.res.cell 2 rfl
    have u3 := R1.res.cell 3 rfl
    have f0 := R1.res.frozen 0
    have f1 := R1.res.frozen 1
    have f2 := R1.res.frozen 2
    have f3 := R1.res.frozen 3
    have x0 := R1.box.cell 0 rfl
    have x1 := R1.box.cell 1 rfl
    have x2 := R1.box.cell 2 rfl
    have x3 := R1.box.cell 3 rfl
    obtain ⟨W', hW, bx, hof, hsr, how⟩ := R1.exit (.int .i64 (kk)) (.int .i64 (aa)) (.int .i64 (z)) (Value.slice q f.length c)
    have k0' := bx.cell 0 rfl
    have k1' := bx.cell 1 rfl
    have k2' := bx.cell 2 rfl
    have k3' := bx.cell 3 rfl
    have FN := Lib.hid (FIN.out W' (kk) (aa) (z) _ _ (by omega) how (hsr.mono (by omega)) hof)
    have HWW := Lib.hid hW
    clear hW bx hof hsr how R1
    go_wp2_with fail
    rw [← HWW.out]
    refine bodyPost_ret (v := .agg #[.int .i64 (kk), .int .i64 (aa), .int .i64 (z), Value.slice q f.length c]) (by simp [results, Tryz.results60, go_sem, *]) rfl ?_
    exact FN.out
  have yn2 : (y == 2) = false := by rw [beq_eq_false_iff_ne]; exact y2
  by_cases y3 : y = 3
  · subst y3
    have hcur := belowDrewD w3
    have KA : Hid (∀ W, Below w3.heap.size w3 W → Calls Tryz.prog 35 #[.pointer (some ⟨g, 0, none⟩), .slice (some ⟨W.heap.size, 0, none⟩) 4 4] (W.alloc (.cells #[.int .i64 0, .int .i64 23, .int .i64 24, .int .i64 (-1)] 2)) fun e W2 => ∃ z, e = .returned (.int .i64 z) ∧ NB g (m + 220 + 4) w W2 r s kk aa bb (.slice q f.length c) f) := fun W hW => (amongLit_any [0, 23, 24, -1] W (hN3.src.below hW) (by simp) (by simp) (by omega)).mono fun e W2 ⟨z, _, he, hs4, ho4⟩ => ⟨z, he, ((hN3.below hW).step ho4 hs4).mono (by omega)⟩
    have t3 := hN3.box.cell 3 rfl
    have lt3 := hN3.box.lt
    have hlen : f.length < 17592186044415 := by omega
    go_wp2_with fail
    go_region_law (first | (go_simp; go_at_call 35; refine (KA.out _ hcur).mono ?_; rintro e W2 ⟨z, rfl, hN4⟩; have t3 := hN4.box.cell 3 rfl; have lt3 := hN4.box.lt; have hown2 := hN4.own; have hz2 : w.heap.size ≤ W2.heap.size := hN4.off.size) | ((first | refine step_append_drew rfl _ _ rfl rfl hown2 rfl hlen hz2 ?_ | refine step_append_one rfl _ _ rfl rfl hown2 rfl hlen hz2 ?_); intro q2 k2 w2 ho2 o1 o2 o3 hs2 hk2; have GR := hN4.grow ho2 ⟨o1.symm, o2.symm, o3.symm, hs2, fun k hk hne => hk2 k hk hne⟩; have c3 := GR.1.1; have f3 := GR.1.2) | fail)
    all_goals
      have G := Lib.hid GR.2
      clear GR c3 f3 t3 hN4 ho2 hN3 lt3 hown2
      go_upto_region 11 with fail
      have R1 := G.out
      have u0 := R1.res.cell 0 rfl
      have u1 := R1.res.cell 1 rfl
      have u2 := R1.res.cell 2 rfl
      have u3 := R1.res.cell 3 rfl
      have f0 := R1.res.frozen 0
      have f1 := R1.res.frozen 1
      have f2 := R1.res.frozen 2
      have f3 := R1.res.frozen 3
      have x0 := R1.box.cell 0 rfl
      have x1 := R1.box.cell 1 rfl
      have x2 := R1.box.cell 2 rfl
      have x3 := R1.box.cell 3 rfl
      obtain ⟨W', hW, bx, hof, hsr, how⟩ := R1.exit (.int .i64 (kk)) (.int .i64 (aa)) (.int .i64 (bb)) (Value.slice q2 (f.length + 1) k2)
      have k0' := bx.cell 0 rfl
      have k1' := bx.cell 1 rfl
      have k2' := bx.cell 2 rfl
      have k3' := bx.cell 3 rfl
      have FN := Lib.hid (FIN.out W' (kk) (aa) (bb) _ _ (by simp; omega) how (hsr.mono (by omega)) hof)
      have HWW := Lib.hid hW
      clear hW bx hof hsr how R1
      go_wp2_with fail
      rw [← HWW.out]
      refine bodyPost_ret (v := .agg #[.int .i64 (kk), .int .i64 (aa), .int .i64 (bb), Value.slice q2 (f.length + 1) k2]) (by simp [results, Tryz.results60, go_sem, *]) rfl ?_
      exact FN.out
  have yn3 : (y == 3) = false := by rw [beq_eq_false_iff_ne]; exact y3
  go_upto_region 11 with fail
  have R1 := hN3
  have u0 := R1.res.cell 0 rfl
  have u1 := R1.res.cell 1 rfl
  have u2 := R1.res.cell 2 rfl
  have u3 := R1.res.cell 3 rfl
  have f0 := R1.res.frozen 0
  have f1 := R1.res.frozen 1
  have f2 := R1.res.frozen 2
  have f3 := R1.res.frozen 3
  have x0 := R1.box.cell 0 rfl
  have x1 := R1.box.cell 1 rfl
  have x2 := R1.box.cell 2 rfl
  have x3 := R1.box.cell 3 rfl
  obtain ⟨W', hW, bx, hof, hsr, how⟩ := R1.exit (.int .i64 (kk)) (.int .i64 (aa)) (.int .i64 (bb)) (Value.slice q f.length c)
  have k0' := bx.cell 0 rfl
  have k1' := bx.cell 1 rfl
  have k2' := bx.cell 2 rfl
  have k3' := bx.cell 3 rfl
  have FN := Lib.hid (FIN.out W' (kk) (aa) (bb) _ _ (by omega) how (hsr.mono (by omega)) hof)
  have HWW := Lib.hid hW
  clear hW bx hof hsr how R1
  go_wp2_with fail
  rw [← HWW.out]
  refine bodyPost_ret (v := .agg #[.int .i64 (kk), .int .i64 (aa), .int .i64 (bb), Value.slice q f.length c]) (by simp [results, Tryz.results60, go_sem, *]) rfl ?_
  exact FN.out
end Go.Proofs.YtcfhcmgmkhfjjaaGreat

namespace Go.Proofs.YtcfhcmgmkhfjjaaGreat
open Go.ChangeShapes Go.WideShapes Go.ChangeAt Go.RowKit Go.Sort
set_option linter.unusedVariables false
set_option linter.unusedSimpArgs false

/-- a block of one of a patch's parts -/
def PBlk (v1 v2 v3 : Value) (L1 L : List Value) (k : Nat) : Prop := v1.ownBlock = some k ∨ v2.ownBlock = some k ∨ Blk (L1 ++ (L ++ [v3])) k
theorem OwnP.pblk {B : Nat} {w : World} {v1 v2 v3 : Value} {ts : List (List Int)} {ns : List NodeD} {os : List Int} {L1 L : List Value} (h : OwnP B w v1 v2 v3 ts ns os L1 L) {k : Nat} (hk : PBlk v1 v2 v3 L1 L k) : B ≤ k ∧ k < w.heap.size := by
  rcases hk with hk | hk | hk
  · exact h.o1.lt hk
  · exact h.o2.lt hk
  · exact h.blk hk
/-- while a patch is drawn: the result's box, the patch's box, its parts, the source -/
structure DB (g m : Nat) (w0 w : World) (r s : Nat) (inp : Int) (v1 v2 v3 : Value) (ts : List (List Int)) (ns : List NodeD) (os : List Int) (L1 L : List Value) : Prop where
  own : OwnP w0.heap.size w v1 v2 v3 ts ns os L1 L
  out : Box w s [.int .i64 inp, v1, v2, v3] 28
  res : Box w r zPatch 28
  off : Off (· = g) w0 w
  src : SrcAt w g m
  hr : w0.heap.size ≤ r
  hs : w0.heap.size ≤ s
  ne : r ≠ s
  hg : g < w0.heap.size
section
variable {g m m' : Nat} {w0 w : World} {r s : Nat} {inp : Int} {v1 v2 v3 : Value} {ts : List (List Int)} {ns : List NodeD} {os : List Int} {L1 L : List Value}
theorem DB.step {w' : World} (h : DB g m w0 w r s inp v1 v2 v3 ts ns os L1 L) (ho : Off (· = g) w w') (hs : SrcAt w' g m') : DB g m' w0 w' r s inp v1 v2 v3 ts ns os L1 L :=
  ⟨h.own.keep fun k hB hk _ => ho.block k hk (by have := h.hg; show k ≠ g; omega), h.out.off ho (by have := h.hs; have := h.hg; show ¬ s = g; omega), h.res.off ho (by have := h.hr; have := h.hg; show ¬ r = g; omega), h.off.trans ho, hs, h.hr, h.hs, h.ne, h.hg⟩
theorem DB.below {w' : World} (h : DB g m w0 w r s inp v1 v2 v3 ts ns os L1 L) (hb : Below w.heap.size w w') : DB g m w0 w' r s inp v1 v2 v3 ts ns os L1 L := h.step (Off.of_below _ hb) (h.src.below hb)
theorem DB.mono (h : DB g m w0 w r s inp v1 v2 v3 ts ns os L1 L) (hm : m ≤ m') : DB g m' w0 w r s inp v1 v2 v3 ts ns os L1 L := ⟨h.own, h.out, h.res, h.off, h.src.mono hm, h.hr, h.hs, h.ne, h.hg⟩
/-- parts and box are changed, nothing else that was there -/
theorem DB.upd {w' : World} {inp' : Int} {v1' v2' v3' : Value} {ts' : List (List Int)} {ns' : List NodeD} {os' : List Int} {L1' L' : List Value} (h : DB g m w0 w r s inp v1 v2 v3 ts ns os L1 L) (ho : Off (fun k => k = s ∨ PBlk v1 v2 v3 L1 L k) w w')
    (own' : OwnP w0.heap.size w' v1' v2' v3' ts' ns' os' L1' L') (out' : Box w' s [.int .i64 inp', v1', v2', v3'] 28) : DB g m w0 w' r s inp' v1' v2' v3' ts' ns' os' L1' L' := by
  have hlow : ∀ k, k < w0.heap.size → ¬ (k = s ∨ PBlk v1 v2 v3 L1 L k) := fun k hk hS => by
    rcases hS with rfl | hS
    · have := h.hs; omega
    · have := (h.own.pblk hS).1; omega
  have hrs : ¬ (r = s ∨ PBlk v1 v2 v3 L1 L r) := fun hS => by
    rcases hS with e | hS
    · exact h.ne e
    · obtain ⟨n1, n2, n3⟩ := h.own.neBox h.res patchT
      rcases hS with e | e | e
      · exact n1 e
      · exact n2 e
      · exact n3 e
  refine ⟨own', out', h.res.off ho hrs, ⟨ho.os.trans h.off.os, ho.tape.trans h.off.tape, ho.output.trans h.off.output, Nat.le_trans h.off.size ho.size, fun k hk hne => ?_⟩, h.src.stay (B := w0.heap.size) h.hg fun k h1 h2 => ho.block k h2 (hlow k h1), h.hr, h.hs, h.ne, h.hg⟩
  exact (ho.block k (Nat.lt_of_lt_of_le hk h.off.size) (hlow k hk)).trans (h.off.block k hk hne)
theorem Off.set1 {S : Nat → Prop} {w : World} {s i : Nat} (v : Value) (h : S s) : Off S w (w.setCell ⟨s, i, none⟩ v) :=
  ⟨rfl, rfl, rfl, by simp [World.setCell], fun k _ hn => Below.heap_setCell _ _ _ _ (by rintro rfl; exact hn h)⟩
/-- the number of inputs is laid -/
theorem DB.setInp (h : DB g m w0 w r s inp v1 v2 v3 ts ns os L1 L) (n : Int) : DB g m w0 (w.setCell ⟨s, 0, none⟩ (.int .i64 n)) r s n v1 v2 v3 ts ns os L1 L :=
  h.upd (Off.set1 _ (.inl rfl)) (h.own.setBox h.out patchT 0 _) (by simpa using h.out.set 0 (.int .i64 n))
/-- other outputs -/
theorem DB.outs {u : Value} {os' : List Int} (h : DB g m w0 w r s inp v1 v2 v3 ts ns os L1 L) (hu : OwnI w0.heap.size w u os') (hnew : ∀ b, u.ownBlock = some b → ¬ Blk (L1 ++ (L ++ [v3])) b) : DB g m w0 (w.setCell ⟨s, 3, none⟩ u) r s inp v1 v2 u ts ns os' L1 L :=
  h.upd (Off.set1 _ (.inl rfl)) ((h.own.outs hu hnew).setBox h.out patchT 3 _) (by simpa using h.out.set 3 u)
/-- the first tables -/
theorem DB.tables {u : Value} {ts' : List (List Int)} {M : List Value} (h : DB g m w0 w r s inp v1 v2 v3 [] ns os [] L) (hu : OwnII w0.heap.size w u ts' M) (hnew : ∀ b, Blk M b → ¬ Blk (L ++ [v3]) b) : DB g m w0 (w.setCell ⟨s, 1, none⟩ u) r s inp u v2 v3 ts' ns os M L := by
  have o : OwnP w0.heap.size w u v2 v3 ts' ns os M L := ⟨hu.1, hu.2.1, h.own.o2, h.own.s2, h.own.o3, Dis.append hu.2.2 (by have := h.own.dis; rwa [List.nil_append] at this) fun b hb hb' => hnew b hb hb'⟩
  exact h.upd (Off.set1 _ (.inl rfl)) (o.setBox h.out patchT 1 _) (by simpa using h.out.set 1 u)
/-- a node more -/
theorem DB.node {w' : World} {v2' u : Value} {y : NodeD} (h : DB g m w0 w r s inp v1 v2 v3 ts ns os L1 L) (hu : OwnI w0.heap.size w u y.src) (hnew : ∀ b, u.ownBlock = some b → ¬ Blk (L1 ++ (L ++ [v3])) b) (hv : OwnN w0.heap.size w' v2' (ns ++ [y]) (L ++ [u])) (hg : w.grownBy w' v2.ownBlock) :
    (w'.cell? ⟨s, 2, none⟩ = Option.some v2 ∧ w'.frozen? ⟨s, 2, none⟩ = false) ∧ DB g m w0 (w'.setCell ⟨s, 2, none⟩ v2') r s inp v1 v2' v3 ts (ns ++ [y]) os L1 (L ++ [u]) := by
  have hk : ∀ k, k < w.heap.size → v2.ownBlock ≠ Option.some k → w'.heap[k]? = w.heap[k]? := fun k hk hne => hg.block k hk fun e => hne e.symm
  have o' := h.own.node hu hnew hv hk
  have n1 := (h.own.neBox h.out patchT).2.1
  have out' := h.out.keep (hk _ h.out.lt n1)
  refine ⟨⟨out'.cell 2 rfl, out'.frozen 2⟩, h.upd ⟨hg.os, hg.tape, hg.output, by have := hg.size; simpa [World.setCell] using this, fun k hk' hne => ?_⟩ (o'.setBox out' patchT 2 _) (by simpa using out'.set 2 v2')⟩
  rw [Below.heap_setCell _ _ _ _ (show k ≠ s from fun e => hne (.inl e))]
  exact hk k hk' fun e => hne (.inr (.inr (.inl e)))
/-- a table more -/
theorem DB.table {w' : World} {v1' u : Value} {y : List Int} (h : DB g m w0 w r s inp v1 v2 v3 ts ns os L1 L) (hu : OwnI w0.heap.size w u y) (hnew : ∀ b, u.ownBlock = some b → ¬ Blk (L1 ++ (L ++ [v3])) b) (hv : OwnV w0.heap.size w' 26 v1' (L1 ++ [u])) (hg : w.grownBy w' v1.ownBlock) :
    (w'.cell? ⟨s, 1, none⟩ = Option.some v1 ∧ w'.frozen? ⟨s, 1, none⟩ = false) ∧ DB g m w0 (w'.setCell ⟨s, 1, none⟩ v1') r s inp v1' v2 v3 (ts ++ [y]) ns os (L1 ++ [u]) L := by
  have hk : ∀ k, k < w.heap.size → v1.ownBlock ≠ Option.some k → w'.heap[k]? = w.heap[k]? := fun k hk hne => hg.block k hk fun e => hne e.symm
  have o' := h.own.table hu hnew hv hk
  have n1 := (h.own.neBox h.out patchT).1
  have out' := h.out.keep (hk _ h.out.lt n1)
  refine ⟨⟨out'.cell 1 rfl, out'.frozen 1⟩, h.upd ⟨hg.os, hg.tape, hg.output, by have := hg.size; simpa [World.setCell] using this, fun k hk' hne => ?_⟩ (o'.setBox out' patchT 1 _) (by simpa using out'.set 1 v1')⟩
  rw [Below.heap_setCell _ _ _ _ (show k ≠ s from fun e => hne (.inl e))]
  exact hk k hk' fun e => hne (.inr (.inl e))
/-- all that it holds is older -/
theorem DB.fresh {W : World} {u : Value} {xs : List Int} {B' : Nat} (h : DB g m w0 w r s inp v1 v2 v3 ts ns os L1 L) (hu : OwnI B' W u xs) (hB' : w.heap.size ≤ B') : ∀ b, u.ownBlock = Option.some b → ¬ Blk (L1 ++ (L ++ [v3])) b := fun b hb hbk => by
  have h1 := (hu.lt hb).1
  have h2 := (h.own.blk hbk).2
  omega
end
/-- what is changed is none of the patch's -/
theorem DB.skip {g m : Nat} {w0 w w' : World} {r s : Nat} {inp : Int} {v1 v2 v3 : Value} {ts : List (List Int)} {ns : List NodeD} {os : List Int} {L1 L : List Value} {S : Nat → Prop} (h : DB g m w0 w r s inp v1 v2 v3 ts ns os L1 L) (ho : Off S w w') (hS : ∀ k, S k → w0.heap.size ≤ k ∧ k ≠ s ∧ k ≠ r ∧ ¬ PBlk v1 v2 v3 L1 L k) : DB g m w0 w' r s inp v1 v2 v3 ts ns os L1 L := by
  have hlow : ∀ k, k < w0.heap.size → ¬ S k := fun k hk hs => by have := (hS k hs).1; omega
  exact ⟨h.own.keep fun k hB hk hp => ho.block k hk fun hs => (hS k hs).2.2.2 hp, h.out.off ho fun hs => (hS _ hs).2.1 rfl, h.res.off ho fun hs => (hS _ hs).2.2.1 rfl,
    ⟨ho.os.trans h.off.os, ho.tape.trans h.off.tape, ho.output.trans h.off.output, Nat.le_trans h.off.size ho.size, fun k hk hne => (ho.block k (Nat.lt_of_lt_of_le hk h.off.size) (hlow k hk)).trans (h.off.block k hk hne)⟩,
    h.src.stay (B := w0.heap.size) h.hg fun k h1 h2 => ho.block k h2 (hlow k h1), h.hr, h.hs, h.ne, h.hg⟩
/-- other memory beside the patch stays: the blocks K as they are in wK -/
structure DK (K : Nat → Prop) (wK w : World) (g s : Nat) (v1 v2 v3 : Value) (L1 L : List Value) : Prop where
  same : ∀ b, K b → w.heap[b]? = wK.heap[b]?
  lt : ∀ b, K b → b < wK.heap.size
  ne : ∀ b, K b → b ≠ g ∧ b ≠ s ∧ ¬ PBlk v1 v2 v3 L1 L b
  sz : wK.heap.size ≤ w.heap.size
section
variable {K : Nat → Prop} {wK w w' : World} {g s : Nat} {v1 v2 v3 : Value} {L1 L : List Value}
theorem DK.skip {S : Nat → Prop} (h : DK K wK w g s v1 v2 v3 L1 L) (ho : Off S w w') (hS : ∀ b, K b → ¬ S b) : DK K wK w' g s v1 v2 v3 L1 L :=
  ⟨fun b hb => (ho.block b (Nat.lt_of_lt_of_le (h.lt b hb) h.sz) (hS b hb)).trans (h.same b hb), h.lt, h.ne, Nat.le_trans h.sz ho.size⟩
theorem DK.step (h : DK K wK w g s v1 v2 v3 L1 L) (ho : Off (· = g) w w') : DK K wK w' g s v1 v2 v3 L1 L := h.skip ho fun b hb => (h.ne b hb).1
theorem DK.below (h : DK K wK w g s v1 v2 v3 L1 L) (hb : Below w.heap.size w w') : DK K wK w' g s v1 v2 v3 L1 L := h.step (Off.of_below _ hb)
theorem DK.upd {v1' v2' v3' : Value} {L1' L' : List Value} (h : DK K wK w g s v1 v2 v3 L1 L) (ho : Off (fun k => k = s ∨ PBlk v1 v2 v3 L1 L k) w w') (hn : ∀ b, K b → PBlk v1' v2' v3' L1' L' b → PBlk v1 v2 v3 L1 L b ∨ wK.heap.size ≤ b) : DK K wK w' g s v1' v2' v3' L1' L' := by
  have h1 := h.skip ho fun b hb hS => by
    obtain ⟨-, n2, n3⟩ := h.ne b hb
    rcases hS with e | e
    · exact n2 e
    · exact n3 e
  refine ⟨h1.same, h.lt, fun b hb => ?_, h1.sz⟩
  obtain ⟨n1, n2, n3⟩ := h.ne b hb
  refine ⟨n1, n2, fun hp => ?_⟩
  rcases hn b hb hp with h2 | h2
  · exact n3 h2
  · have := h.lt b hb; omega
end
/-! ### a node of the patch is changed -/
def zND : NodeD := ⟨0, 0, 0, []⟩
theorem OwnIs.putAtD {B : Nat} {w w' : World} {L : List Value} {xss : List (List Int)} (h : OwnIs B w L xss) {k : Nat} (hk : k < xss.length) {s : Value} {ys : List Int} (hs : OwnI B w' s ys)
    (hkeep : ∀ i (hi : i < L.length), i ≠ k → ∀ j, L[i].ownBlock = some j → w'.heap[j]? = w.heap[j]?) : OwnIs B w' (L.set k s) (xss.set k ys) := by
  have hl := h.1
  refine ⟨by rw [List.length_set, List.length_set]; exact hl, fun i hi => ?_⟩
  have hi' : i < xss.length := by rw [List.length_set] at hi; exact hi
  by_cases e : k = i
  · subst e
    exact ⟨s, List.getElem?_set_self (by omega), by rw [List.getElem_set_self]; exact hs⟩
  · obtain ⟨hL, ho⟩ := h.at_ hi'
    exact ⟨L[i], by rw [List.getElem?_set_ne e]; exact List.getElem?_eq_getElem hL, by rw [List.getElem_set_ne e]; exact ho.keep fun j hj => hkeep i hL (fun e' => e e'.symm) j hj⟩
theorem Dis.setOneD {A : List Value} (h : Dis A) (k : Nat) {s : Value} (hs : ∀ b, s.ownBlock = some b → ¬ Blk A b) : Dis (A.set k s) := by
  refine List.pairwise_iff_getElem.2 fun i j hi hj hij b hb => ?_
  rw [List.length_set] at hi hj
  rw [List.getElem_set] at hb ⊢
  by_cases e1 : k = i
  · rw [if_pos e1] at hb
    rw [if_neg (by omega)]
    exact fun e => hs b hb ⟨A[j], List.getElem_mem hj, e⟩
  · rw [if_neg e1] at hb
    by_cases e2 : k = j
    · rw [if_pos e2]
      exact fun e => hs b e ⟨A[i], List.getElem_mem hi, hb⟩
    · rw [if_neg e2]
      exact List.pairwise_iff_getElem.1 h i j hi hj hij b hb
theorem nodeCells_srcD : ∀ (ns : List NodeD) (L : List Value) (k : Nat) (ys : List Int), nodeCells (ns.set k { ns.getD k zND with src := ys }) L = nodeCells ns L
  | [], _, _, _ => rfl
  | x :: xs, [], 0, ys => by simp [nodeCells]
  | x :: xs, [], k + 1, ys => by simp [nodeCells]
  | x :: xs, u :: us, 0, ys => rfl
  | x :: xs, u :: us, k + 1, ys => by
    have := nodeCells_srcD xs us k ys
    simp only [List.set_cons_succ, List.getD_cons_succ, nodeCells]
    rw [this]
section
variable {B : Nat} {w : World} {v1 v2 v3 : Value} {ts : List (List Int)} {ns : List NodeD} {os : List Int} {L1 L : List Value}
theorem OwnP.setNodeD {g n cap : Nat} (h : OwnP B w v1 (.slice (some ⟨g, 0, none⟩) n cap) v3 ts ns os L1 L) {k : Nat} (hk : k < ns.length) (y : NodeD) {s : Value} (hs : OwnI B w s y.src) (hnew : ∀ b, s.ownBlock = some b → ¬ Blk (L1 ++ (L ++ [v3])) b) :
    OwnP B ((((w.setCell ⟨g, k * 4, none⟩ (.int .i64 y.kind)).setCell ⟨g, k * 4 + 1, none⟩ (.int .i64 y.a)).setCell ⟨g, k * 4 + 2, none⟩ (.int .i64 y.b)).setCell ⟨g, k * 4 + 3, none⟩ s) v1 (.slice (some ⟨g, 0, none⟩) n cap) v3 ts (ns.set k y) os L1 (L.set k s) := by
  have hkp : ∀ j, j ≠ g → ((((w.setCell ⟨g, k * 4, none⟩ (.int .i64 y.kind)).setCell ⟨g, k * 4 + 1, none⟩ (.int .i64 y.a)).setCell ⟨g, k * 4 + 2, none⟩ (.int .i64 y.b)).setCell ⟨g, k * 4 + 3, none⟩ s).heap[j]? = w.heap[j]? := fun j hj =>
    (Below.heap_setCell _ _ _ _ hj).trans ((Below.heap_setCell _ _ _ _ hj).trans ((Below.heap_setCell _ _ _ _ hj).trans (Below.heap_setCell _ _ _ _ hj)))
  have t2 := Typed.of h.o2.2
  have hg : (Value.slice (some ⟨g, 0, none⟩) n cap).ownBlock = some g := rfl
  have hL := h.o2.1
  refine ⟨h.o1.keep fun j hj => hkp j fun e => t2.ne (Typed.of h.o1) (by decide) hg (e ▸ hj), h.s1.keep fun j hj => hkp j fun e => ?_, (h.o2.storing hk).2.2.2.2.2 y s, ?_, h.o3.keep fun j hj => hkp j fun e => t2.ne (Typed.of h.o3) (by decide) hg (e ▸ hj), ?_⟩
  · obtain ⟨v, hv, hb⟩ := hj
    exact t2.ne (h.s1.typed hv) (by decide) hg (e ▸ hb)
  · rw [List.map_set]
    refine h.s2.putAtD (by rw [List.length_map]; exact hk) (hs.keep fun j hj => hkp j fun e => t2.ne (Typed.of hs) (by decide) hg (e ▸ hj)) fun i hi _ j hj => hkp j fun e => ?_
    exact t2.ne (h.s2.typed (List.getElem_mem hi)) (by decide) hg (e ▸ hj)
  · have := Dis.setOneD h.dis (L1.length + k) hnew
    rw [List.set_append_right _ _ (by omega), show L1.length + k - L1.length = k by omega, List.set_append_left _ _ (by omega)] at this
    exact this
theorem OwnP.swapAtD {w' : World} (h : OwnP B w v1 v2 v3 ts ns os L1 L) {k : Nat} (hk : k < ns.length) (hkL : k < L.length) {ys : List Int} (hu : OwnI B w' L[k] ys) (hf : Off (fun b => L[k].ownBlock = some b) w w') :
    OwnP B w' v1 v2 v3 ts (ns.set k { ns.getD k zND with src := ys }) os L1 L := by
  have hmem : L[k] ∈ L := List.getElem_mem hkL
  have tk := h.s2.typed hmem
  refine ⟨h.o1.keep fun j hj => hf.block j (h.o1.lt hj).2 fun e => (Typed.of h.o1).ne tk (by decide) hj e, h.s1.keep fun j hj => hf.block j (h.s1.blk hj).2.1 fun e => h.dis.sep j hj (blk_append.2 (.inl ⟨L[k], hmem, e⟩)), ?_, ?_, h.o3.keep fun j hj => hf.block j (h.o3.lt hj).2 fun e => ?_, h.dis⟩
  · have h1 := h.o2.keep (w' := w') fun j hj => hf.block j (h.o2.lt hj).2 fun e => (Typed.of h.o2.2).ne tk (by decide) hj e
    refine ⟨by rw [List.length_set]; exact h1.1, ?_⟩
    rw [nodeCells_srcD, List.length_set]
    exact h1.2
  · rw [List.map_set]
    have := h.s2.putAtD (k := k) (by rw [List.length_map]; exact hk) hu fun i hi hne j hj => hf.block j (h.s2.blk ⟨L[i], List.getElem_mem hi, hj⟩).2.1 fun e => h.dis.right.left.at_ hkL hi (fun e' => hne e'.symm) e hj
    rwa [List.set_getElem_self] at this
  · exact h.dis.right.sep j ⟨L[k], hmem, e⟩ (Blk.one.2 hj)
/-- the outputs grow: their row stays in its block or lies in a new one -/
theorem OwnP.growOutD {w' : World} {u : Value} {os' : List Int} (h : OwnP B w v1 v2 v3 ts ns os L1 L) (hu : OwnI B w' u os') (hk : ∀ k, k < w.heap.size → v3.ownBlock ≠ some k → w'.heap[k]? = w.heap[k]?) (hn : ∀ k, u.ownBlock = some k → v3.ownBlock = some k ∨ w.heap.size ≤ k) : OwnP B w' v1 v2 u ts ns os' L1 L := by
  have n1 : ∀ b, Blk L1 b → v3.ownBlock ≠ some b := fun b hb e => h.dis.sep b hb (blk_append.2 (.inr (Blk.one.2 e)))
  have n2 : ∀ b, Blk L b → v3.ownBlock ≠ some b := fun b hb e => h.dis.right.sep b hb (Blk.one.2 e)
  refine ⟨h.o1.keep fun k e => hk k (h.o1.lt e).2 ((Typed.of h.o1).ne (Typed.of h.o3) (by decide) e), h.s1.keep fun k e => hk k (h.s1.blk e).2.1 (n1 k e), h.o2.keep fun k e => hk k (h.o2.lt e).2 ((Typed.of h.o2.2).ne (Typed.of h.o3) (by decide) e), h.s2.keep fun k e => hk k (h.s2.blk e).2.1 (n2 k e), hu, ?_⟩
  have h1 : Dis (L1 ++ L) := by
    have := h.dis
    rw [← List.append_assoc] at this
    exact this.left
  rw [← List.append_assoc]
  refine h1.snoc fun b hb hb' => ?_
  rcases hn b hb with e | e
  · rcases blk_append.1 hb' with h2 | h2
    · exact n1 b h2 e
    · exact n2 b h2 e
  · rcases blk_append.1 hb' with h2 | h2
    · have := (h.s1.blk h2).2.1; omega
    · have := (h.s2.blk h2).2.1; omega
end
theorem DB.growOut {g m : Nat} {w0 w w' : World} {r s : Nat} {inp : Int} {v1 v2 v3 u : Value} {ts : List (List Int)} {ns : List NodeD} {os os' : List Int} {L1 L : List Value} (h : DB g m w0 w r s inp v1 v2 v3 ts ns os L1 L) (hu : OwnI w0.heap.size w' u os') (hf : w'.os = w.os ∧ w'.tape = w.tape ∧ w'.output = w.output ∧ w.heap.size ≤ w'.heap.size) (hk : ∀ k, k < w.heap.size → v3.ownBlock ≠ some k → w'.heap[k]? = w.heap[k]?) (hn : ∀ k, u.ownBlock = some k → v3.ownBlock = some k ∨ w.heap.size ≤ k) :
    (w'.cell? ⟨s, 3, none⟩ = Option.some v3 ∧ w'.frozen? ⟨s, 3, none⟩ = false) ∧ DB g m w0 (w'.setCell ⟨s, 3, none⟩ u) r s inp v1 v2 u ts ns os' L1 L := by
  have n3 : v3.ownBlock ≠ some s := fun e => (h.own.neBox h.out patchT).2.2 (blk_append.2 (.inr (blk_append.2 (.inr (Blk.one.2 e)))))
  have out' := h.out.keep (hk _ h.out.lt n3)
  have own' := h.own.growOutD hu hk hn
  refine ⟨⟨out'.cell 3 rfl, out'.frozen 3⟩, h.upd ⟨hf.1, hf.2.1, hf.2.2.1, by have := hf.2.2.2; simpa [World.setCell] using this, fun k hk' hne => ?_⟩ (own'.setBox out' patchT 3 _) (by simpa using out'.set 3 u)⟩
  rw [Below.heap_setCell _ _ _ _ (show k ≠ s from fun e => hne (.inl e))]
  exact hk k hk' fun e => hne (.inr (.inr (.inr (blk_append.2 (.inr (blk_append.2 (.inr (Blk.one.2 e))))))))
end Go.Proofs.YtcfhcmgmkhfjjaaGreat

namespace Go.Proofs.YtcfhcmgmkhfjjaaGreat
open Go
set_option linter.unusedVariables false
section
variable {P : Program} {ops : Array Oper} {md : Region.Mode} {Q : Exit → Act → World → Prop} {S S' : World → Prop}

/-- whatever order: S holds until operation s has come up -/
def wpC (P : Program) (md : Region.Mode) (ops : Array Oper) (Q : Exit → Act → World → Prop) (S : World → Prop) (s : Nat) : Nat → Array Bool → Act → World → Prop
  | 0, listed, a, w => Region.ready md ops listed = [] ∧ Q .normal a w
  | f + 1, listed, a, w => (Region.ready md ops listed = [] → Q .normal a w) ∧
    ∀ i ∈ Region.ready md ops listed, wpOp P ops Q i (fun a' w' => ((listed.setIfInBounds i true).getD s false = false → S w') ∧ wpC P md ops Q S s f (listed.setIfInBounds i true) a' w') a w
theorem wpAny_of_wpC {s : Nat} : ∀ (f : Nat) (listed : Array Bool) (a : Act) (w : World), wpC P md ops Q S s f listed a w → wpAny P md ops Q f listed a w
  | 0, _, _, _, h => h
  | f + 1, listed, a, w, h => ⟨h.1, fun i hi => wpOp_mono (fun a' w' h' => wpAny_of_wpC f _ a' w' h'.2) (h.2 i hi)⟩
structure ClosedL (md : Region.Mode) (ops : Array Oper) (listed : Array Bool) : Prop where
  size : listed.size = ops.size
  closed : ∀ j oj, ops[j]? = some oj → listed.getD j false = true → ∀ e ∈ oj.after, Region.binds md e = true → listed.getD e.on false = true
theorem ClosedL.set {i : Nat} {listed : Array Bool} (inv : ClosedL md ops listed) (hi : i ∈ Region.ready md ops listed) : ClosedL md ops (listed.setIfInBounds i true) := by
  obtain ⟨_, oi, hoi, hall⟩ := mem_ready.1 hi
  refine ⟨by simp [inv.size], fun j oj hj hl e he hb => ?_⟩
  by_cases hij : i = j
  · subst hij
    have : oj = oi := Option.some.inj (hj.symm.trans hoi)
    subst this
    exact getD_set_true (hall e he hb)
  · rw [getD_set_ne false hij] at hl
    exact getD_set_true (inv.closed j oj hj hl e he hb)
/-- while i has not come up, neither has s, which waits for it -/
theorem ClosedL.late {i s : Nat} {listed : Array Bool} (inv : ClosedL md ops listed) (hw : Region.waitsFor md ops s i = true) (hi : listed.getD i true = false) : listed.getD s false = false := by
  obtain ⟨os, hos, e, he, hb, hon⟩ := Region.waitsFor_spec hw
  cases h : listed.getD s false with
  | false => rfl
  | true =>
    have := inv.closed s os hos h e he hb
    rw [hon, getD_both hi] at this
    cases this
theorem getD_set_back {listed : Array Bool} {i s : Nat} (h : (listed.setIfInBounds i true).getD s false = false) : listed.getD s false = false := by
  cases h' : listed.getD s false with
  | false => rfl
  | true => rw [getD_set_true h'] at h; cases h
theorem wpC_first {s i : Nat} {oi : Oper} {v : Value} (hi : ops[i]? = some oi) (hsel : ∀ (j : Nat) (o : Oper) cs b, ops[j]? = some o → o.op ≠ .select cs b) (his : i ≠ s)
    (hS' : ∀ listed w, ClosedL md ops listed → listed.getD i true = false → (listed.getD s false = false → S w) → S' w) (hQ : ∀ c a w, Q (.panic c) (a.put oi.dst v) w → Q (.panic c) a w) :
    ∀ (f : Nat) (listed : Array Bool) (a : Act) (w : World), ClosedL md ops listed →
      (∀ j oj, ops[j]? = some oj → j ≠ i → listed.getD j true = false → (∀ e ∈ oj.after, Region.binds md e = true → e.on ≠ i) → oi.apart ops oj = true) →
      i ∈ Region.ready md ops listed → YieldsIf P ops S' oi v a → (listed.getD s false = false → S w) →
      wpC P md ops Q S s f (listed.setIfInBounds i true) (a.put oi.dst v) w → wpC P md ops Q S s (f + 1) listed a w := by
  intro f
  induction f with
  | zero =>
    intro listed a w inv _ hr hy hS H
    have hun := (mem_ready.1 hr).1
    refine ⟨fun h => (by rw [h] at hr; cases hr), fun j hj => ?_⟩
    by_cases hji : j = i
    · subst hji; exact hy.wpOp hi (hS' _ _ inv hun hS) ⟨fun h => hS (getD_set_back h), H⟩
    · have := ready_mono hj hji
      rw [H.1] at this
      cases this
  | succ f ih =>
    intro listed a w inv hfree hr hy hS H
    have hun := (mem_ready.1 hr).1
    refine ⟨fun h => (by rw [h] at hr; cases hr), fun j hj => ?_⟩
    by_cases hji : j = i
    · subst hji; exact hy.wpOp hi (hS' _ _ inv hun hS) ⟨fun h => hS (getD_set_back h), H⟩
    · have h1 := H.2 j (ready_mono hj hji)
      obtain ⟨hjun, oj, hoj, hall⟩ := mem_ready.1 hj
      have hnot : ∀ e ∈ oj.after, Region.binds md e = true → e.on ≠ i := fun e he hb heq => by
        have h1 := hall e he hb
        rw [heq, getD_both hun] at h1
        cases h1
      have h2 := wpOp_putIf hoj (hfree j oj hoj hji hjun hnot) (fun cs b => hsel i oi cs b hi) (fun cs b => hsel j oj cs b hoj) hQ hy h1
      have hfree' : ∀ k ok, ops[k]? = some ok → k ≠ i → (listed.setIfInBounds j true).getD k true = false →
          (∀ e ∈ ok.after, Region.binds md e = true → e.on ≠ i) → oi.apart ops ok = true := fun k ok hk hki hun hno => by
        refine hfree k ok hk hki ?_ hno
        by_cases hjk : j = k
        · subst hjk; exact hjun
        · rw [getD_set_ne true hjk] at hun; exact hun
      refine wpOp_mono (fun a' w' h3 => ?_) h2
      have h4 : (listed.setIfInBounds j true).getD s false = false → S w' := fun h => h3.2.1 (by
        rw [Array.setIfInBounds_comm _ _ (Ne.symm hji), getD_set_ne false his]; exact h)
      refine ⟨h4, ih (listed.setIfInBounds j true) a' w' (inv.set hj) hfree' (ready_mono hr (Ne.symm hji)) h3.1 h4 ?_⟩
      rw [Array.setIfInBounds_comm _ _ hji]
      exact h3.2.2

/-! ### a plan: 0: taken first, in whatever world · 1: taken first, under S · 2: alone, S behind it · 3: alone, from s on -/
def planB (md : Region.Mode) (ops : Array Oper) (s : Nat) : List (Nat × Nat) → Array Bool → Bool
  | [], listed => (Region.ready md ops listed).isEmpty
  | (i, 0) :: r, listed => decide (i ≠ s) && (Region.ready md ops listed).contains i && Region.free md ops listed i && planB md ops s r (listed.setIfInBounds i true)
  | (i, 1) :: r, listed => decide (i ≠ s) && Region.waitsFor md ops s i && (Region.ready md ops listed).contains i && Region.free md ops listed i && planB md ops s r (listed.setIfInBounds i true)
  | (i, 2) :: r, listed => decide (Region.ready md ops listed = [i]) && planB md ops s r (listed.setIfInBounds i true)
  | (i, _ + 3) :: r, listed => decide (Region.ready md ops listed = [i]) && (listed.setIfInBounds i true).getD s false && planB md ops s r (listed.setIfInBounds i true)
def wpPlan (P : Program) (ops : Array Oper) (Q : Exit → Act → World → Prop) (S : World → Prop) : List (Nat × Nat) → Act → World → Prop
  | [], a, w => Q .normal a w
  | (i, 0) :: r, a, w => ∃ oi v, ops[i]? = some oi ∧ YieldsIf P ops (fun _ => True) oi v a ∧ (∀ c a w, Q (.panic c) (a.put oi.dst v) w → Q (.panic c) a w) ∧ wpPlan P ops Q S r (a.put oi.dst v) w
  | (i, 1) :: r, a, w => ∃ oi v, ops[i]? = some oi ∧ YieldsIf P ops S oi v a ∧ (∀ c a w, Q (.panic c) (a.put oi.dst v) w → Q (.panic c) a w) ∧ wpPlan P ops Q S r (a.put oi.dst v) w
  | (i, 2) :: r, a, w => ∃ oi, ops[i]? = some oi ∧ Region.wanted oi (yielded ops a.tmps) = true ∧ oi.wp P a w (fun a' w' => S w' ∧ wpPlan P ops Q S r a' w') Q
  | (i, _ + 3) :: r, a, w => ∃ oi, ops[i]? = some oi ∧ Region.wanted oi (yielded ops a.tmps) = true ∧ oi.wp P a w (fun a' w' => wpPlan P ops Q S r a' w') Q
theorem wpC_of_plan {s : Nat} (hsel : Region.noSelect ops = true) :
    ∀ (r : List (Nat × Nat)) (listed : Array Bool) (a : Act) (w : World), ClosedL md ops listed → planB md ops s r listed = true → (listed.getD s false = false → S w) → wpPlan P ops Q S r a w →
      wpC P md ops Q S s r.length listed a w
  | [], listed, a, w, _, hB, _, h => ⟨by simpa [planB] using hB, h⟩
  | (i, 0) :: r, listed, a, w, inv, hB, hS, h => by
    obtain ⟨oi, v, hi, hy, hQ, h'⟩ := h
    simp only [planB, Bool.and_eq_true, decide_eq_true_eq] at hB
    obtain ⟨⟨⟨his, hr⟩, hf⟩, hB'⟩ := hB
    have hr' : i ∈ Region.ready md ops listed := by simpa using hr
    exact wpC_first (S' := fun _ => True) hi (Region.noSelect_spec hsel) his (fun _ _ _ _ _ => trivial) hQ r.length listed a w inv (Region.free_spec hi hf) hr' hy hS
      (wpC_of_plan hsel r _ _ _ (inv.set hr') hB' (fun h => hS (getD_set_back h)) h')
  | (i, 1) :: r, listed, a, w, inv, hB, hS, h => by
    obtain ⟨oi, v, hi, hy, hQ, h'⟩ := h
    simp only [planB, Bool.and_eq_true, decide_eq_true_eq] at hB
    obtain ⟨⟨⟨⟨his, hws⟩, hr⟩, hf⟩, hB'⟩ := hB
    have hr' : i ∈ Region.ready md ops listed := by simpa using hr
    exact wpC_first (S' := S) hi (Region.noSelect_spec hsel) his (fun listed w inv hun h => h (inv.late hws hun)) hQ r.length listed a w inv (Region.free_spec hi hf) hr' hy hS
      (wpC_of_plan hsel r _ _ _ (inv.set hr') hB' (fun h => hS (getD_set_back h)) h')
  | (i, 2) :: r, listed, a, w, inv, hB, hS, h => by
    obtain ⟨oi, hi, hw, h'⟩ := h
    simp only [planB, Bool.and_eq_true, decide_eq_true_eq] at hB
    obtain ⟨hr, hB'⟩ := hB
    refine ⟨fun h0 => (by rw [hr] at h0; cases h0), fun j hj => ?_⟩
    have hji : j = i := by rw [hr] at hj; simpa using hj
    subst hji
    unfold wpOp
    simp only [hi, hw, if_true]
    exact .inl (Oper.wp_mono (fun a' w' h3 => ⟨fun _ => h3.1, wpC_of_plan hsel r _ a' w' (inv.set hj) hB' (fun _ => h3.1) h3.2⟩) h')
  | (i, _ + 3) :: r, listed, a, w, inv, hB, hS, h => by
    obtain ⟨oi, hi, hw, h'⟩ := h
    simp only [planB, Bool.and_eq_true, decide_eq_true_eq] at hB
    obtain ⟨⟨hr, hd⟩, hB'⟩ := hB
    refine ⟨fun h0 => (by rw [hr] at h0; cases h0), fun j hj => ?_⟩
    have hji : j = i := by rw [hr] at hj; simpa using hj
    subst hji
    have hno : ∀ w', (listed.setIfInBounds j true).getD s false = false → S w' := fun w' h => by rw [hd] at h; cases h
    unfold wpOp
    simp only [hi, hw, if_true]
    exact .inl (Oper.wp_mono (fun a' w' h3 => ⟨hno w', wpC_of_plan hsel r _ a' w' (inv.set hj) hB' (hno w') h3⟩) h')
theorem wpPlan_take {i : Nat} {oi : Oper} {v : Value} {r : List (Nat × Nat)} {a : Act} {w : World} (hi : ops[i]? = some oi) (hw : Region.wanted oi (yielded ops a.tmps) = true) (hy : ∀ w, True → (execOp a.eval oi).run P w = .ok (.value v) w)
    (hQ : ∀ c a w, Q (.panic c) (a.put oi.dst v) w → Q (.panic c) a w) (h : wpPlan P ops Q S r (a.put oi.dst v) w) : wpPlan P ops Q S ((i, 0) :: r) a w := ⟨oi, v, hi, .inl ⟨hw, hy⟩, hQ, h⟩
theorem wpPlan_load {i : Nat} {oi : Oper} {v : Value} {r : List (Nat × Nat)} {a : Act} {w : World} (hi : ops[i]? = some oi) (hw : Region.wanted oi (yielded ops a.tmps) = true) (hy : ∀ w, S w → (execOp a.eval oi).run P w = .ok (.value v) w)
    (hQ : ∀ c a w, Q (.panic c) (a.put oi.dst v) w → Q (.panic c) a w) (h : wpPlan P ops Q S r (a.put oi.dst v) w) : wpPlan P ops Q S ((i, 1) :: r) a w := ⟨oi, v, hi, .inl ⟨hw, hy⟩, hQ, h⟩
theorem wpPlan_call {i : Nat} {oi : Oper} {r : List (Nat × Nat)} {a : Act} {w : World} (hi : ops[i]? = some oi) (hw : Region.wanted oi (yielded ops a.tmps) = true)
    (h : ∀ K : Act → World → Prop, (∀ a' w', S w' → wpPlan P ops Q S r a' w' → K a' w') → oi.wp P a w K Q) : wpPlan P ops Q S ((i, 2) :: r) a w :=
  ⟨oi, hi, hw, h _ fun a' w' h1 h2 => ⟨h1, h2⟩⟩
theorem wpPlan_store {i : Nat} {oi : Oper} {r : List (Nat × Nat)} {a : Act} {w : World} (hi : ops[i]? = some oi) (hw : Region.wanted oi (yielded ops a.tmps) = true)
    (h : ∀ K : Act → World → Prop, (∀ a' w', wpPlan P ops Q S r a' w' → K a' w') → oi.wp P a w K Q) : wpPlan P ops Q S ((i, 3) :: r) a w :=
  ⟨oi, hi, hw, h _ fun a' w' h2 => h2⟩
theorem wpPlan_nil {a : Act} {w : World} (h : Q .normal a w) : wpPlan P ops Q S [] a w := h
def regB (md : Region.Mode) (ops : Array Oper) (s : Nat) (r : List (Nat × Nat)) : Bool :=
  Region.noSelect ops && decide (r.length = ops.size) && planB md ops s r (Array.replicate ops.size false)
/-- the law -/
theorem wp_region_plan {id : Nat} {a : Act} {w : World} (S : World → Prop) (s : Nat) (r : List (Nat × Nat)) (hm : P.follows .mixedOrders = true) (hB : regB .any ops s r = true) (hS : S w.drew)
    (h : wpPlan P ops Q S r a w.drew) : (Code.region id ops true).wp P Q a w := by
  simp only [regB, Bool.and_eq_true, decide_eq_true_eq] at hB
  obtain ⟨⟨hsel, hlen⟩, hplan⟩ := hB
  have inv0 : ClosedL .any ops (Array.replicate ops.size false) := ⟨by simp, fun j oj _ hl => (by rw [getD_replicate_false] at hl; cases hl)⟩
  have H := wpC_of_plan (P := P) (Q := Q) (S := S) hsel r _ a w.drew inv0 hplan (fun _ => hS) h
  rw [hlen] at H
  exact wp_region_any hm (wpAny_of_wpC _ _ _ _ H)
end
end Go.Proofs.YtcfhcmgmkhfjjaaGreat

namespace Go.Proofs.YtcfhcmgmkhfjjaaGreat
open Go.ChangeShapes Go.WideShapes Go.ChangeAt Go.RowKit Go.Sort
set_option linter.unusedVariables false

theorem sizeN_any (p : Option Addr) (n c : Nat) (w : World) (hn : n ≤ maxLen) :
    Calls Tryz.prog 21 #[.slice p n c] w fun e w' => e = .returned (.int .i64 n) ∧ w = w' := by
  unfold maxLen at hn
  go_enter Tryz.func21, Tryz.ntmps21
  go_wp2
  go_ret
  exact ⟨rfl, rfl⟩
set_option maxHeartbeats 6400000 in
set_option maxRecDepth 100000 in
theorem isWellFormed_v {v : Value} {x : PatchD} (w : World) (h : VPatch w v x) :
    Calls Tryz.prog 38 #[v] w fun e w' => e = .returned (.bool (formedB x)) ∧ Below w.heap.size w w' := by
  obtain ⟨p1, c1, p2, c2, p3, c3, rfl, r1, r2, r3⟩ := h
  have hl1 := r1.len
  have hl2 := r2.len
  have hl3 := r3.len
  have hm1 := r1.len
  have hm2 := r2.len
  have hm3 := r3.len
  unfold maxLen at hl1 hl2 hl3
  have HR : Hid (∀ b1 b2 b3 b4 b5 b6, inB x.inputs 0 4 = b1 → tablesB x.tables = b2 → decide (x.nodes.length ≤ 24) = b3 → decide (x.outputs.length ≤ 4) = b4 → x.nodes.all (ndB x.inputs x.tables.length x.nodes.length) = b5 → x.outputs.all (fun f => inB f 0 (x.nodes.length - 1)) = b6 → formedB x = (b1 && b2 && b3 && b4 && b5 && b6)) := by
    intro b1 b2 b3 b4 b5 b6 h1 h2 h3 h4 h5 h6
    subst h1 h2 h3 h4 h5 h6; rfl
  generalize formedB x = R at HR ⊢
  obtain ⟨E0, hE0⟩ : ∃ E, E = w.alloc (.cells #[.int .i64 x.inputs, .slice p1 x.tables.length c1, .slice p2 x.nodes.length c2, .slice p3 x.outputs.length c3] 28) := ⟨_, rfl⟩
  have hB0 : Below w.heap.size w E0 := by rw [hE0]; exact (Below.refl _ _).alloc (Nat.le_refl _) _
  have bx : Box E0 w.heap.size [.int .i64 x.inputs, .slice p1 x.tables.length c1, .slice p2 x.nodes.length c2, .slice p3 x.outputs.length c3] 28 := by rw [hE0]; exact Box.newAt w _ _ rfl
  have HE := Lib.hid hE0
  clear hE0
  replace r1 := r1.below hB0
  replace r2 := r2.below hB0
  replace r3 := r3.below hB0
  have z0 := bx.cell 0 rfl
  have z1 := bx.cell 1 rfl
  have z2 := bx.cell 2 rfl
  have z3 := bx.cell 3 rfl
  have SN := Lib.hid (sizeN_any p2 x.nodes.length c2 E0 hm2)
  have SO := Lib.hid (sizeI_any p3 x.outputs.length c3 E0 hm3)
  have TB := Lib.hid (areTables_any (c := c1) E0 r1)
  have AI := Lib.hid (areIndices_any (c := c3) (x.nodes.length : Int) E0 r3 (by omega) (by omega))
  cases e1 : inB x.inputs 0 4
  case false =>
    have hR : R = false := by rw [HR.out _ _ _ _ _ _ e1 rfl rfl rfl rfl rfl]; rfl
    subst hR
    go_enter Tryz.func38, Tryz.ntmps38
    go_upto_region 1 with fail
    rw [← HE.out]
    go_wp2_with (first | (go_at_call 21; refine SN.out.mono ?_; rintro e w' ⟨rfl, rfl⟩) | (go_at_call 30; refine (within_any _ _ _ _).mono ?_; rintro e w' ⟨rfl, rfl⟩))
    go_ret
    exact ⟨rfl, hB0⟩
  cases e2 : tablesB x.tables
  case false =>
    rw [e2] at TB
    have hR : R = false := by rw [HR.out _ _ _ _ _ _ e1 e2 rfl rfl rfl rfl]; rfl
    subst hR
    clear e2
    go_enter Tryz.func38, Tryz.ntmps38
    go_upto_region 1 with fail
    rw [← HE.out]
    go_wp2_with (first | (go_at_call 21; refine SN.out.mono ?_; rintro e w' ⟨rfl, rfl⟩) | (go_at_call 30; refine (within_any _ _ _ _).mono ?_; rintro e w' ⟨rfl, rfl⟩) | (go_at_call 64; refine TB.out.mono ?_; rintro e w' ⟨rfl, rfl⟩))
    go_ret
    exact ⟨rfl, hB0⟩
  rw [e2] at TB
  by_cases h3 : x.nodes.length ≤ 24
  case neg =>
    have hR : R = false := by rw [HR.out _ _ _ _ _ _ e1 e2 (decide_eq_false h3) rfl rfl rfl]; rfl
    subst hR
    clear e2
    go_enter Tryz.func38, Tryz.ntmps38
    go_upto_region 1 with fail
    rw [← HE.out]
    go_wp2_with (first | (go_at_call 21; refine SN.out.mono ?_; rintro e w' ⟨rfl, rfl⟩) | (go_at_call 30; refine (within_any _ _ _ _).mono ?_; rintro e w' ⟨rfl, rfl⟩) | (go_at_call 64; refine TB.out.mono ?_; rintro e w' ⟨rfl, rfl⟩))
    go_ret
    exact ⟨rfl, hB0⟩
  by_cases h4 : x.outputs.length ≤ 4
  case neg =>
    have hR : R = false := by rw [HR.out _ _ _ _ _ _ e1 e2 (decide_eq_true h3) (decide_eq_false h4) rfl rfl]; rfl
    subst hR
    clear e2
    go_enter Tryz.func38, Tryz.ntmps38
    go_upto_region 1 with fail
    rw [← HE.out]
    go_wp2_with (first | (go_at_call 21; refine SN.out.mono ?_; rintro e w' ⟨rfl, rfl⟩) | (go_at_call 30; refine (within_any _ _ _ _).mono ?_; rintro e w' ⟨rfl, rfl⟩) | (go_at_call 64; refine TB.out.mono ?_; rintro e w' ⟨rfl, rfl⟩) | (go_at_call 65; refine SO.out.mono ?_; rintro e w' ⟨rfl, rfl⟩))
    go_ret
    exact ⟨rfl, hB0⟩
  cases e6 : x.outputs.all (fun f => inB f 0 ((x.nodes.length : Int) - 1))
  case false =>
    rw [e6] at AI
    have hR : R = false := by rw [HR.out _ _ _ _ _ _ e1 e2 (decide_eq_true h3) (decide_eq_true h4) rfl e6]; simp
    subst hR
    clear e2 e6
    go_enter Tryz.func38, Tryz.ntmps38
    go_upto_region 1 with fail
    rw [← HE.out]
    go_wp2_with (first | (go_at_call 21; refine SN.out.mono ?_; rintro e w' ⟨rfl, rfl⟩) | (go_at_call 30; refine (within_any _ _ _ _).mono ?_; rintro e w' ⟨rfl, rfl⟩) | (go_at_call 64; refine TB.out.mono ?_; rintro e w' ⟨rfl, rfl⟩) | (go_at_call 65; refine SO.out.mono ?_; rintro e w' ⟨rfl, rfl⟩) | (go_at_call 66; refine AI.out.mono ?_; rintro e w' ⟨rfl, rfl⟩))
    go_ret
    exact ⟨rfl, hB0⟩
  rw [e6] at AI
  have HR2 : Hid (∀ b5, x.nodes.all (ndB x.inputs x.tables.length x.nodes.length) = b5 → R = b5) := by
    intro b5 h5
    rw [HR.out _ _ _ _ _ _ e1 e2 (decide_eq_true h3) (decide_eq_true h4) h5 e6]; simp
  clear e2 e6 HR
  go_enter Tryz.func38, Tryz.ntmps38
  go_upto_region 1 with fail
  rw [← HE.out]
  go_wp2_with (first | (go_at_call 21; refine SN.out.mono ?_; rintro e w' ⟨rfl, rfl⟩) | (go_at_call 30; refine (within_any _ _ _ _).mono ?_; rintro e w' ⟨rfl, rfl⟩) | (go_at_call 64; refine TB.out.mono ?_; rintro e w' ⟨rfl, rfl⟩) | (go_at_call 65; refine SO.out.mono ?_; rintro e w' ⟨rfl, rfl⟩) | (go_at_call 66; refine AI.out.mono ?_; rintro e w' ⟨rfl, rfl⟩))
  clear z0 z1 z2 z3 TB r1 r3 e1 SN SO AI HE
  go_loopw [39] (fun i wr => ∃ k : Nat, k ≤ x.nodes.length ∧ i = .int .i64 k ∧ (x.nodes.take k).all (ndB x.inputs x.tables.length x.nodes.length) = true ∧ Below E0.heap.size E0 wr) (fun i _ => x.nodes.length - (intOf i).toNat)
  case atStart => exact ⟨0, Nat.zero_le _, rfl, by simp, Below.refl _ _⟩
  case round =>
    obtain ⟨k, hk, rfl, hall, hbel⟩ := hrel
    have HA := Lib.hid hall; clear hall
    obtain ⟨wi, rfl⟩ : ∃ wi : World, wi = wr := ⟨_, rfl⟩
    by_cases hlt2 : k < x.nodes.length
    · obtain ⟨b, o, rfl, hb, hc⟩ := (r2.below hbel).pos hlt2
      have hnd := hc k hlt2
      clear hc
      generalize hx : x.nodes[k] = nd at hnd
      have HX := Lib.hid hx; clear hx
      obtain ⟨y0, y1, y2, q, d, y3, hr⟩ := hnd
      obtain ⟨F, hF⟩ : ∃ F, F = wi.alloc (.cells #[.int .i64 nd.kind, .int .i64 nd.a, .int .i64 nd.b, .slice q nd.src.length d] 55) := ⟨_, rfl⟩
      have hBF : Below wi.heap.size wi F := by rw [hF]; exact (Below.refl _ _).alloc (Nat.le_refl _) _
      have bn : Box F wi.heap.size [.int .i64 nd.kind, .int .i64 nd.a, .int .i64 nd.b, .slice q nd.src.length d] 55 := by rw [hF]; exact Box.newAt _ _ _ rfl
      have HF := Lib.hid hF
      have hbF := hbel.trans (hBF.mono hbel.size)
      have bx1 := bx.below hbF
      have hrF := hr.below hBF
      have s0 := cell_regrown (bx1.cell 0 rfl)
      have s1 := cell_regrown (bx1.cell 1 rfl)
      have t0 := cell_regrown (bn.cell 0 rfl)
      have t1 := cell_regrown (bn.cell 1 rfl)
      have t2 := cell_regrown (bn.cell 2 rfl)
      have t3 := cell_regrown (bn.cell 3 rfl)
      have K0 : Hid (∀ n os, Calls Tryz.prog 68 #[.slice p1 x.tables.length c1] (grow (redrawn F n) os) fun e w'' => e = .returned (.int .i64 (x.tables.length : Int)) ∧ ∃ p : Regrown, w'' = grow (redrawn F p.d) p.os) := fun n os => Calls.regrown_of (Calls.same_below (sizeII_any p1 x.tables.length c1 _ hm1))
      have K1 : Hid (∀ bb, nodeB nd (x.tables.length : Int) = bb → ∀ n os, Calls Tryz.prog 67 #[.agg #[.int .i64 nd.kind, .int .i64 nd.a, .int .i64 nd.b, .slice q nd.src.length d], .int .i64 (x.tables.length : Int)] (grow (redrawn F n) os) fun e w'' => e = .returned (.bool bb) ∧ ∃ p : Regrown, w'' = grow (redrawn F p.d) p.os) := fun bb hbb n os => Calls.regrown_of (by rw [← hbb]; exact isNode_v _ _ ⟨q, d, rfl, hrF.below (below_regrown F n os)⟩)
      have K3 : Hid (∀ bb, nd.src.all (fun f => inB f 0 ((x.nodes.length : Int) - 1)) = bb → ∀ n os, Calls Tryz.prog 66 #[.slice q nd.src.length d, .int .i64 (x.nodes.length : Int)] (grow (redrawn F n) os) fun e w'' => e = .returned (.bool bb) ∧ ∃ p : Regrown, w'' = grow (redrawn F p.d) p.os) := fun bb hbb n os => Calls.regrown_of (Calls.same_below (by rw [← hbb]; exact areIndices_any _ _ (hrF.below (below_regrown F n os)) (by omega) (by omega)))
      clear hF hr hBF bn bx1 hrF
      cases eN : nodeB nd (x.tables.length : Int)
      case false =>
        have K2 := Lib.hid (K1.out _ eN)
        have hR : R = false := HR2.out _ (all_false hlt2 (by rw [HX.out]; unfold ndB; rw [eN]; rfl))
        subst hR
        clear eN K1 K3
        go_wp2_with fail
        rw [← HF.out]
        refine wp_region_quiet_below (by kernel_rfl) (by kernel_rfl) ?_
        repeat (first | go_big_quiet_step ((first | (go_at_call 68; exact K0.out _ _) | (go_at_call 67; exact K2.out _ _))) | quiet_step ((first | (go_at_call 68; exact K0.out _ _) | (go_at_call 67; exact K2.out _ _))))
        refine wpQuiet_nil ?_
        intro _ hw'
        obtain ⟨⟨dq, osq⟩, hw''⟩ := hw'
        subst hw''
        have hq := hbF.trans ((below_regrown F dq osq).mono hbF.size)
        go_wp2_with fail
        go_ret
        exact ⟨rfl, hB0.trans (hq.mono hB0.size)⟩
      have K2 := Lib.hid (K1.out _ eN)
      have HN := Lib.hid eN
      clear eN K1
      cases eI : nd.src.all (fun f => inB f 0 ((x.nodes.length : Int) - 1))
      case false =>
        have K4 := Lib.hid (K3.out _ eI)
        have hR : R = false := HR2.out _ (all_false hlt2 (by rw [HX.out]; unfold ndB; rw [eI, Bool.and_false]))
        subst hR
        clear eI K3
        go_wp2_with fail
        rw [← HF.out]
        refine wp_region_quiet_below (by kernel_rfl) (by kernel_rfl) ?_
        repeat (first | go_big_quiet_step ((first | (go_at_call 68; exact K0.out _ _) | (go_at_call 67; exact K2.out _ _) | (go_at_call 66; exact K4.out _ _))) | quiet_step ((first | (go_at_call 68; exact K0.out _ _) | (go_at_call 67; exact K2.out _ _) | (go_at_call 66; exact K4.out _ _))))
        refine wpQuiet_nil ?_
        intro _ hw'
        obtain ⟨⟨dq, osq⟩, hw''⟩ := hw'
        subst hw''
        have hq := hbF.trans ((below_regrown F dq osq).mono hbF.size)
        go_wp2_with fail
        go_ret
        exact ⟨rfl, hB0.trans (hq.mono hB0.size)⟩
      have K4 := Lib.hid (K3.out _ eI)
      have HI := Lib.hid eI
      clear eI K3
      by_cases hin : nd.kind = 1 ∧ x.inputs ≤ nd.a
      · have q1 : (nd.kind == 1) = true := by rw [beq_iff_eq]; exact hin.1
        have q2 := hin.2
        have hR : R = false := HR2.out _ (all_false hlt2 (by rw [HX.out]; unfold ndB; rw [HN.out, q1, decide_eq_true q2]; rfl))
        subst hR
        clear hin
        go_wp2_with fail
        rw [← HF.out]
        refine wp_region_quiet_below (by kernel_rfl) (by kernel_rfl) ?_
        repeat (first | go_big_quiet_step ((first | (go_at_call 68; exact K0.out _ _) | (go_at_call 67; exact K2.out _ _) | (go_at_call 66; exact K4.out _ _))) | quiet_step ((first | (go_at_call 68; exact K0.out _ _) | (go_at_call 67; exact K2.out _ _) | (go_at_call 66; exact K4.out _ _))))
        refine wpQuiet_nil ?_
        intro _ hw'
        obtain ⟨⟨dq, osq⟩, hw''⟩ := hw'
        subst hw''
        have hq := hbF.trans ((below_regrown F dq osq).mono hbF.size)
        go_wp2_with fail
        go_ret
        exact ⟨rfl, hB0.trans (hq.mono hB0.size)⟩
      have HQ : ((nd.kind == 1) = true ∧ nd.a < x.inputs) ∨ (nd.kind == 1) = false := by
        by_cases k1 : nd.kind = 1
        · exact .inl ⟨by rw [beq_iff_eq]; exact k1, by have := fun h => hin ⟨k1, h⟩; omega⟩
        · exact .inr (by rw [beq_eq_false_iff_ne]; exact k1)
      have HS : Hid ((x.nodes.take (k + 1)).all (ndB x.inputs x.tables.length x.nodes.length) = true) := by
        refine all_step hlt2 HA.out ?_
        rw [HX.out]; unfold ndB; rw [HN.out, HI.out]
        rcases HQ with ⟨_, h⟩ | h
        · rw [decide_eq_false (by omega)]; simp
        · rw [h]; rfl
      clear hin
      rcases HQ with ⟨q1, q2⟩ | q1
      all_goals
        go_wp2_with fail
        rw [← HF.out]
        refine wp_region_quiet_below (by kernel_rfl) (by kernel_rfl) ?_
        repeat (first | go_big_quiet_step ((first | (go_at_call 68; exact K0.out _ _) | (go_at_call 67; exact K2.out _ _) | (go_at_call 66; exact K4.out _ _))) | quiet_step ((first | (go_at_call 68; exact K0.out _ _) | (go_at_call 67; exact K2.out _ _) | (go_at_call 66; exact K4.out _ _))))
        refine wpQuiet_nil ?_
        intro _ hw'
        obtain ⟨⟨dq, osq⟩, hw''⟩ := hw'
        subst hw''
        have hq := hbF.trans ((below_regrown F dq osq).mono hbF.size)
        generalize grow (redrawn F dq) osq = F2 at hq ⊢
        go_wp2_with fail
        go_roundw
        case rel => exact ⟨k + 1, by omega, by go_num, HS.out, hq⟩
        case measure => simp [intOf] <;> omega
    · obtain rfl : k = x.nodes.length := by omega
      have hR : R = true := HR2.out _ (all_done HA.out)
      subst hR
      go_wp2_with fail
      go_ret
      exact ⟨rfl, hB0.trans (hbel.mono hB0.size)⟩
end Go.Proofs.YtcfhcmgmkhfjjaaGreat

namespace Go.Proofs.YtcfhcmgmkhfjjaaGreat
open Go.ChangeShapes Go.WideShapes Go.ChangeAt Go.RowKit Go.Sort
set_option linter.unusedVariables false

def sliceLen : Value → Nat
  | .slice _ n _ => n
  | _ => 0
def boolN : Value → Nat
  | .bool true => 1
  | _ => 0
theorem getD_node {xs : List NodeD} {k : Nat} (h : k < xs.length) : xs.getD k ⟨0, 0, 0, []⟩ = xs[k] := by
  rw [List.getD_eq_getElem?_getD, List.getElem?_eq_getElem h]; rfl
theorem rdy_eq {nodes : List NodeD} {out : List Int} {k : Nat} (h : k < nodes.length) {b : Bool} (hb : out.contains (k : Int) = b) : rdy nodes out k = (!b && (waits nodes[k]).all (fun f => out.contains f)) := by
  unfold rdy; rw [hb, getD_node h]
theorem nxt_step {nodes : List NodeD} {out : List Int} {k n : Nat} (h : k < n) (hr : rdy nodes out k = false) : nxt nodes out k (n - k) = nxt nodes out (k + 1) (n - (k + 1)) := by
  rw [show n - k = (n - (k + 1)) + 1 by omega, nxt, if_neg (by rw [hr]; simp)]
theorem nxt_found {nodes : List NodeD} {out : List Int} {k n : Nat} (h : k < n) (hr : rdy nodes out k = true) : nxt nodes out k (n - k) = some k := by
  rw [show n - k = (n - (k + 1)) + 1 by omega, nxt, if_pos hr]
/-- the order, if there is one -/
def RetO (w : World) (L : List Int) (n : Nat) (e : Ending) (w' : World) : Prop := ∃ u, e = .returned (.tuple #[u, .bool (decide (L.length = n))]) ∧ OwnI w.heap.size w' u (if L.length = n then L else []) ∧ Below w.heap.size w w'
theorem RetO.of {w w' : World} {L : List Int} {n : Nat} (b : Bool) (hb : L.length = n ↔ b = true) {u : Value} (ho : OwnI w.heap.size w' u (if b then L else [])) (hbl : Below w.heap.size w w') : RetO w L n (.returned (.tuple #[u, .bool b])) w' := by
  have e : decide (L.length = n) = b := by
    cases b
    · exact decide_eq_false fun h => by have := hb.1 h; cases this
    · exact decide_eq_true (hb.2 rfl)
  refine ⟨u, by rw [e], ?_, hbl⟩
  cases b
  · rw [if_neg (fun h => by have := hb.1 h; cases this)]; exact ho
  · rw [if_pos (hb.2 rfl)]; exact ho
set_option maxHeartbeats 6400000 in
set_option maxRecDepth 100000 in
theorem l07Order_any {g : Nat} {x : PatchD} (w : World) (h : PPatch w g x) (hf : formedB x = true) :
    Calls Tryz.prog 42 #[.pointer (some ⟨g, 0, none⟩)] w (RetO w (orderL x.nodes) x.nodes.length) := by
  have hlt := h.lt
  obtain ⟨p1, c1, p2, c2, p3, c3, bx, r1, r2, r3⟩ := h
  have hl2 := r2.len
  unfold maxLen at hl2
  have hn24 : x.nodes.length ≤ 24 := (formed_iff.1 hf).2.2.1
  clear hf r1 r3
  have hO : Hid (orderL x.nodes = ord x.nodes x.nodes.length []) := rfl
  generalize orderL x.nodes = OL at hO ⊢
  have h0 := OwnI.lit (B := w.heap.size) w [] (Nat.le_refl _) (by simp [maxLen])
  have hb0 := (Below.refl w.heap.size w).alloc (Nat.le_refl _) (.cells #[] 2)
  go_enter Tryz.func42, Tryz.ntmps42
  go_wp2_with fail
  go_loopw [4] (fun ov wr => ∃ (f : Nat) (out : List Int), f + out.length = x.nodes.length ∧ OwnI w.heap.size wr ov out ∧ Below w.heap.size w wr ∧ Hid (ord x.nodes f out = OL)) (fun ov _ => x.nodes.length - sliceLen ov)
  case atStart => exact ⟨x.nodes.length, [], by simp, h0, hb0, hO.out.symm⟩
  case round =>
    obtain ⟨f, out, hfo, hown, hbel, HO⟩ := hrel
    clear h0 hb0
    obtain ⟨wi, rfl⟩ : ∃ wi : World, wi = wr := ⟨_, rfl⟩
    have bx1 := bx.below hbel
    have r21 := r2.below hbel
    have z2 := bx1.cell 2 rfl
    have hh := hown
    obtain ⟨op, oc, rfl, hro⟩ := hh.rd
    by_cases hf0 : f = 0
    · subst hf0
      have hlen : ¬ ((out.length : Int) < (x.nodes.length : Int)) := by omega
      have HLN : Hid (out.length = x.nodes.length) := by unfold Hid; omega
      clear hfo
      go_wp2_with fail
      refine bodyPost_ret (v := .tuple #[.slice op out.length oc, .bool true]) (by simp [results, Tryz.results42, go_sem, *]) rfl ?_
      rw [show OL = out from HO.out.symm]
      exact RetO.of true (by rw [HLN.out]; simp) hown hbel
    obtain ⟨f', rfl⟩ : ∃ f', f = f' + 1 := ⟨f - 1, by omega⟩
    have hlo : out.length < x.nodes.length := by omega
    go_wp2_with fail
    go_loopw [5, 6] (fun t i wr' => ∃ k : Nat, k ≤ x.nodes.length ∧ i = .int .i64 k ∧ Below wi.heap.size wi wr' ∧ ((t = .int .i64 (-1) ∧ Hid (nxt x.nodes out k (x.nodes.length - k) = nxt x.nodes out 0 x.nodes.length)) ∨ ∃ m : Nat, m < x.nodes.length ∧ t = .int .i64 (m : Int) ∧ Hid (nxt x.nodes out 0 x.nodes.length = some m))) (fun t i _ => x.nodes.length - (intOf i).toNat)
    case atStart => exact ⟨0, Nat.zero_le _, rfl, Below.refl _ _, .inl ⟨rfl, rfl⟩⟩
    case round =>
      obtain ⟨k, hk, rfl, hbel2, hcase⟩ := hrel
      obtain ⟨wj, rfl⟩ : ∃ wj : World, wj = wr := ⟨_, rfl⟩
      have bx2 := bx1.below hbel2
      have y2 := bx2.cell 2 rfl
      rcases hcase with ⟨rfl, HK⟩ | ⟨m, hm, rfl, HM⟩
      · by_cases hlt2 : k < x.nodes.length
        · obtain ⟨b, o, rfl, hb, hc⟩ := (r21.below hbel2).pos hlt2
          have hnd := hc k hlt2
          have hro2 := hro.below hbel2
          have HS := Lib.hid (l00Has_any (c := oc) (k : Int) wj hro2)
          rw [any_contains] at HS
          cases hcn : out.contains (k : Int)
          case true =>
            rw [hcn] at HS
            have HN : Hid (nxt x.nodes out (k + 1) (x.nodes.length - (k + 1)) = nxt x.nodes out 0 x.nodes.length) := by
              unfold Hid; rw [← HK.out, nxt_step hlt2 (by rw [rdy_eq hlt2 hcn]; rfl)]
            clear hcn hc hnd
            go_wp2_with (go_at_call 75; refine HS.out.mono ?_; rintro e w' ⟨rfl, rfl⟩)
            go_roundw
            case rel => exact ⟨k + 1, by omega, by go_num, hbel2, .inl ⟨rfl, HN⟩⟩
            case measure => simp [intOf] <;> omega
          case false =>
            rw [hcn] at HS
            have HRY := Lib.hid (rdy_eq hlt2 hcn)
            generalize hx : x.nodes[k] = nd at hnd HRY
            clear hcn hc hx
            go_wp2_with (go_at_call 75; refine HS.out.mono ?_; rintro e w' ⟨rfl, rfl⟩)
            refine (l07Waits_any wj hnd).mono ?_
            rintro e W2 ⟨u, rfl, hw, hb2⟩
            obtain ⟨wp, wc, rfl, hwr⟩ := hw
            have AL := Lib.hid (l07All_any (c := wc) (d := oc) W2 hwr (hro2.below hb2))
            have hbel3 := hbel2.trans (hb2.mono hbel2.size)
            clear hnd hro2 hwr HS
            cases hal : (waits nd).all (fun f => out.contains f)
            case false =>
              rw [hal] at AL
              have HN : Hid (nxt x.nodes out (k + 1) (x.nodes.length - (k + 1)) = nxt x.nodes out 0 x.nodes.length) := by
                unfold Hid; rw [← HK.out, nxt_step hlt2 (by rw [HRY.out, hal]; rfl)]
              clear hal
              go_wp2_with (go_at_call 76; refine AL.out.mono ?_; rintro e w' ⟨rfl, rfl⟩)
              go_roundw
              case rel => exact ⟨k + 1, by omega, by go_num, hbel3, .inl ⟨rfl, HN⟩⟩
              case measure => simp [intOf] <;> omega
            case true =>
              rw [hal] at AL
              have HN : Hid (nxt x.nodes out 0 x.nodes.length = some k) := by
                unfold Hid; rw [← HK.out, nxt_found hlt2 (by rw [HRY.out, hal]; rfl)]
              clear hal
              go_wp2_with (go_at_call 76; refine AL.out.mono ?_; rintro e w' ⟨rfl, rfl⟩)
              go_roundw
              case rel => exact ⟨k + 1, by omega, by go_num, hbel3, .inr ⟨k, hlt2, rfl, HN⟩⟩
              case measure => simp [intOf] <;> omega
        · obtain rfl : k = x.nodes.length := by omega
          have HL : Hid (OL = out) := by
            have HNN : nxt x.nodes out 0 x.nodes.length = none := by rw [← HK.out, Nat.sub_self]; rfl
            unfold Hid; rw [← HO.out]; exact ord_none HNN _
          have hlo2 := Lib.hid hlo
          go_wp2_with fail
          refine bodyPost_ret (v := .tuple #[.slice none 0 0, .bool false]) (by simp [results, Tryz.results42, go_sem, *]) rfl ?_
          rw [HL.out]
          exact RetO.of false ⟨fun h => by have := hlo2.out; omega, fun h => by cases h⟩ (OwnI.nil _ _) (hbel.trans (hbel2.mono hbel.size))
      · have hown2 := hown.below hbel2
        have hB2 := hbel.trans (hbel2.mono hbel.size)
        have HN : Hid (ord x.nodes f' (out ++ [(m : Int)]) = OL) := by unfold Hid; rw [← HO.out, ord_some HM.out]
        have hsz : w.heap.size ≤ wj.heap.size := hB2.size
        by_cases hkn : k < x.nodes.length
        all_goals
          go_wp2_with (at_builtin; refine wpList_append_one rfl _ _ rfl rfl hown2 rfl hB2 (by omega) hsz (Nat.le_refl _) ?_; intro v' w4 hown4 hb4 hz4 hk4)
          obtain ⟨q4, c4, rfl, -⟩ := hown4.rd
          go_roundw
          case rel => exact ⟨f', out ++ [(m : Int)], by rw [List.length_append, List.length_singleton]; omega, hown4, hb4, HN⟩
          case measure => simp [sliceLen] <;> omega
theorem infoB : (Tryz.prog.info? 4).map (fun i => (i.zero, i.size, i.bytes)) = some (some (.bool false), 1, 1) := by kernel_rfl
theorem tkv (out : List Int) {n f : Nat} (h : f < n) (h' : f < ((tk out n).map Value.bool).length) : ((tk out n).map Value.bool)[f] = .bool (out.contains (f : Int)) := by
  rw [List.getElem_map, tk_get out h]
theorem OwnV.cellB {B : Nat} {w : World} {g n cap : Nat} {out : List Int} (h : OwnV B w 4 (.slice (some ⟨g, 0, none⟩) n cap) ((tk out n).map Value.bool)) {f : Nat} (hf : f < n) : w.cell? ⟨g, f, none⟩ = some (.bool (out.contains (f : Int))) := by
  have hl : f < ((tk out n).map Value.bool).length := by rw [List.length_map, tk_length]; exact hf
  have := (h.storing hl).2.2.2.1
  rw [tkv out hf hl] at this
  exact this
set_option maxHeartbeats 12800000 in
set_option maxRecDepth 100000 in
theorem order_v {v : Value} {x : PatchD} (w : World) (h : VPatch w v x) (hf : formedB x = true) :
    Calls Tryz.prog 39 #[v] w fun e w' => ∃ u, e = .returned u ∧ OwnI w.heap.size w' u (orderL x.nodes) ∧ Below w.heap.size w w' := by
  obtain ⟨p1, c1, p2, c2, p3, c3, rfl, r1, r2, r3⟩ := h
  have hl2 := r2.len
  unfold maxLen at hl2
  have hfm := formed_iff.1 hf
  have hn24 : x.nodes.length ≤ 24 := hfm.2.2.1
  have HSRC : Hid (∀ y ∈ x.nodes, ∀ f ∈ y.src, 0 ≤ f ∧ f < (x.nodes.length : Int)) := fun y hy => ndB_src (hfm.2.2.2.2.1 y hy)
  clear hf hfm r1 r3
  obtain ⟨s, hs⟩ : ∃ s, s = w.heap.size := ⟨_, rfl⟩
  obtain ⟨E0, hE0⟩ : ∃ E, E = w.alloc (.cells #[.int .i64 x.inputs, .slice p1 x.tables.length c1, .slice p2 x.nodes.length c2, .slice p3 x.outputs.length c3] 28) := ⟨_, rfl⟩
  have hB0 : Below s w E0 := by rw [hE0, hs]; exact (Below.refl _ _).alloc (Nat.le_refl _) _
  have bx : Box E0 s [.int .i64 x.inputs, .slice p1 x.tables.length c1, .slice p2 x.nodes.length c2, .slice p3 x.outputs.length c3] 28 := by rw [hE0, hs]; exact Box.newAt w _ _ rfl
  have hsz0 : E0.heap.size = s + 1 := by rw [hE0, hs]; simp
  have HE := Lib.hid hE0
  have HS0 := Lib.hid hs
  have r20 := r2
  clear hE0 hs r2
  have hmk := fun W => run_make_row' (P := Tryz.prog) 79 4 (.bool false) 1 Tryz.underlying79 infoB rfl .i64 .i64 x.nodes.length (by omega) (by omega) W
  have ht0 := OwnV.made (B := s + 1) E0 4 (.bool false) x.nodes.length (by omega) (by unfold maxLen; omega)
  obtain ⟨E1, hE1⟩ : ∃ E, E = E0.alloc (.cells (madeCells #[.bool false] x.nodes.length) 4) := ⟨_, rfl⟩
  rw [← hE1, hsz0] at ht0
  have hsz1 : E1.heap.size = s + 1 + 1 := by rw [hE1]; simp [hsz0]
  have hB1 : Below s w E1 := by rw [hE1]; exact hB0.alloc (by omega) _
  have hB01 : Below E0.heap.size E0 E1 := by rw [hE1]; exact (Below.refl _ _).alloc (Nat.le_refl _) _
  replace bx := bx.below hB01
  have hE1' : E0.alloc (.cells (madeCells #[.bool false] x.nodes.length) 4) = E1 := hE1.symm
  have HE1 := Lib.hid hE1'
  clear hE1 hE1' hB01 hB0
  have h0 := OwnI.lit (B := s + 1 + 1) E1 [] (by omega) (by simp [maxLen])
  obtain ⟨E2, hE2⟩ : ∃ E, E = E1.alloc (.cells #[] 2) := ⟨_, rfl⟩
  have h0' : OwnI (s + 1 + 1) E2 (.slice (some ⟨s + 1 + 1, 0, none⟩) 0 0) [] := by rw [hE2, ← hsz1]; simpa [hsz1] using h0
  have hB12 : Below E1.heap.size E1 E2 := by rw [hE2]; exact (Below.refl _ _).alloc (Nat.le_refl _) _
  have hB2 := hB1.trans (hB12.mono (by omega))
  replace bx := bx.below hB12
  have ht2 := ht0.below hB12
  rw [← List.map_replicate (f := Value.bool), ← tk_nil] at ht2
  have HE2 := Lib.hid hE2
  clear hE2 h0 hB12 ht0 hB1
  have hO : Hid (orderL x.nodes = ord x.nodes x.nodes.length []) := rfl
  generalize orderL x.nodes = OL at hO ⊢
  go_enter Tryz.func39, Tryz.ntmps39
  go_upto_region 1 with fail
  rw [← HE.out, ← HS0.out]
  have z2 : E0.cell? ⟨s, 2, none⟩ = some (.slice p2 x.nodes.length c2) := by
    rw [HE.out, HS0.out]; exact (Box.newAt w [.int .i64 x.inputs, .slice p1 x.tables.length c1, .slice p2 x.nodes.length c2, .slice p3 x.outputs.length c3] 28 rfl).cell 2 rfl
  go_upto_region 2 with fail
  rw [HE1.out]
  clear z2
  go_upto_region 4 with fail
  rw [← HE2.out]
  clear hsz0 hsz1 HE HE1 HE2
  go_loopw [4, 5] (fun ov fd wr => ∃ (f : Nat) (out : List Int) (fnd : Bool), fd = .bool fnd ∧ OwnI (s + 1 + 1) wr ov out ∧ OwnV (s + 1) wr 4 (.slice (some ⟨s + 1, 0, none⟩) x.nodes.length x.nodes.length) ((tk out x.nodes.length).map Value.bool) ∧
      Below s w wr ∧ Box wr s [.int .i64 x.inputs, .slice p1 x.tables.length c1, .slice p2 x.nodes.length c2, .slice p3 x.outputs.length c3] 28 ∧
      Hid ((fnd = true → ord x.nodes f out = OL ∧ f + out.length = x.nodes.length ∧ out.length + free out x.nodes.length = x.nodes.length) ∧ (fnd = false → out = OL))) (fun ov fd _ => 2 * (x.nodes.length - sliceLen ov) + boolN fd)
  case atStart => exact ⟨x.nodes.length, [], true, rfl, h0', ht2, hB2, bx, fun _ => ⟨hO.out.symm, by simp, by rw [free_nil]; simp⟩, fun h => by cases h⟩
  case round =>
    obtain ⟨f, out, fnd, rfl, hown, htk, hbel, bxw, HO⟩ := hrel
    clear h0' ht2 hB2 bx
    obtain ⟨wi, rfl⟩ : ∃ wi : World, wi = wr := ⟨_, rfl⟩
    have hbel' : Below w.heap.size w wi := by rw [← HS0.out]; exact hbel
    have hh := hown
    obtain ⟨op, oc, rfl, -⟩ := hh.rd
    clear hh
    cases fnd
    case false =>
      have HL : Hid (out = OL) := HO.out.2 rfl
      go_wp2_with fail
      go_ret
      exact ⟨_, rfl, by rw [← HL.out]; exact hown.mono (by rw [← HS0.out]; omega), hbel'⟩
    obtain ⟨hOf, hfo, hfree⟩ := HO.out.1 rfl
    have HOF := Lib.hid hOf
    have HFO := Lib.hid hfo
    have HFR := Lib.hid hfree
    clear hOf hfo hfree HO
    have z2 := bxw.cell 2 rfl
    go_wp2_with fail
    clear z2
    go_loopw [4, 5, 20] (fun ov fd i wr' => ∃ k : Nat, k ≤ x.nodes.length ∧ ov = .slice op out.length oc ∧ fd = .bool false ∧ i = .int .i64 k ∧ Below wi.heap.size wi wr' ∧ Hid (nxt x.nodes out k (x.nodes.length - k) = nxt x.nodes out 0 x.nodes.length)) (fun _ _ i _ => x.nodes.length - (intOf i).toNat)
    case atStart => exact ⟨0, Nat.zero_le _, rfl, rfl, rfl, Below.refl _ _, rfl⟩
    case round =>
      obtain ⟨k, hk, rfl, rfl, rfl, hbel2, HK⟩ := hrel
      obtain ⟨wj, rfl⟩ : ∃ wj : World, wj = wr := ⟨_, rfl⟩
      by_cases hlt2 : k < x.nodes.length
      · obtain ⟨b, o, rfl, hb, hc⟩ := (r20.below (hbel'.trans (hbel2.mono hbel'.size))).pos hlt2
        have hnd := hc k hlt2
        have HSR : Hid (∀ f ∈ x.nodes[k].src, 0 ≤ f ∧ f < (x.nodes.length : Int)) := HSRC.out _ (List.getElem_mem hlt2)
        have HRD : Hid (∀ b, out.contains (k : Int) = b → rdy x.nodes out k = (!b && (waits x.nodes[k]).all (fun f => out.contains f))) := fun b hb => rdy_eq hlt2 hb
        clear hc
        generalize x.nodes[k] = nd at hnd HSR HRD
        obtain ⟨y0, y1, y2, q, d, y3, hr⟩ := hnd
        obtain ⟨F, hF⟩ : ∃ F, F = wj.alloc (.cells #[.int .i64 nd.kind, .int .i64 nd.a, .int .i64 nd.b, .slice q nd.src.length d] 55) := ⟨_, rfl⟩
        have hBF : Below wj.heap.size wj F := by rw [hF]; exact (Below.refl _ _).alloc (Nat.le_refl _) _
        have bn : Box F wj.heap.size [.int .i64 nd.kind, .int .i64 nd.a, .int .i64 nd.b, .slice q nd.src.length d] 55 := by rw [hF]; exact Box.newAt _ _ _ rfl
        have HF := Lib.hid hF
        have hBF2 := hbel2.trans (hBF.mono hbel2.size)
        have htkF := htk.below hBF2
        have hc0 := htkF.cellB hlt2
        have t0 := bn.cell 0 rfl
        have t1 := bn.cell 1 rfl
        have t2 := bn.cell 2 rfl
        have t3 := bn.cell 3 rfl
        have WF := Lib.hid (waitsFor_v (x := nd) F ⟨q, d, rfl, hr.below hBF⟩)
        clear hF hr hBF bn
        generalize hcn : out.contains (k : Int) = cb at hc0
        have HCN := Lib.hid hcn
        clear hcn
        go_upto_region 9 with fail
        rw [← HF.out]
        go_wp2_with fail
        refine WF.out.mono ?_
        rintro e F2 ⟨u, rfl, hw, hb2⟩
        obtain ⟨wp, wc, rfl, hwr⟩ := hw
        have hBF3 := hBF2.trans (hb2.mono hBF2.size)
        have htk2 := htkF.below hb2
        have HTC : Hid (∀ f, f < x.nodes.length → F2.cell? ⟨s + 1, f, none⟩ = some (.bool (out.contains (f : Int)))) := fun f hf => htk2.cellB hf
        have hwl := hwr.len
        unfold maxLen at hwl
        clear y0 y1 y2 y3 t0 t1 t2 t3 hc0 htkF hb2 WF hBF2 hb
        go_wp2_with fail
        go_loop [8, 33] (fun r j => ∃ jj : Nat, jj ≤ (waits nd).length ∧ j = .int .i64 jj ∧ ∃ B : Bool, r = .bool B ∧ Hid ((!cb && ((waits nd).take jj).all (fun f => out.contains f)) = B)) (fun _ j => (waits nd).length - (intOf j).toNat)
        case atStart => exact ⟨0, Nat.zero_le _, rfl, !cb, rfl, by unfold Hid; simp⟩
        case round =>
          obtain ⟨jj, hjj, rfl, B, rfl, HB⟩ := hrel
          by_cases hlt3 : jj < (waits nd).length
          · obtain ⟨b2, o2, rfl, hb3, hc2⟩ := hwr.pos hlt3
            have hck := hc2 jj hlt3
            have hmem := HSR.out _ (waits_src (List.getElem_mem hlt3))
            have HN : Hid ((!cb && ((waits nd).take (jj + 1)).all (fun f => out.contains f)) = (B && out.contains (waits nd)[jj])) := by
              unfold Hid
              rw [List.take_succ_eq_append_getElem hlt3, List.all_append, ← HB.out, Bool.and_assoc]
              simp
            clear hc2
            generalize (waits nd)[jj] = fi at hck hmem HN
            obtain ⟨fn, rfl⟩ : ∃ fn : Nat, fi = fn := ⟨fi.toNat, by omega⟩
            have hfn : fn < x.nodes.length := by omega
            have hcf := HTC.out fn hfn
            generalize out.contains (fn : Int) = cf at hcf HN
            clear hmem
            cases B
            all_goals
              go_wp2_with fail
              go_round
              case rel => exact ⟨jj + 1, by omega, by go_num, _, rfl, by unfold Hid; rw [HN.out]; simp⟩
              case measure => simp [intOf] <;> omega
          · obtain rfl : jj = (waits nd).length := by omega
            have HRY : Hid (rdy x.nodes out k = B) := by
              unfold Hid; rw [HRD.out _ HCN.out, ← HB.out, List.take_length]
            clear HB HRD hwr
            cases B
            case false =>
              have HN : Hid (nxt x.nodes out (k + 1) (x.nodes.length - (k + 1)) = nxt x.nodes out 0 x.nodes.length) := by
                unfold Hid; rw [← HK.out, nxt_step hlt2 HRY.out]
              go_wp2_with fail
              go_roundw
              case rel => exact ⟨k + 1, by omega, rfl, rfl, by go_num, hBF3, HN⟩
              case measure => simp [intOf] <;> omega
            case true =>
              have HM : nxt x.nodes out 0 x.nodes.length = some k := by rw [← HK.out, nxt_found hlt2 HRY.out]
              have hpos := free_pos (rdy_free HRY.out) hlt2
              have hadd := free_add out k (rdy_free HRY.out) _ hlt2
              obtain ⟨f', rfl⟩ : ∃ f', f = f' + 1 := ⟨f - 1, by have := HFO.out; have := HFR.out; omega⟩
              have HN : Hid (ord x.nodes f' (out ++ [(k : Int)]) = OL ∧ f' + (out ++ [(k : Int)]).length = x.nodes.length ∧ (out ++ [(k : Int)]).length + free (out ++ [(k : Int)]) x.nodes.length = x.nodes.length) := by
                have h1 := HFO.out
                have h2 := HFR.out
                refine ⟨by rw [← HOF.out, ord_some HM], ?_, ?_⟩ <;> rw [List.length_append, List.length_singleton] <;> omega
              have hlo : out.length < x.nodes.length := by have := HFO.out; omega
              have hlk : k < ((tk out x.nodes.length).map Value.bool).length := by rw [List.length_map, tk_length]; exact hlt2
              obtain ⟨-, -, hgs, hg1, hg2, hst⟩ := htk2.storing hlk
              have hst' := hst (.bool true)
              rw [← List.map_set, ← tk_set out hlt2] at hst'
              have hown2 := hown.below hBF3
              have hown3 : OwnI (s + 1 + 1) (F2.setCell ⟨s + 1, k, none⟩ (.bool true)) (.slice op out.length oc) out := hown2.keep fun j hj => Below.heap_setCell _ _ _ _ (by have := (hown2.lt hj).1; show j ≠ s + 1; omega)
              have hB3 : Below s w (F2.setCell ⟨s + 1, k, none⟩ (.bool true)) := (hbel.trans (hBF3.mono (by rw [HS0.out]; exact hbel.size))).setCell (p := ⟨s + 1, k, none⟩) (by show s ≤ s + 1; omega) _
              have bx3 := (bxw.below hBF3).other (a := ⟨s + 1, k, none⟩) (show s ≠ s + 1 by omega) (.bool true)
              have hszs : s + 1 < F2.heap.size := hgs
              have hsz3 : s + 1 + 1 ≤ (F2.setCell ⟨s + 1, k, none⟩ (.bool true)).heap.size := by simp; omega
              generalize ((tk out x.nodes.length).map Value.bool)[k] = yy at hg1
              clear hst htk2 hown2 hpos hadd HM
              obtain ⟨W3, hW3⟩ : ∃ W, W = F2.setCell ⟨s + 1, k, none⟩ (.bool true) := ⟨_, rfl⟩
              rw [← hW3] at hown3 hB3 bx3 hsz3 hst'
              have HW3 := Lib.hid hW3
              clear hW3
              go_upto_region 17 with fail
              rw [← HW3.out]
              go_wp2_with (at_builtin; refine wpList_append_one rfl _ _ rfl rfl hown3 rfl hB3 (by omega) hsz3 (by omega) ?_; intro v' w4 hown4 hb4 hz4 hk4)
              have htk4 := hst'.keep (w' := w4) fun j hj => hk4 j (hst'.lt hj).2 (fun e => by
                have h1 := (hown3.lt e).1
                simp only [Value.ownBlock, Option.some.injEq] at hj
                omega)
              have bx4 := bx3.keep (w' := w4) (hk4 s bx3.lt (fun e => by have h1 := (hown3.lt e).1; omega))
              obtain ⟨q4, c4, rfl, -⟩ := hown4.rd
              go_roundw
              case rel => exact ⟨f', out ++ [(k : Int)], true, rfl, hown4, htk4, hb4, bx4, (⟨fun _ => HN.out, fun h => Bool.noConfusion h⟩ : _ ∧ _)⟩
              case measure => simp [sliceLen, boolN] <;> omega
      · obtain rfl : k = x.nodes.length := by omega
        have HL : Hid (out = OL) := by
          have HNN : nxt x.nodes out 0 x.nodes.length = none := by rw [← HK.out, Nat.sub_self]; rfl
          unfold Hid; rw [← HOF.out]; exact (ord_none HNN _).symm
        go_wp2_with fail
        go_roundw
        case rel => exact ⟨f, out, false, rfl, hown.below hbel2, htk.below hbel2, hbel.trans (hbel2.mono (by rw [HS0.out]; exact hbel.size)), bxw.below hbel2, (⟨fun h => Bool.noConfusion h, fun _ => HL.out⟩ : _ ∧ _)⟩
        case measure => simp [sliceLen, boolN]
end Go.Proofs.YtcfhcmgmkhfjjaaGreat
