/-
  Series: quotients: contracts.
-/
import Derived.Test.YtljlcbichimhaaaGreatDoorSerT
namespace Go.Proofs.YtljlcbichimhaaaGreatDoor
open Go.ChangeShapes Go.WideShapes Go.ChangeAt Go.RowKit
set_option linter.unusedVariables false
set_option linter.unusedSimpArgs false

def RdP (w : World) (v : Value) (xs : List Int) : Prop := ∃ p c, v = .slice p xs.length c ∧ RdI w p xs ∧ xs.length ≤ c
theorem RdP.below {w w' : World} {v : Value} {xs : List Int} (h : RdP w v xs) (hb : Below w.heap.size w w') : RdP w' v xs := by
  obtain ⟨p, c, rfl, hr, hc⟩ := h
  exact ⟨p, c, rfl, hr.below hb, hc⟩
theorem OwnI.rdP {B : Nat} {w : World} {v : Value} {xs : List Int} (h : OwnI B w v xs) : RdP w v xs := by
  have hh := h
  obtain ⟨p, c, rfl, hr⟩ := hh.rd
  exact ⟨p, c, rfl, hr, h.cap⟩
theorem OwnI.rdAt {B : Nat} {w : World} {p : Option Addr} {n c : Nat} {xs : List Int} (h : OwnI B w (.slice p n c) xs) : n = xs.length ∧ RdI w p xs := by
  obtain ⟨q, d, e, hr⟩ := h.rd
  simp only [Value.slice.injEq] at e
  obtain ⟨rfl, rfl, -⟩ := e
  exact ⟨rfl, hr⟩
/-- a literal of two slices -/
theorem rdII_two {w : World} {p q : Option Addr} {c d : Nat} {xs ys : List Int} (h1 : RdI w p xs) (h2 : RdI w q ys) (k1 : xs.length ≤ c) (k2 : ys.length ≤ d) :
    RdII (w.alloc (.cells #[.slice p xs.length c, .slice q ys.length d] 24)) (some ⟨w.heap.size, 0, none⟩) [xs, ys] := by
  have hb : Below w.heap.size w (w.alloc (.cells #[.slice p xs.length c, .slice q ys.length d] 24)) := (Below.refl _ _).alloc (Nat.le_refl _) _
  have bx := Box.newAt w [.slice p xs.length c, .slice q ys.length d] 24 rfl
  have z0 := bx.cell 0 rfl
  have z1 := bx.cell 1 rfl
  refine ⟨by simp [maxLen], .inr ⟨w.heap.size, 0, rfl, fun i hi => ?_⟩, fun b o i r l m hp hi hc => ?_⟩
  · simp at hi
    rcases (show i = 0 ∨ i = 1 by omega) with rfl | rfl
    · exact ⟨p, c, z0, h1.below hb⟩
    · exact ⟨q, d, z1, h2.below hb⟩
  · simp only [Option.some.injEq, Addr.mk.injEq, and_true] at hp
    obtain ⟨rfl, rfl⟩ := hp
    simp at hi
    rcases (show i = 0 ∨ i = 1 by omega) with rfl | rfl
    · have e := z0.symm.trans hc
      simp only [Option.some.injEq, Value.slice.injEq] at e
      omega
    · have e := z1.symm.trans hc
      simp only [Option.some.injEq, Value.slice.injEq] at e
      omega
set_option maxHeartbeats 1000000 in
theorem arePolys_true {p : Option Addr} {c : Nat} {xss : List (List Int)} (w : World) (h : RdII w p xss) (hc : ∀ xs ∈ xss, Canon xs ∧ AllS xs ∧ xs.length ≤ 65) :
    Calls Tryz.prog 51 #[.slice p xss.length c] w fun e w' => e = .returned (.bool true) ∧ w = w' := by
  have hlen := h.len
  unfold maxLen at hlen
  have HC := Lib.hid hc
  clear hc
  go_enter Tryz.func51, Tryz.ntmps51
  go_wp2_with fail
  go_loop [7] (fun i => ∃ k : Nat, k ≤ xss.length ∧ i = .int .i64 k) (fun i => xss.length - (intOf i).toNat)
  case atStart => exact ⟨0, Nat.zero_le _, rfl⟩
  case round =>
    obtain ⟨k, hk, rfl⟩ := hrel
    by_cases hlt : k < xss.length
    · obtain ⟨b, o, rfl, hb, hck⟩ := h.pos hlt
      obtain ⟨q, d, hcell, hr⟩ := hck k hlt
      obtain ⟨h1, h2, h3⟩ := HC.out _ (List.getElem_mem hlt)
      have IP := Lib.hid (isPoly_true (c := d) w hr h1 h2 h3)
      clear hck h1 h2 h3 hr
      generalize xss[k] = xs at hcell IP
      go_wp2_with (go_at_call 71; refine IP.out.mono ?_; rintro e w' ⟨rfl, rfl⟩)
      go_round
      case rel => exact ⟨k + 1, by omega, by go_num⟩
      case measure => simp [intOf] <;> omega
    · obtain rfl : k = xss.length := by omega
      go_wp2_with fail
      go_ret
      exact ⟨rfl, rfl⟩
theorem getD_at {xs : List Int} {k : Nat} (h : k < xs.length) : xs.getD k 0 = xs[k] := by
  rw [List.getD_eq_getElem?_getD, List.getElem?_eq_getElem h]; rfl
theorem quo_left (a b : List Int) (y : Int) (n i j : Nat) (h : j < i) : (quo a b y i ++ List.replicate (n - i) 0).getD j 0 = (quo a b y i).getD j 0 := by
  rw [List.getD_eq_getElem?_getD, List.getElem?_append_left (by rw [quo_length]; exact h), List.getD_eq_getElem?_getD]
theorem smp_sub_right (a b : Int) : smp (a - wrap64 b) = smp (a - b) := smp_sub_w64 a b
theorem quo_set (a b : List Int) (y : Int) {n i : Nat} (h : i < n) (out : List Int) (ho : quo a b y i ++ List.replicate (n - i) 0 = out) :
    quo a b y (i + 1) ++ List.replicate (n - (i + 1)) 0 = out.set i (smp (qacc b out (a.getD i 0) i (qcnt b i) * y)) := by
  have e1 : qacc b out (a.getD i 0) i (qcnt b i) = qacc b (quo a b y i) (a.getD i 0) i (qcnt b i) :=
    qacc_congr (fun j hj => by rw [← ho]; exact quo_left a b y n i j hj) _ (by unfold qcnt; omega)
  rw [e1, ← ho, quo, List.set_append_right _ _ (by rw [quo_length]; exact Nat.le_refl _), quo_length, Nat.sub_self, show n - i = (n - (i + 1)) + 1 by omega, List.replicate_succ, List.set_cons_zero, List.append_assoc]
  rfl
set_option maxHeartbeats 4000000 in
set_option maxRecDepth 100000 in
theorem quotient_any {p q : Option Addr} {c d : Nat} {a b : List Int} (n : Nat) (w : World) (h : RdI w p a) (h' : RdI w q b) (hn : n ≤ 256) (hb : 0 < b.length) (hal : a.length ≤ 1048576) (hbl : b.length ≤ 1048576) :
    Calls Tryz.prog 30 #[.slice p a.length c, .slice q b.length d, .int .i64 (n : Int)] w fun e w' => ∃ v, e = .returned v ∧ OwnI w.heap.size w' v (quo a b (invN (b.getD 0 0) 5) n) ∧ Below w.heap.size w w' := by
  obtain ⟨bb, bo, rfl, hbb, hbc⟩ := h'.pos hb
  have hc0 := hbc 0 hb
  rw [← getD_at hb, Nat.add_zero] at hc0
  generalize b.getD 0 0 = x0 at hc0
  clear hbc
  generalize hy : invN x0 5 = y
  have INV : Hid (∀ W, Calls Tryz.prog 53 #[.int .i64 x0] W fun e w' => e = .returned (.int .i64 y) ∧ W = w') := fun W => by rw [← hy]; exact inverse_any x0 W
  clear hy
  have ZE := Lib.hid (zerosG_any n w (by omega))
  go_enter Tryz.func30, Tryz.ntmps30
  go_wp2_with (first | (go_at_call 53; refine (INV.out _).mono ?_; rintro e w' ⟨rfl, rfl⟩) | (go_at_call 46; refine ZE.out.mono ?_; rintro e w1 ⟨rfl, hown0, hbel0⟩))
  clear ZE INV hc0
  obtain ⟨g, hgg⟩ : ∃ g, g = w.heap.size := ⟨_, rfl⟩
  rw [← hgg] at hown0 hbel0 ⊢
  have HGG := Lib.hid hgg
  clear hgg
  go_loopw [20] (fun i wr => ∃ k : Nat, k ≤ n ∧ i = .int .i64 (k : Int) ∧ OwnI g wr (.slice (some ⟨g, 0, none⟩) n n) (quo a b y k ++ List.replicate (n - k) 0) ∧ Below g w wr) (fun i _ => n - (intOf i).toNat)
  case atStart => exact ⟨0, Nat.zero_le _, rfl, by simpa [quo] using hown0, hbel0⟩
  case round =>
    obtain ⟨i, hi, rfl, hown, hbel⟩ := hrel
    clear hown0 hbel0
    have hwz : g ≤ wr.heap.size := by rw [HGG.out]; exact hbel.size
    have hbel' : Below w.heap.size w wr := by rw [← HGG.out]; exact hbel
    obtain ⟨wi, rfl⟩ : ∃ wi : World, wi = wr := ⟨_, rfl⟩
    by_cases hlt : i < n
    · have AT := Lib.hid (at_any (c := c) i wi (h.below hbel') (by omega))
      have hbr := h'.below hbel'
      generalize hout : quo a b y i ++ List.replicate (n - i) 0 = out at hown
      have HST := Lib.hid (quo_set a b y hlt out hout)
      obtain ⟨hnl, hro⟩ := hown.rdAt
      have HNL := Lib.hid hnl
      clear hnl
      generalize hs0 : a.getD i 0 = s0 at AT HST
      clear hout hbel' hs0
      go_wp2_with (go_at_call 49; refine AT.out.mono ?_; rintro e w' ⟨rfl, rfl⟩)
      go_loopw [10, 11] (fun s k wr => ∃ j : Nat, j ≤ qcnt b i ∧ k = .int .i64 ((j : Int) + 1) ∧ s = .int .i64 (qacc b out s0 i j) ∧ Drawn wi wr) (fun _ k _ => i + 1 - (intOf k).toNat)
      case atStart => exact ⟨0, Nat.zero_le _, rfl, rfl, Drawn.refl _⟩
      case round =>
        obtain ⟨j, hj, rfl, rfl, hdr⟩ := hrel
        have hb2 := hdr.rdI hbr
        have ho2 := hdr.rdI hro
        by_cases hj1 : j + 1 < b.length
        · by_cases hj2 : j + 1 ≤ i
          · obtain ⟨d1, hd⟩ : ∃ d, i = d + (j + 1) := ⟨i - (j + 1), by omega⟩
            have eD : ((i : Int) - ((j : Int) + 1)) = (d1 : Int) := by omega
            have eJ : ((j : Int) + 1).toNat = j + 1 := by omega
            have HDL : Hid (d1 < out.length) := by unfold Hid; have := HNL.out; omega
            have hdl := HDL.out
            obtain ⟨b1, o1, e1, hbk1, hc1⟩ := hb2.pos hj1
            cases e1
            obtain ⟨b2, o2, e2, hbk2, hc2⟩ := ho2.pos hdl
            cases e2
            have hck1 := hc1 (j + 1) hj1
            have hck2 := hc2 d1 hdl
            rw [Nat.zero_add] at hck2
            have HS : Hid (qacc b out s0 i (j + 1) = smp (qacc b out s0 i j - b[j + 1] * out[d1])) := by
              unfold Hid; rw [qacc, getD_at hj1, show i - (j + 1) = d1 by omega, getD_at hdl]
            have HQ : Hid (j + 1 ≤ qcnt b i) := by unfold Hid qcnt; omega
            generalize b[j + 1] = x1 at hck1 HS
            generalize out[d1] = x2 at hck2 HS
            generalize qacc b out s0 i j = s1 at HS
            clear hc1 hc2 hb2 ho2 hj hdl hd
            have HM : Hid (∀ m z, Calls Tryz.prog 47 #[.int .i64 z] (wr.drewN m) fun e w' => e = .returned (.int .i64 (smp z)) ∧ w' = wr.drewN m) := fun m z => Calls.turn (implWrap_any _ _)
            go_wp2_with fail
            go_quiet ((go_at_call 47; exact Calls.quiet_of_same (HM.out _ _)))
            go_wp2_with fail
            go_roundw
            case rel => exact ⟨j + 1, HQ.out, by go_num, by rw [HS.out]; simp only [smp_wrap64, smp_sub_w64], hdr.on _⟩
            case measure => simp [intOf] <;> omega
          · obtain rfl : j = qcnt b i := by unfold qcnt at hj ⊢; omega
            have hbD := hdr.below wi.heap.size
            have hown2 := hown.below hbD
            obtain ⟨-, -, hgl, hz, hfr, hset⟩ := hown2.storing (k := i) (by have := HNL.out; omega)
            clear hb2 ho2 hown2
            generalize out[i]'(by have := HNL.out; omega) = z at hz
            go_wp2_with (go_at_call 47; refine (implWrap_any _ _).mono ?_; rintro e w' ⟨rfl, rfl⟩)
            go_roundw
            case rel => exact ⟨i + 1, by omega, by go_num, by rw [HST.out]; simpa only [smp_wrap64] using hset _, (hbel.trans (hbD.mono hwz)).setCell (Nat.le_refl _) _⟩
            case measure => simp [intOf] <;> omega
        · obtain rfl : j = qcnt b i := by unfold qcnt at hj ⊢; omega
          have hbD := hdr.below wi.heap.size
          have hown2 := hown.below hbD
          obtain ⟨-, -, hgl, hz, hfr, hset⟩ := hown2.storing (k := i) (by have := HNL.out; omega)
          clear hb2 ho2 hown2
          generalize out[i]'(by have := HNL.out; omega) = z at hz
          go_wp2_with (go_at_call 47; refine (implWrap_any _ _).mono ?_; rintro e w' ⟨rfl, rfl⟩)
          go_roundw
          case rel => exact ⟨i + 1, by omega, by go_num, by rw [HST.out]; simpa only [smp_wrap64] using hset _, (hbel.trans (hbD.mono hwz)).setCell (Nat.le_refl _) _⟩
          case measure => simp [intOf] <;> omega
    · obtain rfl : i = n := by omega
      go_wp2_with fail
      go_ret
      exact ⟨_, rfl, by rw [← HGG.out]; simpa using hown, by rw [← HGG.out]; exact hbel⟩
end Go.Proofs.YtljlcbichimhaaaGreatDoor
