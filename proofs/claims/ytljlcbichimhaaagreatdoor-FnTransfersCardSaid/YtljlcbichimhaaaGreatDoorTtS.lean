/-
  Transfer functions: validity and sameness by the reference; texts by the program.
-/
import Derived.Test.YtljlcbichimhaaaGreatDoorFdP
import Derived.Test.YtljlcbichimhaaaGreatDoorFdR
import Derived.Test.YtljlcbichimhaaaGreatDoorTtD
import Derived.Test.YtljlcbichimhaaaGreatDoorTtM
import Derived.Lib.QuietBelow
import Derived.Deep.RegionHeld3
namespace Go.Proofs.YtljlcbichimhaaaGreatDoor
open Go.ChangeShapes Go.WideShapes Go.ChangeAt Go.RowKit Go.Sort
set_option linter.unusedVariables false
set_option linter.unusedSimpArgs false

set_option maxHeartbeats 2000000 in
theorem v8Same_false {p q : Option Addr} {c d : Nat} {xs ys : List Int} (w : World) (h : RdI w p xs) (h' : RdI w q ys) (hl2 : ys.length = xs.length) (hne : xs ≠ ys) (hl : xs.length ≤ 1048576) :
    Calls Tryz.prog 12 #[.slice p xs.length c, .slice q ys.length d] w fun e w' => e = .returned (.bool false) ∧ Below w.heap.size w w' := by
  have HNE := Lib.hid hne
  have HL2 := Lib.hid hl2
  rw [hl2]
  clear hne hl2
  go_enter Tryz.func12, Tryz.ntmps12
  go_wp2_with fail
  go_loopw [5] (fun i wr => ∃ k : Nat, k ≤ xs.length ∧ i = .int .i64 (k : Int) ∧ Hid (xs.take k = ys.take k) ∧ Drawn w wr) (fun i _ => xs.length - (intOf i).toNat)
  case atStart => exact ⟨0, Nat.zero_le _, rfl, rfl, Drawn.refl _⟩
  case round =>
    obtain ⟨k, hk, rfl, HT, hdr⟩ := hrel
    by_cases hlt : k < xs.length
    · have hlt2 : k < ys.length := by have := HL2.out; omega
      obtain ⟨b, o, rfl, hb, hc⟩ := (hdr.rdI h).pos hlt
      obtain ⟨b', o', rfl, hb', hc'⟩ := (hdr.rdI h').pos hlt2
      have z1 := hc k hlt
      have z2 := hc' k hlt2
      clear hc hc'
      have HS : Hid (xs[k] = ys[k] → xs.take (k + 1) = ys.take (k + 1)) := fun e => by
        rw [List.take_succ_eq_append_getElem hlt, List.take_succ_eq_append_getElem hlt2, HT.out, e]
      generalize xs[k] = x at z1 HS
      generalize ys[k] = y at z2 HS
      clear hlt2
      by_cases hxy : x = y
      · have hne : (x != y) = false := by rw [bne_eq_false_iff_eq]; exact hxy
        have HS2 := Lib.hid (HS.out hxy)
        clear hxy HS
        go_wp2_with fail
        go_quiet (fail)
        go_wp2_with fail
        go_roundw
        case rel => exact ⟨k + 1, by omega, by go_num, HS2, hdr.on _⟩
        case measure => simp [intOf] <;> omega
      · have hne : (x != y) = true := by rw [bne_iff_ne]; exact hxy
        clear hxy HS
        go_wp2_with fail
        go_quiet (fail)
        go_wp2_with fail
        go_ret
        obtain ⟨m, rfl⟩ := hdr
        refine ⟨rfl, ?_⟩
        first
          | exact below_drewN (below_drewN (Below.refl _ _) m) _
          | exact below_drewN (Below.refl _ _) _
    · exfalso
      obtain rfl : k = xs.length := by omega
      refine HNE.out ?_
      have h1 := HT.out
      rw [List.take_length, ← HL2.out, List.take_length] at h1
      exact h1
set_option maxHeartbeats 800000 in
theorem l04Ok_ok {u : Value} {xs : List Int} (w : World) (h : RdP w u xs) (hv : PolyV xs) :
    Calls Tryz.prog 50 #[u] w fun e w' => e = .returned (.bool true) ∧ w = w' := by
  obtain ⟨p, c, rfl, hr, -⟩ := h
  obtain ⟨⟨h1, h2⟩, ha, hl⟩ := hv
  have SA := Lib.hid (l04Samples_true (c := c) w hr ha)
  have IN : Hid (∀ W, Calls Tryz.prog 69 #[.int .i64 (xs.length : Int), .int .i64 1, .int .i64 65] W fun e w' => e = .returned (.bool true) ∧ W = w') := fun W => by
    have := l00In_any (xs.length : Int) 1 65 W
    rwa [inB_true (by omega)] at this
  by_cases e1 : xs.length = 1
  · rw [e1] at SA IN ⊢
    clear h2 hl ha hr e1 h1
    go_enter Tryz.func50, Tryz.ntmps50
    go_wp2_with (first | (go_at_call 69; refine (IN.out _).mono ?_; rintro e w' ⟨rfl, rfl⟩) | (go_at_call 70; refine SA.out.mono ?_; rintro e w' ⟨rfl, rfl⟩))
    go_ret
    exact ⟨rfl, rfl⟩
  · obtain ⟨n, hn⟩ : ∃ n, xs.length = n + 2 := ⟨xs.length - 2, by omega⟩
    have h3 := h2.resolve_left e1
    obtain ⟨b, o, rfl, hb, hck⟩ := hr.pos (k := n + 1) (by omega)
    have hcl := hck (n + 1) (by omega)
    rw [show xs.length - 1 = n + 1 by omega, getD_at (by omega)] at h3
    generalize xs[n + 1]'(by omega) = x at hcl h3
    have q2 : (x != 0) = true := by rw [bne_iff_ne]; exact h3
    have q : (((n : Int) + 2) == 1) = false := by rw [beq_eq_false_iff_ne]; omega
    have e2 : ((n : Int) + 2 - 1) = (n : Int) + 1 := by omega
    have e3 : ((n : Int) + 1).toNat = n + 1 := by omega
    have hn65 : n + 2 ≤ 65 := by omega
    rw [hn] at SA IN ⊢
    simp only [Int.natCast_add, Int.cast_ofNat_Int] at IN
    clear h2 h3 hck h1 hl ha hr e1 hn
    go_enter Tryz.func50, Tryz.ntmps50
    go_wp2_with (first | (go_at_call 69; refine (IN.out _).mono ?_; rintro e w' ⟨rfl, rfl⟩) | (go_at_call 70; refine SA.out.mono ?_; rintro e w' ⟨rfl, rfl⟩))
    go_ret
    exact ⟨rfl, rfl⟩
theorem l05Ok_true {g : Nat} {p q : Option Addr} {c d : Nat} {ys zs : List Int} (w : World) (hb : Box w g [.slice p ys.length c, .slice q zs.length d] 26) (h : RdT w (.agg #[.slice p ys.length c, .slice q zs.length d]) ys zs) :
    Calls Tryz.prog 27 #[.pointer (some ⟨g, 0, none⟩)] w fun e w' => e = .returned (.bool true) ∧ w = w' := by
  obtain ⟨p', c', q', d', e, r1, r2, k1, k2, h1, h2, h3⟩ := h
  simp only [Value.agg.injEq, Array.mk.injEq, List.cons.injEq, and_true, Value.slice.injEq, true_and] at e
  obtain ⟨⟨rfl, rfl⟩, rfl, rfl⟩ := e
  have O1 := Lib.hid (l04Ok_ok w ⟨p, c, rfl, r1, k1⟩ h1)
  have O2 := Lib.hid (l04Ok_ok w ⟨q, d, rfl, r2, k2⟩ h2)
  have hzl : 0 < zs.length := h2.1.1
  obtain ⟨bb, bo, rfl, hbb, hbc⟩ := r2.pos hzl
  have hc0 := hbc 0 hzl
  rw [← getD_at hzl, h3, Nat.add_zero] at hc0
  have z0 := hb.cell 0 rfl
  have z1 := hb.cell 1 rfl
  have hz65 : zs.length ≤ 65 := h2.2.2
  clear hbc hb r1 r2 k1 k2 h1 h2 h3
  go_enter Tryz.func27, Tryz.ntmps27
  go_wp2_with (first | (go_at_call_of 50 (Value.slice p ys.length c); refine O1.out.mono ?_; rintro e w' ⟨rfl, rfl⟩) | (go_at_call_of 50 (Value.slice (some ⟨bb, bo, none⟩) zs.length d); refine O2.out.mono ?_; rintro e w' ⟨rfl, rfl⟩) | fail)
  go_ret
  exact ⟨rfl, rfl⟩
theorem validTransfer_true {x : Value} {ys zs : List Int} (w : World) (h : RdT w x ys zs) :
    Calls Tryz.prog 9 #[x] w fun e w' => e = .returned (.bool true) ∧ Below w.heap.size w w' := by
  obtain ⟨p, c, q, d, rfl, r1, r2, k1, k2, h1, h2, h3⟩ := h
  obtain ⟨E, hE⟩ : ∃ E, E = w.alloc (.cells #[.slice p ys.length c, .slice q zs.length d] 26) := ⟨_, rfl⟩
  obtain ⟨s, hs⟩ : ∃ s, s = w.heap.size := ⟨_, rfl⟩
  have hb0 : Below w.heap.size w E := by rw [hE]; exact (Below.refl _ _).alloc (Nat.le_refl _) _
  have bx0 : Box E s [.slice p ys.length c, .slice q zs.length d] 26 := by rw [hE]; exact Box.newAt w _ _ hs
  have OK := Lib.hid (l05Ok_true E bx0 ⟨p, c, q, d, rfl, r1.below hb0, r2.below hb0, k1, k2, h1, h2, h3⟩)
  have HE := Lib.hid hE
  have HS := Lib.hid hs
  clear hE hs r1 r2 k1 k2 h1 h2 h3
  go_enter Tryz.func9, Tryz.ntmps9
  go_upto_region 1 with fail
  rw [← HE.out, ← HS.out]
  go_wp2_with (first | (go_at_call 27; refine OK.out.mono ?_; rintro e w' ⟨rfl, rfl⟩) | fail)
  go_ret
  exact ⟨rfl, hb0⟩
theorem sameTransfer_true {x y : Value} {ys zs : List Int} (w : World) (h : RdT w x ys zs) (h' : RdT w y ys zs) :
    Calls Tryz.prog 18 #[x, y] w fun e w' => e = .returned (.bool true) ∧ Below w.heap.size w w' := by
  obtain ⟨p1, c1, p2, c2, rfl, r1, r2, -⟩ := h
  obtain ⟨p3, c3, p4, c4, rfl, r3, r4, -⟩ := h'
  obtain ⟨E, hE⟩ : ∃ E, E = (w.alloc (.cells #[.slice p1 ys.length c1, .slice p2 zs.length c2] 26)).alloc (.cells #[.slice p3 ys.length c3, .slice p4 zs.length c4] 26) := ⟨_, rfl⟩
  obtain ⟨s, hs⟩ : ∃ s, s = w.heap.size := ⟨_, rfl⟩
  have hb0 : Below w.heap.size w E := by rw [hE]; exact ((Below.refl _ _).alloc (Nat.le_refl _) _).alloc (by simp) _
  have bs : Box E s [.slice p1 ys.length c1, .slice p2 zs.length c2] 26 := by rw [hE]; exact (Box.newAt w _ _ hs).alloc _
  have bt : Box E (s + 1) [.slice p3 ys.length c3, .slice p4 zs.length c4] 26 := by rw [hE]; exact Box.newAt _ _ _ (by simp [hs])
  have CK : Hid (∀ W, Below E.heap.size E W → W.cell? ⟨s, 1, none⟩ = some (.slice p2 zs.length c2) ∧ W.cell? ⟨s + 1, 1, none⟩ = some (.slice p4 zs.length c4)) := fun W hW => ⟨(bs.below hW).cell 1 rfl, (bt.below hW).cell 1 rfl⟩
  have S1 : Hid (Calls Tryz.prog 41 #[.slice p1 ys.length c1, .slice p3 ys.length c3] E fun e w' => e = .returned (.bool true) ∧ Drawn E w') := by
    have := l00Same_any (c := c1) (d := c3) E (r1.below hb0) (r3.below hb0)
    simpa [Hid] using this
  have S2 : Hid (∀ W, Drawn E W → Calls Tryz.prog 41 #[.slice p2 zs.length c2, .slice p4 zs.length c4] W fun e w' => e = .returned (.bool true) ∧ Drawn W w') := fun W hW => by
    have := l00Same_any (c := c2) (d := c4) W (hW.rdI (r2.below hb0)) (hW.rdI (r4.below hb0))
    simpa using this
  have z0 := bs.cell 0 rfl
  have z1 := bs.cell 1 rfl
  have z2 := bt.cell 0 rfl
  have z3 := bt.cell 1 rfl
  have HE := Lib.hid hE
  have HS := Lib.hid hs
  clear hE hs bs bt r1 r2 r3 r4
  go_enter Tryz.func18, Tryz.ntmps18
  go_upto_region 1 with fail
  try simp only [heap_size_alloc]
  rw [← HE.out, ← HS.out]
  go_wp2_with (first | (go_at_call_of 41 (Value.slice p1 ys.length c1); refine S1.out.mono ?_; rintro e W1 ⟨rfl, hd1⟩; obtain ⟨y1, y2⟩ := CK.out W1 (by obtain ⟨m, rfl⟩ := hd1; exact below_drewN (Below.refl _ _) m)) | (go_at_call_of 41 (Value.slice p2 zs.length c2); refine (S2.out _ hd1).mono ?_; rintro e W2 ⟨rfl, hd2⟩) | fail)
  go_ret
  obtain ⟨m1, rfl⟩ := hd1
  obtain ⟨m2, rfl⟩ := hd2
  exact ⟨rfl, below_drewN (below_drewN hb0 _) _⟩
set_option maxHeartbeats 1000000 in
theorem transferText_any {x : Value} {ys zs : List Int} (w : World) (h : RdT w x ys zs) (hT : TxtT w) :
    Calls Tryz.prog 16 #[x] w fun e w' => e = .returned (.string (bs (trStr ys zs))) ∧ Below w.heap.size w w' := by
  obtain ⟨p, c, q, d, rfl, r1, r2, k1, k2, h1, h2, h3⟩ := h
  obtain ⟨E, hE⟩ : ∃ E, E = w.alloc (.cells #[.slice p ys.length c, .slice q zs.length d] 26) := ⟨_, rfl⟩
  obtain ⟨s, hs⟩ : ∃ s, s = w.heap.size := ⟨_, rfl⟩
  have hb0 : Below w.heap.size w E := by rw [hE]; exact (Below.refl _ _).alloc (Nat.le_refl _) _
  have bx0 : Box E s [.slice p ys.length c, .slice q zs.length d] 26 := by rw [hE]; exact Box.newAt w _ _ hs
  have IT := Lib.hid (isTransfer_true E (r1.below hb0) (r2.below hb0) k1 k2 h1 h2 h3)
  have N1 : Hid (∀ W, Below E.heap.size E W → Calls Tryz.prog 39 #[.slice p ys.length c] W fun e w' => e = .returned (.string (bs (numStr ys))) ∧ Below W.heap.size W w') := fun W hW => numbersText_any (c := c) W ((r1.below hb0).below hW) (allS_I h1.2.1) (by omega) ((hT.below hb0).below hW)
  have N2 : Hid (∀ W, Below E.heap.size E W → Calls Tryz.prog 39 #[.slice q zs.length d] W fun e w' => e = .returned (.string (bs (numStr zs))) ∧ Below W.heap.size W w') := fun W hW => numbersText_any (c := d) W ((r2.below hb0).below hW) (allS_I h2.2.1) (by omega) ((hT.below hb0).below hW)
  obtain ⟨m1, m2, -⟩ := trStr_size h1.2.1 h2.2.1 h1.2.2 h2.2.2
  have e4 : (ByteArray.mk #[110, 117, 109, 32]).size = 4 := rfl
  have e5 : (ByteArray.mk #[32, 100, 101, 110, 32]).size = 5 := rfl
  have s1 : (bs (numStr ys)).size ≤ 1430 := by rw [bs_size]; exact m1
  have s2 : (bs (numStr zs)).size ≤ 1430 := by rw [bs_size]; exact m2
  have s3 : (ByteArray.mk #[110, 117, 109, 32] ++ bs (numStr ys)).size ≤ 1434 := by rw [ByteArray.size_append]; omega
  have s4 : (ByteArray.mk #[110, 117, 109, 32] ++ bs (numStr ys) ++ ByteArray.mk #[32, 100, 101, 110, 32]).size ≤ 1439 := by rw [ByteArray.size_append]; omega
  have HR : Hid (bs (trStr ys zs) = ByteArray.mk #[110, 117, 109, 32] ++ bs (numStr ys) ++ ByteArray.mk #[32, 100, 101, 110, 32] ++ bs (numStr zs)) := by
    unfold Hid trStr
    rw [show (ByteArray.mk #[110, 117, 109, 32]) = bs [110, 117, 109, 32] from rfl, show (ByteArray.mk #[32, 100, 101, 110, 32]) = bs [32, 100, 101, 110, 32] from rfl, bs_app, bs_app, bs_app]
  rw [HR.out]
  generalize bs (numStr ys) = A1 at *
  generalize bs (numStr zs) = A2 at *
  have CK : Hid (∀ W, Below E.heap.size E W → W.cell? ⟨s, 0, none⟩ = some (.slice p ys.length c) ∧ W.cell? ⟨s, 1, none⟩ = some (.slice q zs.length d)) := fun W hW => ⟨(bx0.below hW).cell 0 rfl, (bx0.below hW).cell 1 rfl⟩
  have b0 := bx0.cell 0 rfl
  have b1 := bx0.cell 1 rfl
  have HE := Lib.hid hE
  have HS := Lib.hid hs
  clear hE hs bx0 r1 r2 k1 k2 h1 h2 h3 m1 m2 hT HR
  go_enter Tryz.func16, Tryz.ntmps16
  go_upto_region 1 with fail
  rw [← HE.out, ← HS.out]
  go_upto_region 3 with (first | (go_at_call 28; refine IT.out.mono ?_; rintro e w1 ⟨rfl, hb1⟩) | fail)
  clear b0 b1
  obtain ⟨y0, y1⟩ := CK.out w1 hb1
  have r0 := cell_regrown y0
  have r1 := cell_regrown y1
  have K1 : Hid (∀ q os, Calls Tryz.prog 39 #[.slice p ys.length c] (grow (redrawn w1 q) os) fun e w'' => e = .returned (.string A1) ∧ ∃ p : Regrown, w'' = grow (redrawn w1 p.d) p.os) := fun q os => Calls.regrown_of (N1.out _ (hb1.trans ((below_regrown _ _ _).mono hb1.size)))
  have K2 : Hid (∀ qq os, Calls Tryz.prog 39 #[.slice q zs.length d] (grow (redrawn w1 qq) os) fun e w'' => e = .returned (.string A2) ∧ ∃ p : Regrown, w'' = grow (redrawn w1 p.d) p.os) := fun qq os => Calls.regrown_of (N2.out _ (hb1.trans ((below_regrown _ _ _).mono hb1.size)))
  clear y0 y1
  refine wp_region_quiet_below (by kernel_rfl) (by kernel_rfl) ?_
  repeat (first | go_big_quiet_step ((first | (go_at_call_of 39 (Value.slice p ys.length c); with_reducible exact K1.out _ _) | (go_at_call_of 39 (Value.slice q zs.length d); with_reducible exact K2.out _ _))) | quiet_step ((first | (go_at_call_of 39 (Value.slice p ys.length c); with_reducible exact K1.out _ _) | (go_at_call_of 39 (Value.slice q zs.length d); with_reducible exact K2.out _ _))))
  refine wpQuiet_nil ?_
  intro _ hw'
  obtain ⟨⟨dq, osq⟩, hw''⟩ := hw'
  subst hw''
  have hq := below_regrown w1 dq osq
  go_wp2_with fail
  go_ret
  exact ⟨rfl, hb0.trans ((hb1.trans (hq.mono hb1.size)).mono hb0.size)⟩
end Go.Proofs.YtljlcbichimhaaaGreatDoor
