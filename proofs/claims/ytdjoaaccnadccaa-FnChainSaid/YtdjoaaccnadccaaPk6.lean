/-
  Several texts in one: PatO, PatV, PatK, TyState, PatSt, FrameM, RnM, RnF, PatS2, FrameS, PatT, PatT2, RnS.
-/
import Derived.Test.YtdjoaaccnadccaaPk5
import Derived.Deep.RegionHeld3
import Derived.Test.YtdjoaaccnadccaaPk3
import Derived.Test.YtdjoaaccnadccaaPk1
import Derived.Test.YtdjoaaccnadccaaPk4
import Derived.Deep.RegionLaw
namespace Go.Proofs.Ytdjoaaccnadccaa
open Go.ChangeShapes Go.WideShapes Go.ChangeAt Go.RowKit Go.Sort
set_option linter.unusedVariables false

def sliceLen : Value → Nat
  | .slice _ n _ => n
  | _ => 0
def boolN : Value → Nat
  | .bool true => 1
  | _ => 0
theorem getD_node {xs : List NodeD} {k : Nat} (h : k < xs.length) : xs.getD k ⟨0, 0, 0, []⟩ = xs[k] := by
  rw [List.getD_eq_getElem?_getD, List.getElem?_eq_getElem h]; rfl
theorem rdy_eq {nodes : List NodeD} {out : List Int} {k : Nat} (h : k < nodes.length) {b : Bool} (hb : out.contains (k : Int) = b) : rdy nodes out k = (!b && (waits nodes[k]).all (fun f => out.contains f)) := by
  unfold rdy; rw [hb, getD_node h]
theorem nxt_step {nodes : List NodeD} {out : List Int} {k n : Nat} (h : k < n) (hr : rdy nodes out k = false) : nxt nodes out k (n - k) = nxt nodes out (k + 1) (n - (k + 1)) := by
  rw [show n - k = (n - (k + 1)) + 1 by omega, nxt, if_neg (by rw [hr]; simp)]
theorem nxt_found {nodes : List NodeD} {out : List Int} {k n : Nat} (h : k < n) (hr : rdy nodes out k = true) : nxt nodes out k (n - k) = some k := by
  rw [show n - k = (n - (k + 1)) + 1 by omega, nxt, if_pos hr]
/-- the order, if there is one -/
def RetO (w : World) (L : List Int) (n : Nat) (e : Ending) (w' : World) : Prop := ∃ u, e = .returned (.tuple #[u, .bool (decide (L.length = n))]) ∧ OwnI w.heap.size w' u (if L.length = n then L else []) ∧ Below w.heap.size w w'
theorem RetO.of {w w' : World} {L : List Int} {n : Nat} (b : Bool) (hb : L.length = n ↔ b = true) {u : Value} (ho : OwnI w.heap.size w' u (if b then L else [])) (hbl : Below w.heap.size w w') : RetO w L n (.returned (.tuple #[u, .bool b])) w' := by
  have e : decide (L.length = n) = b := by
    cases b
    · exact decide_eq_false fun h => by have := hb.1 h; cases this
    · exact decide_eq_true (hb.2 rfl)
  refine ⟨u, by rw [e], ?_, hbl⟩
  cases b
  · rw [if_neg (fun h => by have := hb.1 h; cases this)]; exact ho
  · rw [if_pos (hb.2 rfl)]; exact ho
set_option maxHeartbeats 6400000 in
set_option maxRecDepth 100000 in
theorem l07Order_any {g : Nat} {x : PatchD} (w : World) (h : PPatch w g x) (hf : formedB x = true) :
    Calls Try.prog 41 #[.pointer (some ⟨g, 0, none⟩)] w (RetO w (orderL x.nodes) x.nodes.length) := by
  have hlt := h.lt
  obtain ⟨p1, c1, p2, c2, p3, c3, bx, r1, r2, r3⟩ := h
  have hl2 := r2.len
  unfold maxLen at hl2
  have hn24 : x.nodes.length ≤ 24 := (formed_iff.1 hf).2.2.1
  clear hf r1 r3
  have hO : Hid (orderL x.nodes = ord x.nodes x.nodes.length []) := rfl
  generalize orderL x.nodes = OL at hO ⊢
  have h0 := OwnI.lit (B := w.heap.size) w [] (Nat.le_refl _) (by simp [maxLen])
  have hb0 := (Below.refl w.heap.size w).alloc (Nat.le_refl _) (.cells #[] 2)
  go_enter Try.func41, Try.ntmps41
  go_wp2_with fail
  go_loopw [4] (fun ov wr => ∃ (f : Nat) (out : List Int), f + out.length = x.nodes.length ∧ OwnI w.heap.size wr ov out ∧ Below w.heap.size w wr ∧ Hid (ord x.nodes f out = OL)) (fun ov _ => x.nodes.length - sliceLen ov)
  case atStart => exact ⟨x.nodes.length, [], by simp, h0, hb0, hO.out.symm⟩
  case round =>
    obtain ⟨f, out, hfo, hown, hbel, HO⟩ := hrel
    clear h0 hb0
    obtain ⟨wi, rfl⟩ : ∃ wi : World, wi = wr := ⟨_, rfl⟩
    have bx1 := bx.below hbel
    have r21 := r2.below hbel
    have z2 := bx1.cell 2 rfl
    have hh := hown
    obtain ⟨op, oc, rfl, hro⟩ := hh.rd
    by_cases hf0 : f = 0
    · subst hf0
      have hlen : ¬ ((out.length : Int) < (x.nodes.length : Int)) := by omega
      have HLN : Hid (out.length = x.nodes.length) := by unfold Hid; omega
      clear hfo
      go_wp2_with fail
      refine bodyPost_ret (v := .tuple #[.slice op out.length oc, .bool true]) (by simp [results, Try.results41, go_sem, *]) rfl ?_
      rw [show OL = out from HO.out.symm]
      exact RetO.of true (by rw [HLN.out]; simp) hown hbel
    obtain ⟨f', rfl⟩ : ∃ f', f = f' + 1 := ⟨f - 1, by omega⟩
    have hlo : out.length < x.nodes.length := by omega
    go_wp2_with fail
    go_loopw [5, 6] (fun t i wr' => ∃ k : Nat, k ≤ x.nodes.length ∧ i = .int .i64 k ∧ Below wi.heap.size wi wr' ∧ ((t = .int .i64 (-1) ∧ Hid (nxt x.nodes out k (x.nodes.length - k) = nxt x.nodes out 0 x.nodes.length)) ∨ ∃ m : Nat, m < x.nodes.length ∧ t = .int .i64 (m : Int) ∧ Hid (nxt x.nodes out 0 x.nodes.length = some m))) (fun t i _ => x.nodes.length - (intOf i).toNat)
    case atStart => exact ⟨0, Nat.zero_le _, rfl, Below.refl _ _, .inl ⟨rfl, rfl⟩⟩
    case round =>
      obtain ⟨k, hk, rfl, hbel2, hcase⟩ := hrel
      obtain ⟨wj, rfl⟩ : ∃ wj : World, wj = wr := ⟨_, rfl⟩
      have bx2 := bx1.below hbel2
      have y2 := bx2.cell 2 rfl
      rcases hcase with ⟨rfl, HK⟩ | ⟨m, hm, rfl, HM⟩
      · by_cases hlt2 : k < x.nodes.length
        · obtain ⟨b, o, rfl, hb, hc⟩ := (r21.below hbel2).pos hlt2
          have hnd := hc k hlt2
          have hro2 := hro.below hbel2
          have HS := Lib.hid (l00Has_any (c := oc) (k : Int) wj hro2)
          rw [any_contains] at HS
          cases hcn : out.contains (k : Int)
          case true =>
            rw [hcn] at HS
            have HN : Hid (nxt x.nodes out (k + 1) (x.nodes.length - (k + 1)) = nxt x.nodes out 0 x.nodes.length) := by
              unfold Hid; rw [← HK.out, nxt_step hlt2 (by rw [rdy_eq hlt2 hcn]; rfl)]
            clear hcn hc hnd
            go_wp2_with (go_at_call 54; refine HS.out.mono ?_; rintro e w' ⟨rfl, rfl⟩)
            go_roundw
            case rel => exact ⟨k + 1, by omega, by go_num, hbel2, .inl ⟨rfl, HN⟩⟩
            case measure => simp [intOf] <;> omega
          case false =>
            rw [hcn] at HS
            have HRY := Lib.hid (rdy_eq hlt2 hcn)
            generalize hx : x.nodes[k] = nd at hnd HRY
            clear hcn hc hx
            go_wp2_with (go_at_call 54; refine HS.out.mono ?_; rintro e w' ⟨rfl, rfl⟩)
            refine (l07Waits_any wj hnd).mono ?_
            rintro e W2 ⟨u, rfl, hw, hb2⟩
            obtain ⟨wp, wc, rfl, hwr⟩ := hw
            have AL := Lib.hid (l07All_any (c := wc) (d := oc) W2 hwr (hro2.below hb2))
            have hbel3 := hbel2.trans (hb2.mono hbel2.size)
            clear hnd hro2 hwr HS
            cases hal : (waits nd).all (fun f => out.contains f)
            case false =>
              rw [hal] at AL
              have HN : Hid (nxt x.nodes out (k + 1) (x.nodes.length - (k + 1)) = nxt x.nodes out 0 x.nodes.length) := by
                unfold Hid; rw [← HK.out, nxt_step hlt2 (by rw [HRY.out, hal]; rfl)]
              clear hal
              go_wp2_with (go_at_call 55; refine AL.out.mono ?_; rintro e w' ⟨rfl, rfl⟩)
              go_roundw
              case rel => exact ⟨k + 1, by omega, by go_num, hbel3, .inl ⟨rfl, HN⟩⟩
              case measure => simp [intOf] <;> omega
            case true =>
              rw [hal] at AL
              have HN : Hid (nxt x.nodes out 0 x.nodes.length = some k) := by
                unfold Hid; rw [← HK.out, nxt_found hlt2 (by rw [HRY.out, hal]; rfl)]
              clear hal
              go_wp2_with (go_at_call 55; refine AL.out.mono ?_; rintro e w' ⟨rfl, rfl⟩)
              go_roundw
              case rel => exact ⟨k + 1, by omega, by go_num, hbel3, .inr ⟨k, hlt2, rfl, HN⟩⟩
              case measure => simp [intOf] <;> omega
        · obtain rfl : k = x.nodes.length := by omega
          have HL : Hid (OL = out) := by
            have HNN : nxt x.nodes out 0 x.nodes.length = none := by rw [← HK.out, Nat.sub_self]; rfl
            unfold Hid; rw [← HO.out]; exact ord_none HNN _
          have hlo2 := Lib.hid hlo
          go_wp2_with fail
          refine bodyPost_ret (v := .tuple #[.slice none 0 0, .bool false]) (by simp [results, Try.results41, go_sem, *]) rfl ?_
          rw [HL.out]
          exact RetO.of false ⟨fun h => by have := hlo2.out; omega, fun h => by cases h⟩ (OwnI.nil _ _) (hbel.trans (hbel2.mono hbel.size))
      · have hown2 := hown.below hbel2
        have hB2 := hbel.trans (hbel2.mono hbel.size)
        have HN : Hid (ord x.nodes f' (out ++ [(m : Int)]) = OL) := by unfold Hid; rw [← HO.out, ord_some HM.out]
        have hsz : w.heap.size ≤ wj.heap.size := hB2.size
        by_cases hkn : k < x.nodes.length
        all_goals
          go_wp2_with (at_builtin; refine wpList_append_one rfl _ _ rfl rfl hown2 rfl hB2 (by omega) hsz (Nat.le_refl _) ?_; intro v' w4 hown4 hb4 hz4 hk4)
          obtain ⟨q4, c4, rfl, -⟩ := hown4.rd
          go_roundw
          case rel => exact ⟨f', out ++ [(m : Int)], by rw [List.length_append, List.length_singleton]; omega, hown4, hb4, HN⟩
          case measure => simp [sliceLen] <;> omega
theorem infoB : (Try.prog.info? 4).map (fun i => (i.zero, i.size, i.bytes)) = some (some (.bool false), 1, 1) := by kernel_rfl
theorem tkv (out : List Int) {n f : Nat} (h : f < n) (h' : f < ((tk out n).map Value.bool).length) : ((tk out n).map Value.bool)[f] = .bool (out.contains (f : Int)) := by
  rw [List.getElem_map, tk_get out h]
theorem OwnV.cellB {B : Nat} {w : World} {g n cap : Nat} {out : List Int} (h : OwnV B w 4 (.slice (some ⟨g, 0, none⟩) n cap) ((tk out n).map Value.bool)) {f : Nat} (hf : f < n) : w.cell? ⟨g, f, none⟩ = some (.bool (out.contains (f : Int))) := by
  have hl : f < ((tk out n).map Value.bool).length := by rw [List.length_map, tk_length]; exact hf
  have := (h.storing hl).2.2.2.1
  rw [tkv out hf hl] at this
  exact this
set_option maxHeartbeats 12800000 in
set_option maxRecDepth 100000 in
theorem order_v {v : Value} {x : PatchD} (w : World) (h : VPatch w v x) (hf : formedB x = true) :
    Calls Try.prog 37 #[v] w fun e w' => ∃ u, e = .returned u ∧ OwnI w.heap.size w' u (orderL x.nodes) ∧ Below w.heap.size w w' := by
  obtain ⟨p1, c1, p2, c2, p3, c3, rfl, r1, r2, r3⟩ := h
  have hl2 := r2.len
  unfold maxLen at hl2
  have hfm := formed_iff.1 hf
  have hn24 : x.nodes.length ≤ 24 := hfm.2.2.1
  have HSRC : Hid (∀ y ∈ x.nodes, ∀ f ∈ y.src, 0 ≤ f ∧ f < (x.nodes.length : Int)) := fun y hy => ndB_src (hfm.2.2.2.2.1 y hy)
  clear hf hfm r1 r3
  obtain ⟨s, hs⟩ : ∃ s, s = w.heap.size := ⟨_, rfl⟩
  obtain ⟨E0, hE0⟩ : ∃ E, E = w.alloc (.cells #[.int .i64 x.inputs, .slice p1 x.tables.length c1, .slice p2 x.nodes.length c2, .slice p3 x.outputs.length c3] 28) := ⟨_, rfl⟩
  have hB0 : Below s w E0 := by rw [hE0, hs]; exact (Below.refl _ _).alloc (Nat.le_refl _) _
  have bx : Box E0 s [.int .i64 x.inputs, .slice p1 x.tables.length c1, .slice p2 x.nodes.length c2, .slice p3 x.outputs.length c3] 28 := by rw [hE0, hs]; exact Box.newAt w _ _ rfl
  have hsz0 : E0.heap.size = s + 1 := by rw [hE0, hs]; simp
  have HE := Lib.hid hE0
  have HS0 := Lib.hid hs
  have r20 := r2
  clear hE0 hs r2
  have hmk := fun W => run_make_row' (P := Try.prog) 86 4 (.bool false) 1 Try.underlying86 infoB rfl .i64 .i64 x.nodes.length (by omega) (by omega) W
  have ht0 := OwnV.made (B := s + 1) E0 4 (.bool false) x.nodes.length (by omega) (by unfold maxLen; omega)
  obtain ⟨E1, hE1⟩ : ∃ E, E = E0.alloc (.cells (madeCells #[.bool false] x.nodes.length) 4) := ⟨_, rfl⟩
  rw [← hE1, hsz0] at ht0
  have hsz1 : E1.heap.size = s + 1 + 1 := by rw [hE1]; simp [hsz0]
  have hB1 : Below s w E1 := by rw [hE1]; exact hB0.alloc (by omega) _
  have hB01 : Below E0.heap.size E0 E1 := by rw [hE1]; exact (Below.refl _ _).alloc (Nat.le_refl _) _
  replace bx := bx.below hB01
  have hE1' : E0.alloc (.cells (madeCells #[.bool false] x.nodes.length) 4) = E1 := hE1.symm
  have HE1 := Lib.hid hE1'
  clear hE1 hE1' hB01 hB0
  have h0 := OwnI.lit (B := s + 1 + 1) E1 [] (by omega) (by simp [maxLen])
  obtain ⟨E2, hE2⟩ : ∃ E, E = E1.alloc (.cells #[] 2) := ⟨_, rfl⟩
  have h0' : OwnI (s + 1 + 1) E2 (.slice (some ⟨s + 1 + 1, 0, none⟩) 0 0) [] := by rw [hE2, ← hsz1]; simpa [hsz1] using h0
  have hB12 : Below E1.heap.size E1 E2 := by rw [hE2]; exact (Below.refl _ _).alloc (Nat.le_refl _) _
  have hB2 := hB1.trans (hB12.mono (by omega))
  replace bx := bx.below hB12
  have ht2 := ht0.below hB12
  rw [← List.map_replicate (f := Value.bool), ← tk_nil] at ht2
  have HE2 := Lib.hid hE2
  clear hE2 h0 hB12 ht0 hB1
  have hO : Hid (orderL x.nodes = ord x.nodes x.nodes.length []) := rfl
  generalize orderL x.nodes = OL at hO ⊢
  go_enter Try.func37, Try.ntmps37
  go_upto_region 1 with fail
  rw [← HE.out, ← HS0.out]
  have z2 : E0.cell? ⟨s, 2, none⟩ = some (.slice p2 x.nodes.length c2) := by
    rw [HE.out, HS0.out]; exact (Box.newAt w [.int .i64 x.inputs, .slice p1 x.tables.length c1, .slice p2 x.nodes.length c2, .slice p3 x.outputs.length c3] 28 rfl).cell 2 rfl
  go_upto_region 2 with fail
  rw [HE1.out]
  clear z2
  go_upto_region 4 with fail
  rw [← HE2.out]
  clear hsz0 hsz1 HE HE1 HE2
  go_loopw [4, 5] (fun ov fd wr => ∃ (f : Nat) (out : List Int) (fnd : Bool), fd = .bool fnd ∧ OwnI (s + 1 + 1) wr ov out ∧ OwnV (s + 1) wr 4 (.slice (some ⟨s + 1, 0, none⟩) x.nodes.length x.nodes.length) ((tk out x.nodes.length).map Value.bool) ∧
      Below s w wr ∧ Box wr s [.int .i64 x.inputs, .slice p1 x.tables.length c1, .slice p2 x.nodes.length c2, .slice p3 x.outputs.length c3] 28 ∧
      Hid ((fnd = true → ord x.nodes f out = OL ∧ f + out.length = x.nodes.length ∧ out.length + free out x.nodes.length = x.nodes.length) ∧ (fnd = false → out = OL))) (fun ov fd _ => 2 * (x.nodes.length - sliceLen ov) + boolN fd)
  case atStart => exact ⟨x.nodes.length, [], true, rfl, h0', ht2, hB2, bx, fun _ => ⟨hO.out.symm, by simp, by rw [free_nil]; simp⟩, fun h => by cases h⟩
  case round =>
    obtain ⟨f, out, fnd, rfl, hown, htk, hbel, bxw, HO⟩ := hrel
    clear h0' ht2 hB2 bx
    obtain ⟨wi, rfl⟩ : ∃ wi : World, wi = wr := ⟨_, rfl⟩
    have hbel' : Below w.heap.size w wi := by rw [← HS0.out]; exact hbel
    have hh := hown
    obtain ⟨op, oc, rfl, -⟩ := hh.rd
    clear hh
    cases fnd
    case false =>
      have HL : Hid (out = OL) := HO.out.2 rfl
      go_wp2_with fail
      go_ret
      exact ⟨_, rfl, by rw [← HL.out]; exact hown.mono (by rw [← HS0.out]; omega), hbel'⟩
    obtain ⟨hOf, hfo, hfree⟩ := HO.out.1 rfl
    have HOF := Lib.hid hOf
    have HFO := Lib.hid hfo
    have HFR := Lib.hid hfree
    clear hOf hfo hfree HO
    have z2 := bxw.cell 2 rfl
    go_wp2_with fail
    clear z2
    go_loopw [4, 5, 20] (fun ov fd i wr' => ∃ k : Nat, k ≤ x.nodes.length ∧ ov = .slice op out.length oc ∧ fd = .bool false ∧ i = .int .i64 k ∧ Below wi.heap.size wi wr' ∧ Hid (nxt x.nodes out k (x.nodes.length - k) = nxt x.nodes out 0 x.nodes.length)) (fun _ _ i _ => x.nodes.length - (intOf i).toNat)
    case atStart => exact ⟨0, Nat.zero_le _, rfl, rfl, rfl, Below.refl _ _, rfl⟩
    case round =>
      obtain ⟨k, hk, rfl, rfl, rfl, hbel2, HK⟩ := hrel
      obtain ⟨wj, rfl⟩ : ∃ wj : World, wj = wr := ⟨_, rfl⟩
      by_cases hlt2 : k < x.nodes.length
      · obtain ⟨b, o, rfl, hb, hc⟩ := (r20.below (hbel'.trans (hbel2.mono hbel'.size))).pos hlt2
        have hnd := hc k hlt2
        have HSR : Hid (∀ f ∈ x.nodes[k].src, 0 ≤ f ∧ f < (x.nodes.length : Int)) := HSRC.out _ (List.getElem_mem hlt2)
        have HRD : Hid (∀ b, out.contains (k : Int) = b → rdy x.nodes out k = (!b && (waits x.nodes[k]).all (fun f => out.contains f))) := fun b hb => rdy_eq hlt2 hb
        clear hc
        generalize x.nodes[k] = nd at hnd HSR HRD
        obtain ⟨y0, y1, y2, q, d, y3, hr⟩ := hnd
        obtain ⟨F, hF⟩ : ∃ F, F = wj.alloc (.cells #[.int .i64 nd.kind, .int .i64 nd.a, .int .i64 nd.b, .slice q nd.src.length d] 50) := ⟨_, rfl⟩
        have hBF : Below wj.heap.size wj F := by rw [hF]; exact (Below.refl _ _).alloc (Nat.le_refl _) _
        have bn : Box F wj.heap.size [.int .i64 nd.kind, .int .i64 nd.a, .int .i64 nd.b, .slice q nd.src.length d] 50 := by rw [hF]; exact Box.newAt _ _ _ rfl
        have HF := Lib.hid hF
        have hBF2 := hbel2.trans (hBF.mono hbel2.size)
        have htkF := htk.below hBF2
        have hc0 := htkF.cellB hlt2
        have t0 := bn.cell 0 rfl
        have t1 := bn.cell 1 rfl
        have t2 := bn.cell 2 rfl
        have t3 := bn.cell 3 rfl
        have WF := Lib.hid (waitsFor_v (x := nd) F ⟨q, d, rfl, hr.below hBF⟩)
        clear hF hr hBF bn
        generalize hcn : out.contains (k : Int) = cb at hc0
        have HCN := Lib.hid hcn
        clear hcn
        go_upto_region 9 with fail
        rw [← HF.out]
        go_wp2_with fail
        refine WF.out.mono ?_
        rintro e F2 ⟨u, rfl, hw, hb2⟩
        obtain ⟨wp, wc, rfl, hwr⟩ := hw
        have hBF3 := hBF2.trans (hb2.mono hBF2.size)
        have htk2 := htkF.below hb2
        have HTC : Hid (∀ f, f < x.nodes.length → F2.cell? ⟨s + 1, f, none⟩ = some (.bool (out.contains (f : Int)))) := fun f hf => htk2.cellB hf
        have hwl := hwr.len
        unfold maxLen at hwl
        clear y0 y1 y2 y3 t0 t1 t2 t3 hc0 htkF hb2 WF hBF2 hb
        go_wp2_with fail
        go_loop [8, 33] (fun r j => ∃ jj : Nat, jj ≤ (waits nd).length ∧ j = .int .i64 jj ∧ ∃ B : Bool, r = .bool B ∧ Hid ((!cb && ((waits nd).take jj).all (fun f => out.contains f)) = B)) (fun _ j => (waits nd).length - (intOf j).toNat)
        case atStart => exact ⟨0, Nat.zero_le _, rfl, !cb, rfl, by unfold Hid; simp⟩
        case round =>
          obtain ⟨jj, hjj, rfl, B, rfl, HB⟩ := hrel
          by_cases hlt3 : jj < (waits nd).length
          · obtain ⟨b2, o2, rfl, hb3, hc2⟩ := hwr.pos hlt3
            have hck := hc2 jj hlt3
            have hmem := HSR.out _ (waits_src (List.getElem_mem hlt3))
            have HN : Hid ((!cb && ((waits nd).take (jj + 1)).all (fun f => out.contains f)) = (B && out.contains (waits nd)[jj])) := by
              unfold Hid
              rw [List.take_succ_eq_append_getElem hlt3, List.all_append, ← HB.out, Bool.and_assoc]
              simp
            clear hc2
            generalize (waits nd)[jj] = fi at hck hmem HN
            obtain ⟨fn, rfl⟩ : ∃ fn : Nat, fi = fn := ⟨fi.toNat, by omega⟩
            have hfn : fn < x.nodes.length := by omega
            have hcf := HTC.out fn hfn
            generalize out.contains (fn : Int) = cf at hcf HN
            clear hmem
            cases B
            all_goals
              go_wp2_with fail
              go_round
              case rel => exact ⟨jj + 1, by omega, by go_num, _, rfl, by unfold Hid; rw [HN.out]; simp⟩
              case measure => simp [intOf] <;> omega
          · obtain rfl : jj = (waits nd).length := by omega
            have HRY : Hid (rdy x.nodes out k = B) := by
              unfold Hid; rw [HRD.out _ HCN.out, ← HB.out, List.take_length]
            clear HB HRD hwr
            cases B
            case false =>
              have HN : Hid (nxt x.nodes out (k + 1) (x.nodes.length - (k + 1)) = nxt x.nodes out 0 x.nodes.length) := by
                unfold Hid; rw [← HK.out, nxt_step hlt2 HRY.out]
              go_wp2_with fail
              go_roundw
              case rel => exact ⟨k + 1, by omega, rfl, rfl, by go_num, hBF3, HN⟩
              case measure => simp [intOf] <;> omega
            case true =>
              have HM : nxt x.nodes out 0 x.nodes.length = some k := by rw [← HK.out, nxt_found hlt2 HRY.out]
              have hpos := free_pos (rdy_free HRY.out) hlt2
              have hadd := free_add out k (rdy_free HRY.out) _ hlt2
              obtain ⟨f', rfl⟩ : ∃ f', f = f' + 1 := ⟨f - 1, by have := HFO.out; have := HFR.out; omega⟩
              have HN : Hid (ord x.nodes f' (out ++ [(k : Int)]) = OL ∧ f' + (out ++ [(k : Int)]).length = x.nodes.length ∧ (out ++ [(k : Int)]).length + free (out ++ [(k : Int)]) x.nodes.length = x.nodes.length) := by
                have h1 := HFO.out
                have h2 := HFR.out
                refine ⟨by rw [← HOF.out, ord_some HM], ?_, ?_⟩ <;> rw [List.length_append, List.length_singleton] <;> omega
              have hlo : out.length < x.nodes.length := by have := HFO.out; omega
              have hlk : k < ((tk out x.nodes.length).map Value.bool).length := by rw [List.length_map, tk_length]; exact hlt2
              obtain ⟨-, -, hgs, hg1, hg2, hst⟩ := htk2.storing hlk
              have hst' := hst (.bool true)
              rw [← List.map_set, ← tk_set out hlt2] at hst'
              have hown2 := hown.below hBF3
              have hown3 : OwnI (s + 1 + 1) (F2.setCell ⟨s + 1, k, none⟩ (.bool true)) (.slice op out.length oc) out := hown2.keep fun j hj => Below.heap_setCell _ _ _ _ (by have := (hown2.lt hj).1; show j ≠ s + 1; omega)
              have hB3 : Below s w (F2.setCell ⟨s + 1, k, none⟩ (.bool true)) := (hbel.trans (hBF3.mono (by rw [HS0.out]; exact hbel.size))).setCell (p := ⟨s + 1, k, none⟩) (by show s ≤ s + 1; omega) _
              have bx3 := (bxw.below hBF3).other (a := ⟨s + 1, k, none⟩) (show s ≠ s + 1 by omega) (.bool true)
              have hszs : s + 1 < F2.heap.size := hgs
              have hsz3 : s + 1 + 1 ≤ (F2.setCell ⟨s + 1, k, none⟩ (.bool true)).heap.size := by simp; omega
              generalize ((tk out x.nodes.length).map Value.bool)[k] = yy at hg1
              clear hst htk2 hown2 hpos hadd HM
              obtain ⟨W3, hW3⟩ : ∃ W, W = F2.setCell ⟨s + 1, k, none⟩ (.bool true) := ⟨_, rfl⟩
              rw [← hW3] at hown3 hB3 bx3 hsz3 hst'
              have HW3 := Lib.hid hW3
              clear hW3
              go_upto_region 17 with fail
              rw [← HW3.out]
              go_wp2_with (at_builtin; refine wpList_append_one rfl _ _ rfl rfl hown3 rfl hB3 (by omega) hsz3 (by omega) ?_; intro v' w4 hown4 hb4 hz4 hk4)
              have htk4 := hst'.keep (w' := w4) fun j hj => hk4 j (hst'.lt hj).2 (fun e => by
                have h1 := (hown3.lt e).1
                simp only [Value.ownBlock, Option.some.injEq] at hj
                omega)
              have bx4 := bx3.keep (w' := w4) (hk4 s bx3.lt (fun e => by have h1 := (hown3.lt e).1; omega))
              obtain ⟨q4, c4, rfl, -⟩ := hown4.rd
              go_roundw
              case rel => exact ⟨f', out ++ [(k : Int)], true, rfl, hown4, htk4, hb4, bx4, (⟨fun _ => HN.out, fun h => Bool.noConfusion h⟩ : _ ∧ _)⟩
              case measure => simp [sliceLen, boolN] <;> omega
      · obtain rfl : k = x.nodes.length := by omega
        have HL : Hid (out = OL) := by
          have HNN : nxt x.nodes out 0 x.nodes.length = none := by rw [← HK.out, Nat.sub_self]; rfl
          unfold Hid; rw [← HOF.out]; exact (ord_none HNN _).symm
        go_wp2_with fail
        go_roundw
        case rel => exact ⟨f, out, false, rfl, hown.below hbel2, htk.below hbel2, hbel.trans (hbel2.mono (by rw [HS0.out]; exact hbel.size)), bxw.below hbel2, (⟨fun h => Bool.noConfusion h, fun _ => HL.out⟩ : _ ∧ _)⟩
        case measure => simp [sliceLen, boolN]
end Go.Proofs.Ytdjoaaccnadccaa

namespace Go.Proofs.Ytdjoaaccnadccaa
open Go.ChangeShapes Go.WideShapes Go.ChangeAt Go.RowKit Go.Sort
set_option linter.unusedVariables false

theorem belowDrew (w : World) : Below w.heap.size w w.drew := ⟨rfl, rfl, rfl, Nat.le_refl _, fun _ _ => rfl⟩
theorem PPatch.of {w : World} {x : PatchD} {v : Value} (h : VPatch w v x) : ∃ p1 c1 p2 c2 p3 c3, v = .agg #[.int .i64 x.inputs, .slice p1 x.tables.length c1, .slice p2 x.nodes.length c2, .slice p3 x.outputs.length c3] ∧
    PPatch (w.alloc (.cells #[.int .i64 x.inputs, .slice p1 x.tables.length c1, .slice p2 x.nodes.length c2, .slice p3 x.outputs.length c3] 28)) w.heap.size x := by
  obtain ⟨p1, c1, p2, c2, p3, c3, rfl, r1, r2, r3⟩ := h
  have hB0 : Below w.heap.size w (w.alloc (.cells #[.int .i64 x.inputs, .slice p1 x.tables.length c1, .slice p2 x.nodes.length c2, .slice p3 x.outputs.length c3] 28)) := (Below.refl _ _).alloc (Nat.le_refl _) _
  exact ⟨p1, c1, p2, c2, p3, c3, rfl, p1, c1, p2, c2, p3, c3, Box.newAt w _ _ rfl, r1.below hB0, r2.below hB0, r3.below hB0⟩
theorem l07Ok_any {g : Nat} {x : PatchD} (w : World) (h : PPatch w g x) :
    Calls Try.prog 23 #[.pointer (some ⟨g, 0, none⟩)] w fun e w' => e = .returned (.bool (okB x)) ∧ Below w.heap.size w w' := by
  have HR : Hid (∀ b, formedB x = b → okB x = (b && decide ((orderL x.nodes).length = x.nodes.length))) := fun b hb => by unfold okB; rw [hb]
  generalize okB x = R at HR ⊢
  have FM := Lib.hid (l07Formed_any w h)
  cases hF : formedB x
  case false =>
    rw [hF] at FM
    obtain rfl := HR.out _ hF
    go_enter Try.func23, Try.ntmps23
    go_wp2_with (go_at_call 40; refine FM.out.mono ?_; rintro e W1 ⟨rfl, hb1⟩)
    go_ret
    exact ⟨rfl, hb1⟩
  rw [hF] at FM
  obtain rfl := HR.out _ hF
  generalize hb : decide ((orderL x.nodes).length = x.nodes.length) = b
  have HB := Lib.hid hb
  clear hb HR
  go_enter Try.func23, Try.ntmps23
  go_wp2_with (go_at_call 40; refine FM.out.mono ?_; rintro e W1 ⟨rfl, hb1⟩)
  refine (l07Order_any W1 (h.below hb1) hF).mono ?_
  rintro e W2 ⟨u, rfl, ho, hb2⟩
  rw [HB.out]
  go_wp2_with fail
  go_ret
  exact ⟨rfl, hb1.trans (hb2.mono hb1.size)⟩
set_option maxHeartbeats 1600000 in
set_option maxRecDepth 100000 in
theorem isPatch_v {v : Value} {x : PatchD} (w : World) (h : VPatch w v x) :
    Calls Try.prog 15 #[v] w fun e w' => e = .returned (.bool (okB x)) ∧ Below w.heap.size w w' := by
  have HR : Hid (∀ b, formedB x = b → okB x = (b && decide ((orderL x.nodes).length = x.nodes.length))) := fun b hb => by unfold okB; rw [hb]
  generalize okB x = R at HR ⊢
  have hv := h
  obtain ⟨p1, c1, p2, c2, p3, c3, rfl, r1, r2, r3⟩ := h
  have hl2 := r2.len
  unfold maxLen at hl2
  clear r1 r2 r3
  obtain ⟨g, hg⟩ : ∃ g, g = w.heap.size := ⟨_, rfl⟩
  obtain ⟨E0, hE0⟩ : ∃ E, E = w.alloc (.cells #[.int .i64 x.inputs, .slice p1 x.tables.length c1, .slice p2 x.nodes.length c2, .slice p3 x.outputs.length c3] 28) := ⟨_, rfl⟩
  have hB0 : Below w.heap.size w E0 := by rw [hE0]; exact (Below.refl _ _).alloc (Nat.le_refl _) _
  have bx : Box E0 g [.int .i64 x.inputs, .slice p1 x.tables.length c1, .slice p2 x.nodes.length c2, .slice p3 x.outputs.length c3] 28 := by rw [hE0, hg]; exact Box.newAt w _ _ rfl
  have HE := Lib.hid hE0
  have HG := Lib.hid hg
  clear hE0 hg
  have z0 := bx.cell 0 rfl
  have z1 := bx.cell 1 rfl
  have z2 := bx.cell 2 rfl
  have z3 := bx.cell 3 rfl
  have hgl := bx.lt
  have k1 : Hid (∀ b, formedB x = b → ∀ W, Below E0.heap.size E0 W → Calls Try.prog 36 #[.agg #[.int .i64 x.inputs, .slice p1 x.tables.length c1, .slice p2 x.nodes.length c2, .slice p3 x.outputs.length c3]] W fun e w' => e = .returned (.bool b) ∧ Below W.heap.size W w') := fun b hb W hW => by
    rw [← hb]; exact isWellFormed_v W (hv.below (hB0.trans (hW.mono hB0.size)))
  have k2 : Hid (formedB x = true → ∀ W, Below E0.heap.size E0 W → Calls Try.prog 37 #[.agg #[.int .i64 x.inputs, .slice p1 x.tables.length c1, .slice p2 x.nodes.length c2, .slice p3 x.outputs.length c3]] W fun e w' => ∃ p c, e = .returned (.slice p (orderL x.nodes).length c) ∧ Below W.heap.size W w') := fun hb W hW =>
    (order_v W (hv.below (hB0.trans (hW.mono hB0.size))) hb).mono fun e w' ⟨u, he, ho, hbl⟩ => by
      obtain ⟨p, c, rfl, -⟩ := ho.rd
      exact ⟨p, c, he, hbl⟩
  clear hv bx
  have hcur := belowDrew E0
  cases hF : formedB x
  case false =>
    have k3 := Lib.hid (k1.out _ hF)
    obtain rfl := HR.out _ hF
    have K := Lib.hid (fun n os => Calls.regrown_of (k3.out _ (below_regrown E0 n os)))
    have s0 := cell_regrown z0
    have s1 := cell_regrown z1
    have s2 := cell_regrown z2
    have s3 := cell_regrown z3
    clear k1 k2 HR hF k3 z0 z1 z2 z3 hcur
    go_enter Try.func15, Try.ntmps15
    go_upto_region 1 with fail
    rw [← HE.out, ← HG.out]
    refine wp_region_quiet_below (by kernel_rfl) (by kernel_rfl) ?_
    repeat (first | go_big_quiet_step ((go_at_call 36; exact K.out _ _)) | quiet_step ((go_at_call 36; exact K.out _ _)))
    refine wpQuiet_nil ?_
    intro _ hw'
    obtain ⟨⟨dq, osq⟩, hw''⟩ := hw'
    subst hw''
    have hq := below_regrown E0 dq osq
    go_wp2_with fail
    go_ret
    exact ⟨rfl, hB0.trans (hq.mono hB0.size)⟩
  have k3 := Lib.hid (k1.out _ hF)
  have k4 := Lib.hid (k2.out hF)
  obtain rfl := HR.out _ hF
  clear k1 k2 HR hF
  generalize hm : (orderL x.nodes).length = m at k4 ⊢
  clear hm
  have RES : Hid (∀ b : Bool, ((m : Int) == (x.nodes.length : Int)) = b → (true && decide (m = x.nodes.length)) = b) := fun b hb => by
    rw [← hb, Bool.true_and, Bool.eq_iff_iff, decide_eq_true_iff, beq_iff_eq]; omega
  generalize (true && decide (m = x.nodes.length)) = R at RES ⊢
  cases hq : ((m : Int) == (x.nodes.length : Int))
  all_goals
    obtain rfl := RES.out _ hq
    go_enter Try.func15, Try.ntmps15
    go_upto_region 1 with fail
    rw [← HE.out, ← HG.out]
    go_region_held3 (fun W => W.cell? ⟨g, 0, none⟩ = some (.int .i64 x.inputs) ∧ W.cell? ⟨g, 1, none⟩ = some (.slice p1 x.tables.length c1) ∧ W.cell? ⟨g, 2, none⟩ = some (.slice p2 x.nodes.length c2) ∧ W.cell? ⟨g, 3, none⟩ = some (.slice p3 x.outputs.length c3)) (first | go_keep | exact ⟨(hcur.cell (p := ⟨g, 0, none⟩) hgl).trans z0, (hcur.cell (p := ⟨g, 1, none⟩) hgl).trans z1, (hcur.cell (p := ⟨g, 2, none⟩) hgl).trans z2, (hcur.cell (p := ⟨g, 3, none⟩) hgl).trans z3⟩) (first | (go_at_call 36; refine (k3.out _ hcur).mono ?_; rintro e F ⟨rfl, hb⟩; have hcur := hcur.trans (hb.mono hcur.size)) | (go_at_call 37; refine (k4.out _ hcur).mono ?_; rintro e F ⟨op, oc, rfl, hb⟩; have hcur := hcur.trans (hb.mono hcur.size)))
    all_goals (go_wp2_with fail; go_ret; exact ⟨by first | rfl | exact ret_bool hq | exact ret_bool hq.symm, hB0.trans (hcur.mono hB0.size)⟩)
end Go.Proofs.Ytdjoaaccnadccaa

namespace Go.Proofs.Ytdjoaaccnadccaa
set_option linter.unusedVariables false

theorem okB_start {x : PatchD} (h : okB x = true) : ∀ n ∈ x.nodes, StartOk n := by
  intro n hn
  unfold okB formedB at h
  simp only [Bool.and_eq_true, List.all_eq_true] at h
  have h2 := h.1.1.2 n hn
  unfold ndB at h2
  simp only [Bool.and_eq_true] at h2
  exact startOk_of h2.1.1
theorem lens_map_start : ∀ (ns : List NodeD), (∀ n ∈ ns, StartOk n) → lens (ns.map startL) ≤ 16 * ns.length
  | [], _ => by simp [lens]
  | n :: ns, h => by
    have h1 := startL_length (h n (List.mem_cons_self ..))
    have h2 := lens_map_start ns fun m hm => h m (List.mem_cons_of_mem _ hm)
    rw [List.map_cons, lens_cons, List.length_cons]
    omega
end Go.Proofs.Ytdjoaaccnadccaa

namespace Go.Proofs.Ytdjoaaccnadccaa
open Go.ChangeShapes Go.WideShapes Go.ChangeAt Go.RowKit
set_option linter.unusedVariables false

structure StateD where
  rows : List (List Int)

/-- the value v is a State that reads x -/
def VState (w : World) (v : Value) (x : StateD) : Prop := ∃ p0 c0, v = .agg #[.slice p0 x.rows.length c0] ∧ RdII w p0 x.rows
theorem VState.below {w w' : World} {v : Value} {x : StateD} (h : VState w v x) (hb : Below w.heap.size w w') : VState w' v x := by
  obtain ⟨p0, c0, rfl, r0⟩ := h
  exact ⟨p0, c0, rfl, r0.below hb⟩
/-- a State of the call's own; L: its slices of integers -/
def OwnState (B : Nat) (w : World) (v : Value) (x : StateD) (L : List Value) : Prop := ∃ u0 L0, v = .agg #[u0] ∧ L0 = L ∧ OwnII B w u0 x.rows L0
theorem OwnState.rd {B : Nat} {w : World} {v : Value} {x : StateD} {L : List Value} (h : OwnState B w v x L) : VState w v x := by
  obtain ⟨u0, L0, rfl, rfl, o0⟩ := h
  obtain ⟨p0, c0, rfl, r0⟩ := OwnII.rdv o0
  exact ⟨p0, c0, rfl, r0⟩
theorem OwnState.mono {B B' : Nat} {w : World} {v : Value} {x : StateD} {L : List Value} (h : OwnState B w v x L) (hB : B' ≤ B) : OwnState B' w v x L := by
  obtain ⟨u0, L0, rfl, rfl, o0⟩ := h
  exact ⟨u0, L0, rfl, rfl, o0.mono hB⟩
theorem OwnState.keeps {B : Nat} {w w' : World} {v : Value} {x : StateD} {L : List Value} (h : OwnState B w v x L) (hk : ∀ k, B ≤ k → k < w.heap.size → w'.heap[k]? = w.heap[k]?) : OwnState B w' v x L := by
  obtain ⟨u0, L0, rfl, rfl, o0⟩ := h
  exact ⟨u0, L0, rfl, rfl, o0.keeps hk⟩
theorem OwnState.below {B : Nat} {w w' : World} {v : Value} {x : StateD} {L : List Value} (h : OwnState B w v x L) (hb : Below w.heap.size w w') : OwnState B w' v x L := h.keeps fun k _ hk => hb.block k hk
theorem OwnState.blk {B : Nat} {w : World} {v : Value} {x : StateD} {L : List Value} (h : OwnState B w v x L) {b : Nat} (hb : Blk L b) : B ≤ b ∧ b < w.heap.size := by
  obtain ⟨u0, L0, rfl, rfl, o0⟩ := h
  obtain ⟨u, hu, hb⟩ := hb
  exact o0.blk ⟨u, hu, hb⟩
theorem OwnState.ints {B : Nat} {w : World} {v : Value} {x : StateD} {L : List Value} (h : OwnState B w v x L) : IntBlks w L := by
  obtain ⟨u0, L0, rfl, rfl, o0⟩ := h
  exact o0.ints
def wtState (x : StateD) : Nat := wtII x.rows
def cntState (x : StateD) : Nat := cntII x.rows
theorem cntState_le (x : StateD) : cntState x ≤ wtState x := by
  have e0 := cntII_le x.rows
  unfold cntState wtState; omega
def markState (m : Int) (x : StateD) : StateD := { x with rows := markII (m) x.rows }
end Go.Proofs.Ytdjoaaccnadccaa

namespace Go.Proofs.Ytdjoaaccnadccaa
open Go.ChangeShapes Go.WideShapes Go.ChangeAt Go.RowKit Go.Sort
set_option linter.unusedVariables false

/-- is a state valid for nodes? -/
def stB (ns : List NodeD) (rs : List (List Int)) : Bool := decide (rs.length = ns.length) && (ns.zip rs).all fun p => decide (p.2.length = (startL p.1).length) && p.2.all isSmp
def vsB (x : PatchD) (s : StateD) : Bool := okB x && stB x.nodes s.rows
theorem stB_head {ns : List NodeD} {rs : List (List Int)} (h : rs.length ≠ ns.length) : stB ns rs = false := by
  unfold stB; rw [decide_eq_false h]; rfl
theorem stB_bad {ns : List NodeD} {rs : List (List Int)} {k : Nat} (h1 : k < ns.length) (h2 : k < rs.length) (h : (decide ((rs[k]).length = (startL ns[k]).length) && (rs[k]).all isSmp) = false) : stB ns rs = false := by
  unfold stB
  have hz : k < (ns.zip rs).length := by rw [List.length_zip]; omega
  rw [all_false hz (by rw [List.getElem_zip]; exact h), Bool.and_false]
theorem stB_step {ns : List NodeD} {rs : List (List Int)} {k : Nat} (h1 : k < ns.length) (h2 : k < rs.length) (hp : ((ns.zip rs).take k).all (fun p => decide (p.2.length = (startL p.1).length) && p.2.all isSmp) = true) (h : (decide ((rs[k]).length = (startL ns[k]).length) && (rs[k]).all isSmp) = true) :
    ((ns.zip rs).take (k + 1)).all (fun p => decide (p.2.length = (startL p.1).length) && p.2.all isSmp) = true := by
  have hz : k < (ns.zip rs).length := by rw [List.length_zip]; omega
  exact all_step hz hp (by rw [List.getElem_zip]; exact h)
theorem stB_done {ns : List NodeD} {rs : List (List Int)} (hl : rs.length = ns.length) (hp : ((ns.zip rs).take ns.length).all (fun p => decide (p.2.length = (startL p.1).length) && p.2.all isSmp) = true) : stB ns rs = true := by
  unfold stB
  rw [List.take_of_length_le (by rw [List.length_zip]; omega)] at hp
  rw [decide_eq_true hl, hp]; rfl
end Go.Proofs.Ytdjoaaccnadccaa

namespace Go.Proofs.Ytdjoaaccnadccaa
open Go.ChangeShapes Go.WideShapes Go.ChangeAt Go.RowKit Go.Sort
set_option linter.unusedVariables false

/-! ### the order has each node once -/
theorem ord_nodup {nodes : List NodeD} : ∀ (f : Nat) (out : List Int), out.Nodup → (ord nodes f out).Nodup
  | 0, out, h => h
  | f + 1, out, h => by
    rw [ord]
    split
    · exact h
    · rename_i i hi
      refine ord_nodup f _ ?_
      have h1 := rdy_free (nxt_some hi).2.2
      rw [List.nodup_append]
      refine ⟨h, by simp, fun a ha b hb e => ?_⟩
      rw [List.mem_singleton] at hb
      subst hb e
      rw [List.contains_eq_mem, decide_eq_false_iff_not] at h1
      exact h1 ha
theorem orderL_nodup (nodes : List NodeD) : (orderL nodes).Nodup := ord_nodup _ _ List.nodup_nil

theorem getD_at2 {xs : List Int} {k : Nat} (h : k < xs.length) : xs.getD k 0 = xs[k] := by
  rw [List.getD_eq_getElem?_getD, List.getElem?_eq_getElem h]; rfl
theorem OwnI.rd_at2 {B : Nat} {w : World} {p : Option Addr} {n c : Nat} {xs : List Int} (h : OwnI B w (.slice p n c) xs) : n = xs.length ∧ RdI w p xs := by
  obtain ⟨q, d, e, hr⟩ := h.rd
  simp only [Value.slice.injEq] at e
  obtain ⟨rfl, rfl, -⟩ := e
  exact ⟨rfl, hr⟩
/-! ### samples -/
theorem smps_getD {xs : List Int} (h : xs.all isSmp = true) (i : Nat) : isSmp (xs.getD i 0) = true := by
  rw [List.all_eq_true] at h
  by_cases hi : i < xs.length
  · rw [List.getD_eq_getElem?_getD, List.getElem?_eq_getElem hi]; exact h _ (List.getElem_mem hi)
  · rw [List.getD_eq_getElem?_getD, List.getElem?_eq_none (by omega)]; rfl
theorem smps_set {xs : List Int} (h : xs.all isSmp = true) (i : Nat) {y : Int} (hy : isSmp y = true) : (xs.set i y).all isSmp = true := by
  rw [List.all_eq_true] at h ⊢
  intro z hz
  rcases List.mem_or_eq_of_mem_set hz with hz | rfl
  · exact h z hz
  · exact hy
theorem smps_map {xs ys : List Int} (h : xs.all isSmp = true) : (mapL xs ys).all isSmp = true := by
  unfold mapL
  rw [List.all_map, List.all_eq_true]
  exact fun i _ => smps_getD h _
theorem isSmp_smp (x : Int) : isSmp (smp x) = true := by unfold isSmp; rw [inB_iff]; exact smp_bounds x
theorem outP_smp {x : NodeD} {tb : List (List Int)} {xs ss : List Int} (ok : OutOk x tb xs ss) (hv : nodeB x tb.length = true) (ht : tablesB tb = true) (hx : xs.all isSmp = true) (hs : ss.all isSmp = true) : isSmp (outP x tb xs ss) = true := by
  obtain ⟨k, A, B, src⟩ := x
  rw [nodeB_split] at hv
  simp only [Bool.and_eq_true] at hv
  obtain ⟨hk, ha, -⟩ := hv
  have x0 := smps_getD hx 0
  have x1 := smps_getD hx 1
  have x2 := smps_getD hx 2
  have s0 := smps_getD hs 0
  rcases kinds_of hk with rfl | rfl | rfl | rfl | rfl | rfl | rfl | rfl | rfl | rfl | rfl | rfl | rfl | rfl | rfl | rfl | rfl
  · exact x0
  · exact ha
  · exact isSmp_smp _
  · exact isSmp_smp _
  · exact isSmp_smp _
  · exact s0
  · exact isSmp_smp _
  · exact isSmp_smp _
  · exact isSmp_smp _
  · show isSmp (xs.getD 0 0 / 2 ^ A.toNat) = true
    have ha' : inB A 0 31 = true := ha
    rw [inB_iff] at ha'
    have hp : (0 : Int) < 2 ^ A.toNat := Int.pow_pos (by omega)
    generalize (2 : Int) ^ A.toNat = p at hp
    generalize xs.getD 0 0 = v at x0
    unfold isSmp at x0 ⊢
    rw [inB_iff] at x0 ⊢
    constructor
    · rw [Int.le_ediv_iff_mul_le hp]
      have h3 : (-2147483648 : Int) * p ≤ -2147483648 * 1 := Int.mul_le_mul_of_nonpos_left (by omega) (by omega)
      omega
    · have h4 : v / p < 2147483648 := Int.ediv_lt_of_lt_mul hp (by
        have h3 : (2147483648 : Int) * 1 ≤ 2147483648 * p := Int.mul_le_mul_of_nonneg_left (by omega) (by omega)
        omega)
      omega
  · show isSmp (max (-A) (min (xs.getD 0 0) A)) = true
    have ha' : inB A 0 2147483647 = true := ha
    unfold isSmp at x0 ⊢
    rw [inB_iff] at x0 ha' ⊢
    omega
  · exact s0
  · show isSmp (lookP (tb.getD A.toNat []) (xs.getD 0 0)) = true
    unfold lookP
    refine smps_getD ?_ _
    unfold tablesB at ht
    simp only [Bool.and_eq_true, List.all_eq_true] at ht
    by_cases hi : A.toNat < tb.length
    · have h1 := ht.1 tb[A.toNat] (List.getElem_mem hi)
      unfold tblB at h1
      rw [Bool.and_eq_true] at h1
      rw [List.getD_eq_getElem?_getD, List.getElem?_eq_getElem hi]
      exact h1.2
    · rw [List.getD_eq_getElem?_getD, List.getElem?_eq_none (by omega)]; rfl
  · exact s0
  · show isSmp (if 0 ≤ xs.getD 0 0 then xs.getD 1 0 else xs.getD 2 0) = true
    split
    · exact x1
    · exact x2
  · show isSmp (if 0 < xs.getD 1 0 then xs.getD 0 0 else ss.getD 0 0) = true
    split
    · exact x0
    · exact s0
  · exact isSmp_smp _

/-! ### one frame -/
/-- the samples that a node gets in a frame -/
def inF (x : NodeD) (fr vs : List Int) : List Int := if x.kind = 1 then [fr.getD x.a.toNat 0] else mapL vs x.src
/-- the value of node k is put in its place -/
def valS (x : PatchD) (st : List (List Int)) (fr vs : List Int) (k : Int) : List Int :=
  vs.set k.toNat (outP (x.nodes.getD k.toNat ⟨0, 0, 0, []⟩) x.tables (inF (x.nodes.getD k.toNat ⟨0, 0, 0, []⟩) fr vs) (st.getD k.toNat []))
def valsF (x : PatchD) (st : List (List Int)) (fr : List Int) (os : List Int) : List Int := os.foldl (valS x st fr) (List.replicate x.nodes.length 0)
theorem valsF_snoc (x : PatchD) (st : List (List Int)) (fr : List Int) (os : List Int) (k : Int) : valsF x st fr (os ++ [k]) = valS x st fr (valsF x st fr os) k := by unfold valsF; rw [List.foldl_append]; rfl
theorem valsF_take {x : PatchD} {st : List (List Int)} {fr os : List Int} {j : Nat} (h : j < os.length) : valsF x st fr (os.take (j + 1)) = valS x st fr (valsF x st fr (os.take j)) os[j] := by
  rw [List.take_succ_eq_append_getElem h, valsF_snoc]
theorem foldl_valS_length (x : PatchD) (st : List (List Int)) (fr : List Int) : ∀ (os vs : List Int), (os.foldl (valS x st fr) vs).length = vs.length
  | [], vs => rfl
  | o :: os, vs => by rw [List.foldl_cons, foldl_valS_length x st fr os, valS, List.length_set]
theorem valsF_length (x : PatchD) (st : List (List Int)) (fr os : List Int) : (valsF x st fr os).length = x.nodes.length := by unfold valsF; rw [foldl_valS_length, List.length_replicate]
/-- what a frame asks of patch, state and input -/
structure FrOk (x : PatchD) (st : List (List Int)) (fr : List Int) : Prop where
  f : formedB x = true
  sl : st.length = x.nodes.length
  s : ∀ k, (h : k < x.nodes.length) → (st.getD k []).length = (startL x.nodes[k]).length ∧ (st.getD k []).all isSmp = true
  il : (fr.length : Int) = x.inputs
  i : fr.all isSmp = true
theorem FrOk.of {x : PatchD} {st : List (List Int)} {fr : List Int} (h : formedB x = true) (hs : stB x.nodes st = true) (hi : (fr.length : Int) = x.inputs) (hf : fr.all isSmp = true) : FrOk x st fr := by
  unfold stB at hs
  rw [Bool.and_eq_true, decide_eq_true_eq, List.all_eq_true] at hs
  refine ⟨h, hs.1, fun k hk => ?_, hi, hf⟩
  have hk2 : k < st.length := by rw [hs.1]; exact hk
  have h1 := hs.2 (x.nodes[k], st[k]) (by
    rw [List.mem_iff_getElem]
    exact ⟨k, by rw [List.length_zip]; omega, by rw [List.getElem_zip]⟩)
  rw [Bool.and_eq_true, decide_eq_true_eq] at h1
  rw [List.getD_eq_getElem?_getD, List.getElem?_eq_getElem hk2]
  exact h1
theorem inF_len {x : NodeD} {t : Int} {fr vs : List Int} (h : nodeB x t = true) : ((inF x fr vs).length : Int) = inN x := by
  rw [nodeB_split] at h
  simp only [Bool.and_eq_true, beq_iff_eq] at h
  obtain ⟨-, -, h3, -⟩ := h
  unfold inF inN
  split
  · rfl
  · rw [mapL_length]; exact h3
theorem FrOk.nd {x : PatchD} {st : List (List Int)} {fr : List Int} (h : FrOk x st fr) {k : Nat} (hk : k < x.nodes.length) : nodeB x.nodes[k] x.tables.length = true ∧ (x.nodes[k].kind = 1 → 0 ≤ x.nodes[k].a ∧ x.nodes[k].a < (fr.length : Int)) ∧ ∀ f ∈ x.nodes[k].src, 0 ≤ f ∧ f < (x.nodes.length : Int) := by
  have h1 := (formed_iff.1 h.f).2.2.2.2.1 _ (List.getElem_mem hk)
  have h2 := ndB_src h1
  unfold ndB at h1
  simp only [Bool.and_eq_true, Bool.not_eq_true', Bool.and_eq_false_iff, beq_eq_false_iff_ne, decide_eq_false_iff_not] at h1
  refine ⟨h1.1.1, fun e => ?_, h2⟩
  have h3 := h1.1.1
  rw [nodeB_split] at h3
  simp only [Bool.and_eq_true] at h3
  have h4 : aB 1 x.nodes[k].a x.tables.length = true := by rw [← e]; exact h3.2.1
  have h5 : inB x.nodes[k].a 0 3 = true := h4
  rw [inB_iff] at h5
  rcases h1.1.2 with h6 | h6
  · exact absurd e h6
  · rw [h.il]; omega
theorem FrOk.out {x : PatchD} {st : List (List Int)} {fr vs : List Int} (h : FrOk x st fr) (hv : vs.all isSmp = true) {k : Nat} (hk : k < x.nodes.length) :
    OutOk x.nodes[k] x.tables (inF x.nodes[k] fr vs) (st.getD k []) ∧ isSmp (outP x.nodes[k] x.tables (inF x.nodes[k] fr vs) (st.getD k [])) = true := by
  have hn := (h.nd hk).1
  have ht := (formed_iff.1 h.f).2.1
  have hi : (inF x.nodes[k] fr vs).all isSmp = true := by
    unfold inF
    split
    · rw [List.all_cons, smps_getD h.i]; rfl
    · exact smps_map hv
  have ok := OutOk.of ht hn (inF_len hn) (h.s k hk).1 hi
  exact ⟨ok, outP_smp ok hn ht hi (h.s k hk).2⟩
theorem valS_smp {x : PatchD} {st : List (List Int)} {fr vs : List Int} (h : FrOk x st fr) (hv : vs.all isSmp = true) {k : Nat} (hk : k < x.nodes.length) : (valS x st fr vs k).all isSmp = true := by
  unfold valS
  refine smps_set hv _ ?_
  have := (h.out hv hk).2
  rw [Int.toNat_natCast, List.getD_eq_getElem?_getD (l := x.nodes), List.getElem?_eq_getElem hk]
  exact this
theorem valsF_smp {x : PatchD} {st : List (List Int)} {fr : List Int} (h : FrOk x st fr) : ∀ (os : List Int), (∀ o ∈ os, 0 ≤ o ∧ o < (x.nodes.length : Int)) → ∀ vs : List Int, vs.all isSmp = true → (os.foldl (valS x st fr) vs).all isSmp = true
  | [], _, vs, hv => hv
  | o :: os, ho, vs, hv => by
    rw [List.foldl_cons]
    obtain ⟨h1, h2⟩ := ho o (List.mem_cons_self ..)
    obtain ⟨k, rfl⟩ := Int.eq_ofNat_of_zero_le h1
    exact valsF_smp h os (fun o ho' => ho o (List.mem_cons_of_mem _ ho')) _ (valS_smp h hv (by omega))
theorem zeros_smp (n : Nat) : (List.replicate n (0 : Int)).all isSmp = true := by
  rw [List.all_eq_true]
  intro y hy
  rw [(List.mem_replicate.1 hy).2]; rfl
theorem valsF_smps {x : PatchD} {st : List (List Int)} {fr : List Int} (h : FrOk x st fr) {os : List Int} (ho : ∀ o ∈ os, 0 ≤ o ∧ o < (x.nodes.length : Int)) : (valsF x st fr os).all isSmp = true := valsF_smp h os ho _ (zeros_smp _)
end Go.Proofs.Ytdjoaaccnadccaa

namespace Go.Proofs.Ytdjoaaccnadccaa
open Go.ChangeShapes Go.WideShapes Go.ChangeAt Go.RowKit Go.Sort
set_option linter.unusedVariables false

/-! ### ranks -/
def ndI (nodes : List NodeD) (j : Int) : NodeD := nodes.getD j.toNat ⟨0, 0, 0, []⟩
/-- each node has a higher rank than those it waits for -/
def RankR (nodes : List NodeD) (ρ : Int → Nat) : Prop := ∀ j : Int, 0 ≤ j → j < (nodes.length : Int) → ∀ s ∈ waits (ndI nodes j), ρ s < ρ j
def OutRankR (nodes : List NodeD) (out : List Int) : Prop := ∃ ρ : Int → Nat, (∀ o ∈ out, ρ o < out.length) ∧ ∀ o ∈ out, ∀ s ∈ waits (ndI nodes o), s ∈ out ∧ ρ s < ρ o
theorem outRankR_snoc {nodes : List NodeD} {out : List Int} {i : Nat} (h : OutRankR nodes out) (hr : rdy nodes out i = true) : OutRankR nodes (out ++ [(i : Int)]) := by
  obtain ⟨ρ, h1, h2⟩ := h
  have hf := rdy_free hr
  have hni : (i : Int) ∉ out := by simpa using hf
  unfold rdy at hr
  simp only [Bool.and_eq_true, List.all_eq_true] at hr
  have hw : ∀ s ∈ waits (ndI nodes (i : Int)), s ∈ out := fun s hs => by simpa using hr.2 s hs
  refine ⟨fun o => if o = (i : Int) then out.length else ρ o, fun o ho => ?_, fun o ho s hs => ?_⟩
  · rw [List.length_append, List.length_singleton]
    dsimp only
    rcases List.mem_append.1 ho with ho | ho
    · split
      · omega
      · have := h1 o ho; omega
    · rw [if_pos (List.mem_singleton.1 ho)]; omega
  · dsimp only
    rcases List.mem_append.1 ho with ho | ho
    · obtain ⟨a, b⟩ := h2 o ho s hs
      have e1 : s ≠ (i : Int) := fun e => hni (e ▸ a)
      have e2 : o ≠ (i : Int) := fun e => hni (e ▸ ho)
      refine ⟨List.mem_append.2 (.inl a), ?_⟩
      rw [if_neg e1, if_neg e2]; exact b
    · obtain rfl := List.mem_singleton.1 ho
      have a := hw s hs
      have e1 : s ≠ (i : Int) := fun e => hni (e ▸ a)
      refine ⟨List.mem_append.2 (.inl a), ?_⟩
      rw [if_neg e1, if_pos rfl]; exact h1 s a
theorem ordR_rank {nodes : List NodeD} : ∀ (f : Nat) (out : List Int), OutRankR nodes out → OutRankR nodes (ord nodes f out)
  | 0, _, h => h
  | f + 1, out, h => by
    rcases e : nxt nodes out 0 nodes.length with _ | i
    · rw [ord_none e]; exact h
    · rw [ord_some e]; exact ordR_rank f _ (outRankR_snoc h (nxt_some e).2.2)
theorem ordR_free {nodes : List NodeD} : ∀ (f : Nat) (out : List Int), free (ord nodes f out) nodes.length + (ord nodes f out).length = free out nodes.length + out.length
  | 0, out => rfl
  | f + 1, out => by
    rcases e : nxt nodes out 0 nodes.length with _ | i
    · rw [ord_none e]
    · rw [ord_some e, ordR_free f]
      have h := nxt_some e
      have := free_add out i (rdy_free h.2.2) nodes.length (by omega)
      rw [List.length_append, List.length_singleton]; omega
theorem okR_len {x : PatchD} (h : okB x = true) : formedB x = true ∧ (orderL x.nodes).length = x.nodes.length ∧ x.nodes.length ≤ 24 := by
  unfold okB at h
  rw [Bool.and_eq_true, decide_eq_true_iff] at h
  exact ⟨h.1, h.2, (formed_iff.1 h.1).2.2.1⟩
theorem okR_all {x : PatchD} (h : okB x = true) {i : Nat} (hi : i < x.nodes.length) : (i : Int) ∈ orderL x.nodes := by
  have hl := (okR_len h).2.1
  have hf := ordR_free (nodes := x.nodes) x.nodes.length []
  rw [free_nil] at hf
  have hO : orderL x.nodes = ord x.nodes x.nodes.length [] := rfl
  rw [← hO] at hf
  have h0 : free (orderL x.nodes) x.nodes.length = 0 := by simp at hf; omega
  have hc : (orderL x.nodes).contains (i : Int) = true := by
    cases hc : (orderL x.nodes).contains (i : Int)
    · have := free_pos hc hi; omega
    · rfl
  simpa using hc
theorem okR_ranked {x : PatchD} (h : okB x = true) : ∃ ρ, RankR x.nodes ρ ∧ ∀ j, ρ j ≤ 24 := by
  obtain ⟨ρ, h1, h2⟩ := ordR_rank (nodes := x.nodes) x.nodes.length [] ⟨fun _ => 0, by simp, by simp⟩
  have hl := okR_len h
  refine ⟨fun j => if (orderL x.nodes).contains j then ρ j else 0, fun j h0 hj s hs => ?_, fun j => ?_⟩
  · obtain ⟨k, rfl⟩ := Int.eq_ofNat_of_zero_le h0
    have hm := okR_all h (i := k) (by omega)
    obtain ⟨a, b⟩ := h2 _ hm s hs
    have a' : s ∈ orderL x.nodes := a
    dsimp only
    rw [if_pos (by simpa using a'), if_pos (by simpa using hm)]; exact b
  · dsimp only
    split
    · rename_i hc
      have e1 := h1 j (by simpa [orderL] using hc)
      have e2 : (ord x.nodes x.nodes.length []).length = x.nodes.length := hl.2.1
      have e3 := hl.2.2
      omega
    · omega
theorem nxtR_none {nodes : List NodeD} {out : List Int} : ∀ {m k : Nat}, nxt nodes out k m = none → ∀ i, k ≤ i → i < k + m → rdy nodes out i = false
  | 0, _, _, i, h1, h2 => by omega
  | m + 1, k, h, i, h1, h2 => by
    unfold nxt at h
    split at h
    · cases h
    · rename_i hk
      rcases Nat.lt_or_ge k i with hlt | hge
      · exact nxtR_none h i hlt (by omega)
      · obtain rfl : k = i := by omega
        simpa using hk
theorem ordR_stop {nodes : List NodeD} : ∀ (f : Nat) (out : List Int), nxt nodes (ord nodes f out) 0 nodes.length = none ∨ (ord nodes f out).length = out.length + f
  | 0, out => .inr rfl
  | f + 1, out => by
    rcases e : nxt nodes out 0 nodes.length with _ | i
    · rw [ord_none e]; exact .inl e
    · rw [ord_some e]
      rcases ordR_stop f (out ++ [(i : Int)]) with h | h
      · exact .inl h
      · right
        rw [h, List.length_append, List.length_singleton]; omega
theorem freeR_zero {out : List Int} : ∀ n : Nat, (∀ i : Nat, i < n → out.contains (i : Int) = true) → free out n = 0
  | 0, _ => rfl
  | n + 1, h => by
    rw [free, freeR_zero n fun i hi => h i (by omega), h n (by omega)]; rfl
theorem ndI_at {nodes : List NodeD} {k : Nat} (h : k < nodes.length) : ndI nodes (k : Int) = nodes[k] := by
  unfold ndI
  rw [Int.toNat_natCast, List.getD_eq_getElem?_getD, List.getElem?_eq_getElem h]; rfl
theorem formedR_src {x : PatchD} (hf : formedB x = true) {k : Nat} (h : k < x.nodes.length) : ∀ j ∈ (ndI x.nodes k).src, 0 ≤ j ∧ j < (x.nodes.length : Int) := fun j hj => by
  rw [ndI_at h] at hj
  exact ndB_src ((formed_iff.1 hf).2.2.2.2.1 _ (List.getElem_mem h)) j hj
theorem rankedR_okB {x : PatchD} {ρ : Int → Nat} (hf : formedB x = true) (hr : RankR x.nodes ρ) : okB x = true := by
  have key : (orderL x.nodes).length = x.nodes.length := by
    have hfr := ordR_free (nodes := x.nodes) x.nodes.length []
    rw [free_nil] at hfr
    rcases ordR_stop (nodes := x.nodes) x.nodes.length [] with h | h
    · have hall : ∀ m i : Nat, i < x.nodes.length → ρ (i : Int) = m → (ord x.nodes x.nodes.length []).contains (i : Int) = true := by
        intro m
        induction m using Nat.strongRecOn with
        | _ m ih =>
          intro i hi hm
          cases hc : (ord x.nodes x.nodes.length []).contains (i : Int)
          · exfalso
            have hrd := nxtR_none h i (Nat.zero_le _) (by omega)
            unfold rdy at hrd
            rw [hc] at hrd
            have hw : (waits (x.nodes.getD i ⟨0, 0, 0, []⟩)).all (fun f => (ord x.nodes x.nodes.length []).contains f) = true := List.all_eq_true.2 fun s hs => by
              have hs0 : s ∈ waits (ndI x.nodes (i : Int)) := hs
              have rng := formedR_src hf hi s (waits_src hs0)
              obtain ⟨k, rfl⟩ := Int.eq_ofNat_of_zero_le rng.1
              have hlt := hr (i : Int) (by omega) (by omega) _ hs0
              rw [hm] at hlt
              exact ih _ hlt k (by omega) rfl
            rw [hw] at hrd
            cases hrd
          · rfl
      have h0 := freeR_zero (out := ord x.nodes x.nodes.length []) x.nodes.length fun i hi => hall _ i hi rfl
      have hO : orderL x.nodes = ord x.nodes x.nodes.length [] := rfl
      rw [hO]
      simp only [List.length_nil] at hfr
      omega
    · simpa [orderL] using h
  unfold okB
  rw [hf, Bool.true_and]; exact decide_eq_true key

/-! ### a frame's values solve the nodes' equations -/
structure Sol (x : PatchD) (st : List (List Int)) (fr vs : List Int) : Prop where
  len : vs.length = x.nodes.length
  eq : ∀ k : Nat, k < x.nodes.length → vs.getD k 0 = outP (ndI x.nodes k) x.tables (inF (ndI x.nodes k) fr vs) (st.getD k [])
theorem outP_wait {n : NodeD} {tb : List (List Int)} {fr vs vs' ss : List Int} (h : ∀ s ∈ waits n, vs.getD s.toNat 0 = vs'.getD s.toNat 0) : outP n tb (inF n fr vs) ss = outP n tb (inF n fr vs') ss := by
  by_cases hk : n.kind = 6
  · unfold outP; rw [hk]; rfl
  · have e : inF n fr vs = inF n fr vs' := by
      unfold inF
      split
      · rfl
      · unfold mapL
        refine List.map_congr_left fun s hs => h s ?_
        unfold waits
        rw [if_neg hk]; exact hs
    rw [e]
theorem getD_set_ne' {vs : List Int} {i j : Nat} (y : Int) (h : j ≠ i) : (vs.set i y).getD j 0 = vs.getD j 0 := by
  rw [List.getD_eq_getElem?_getD, List.getD_eq_getElem?_getD, List.getElem?_set_ne (Ne.symm h)]
theorem getD_set_eq' {vs : List Int} {i : Nat} (y : Int) (h : i < vs.length) : (vs.set i y).getD i 0 = y := by
  rw [List.getD_eq_getElem?_getD, List.getElem?_set_self h]; rfl
def SolP (x : PatchD) (st : List (List Int)) (fr : List Int) (out : List Int) : Prop :=
  (∀ o ∈ out, 0 ≤ o ∧ o < (x.nodes.length : Int)) ∧ (∀ o ∈ out, ∀ s ∈ waits (ndI x.nodes o), s ∈ out) ∧
    ∀ o ∈ out, (valsF x st fr out).getD o.toNat 0 = outP (ndI x.nodes o) x.tables (inF (ndI x.nodes o) fr (valsF x st fr out)) (st.getD o.toNat [])
theorem solP_snoc {x : PatchD} {st : List (List Int)} {fr out : List Int} {i : Nat} (h : SolP x st fr out) (hi : i < x.nodes.length) (hr : rdy x.nodes out i = true) : SolP x st fr (out ++ [(i : Int)]) := by
  obtain ⟨h1, h2, h3⟩ := h
  have hni : (i : Int) ∉ out := by simpa using rdy_free hr
  unfold rdy at hr
  simp only [Bool.and_eq_true, List.all_eq_true] at hr
  have hw : ∀ s ∈ waits (ndI x.nodes (i : Int)), s ∈ out := fun s hs => by simpa using hr.2 s hs
  have hE : valsF x st fr (out ++ [(i : Int)]) = (valsF x st fr out).set i (outP (ndI x.nodes i) x.tables (inF (ndI x.nodes i) fr (valsF x st fr out)) (st.getD i [])) := by
    rw [valsF_snoc]; unfold valS; rw [Int.toNat_natCast]; unfold ndI; rw [Int.toNat_natCast]
  have hl := valsF_length x st fr out
  rw [SolP, hE]
  generalize valsF x st fr out = vs at h3 hl
  generalize hy : outP (ndI x.nodes i) x.tables (inF (ndI x.nodes i) fr vs) (st.getD i []) = y
  have hag : ∀ s ∈ out, (vs.set i y).getD s.toNat 0 = vs.getD s.toNat 0 := fun s hs => getD_set_ne' y fun e => hni (by
    have := (h1 s hs).1
    have e2 : s = (i : Int) := by omega
    rw [← e2]; exact hs)
  refine ⟨fun o ho => ?_, fun o ho s hs => ?_, fun o ho => ?_⟩
  · rcases List.mem_append.1 ho with ho | ho
    · exact h1 o ho
    · rw [List.mem_singleton.1 ho]; omega
  · refine List.mem_append.2 (.inl ?_)
    rcases List.mem_append.1 ho with ho | ho
    · exact h2 o ho s hs
    · rw [List.mem_singleton.1 ho] at hs; exact hw s hs
  · rcases List.mem_append.1 ho with ho | ho
    · rw [hag o ho, h3 o ho]
      exact outP_wait fun s hs => (hag s (h2 o ho s hs)).symm
    · obtain rfl := List.mem_singleton.1 ho
      rw [Int.toNat_natCast, getD_set_eq' y (by omega)]
      exact hy.symm.trans (outP_wait fun s hs => (hag s (hw s hs)).symm)
theorem solP_ord {x : PatchD} {st : List (List Int)} {fr : List Int} : ∀ (f : Nat) (out : List Int), SolP x st fr out → SolP x st fr (ord x.nodes f out)
  | 0, _, h => h
  | f + 1, out, h => by
    rcases e : nxt x.nodes out 0 x.nodes.length with _ | i
    · rw [ord_none e]; exact h
    · rw [ord_some e]
      have hn := nxt_some e
      exact solP_ord f _ (solP_snoc h (by omega) hn.2.2)
/-- the values of all nodes in a frame -/
def vsN (x : PatchD) (st : List (List Int)) (fr : List Int) : List Int := valsF x st fr (orderL x.nodes)
theorem vsN_sol {x : PatchD} (h : okB x = true) (st : List (List Int)) (fr : List Int) : Sol x st fr (vsN x st fr) := by
  have hp := solP_ord (x := x) (st := st) (fr := fr) x.nodes.length [] ⟨by simp, by simp, by simp⟩
  refine ⟨valsF_length _ _ _ _, fun k hk => ?_⟩
  have := hp.2.2 (k : Int) (okR_all h hk)
  rw [Int.toNat_natCast] at this
  exact this
theorem sol_one {x : PatchD} (h : okB x = true) {st : List (List Int)} {fr vs vs' : List Int} (h1 : Sol x st fr vs) (h2 : Sol x st fr vs') : vs = vs' := by
  obtain ⟨ρ, hr, -⟩ := okR_ranked h
  have key : ∀ m k : Nat, k < x.nodes.length → ρ (k : Int) = m → vs.getD k 0 = vs'.getD k 0 := by
    intro m
    induction m using Nat.strongRecOn with
    | _ m ih =>
      intro k hk hm
      rw [h1.eq k hk, h2.eq k hk]
      refine outP_wait fun s hs => ?_
      have rng := formedR_src (okR_len h).1 hk s (waits_src hs)
      have hlt := hr (k : Int) (by omega) (by omega) s hs
      obtain ⟨j, rfl⟩ := Int.eq_ofNat_of_zero_le rng.1
      rw [Int.toNat_natCast]
      exact ih _ (by omega) j (by omega) rfl
  apply List.ext_getElem
  · rw [h1.len, h2.len]
  · intro k hk1 hk2
    have := key _ k (by rw [← h1.len]; exact hk1) rfl
    rwa [List.getD_eq_getElem?_getD, List.getD_eq_getElem?_getD, List.getElem?_eq_getElem hk1, List.getElem?_eq_getElem hk2] at this

/-! ### the renderer -/
def stN (x : PatchD) (st : List (List Int)) (fr vs : List Int) : List (List Int) := (List.range x.nodes.length).map fun k : Nat => nextP (ndI x.nodes (k : Int)) (inF (ndI x.nodes (k : Int)) fr vs) (st.getD k []) (vs.getD k 0)
def frN (ins : List (List Int)) (i : Nat) : List Int := ins.map fun a => a.getD i 0
/-- the states ahead of frame i -/
def stI (x : PatchD) (ins : List (List Int)) : Nat → List (List Int)
  | 0 => x.nodes.map startL
  | i + 1 => stN x (stI x ins i) (frN ins i) (vsN x (stI x ins i) (frN ins i))
/-- the values in frame i -/
def vsI (x : PatchD) (ins : List (List Int)) (i : Nat) : List Int := vsN x (stI x ins i) (frN ins i)
def renL (x : PatchD) (ins : List (List Int)) (n : Nat) : List (List Int) := x.outputs.map fun o => (List.range n).map fun i => (vsI x ins i).getD o.toNat 0
theorem getD_map_range {α : Type} (f : Nat → α) (d : α) {n k : Nat} (h : k < n) : ((List.range n).map f).getD k d = f k := by
  rw [List.getD_eq_getElem?_getD, List.getElem?_map, List.getElem?_range h]; rfl
theorem stN_get {x : PatchD} {st : List (List Int)} {fr vs : List Int} {k : Nat} (h : k < x.nodes.length) : (stN x st fr vs).getD k [] = nextP (ndI x.nodes (k : Int)) (inF (ndI x.nodes (k : Int)) fr vs) (st.getD k []) (vs.getD k 0) := by
  unfold stN
  exact getD_map_range _ _ h
theorem stI_zero {x : PatchD} {ins : List (List Int)} {k : Nat} (h : k < x.nodes.length) : (stI x ins 0).getD k [] = startL (ndI x.nodes k) := by
  rw [stI, ndI_at h, List.getD_eq_getElem?_getD, List.getElem?_map, List.getElem?_eq_getElem h]; rfl
theorem vsI_len (x : PatchD) (ins : List (List Int)) (i : Nat) : (vsI x ins i).length = x.nodes.length := valsF_length _ _ _ _

/-! ### a patch in another one -/
/-- the nodes of p' lie at the places φ of p; those of lk are fed from there -/
structure Emb (p' p : PatchD) (φ : Nat → Nat) (lk : Nat → Prop) : Prop where
  lt : ∀ k, k < p'.nodes.length → φ k < p.nodes.length
  inp : ∀ k, k < p'.nodes.length → lk k → (ndI p'.nodes k).kind = 1
  out : ∀ k, k < p'.nodes.length → ¬ lk k → ∀ xs ss, outP (ndI p'.nodes k) p'.tables xs ss = outP (ndI p.nodes (φ k : Nat)) p.tables xs ss
  nxt : ∀ k, k < p'.nodes.length → ¬ lk k → ∀ xs ss y, nextP (ndI p'.nodes k) xs ss y = nextP (ndI p.nodes (φ k : Nat)) xs ss y
  start : ∀ k, k < p'.nodes.length → ¬ lk k → startL (ndI p'.nodes k) = startL (ndI p.nodes (φ k : Nat))
  kind : ∀ k, k < p'.nodes.length → ¬ lk k → (ndI p.nodes (φ k : Nat)).kind = (ndI p'.nodes k).kind
  a : ∀ k, k < p'.nodes.length → ¬ lk k → (ndI p'.nodes k).kind = 1 → (ndI p.nodes (φ k : Nat)).a = (ndI p'.nodes k).a
  src : ∀ k, k < p'.nodes.length → (ndI p'.nodes k).kind ≠ 1 → (ndI p.nodes (φ k : Nat)).src = (ndI p'.nodes k).src.map (fun s => ((φ s.toNat : Nat) : Int)) ∧ ∀ s ∈ (ndI p'.nodes k).src, 0 ≤ s ∧ s < (p'.nodes.length : Int)
/-- the values at the places -/
def atL (φ : Nat → Nat) (n : Nat) (vs : List Int) : List Int := (List.range n).map fun k => vs.getD (φ k) 0
theorem Emb.inF {p' p : PatchD} {φ : Nat → Nat} {lk : Nat → Prop} (E : Emb p' p φ lk) {fr' fr vs : List Int} (hin : ∀ a : Nat, (∃ k, k < p'.nodes.length ∧ ¬ lk k ∧ (ndI p'.nodes k).kind = 1 ∧ (ndI p'.nodes k).a.toNat = a) → fr'.getD a 0 = fr.getD a 0) {k : Nat} (hk : k < p'.nodes.length) (hl : ¬ lk k) :
    inF (ndI p.nodes (φ k : Nat)) fr vs = Go.Proofs.Ytdjoaaccnadccaa.inF (ndI p'.nodes k) fr' (atL φ p'.nodes.length vs) := by
  unfold Go.Proofs.Ytdjoaaccnadccaa.inF
  rw [E.kind k hk hl]
  by_cases h1 : (ndI p'.nodes k).kind = 1
  · rw [if_pos h1, if_pos h1, E.a k hk hl h1, hin _ ⟨k, hk, hl, h1, rfl⟩]
  · rw [if_neg h1, if_neg h1]
    obtain ⟨e1, e2⟩ := E.src k hk h1
    rw [e1]
    unfold mapL
    rw [List.map_map]
    refine List.map_congr_left fun s hs => ?_
    have := e2 s hs
    show vs.getD ((φ s.toNat : Nat) : Int).toNat 0 = _
    rw [Int.toNat_natCast]
    unfold atL
    rw [getD_map_range _ _ (by omega)]
theorem Emb.run {p' p : PatchD} {φ : Nat → Nat} {lk : Nat → Prop} (E : Emb p' p φ lk) (ok' : okB p' = true) (ok : okB p = true) {ins' ins : List (List Int)} {n : Nat}
    (hin : ∀ i, i < n → ∀ a : Nat, (∃ k, k < p'.nodes.length ∧ ¬ lk k ∧ (ndI p'.nodes k).kind = 1 ∧ (ndI p'.nodes k).a.toNat = a) → (frN ins' i).getD a 0 = (frN ins i).getD a 0)
    (hlk : ∀ i, i < n → ∀ k, k < p'.nodes.length → lk k → (frN ins' i).getD (ndI p'.nodes k).a.toNat 0 = (vsI p ins i).getD (φ k) 0) :
    ∀ i, i < n → (∀ k, k < p'.nodes.length → ¬ lk k → (stI p' ins' i).getD k [] = (stI p ins i).getD (φ k) []) ∧ vsI p' ins' i = atL φ p'.nodes.length (vsI p ins i) := by
  have frame : ∀ i, i < n → (∀ k, k < p'.nodes.length → ¬ lk k → (stI p' ins' i).getD k [] = (stI p ins i).getD (φ k) []) → vsI p' ins' i = atL φ p'.nodes.length (vsI p ins i) := fun i hi hst => by
    refine sol_one ok' (vsN_sol ok' _ _) ⟨by simp [atL], fun k hk => ?_⟩
    have hv := vsN_sol ok (stI p ins i) (frN ins i)
    unfold atL
    rw [getD_map_range _ _ hk]
    by_cases hl : lk k
    · rw [← hlk i hi k hk hl]
      have h1 := E.inp k hk hl
      unfold outP Go.Proofs.Ytdjoaaccnadccaa.inF
      rw [if_pos h1, h1]
      rfl
    · have h1 := hv.eq (φ k) (E.lt k hk)
      show (vsN p (stI p ins i) (frN ins i)).getD (φ k) 0 = _
      rw [h1, E.out k hk hl, hst k hk hl, E.inF (hin i hi) hk hl]
      rfl
  intro i
  induction i with
  | zero =>
    intro hi
    have h0 : ∀ k, k < p'.nodes.length → ¬ lk k → (stI p' ins' 0).getD k [] = (stI p ins 0).getD (φ k) [] := fun k hk hl => by
      rw [stI_zero hk, stI_zero (E.lt k hk)]
      exact E.start k hk hl
    exact ⟨h0, frame 0 hi h0⟩
  | succ i ih =>
    intro hi
    obtain ⟨hs, hv⟩ := ih (by omega)
    have h0 : ∀ k, k < p'.nodes.length → ¬ lk k → (stI p' ins' (i + 1)).getD k [] = (stI p ins (i + 1)).getD (φ k) [] := fun k hk hl => by
      show (stN p' (stI p' ins' i) (frN ins' i) (vsI p' ins' i)).getD k [] = (stN p (stI p ins i) (frN ins i) (vsI p ins i)).getD (φ k) []
      rw [stN_get hk, stN_get (E.lt k hk), E.nxt k hk hl, hs k hk hl, hv, E.inF (hin i (by omega)) hk hl]
      unfold atL
      rw [getD_map_range _ _ hk]
    exact ⟨h0, frame (i + 1) hi h0⟩
end Go.Proofs.Ytdjoaaccnadccaa

namespace Go.Proofs.Ytdjoaaccnadccaa
open Go.ChangeShapes Go.WideShapes Go.ChangeAt Go.RowKit Go.Sort
set_option linter.unusedVariables false

theorem noiseP_smp (s : Int) : isSmp (noiseP s) = true := by unfold noiseP; split <;> exact isSmp_smp _
theorem start_smp {n : NodeD} {t : Int} (h : nodeB n t = true) : (startL n).all isSmp = true := by
  rw [nodeB_split] at h
  simp only [Bool.and_eq_true] at h
  obtain ⟨hk, ha, -⟩ := h
  obtain ⟨k, A, B, src⟩ := n
  have z : ∀ m : Nat, (List.replicate m (0 : Int)).all isSmp = true := zeros_smp
  rcases kinds_of hk with rfl | rfl | rfl | rfl | rfl | rfl | rfl | rfl | rfl | rfl | rfl | rfl | rfl | rfl | rfl | rfl | rfl
  all_goals first | rfl | exact z _ | skip
  · have ha' : isSmp A = true := ha
    show ([A] : List Int).all isSmp = true
    simp [ha']
  · have ha' : isSmp A = true := ha
    show ([A] : List Int).all isSmp = true
    simp [ha']
theorem next_ok {n : NodeD} {t : Int} {xs ss : List Int} {y : Int} (h : nodeB n t = true) (hl : ss.length = (startL n).length) (hs : ss.all isSmp = true) (hx : xs.all isSmp = true) (hy : isSmp y = true) :
    (nextP n xs ss y).length = (startL n).length ∧ (nextP n xs ss y).all isSmp = true := by
  have hp := startL_pos h
  rw [nodeB_split] at h
  simp only [Bool.and_eq_true] at h
  obtain ⟨hk, -⟩ := h
  have x0 := smps_getD hx 0
  have d : ∀ z, isSmp z = true → (ss.drop 1 ++ [z]).all isSmp = true := fun z hz => by
    rw [List.all_eq_true] at *
    intro u hu
    rcases List.mem_append.1 hu with h | h
    · exact hs u (List.mem_of_mem_drop h)
    · rw [List.mem_singleton.1 h]; exact hz
  have o : ∀ z, isSmp z = true → ([z] : List Int).all isSmp = true := fun z hz => by simpa using hz
  obtain ⟨k, A, B, src⟩ := n
  simp only at *
  rcases kinds_of hk with rfl | rfl | rfl | rfl | rfl | rfl | rfl | rfl | rfl | rfl | rfl | rfl | rfl | rfl | rfl | rfl | rfl
  all_goals first
    | exact ⟨rfl, rfl⟩
    | exact ⟨rfl, o _ hy⟩
    | exact ⟨rfl, o _ x0⟩
    | exact ⟨rfl, o _ (isSmp_smp _)⟩
    | exact ⟨rfl, o _ (noiseP_smp _)⟩
    | (have h1 := hp (by omega)
       refine ⟨?_, ?_⟩
       · show (ss.drop 1 ++ [_]).length = _
         rw [List.length_append, List.length_drop, List.length_singleton]
         omega
       · first | exact d _ hy | exact d _ x0)
/-- what the inputs of a rendering are -/
structure InsOk (x : PatchD) (ins : List (List Int)) : Prop where
  n : (ins.length : Int) = x.inputs
  s : ∀ a ∈ ins, a.all isSmp = true
theorem frN_smp {ins : List (List Int)} (h : ∀ a ∈ ins, a.all isSmp = true) (i : Nat) : (frN ins i).all isSmp = true := by
  rw [List.all_eq_true]
  intro y hy
  unfold frN at hy
  obtain ⟨a, ha, rfl⟩ := List.mem_map.1 hy
  exact smps_getD (h a ha) i
theorem frN_length (ins : List (List Int)) (i : Nat) : (frN ins i).length = ins.length := by simp [frN]
theorem vsN_smp {x : PatchD} {st : List (List Int)} {fr : List Int} (h : FrOk x st fr) : (vsN x st fr).all isSmp = true := valsF_smps h orderL_mem
theorem inF_smp {n : NodeD} {fr vs : List Int} (hf : fr.all isSmp = true) (hv : vs.all isSmp = true) : (inF n fr vs).all isSmp = true := by
  unfold inF
  split
  · rw [List.all_cons, smps_getD hf]; rfl
  · exact smps_map hv
theorem stN_length (x : PatchD) (st : List (List Int)) (fr vs : List Int) : (stN x st fr vs).length = x.nodes.length := by simp [stN]
theorem FrOk.step {x : PatchD} {st : List (List Int)} {fr fr' : List Int} (h : FrOk x st fr) (hl : (fr'.length : Int) = x.inputs) (hs : fr'.all isSmp = true) : FrOk x (stN x st fr (vsN x st fr)) fr' := by
  refine ⟨h.f, stN_length _ _ _ _, fun k hk => ?_, hl, hs⟩
  rw [stN_get hk, ndI_at hk]
  have h1 := h.s k hk
  exact next_ok (h.nd hk).1 h1.1 h1.2 (inF_smp h.i (vsN_smp h)) (smps_getD (vsN_smp h) k)
theorem FrOk.run {x : PatchD} {ins : List (List Int)} (hf : formedB x = true) (hi : InsOk x ins) : ∀ i, FrOk x (stI x ins i) (frN ins i)
  | 0 => by
    refine ⟨hf, by simp [stI], fun k hk => ?_, by rw [frN_length]; exact hi.n, frN_smp hi.s 0⟩
    rw [stI_zero hk, ndI_at hk]
    have h1 := (formed_iff.1 hf).2.2.2.2.1 _ (List.getElem_mem hk)
    unfold ndB at h1
    simp only [Bool.and_eq_true] at h1
    exact ⟨rfl, start_smp h1.1.1⟩
  | i + 1 => (FrOk.run hf hi i).step (by rw [frN_length]; exact hi.n) (frN_smp hi.s _)
theorem stI_length (x : PatchD) (ins : List (List Int)) : ∀ i, (stI x ins i).length = x.nodes.length
  | 0 => by simp [stI]
  | i + 1 => by rw [stI, stN_length]
theorem vsI_smp {x : PatchD} {ins : List (List Int)} (hf : formedB x = true) (hi : InsOk x ins) (i : Nat) : (vsI x ins i).all isSmp = true := vsN_smp (FrOk.run hf hi i)
theorem renL_length (x : PatchD) (ins : List (List Int)) (n : Nat) : (renL x ins n).length = x.outputs.length := by simp [renL]
theorem renL_rows {x : PatchD} {ins : List (List Int)} {n : Nat} (hf : formedB x = true) (hi : InsOk x ins) : ∀ a ∈ renL x ins n, a.length = n ∧ a.all isSmp = true := fun a ha => by
  unfold renL at ha
  obtain ⟨o, ho, rfl⟩ := List.mem_map.1 ha
  refine ⟨by simp, ?_⟩
  rw [List.all_map, List.all_eq_true]
  exact fun i _ => smps_getD (vsI_smp hf hi i) _
/-! ### what a rendering has of its first frames -/
def outK0 (x : PatchD) (ins : List (List Int)) (o : Int) (n : Nat) : List Int := (List.range n).map fun i => (vsI x ins i).getD o.toNat 0
theorem outK0_succ (x : PatchD) (ins : List (List Int)) (o : Int) (n : Nat) : outK0 x ins o (n + 1) = outK0 x ins o n ++ [(vsI x ins n).getD o.toNat 0] := by
  unfold outK0
  rw [List.range_succ, List.map_append]; rfl
theorem renL_eq (x : PatchD) (ins : List (List Int)) (n : Nat) : renL x ins n = x.outputs.map fun o => outK0 x ins o n := rfl
end Go.Proofs.Ytdjoaaccnadccaa

namespace Go.Proofs.Ytdjoaaccnadccaa
open Go.ChangeShapes Go.WideShapes Go.ChangeAt Go.RowKit Go.Sort
set_option linter.unusedVariables false

end Go.Proofs.Ytdjoaaccnadccaa

namespace Go.Proofs.Ytdjoaaccnadccaa
open Go.ChangeShapes Go.WideShapes Go.ChangeAt Go.RowKit Go.Sort
set_option linter.unusedVariables false

theorem l08In_any {b o : Nat} {x : NodeD} {fr vs : List Int} {pf pv : Option Addr} {cf cv : Nat} (w : World) (h : PNode w b o x) (hf : RdI w pf fr) (hv : RdI w pv vs) (ha : x.kind = 1 → 0 ≤ x.a ∧ x.a < (fr.length : Int)) (hs : ∀ f ∈ x.src, 0 ≤ f ∧ f < (vs.length : Int)) (hl : x.src.length ≤ 1048576) :
    Calls Try.prog 72 #[.pointer (some ⟨b, o, none⟩), .slice pf fr.length cf, .slice pv vs.length cv] w fun e w' => ∃ v, e = .returned v ∧ OwnI w.heap.size w' v (inF x fr vs) ∧ Below w.heap.size w w' := by
  obtain ⟨c0, c1, -, q, d, c3, hr⟩ := h
  by_cases hk : x.kind = 1
  · obtain ⟨a0, a1⟩ := ha hk
    obtain ⟨j, hj⟩ := Int.eq_ofNat_of_zero_le a0
    have hjl : j < fr.length := by omega
    have HI : Hid (inF x fr vs = [fr[j]]) := by unfold Hid inF; rw [if_pos hk, hj, Int.toNat_natCast, getD_at2 hjl]
    obtain ⟨bf, of_, rfl, hbf, hcf⟩ := hf.pos hjl
    have hcj := hcf j hjl
    rw [hj] at c1
    generalize fr[j] = y at hcj HI
    have hq : (x.kind == 1) = true := by rw [beq_iff_eq]; exact hk
    have hlit := OwnI.lit (B := w.heap.size) w [y] (Nat.le_refl _) (by simp [maxLen])
    have hB := (Below.refl w.heap.size w).alloc (Nat.le_refl _) (.cells #[.int .i64 y] 2)
    have hfl := hf.len
    unfold maxLen at hfl
    clear hcf hf hk hj a0 a1 ha
    go_enter Try.func72, Try.ntmps72
    go_wp2_with fail
    go_ret
    exact ⟨_, rfl, by rw [HI.out]; exact hlit, hB⟩
  · have HI : Hid (inF x fr vs = mapL vs x.src) := by unfold Hid inF; rw [if_neg hk]
    have hq : (x.kind == 1) = false := by rw [beq_eq_false_iff_ne]; exact hk
    have MP := Lib.hid (l07Map_any (c := d) (d := cv) w hr hv hl hs)
    clear hk ha hs hf hr
    go_enter Try.func72, Try.ntmps72
    go_wp2_with fail
    refine MP.out.mono ?_
    rintro e w1 ⟨v, rfl, hv1, hb1⟩
    obtain ⟨pp, cc, rfl, -⟩ := hv1.rd
    go_wp2_with fail
    go_ret
    exact ⟨_, rfl, by rw [HI.out]; exact hv1, hb1⟩
set_option maxHeartbeats 4000000 in
set_option maxRecDepth 100000 in
theorem l08Values_any {gp gs : Nat} {x : PatchD} {st : List (List Int)} {os fr : List Int} {po pf q : Option Addr} {co cf d : Nat} (w : World) (h : PPatch w gp x) (ho : RdI w po os) (hom : ∀ o ∈ os, 0 ≤ o ∧ o < (x.nodes.length : Int)) (hs : Box w gs [.slice q st.length d] 76) (hst : RdII w q st) (hf : RdI w pf fr) (ok : FrOk x st fr) :
    Calls Try.prog 60 #[.pointer (some ⟨gp, 0, none⟩), .slice po os.length co, .pointer (some ⟨gs, 0, none⟩), .slice pf fr.length cf] w fun e w' => ∃ v, e = .returned v ∧ OwnI w.heap.size w' v (valsF x st fr os) ∧ Below w.heap.size w w' := by
  obtain ⟨p1, c1, p2, c2, p3, c3, bx, r1, r2, -⟩ := h
  have hn24 : x.nodes.length ≤ 24 := (formed_iff.1 ok.f).2.2.1
  have hol := ho.len
  have hfl := hf.len
  unfold maxLen at hol hfl
  have hmk := fun W => run_make_row' (P := Try.prog) 26 2 (.int .i64 0) 8 Try.underlying26 infoI rfl .i64 .i64 x.nodes.length (by omega) (by omega) W
  have h0 := OwnI.made (B := w.heap.size) w x.nodes.length (Nat.le_refl _) (by unfold maxLen; omega)
  have hB0 := (Below.refl w.heap.size w).alloc (Nat.le_refl _) (.cells (madeCells #[.int .i64 0] x.nodes.length) 2)
  have HOK := Lib.hid ok
  have HOM := Lib.hid hom
  have z2 := bx.cell 2 rfl
  have lgp := bx.lt
  have lgs := hs.lt
  clear ok hom
  go_enter Try.func60, Try.ntmps60
  go_wp2_with fail
  go_loopw [10] (fun i wr => ∃ k : Nat, k ≤ os.length ∧ i = .int .i64 k ∧ OwnI w.heap.size wr (.slice (some ⟨w.heap.size, 0, none⟩) x.nodes.length x.nodes.length) (valsF x st fr (os.take k)) ∧ Below w.heap.size w wr) (fun i _ => os.length - (intOf i).toNat)
  case atStart => exact ⟨0, Nat.zero_le _, rfl, by simpa [valsF] using h0, hB0⟩
  case round =>
    obtain ⟨k, hk, rfl, hown, hbel⟩ := hrel
    clear h0 hB0 z2 hmk
    obtain ⟨wi, rfl⟩ : ∃ wi : World, wi = wr := ⟨_, rfl⟩
    by_cases hlt : k < os.length
    · obtain ⟨ob, oo, rfl, hobl, hoc⟩ := (ho.below hbel).pos hlt
      have hok := hoc k hlt
      have hmem := HOM.out _ (List.getElem_mem hlt)
      have HVT := Lib.hid (valsF_take (x := x) (st := st) (fr := fr) hlt)
      obtain ⟨m, hm⟩ : ∃ m : Nat, os[k] = m := ⟨os[k].toNat, by omega⟩
      rw [hm] at hok hmem HVT
      have hmn : m < x.nodes.length := by omega
      have hsm := valsF_smps HOK.out (os := os.take k) (fun o ho => HOM.out o (List.mem_of_mem_take ho))
      have hvl := valsF_length x st fr (os.take k)
      have hoo := (HOK.out.out hsm hmn).1
      have hnd := HOK.out.nd hmn
      have hsl : m < st.length := by rw [HOK.out.sl]; exact hmn
      have HVS : Hid (valsF x st fr (os.take (k + 1)) = (valsF x st fr (os.take k)).set m (outP x.nodes[m] x.tables (inF x.nodes[m] fr (valsF x st fr (os.take k))) (st.getD m []))) := by
        unfold Hid
        rw [HVT.out, valS, Int.toNat_natCast, List.getD_eq_getElem?_getD (l := x.nodes), List.getElem?_eq_getElem hmn]; rfl
      clear HVT
      generalize valsF x st fr (os.take k) = vs at hown hvl hoo HVS
      obtain ⟨b, o, rfl, hbl, hc⟩ := r2.pos hmn
      have hnode := hc m hmn
      obtain ⟨b2, o2, q2, d2, rfl, hb2, hrow, hrr⟩ := hst.at0 hsl
      have hnl : x.nodes[m].src.length ≤ 1048576 := by
        have h1 := hnd.1
        rw [nodeB_split] at h1
        simp only [Bool.and_eq_true, beq_iff_eq] at h1
        have := kAr_le3' h1.1
        have := h1.2.2.1
        omega
      generalize x.nodes[m] = nd at hnode hoo hnd HVS hnl
      generalize st.getD m [] = row at hrow hrr hoo HVS
      generalize hins : inF nd fr vs = ins at hoo HVS
      generalize hy : outP nd x.tables ins row = y at HVS
      obtain ⟨-, hrv⟩ := hown.rd_at2
      have IN : Hid (∀ W, Below wi.heap.size wi W → Calls Try.prog 72 #[.pointer (some ⟨b, o + m * 4, none⟩), .slice pf fr.length cf, .slice (some ⟨w.heap.size, 0, none⟩) x.nodes.length x.nodes.length] W fun e w' => ∃ v, e = .returned v ∧ OwnI W.heap.size w' v ins ∧ Below W.heap.size W w') := fun W hW => by
        have hwW := hbel.trans (hW.mono hbel.size)
        have := l08In_any (x := nd) (vs := vs) (cf := cf) (cv := x.nodes.length) W (hnode.below hwW) (hf.below hwW) (hrv.below hW) hnd.2.1 (by rw [hvl]; exact hnd.2.2) hnl
        rw [hins, hvl] at this
        exact this
      have OUT : Hid (∀ W ip ic, Below w.heap.size w W → RdI W ip ins → Calls Try.prog 71 #[.pointer (some ⟨b, o + m * 4, none⟩), .slice p1 x.tables.length c1, .slice ip ins.length ic, .slice q2 row.length d2] W fun e w' => e = .returned (.int .i64 y) ∧ Below W.heap.size W w') := fun W ip ic hW hi => by
        rw [← hy]
        exact l06Out_any (ct := c1) (cx := ic) (cs := d2) W (hnode.below hW) (r1.below hW) hi (hrr.below hW) hoo
      have CK : Hid (∀ W, Below w.heap.size w W → W.cell? ⟨gp, 1, none⟩ = some (.slice p1 x.tables.length c1) ∧ W.cell? ⟨gs, 0, none⟩ = some (.slice (some ⟨b2, o2, none⟩) st.length d) ∧ W.cell? ⟨b2, o2 + m, none⟩ = some (.slice q2 row.length d2)) := fun W hW => ⟨(bx.below hW).cell 1 rfl, (hs.below hW).cell 0 rfl, (hW.cell (p := ⟨b2, o2 + m, none⟩) hb2).trans hrow⟩
      have z2 := (bx.below hbel).cell 2 rfl
      have t1 := (CK.out wi hbel).1
      have t2 := (CK.out wi hbel).2.1
      have t3 := (CK.out wi hbel).2.2
      have hcur := belowDrew wi
      have hBW : Below w.heap.size w wi.drew := ⟨hbel.os, hbel.tape, hbel.output, hbel.size, hbel.block⟩
      have hBs := hbel.size
      have HVL := Lib.hid hvl
      clear hoc hc hins hy hrv hnode hnd hoo hrow hm hmem hsm hvl hnl
      go_wp2_with fail
      go_region_held3 (fun W => W.cell? ⟨gp, 1, none⟩ = some (.slice p1 x.tables.length c1) ∧ W.cell? ⟨gs, 0, none⟩ = some (.slice (some ⟨b2, o2, none⟩) st.length d) ∧ W.cell? ⟨b2, o2 + m, none⟩ = some (.slice q2 row.length d2)) (first | go_keep | exact CK.out _ (by (repeat (first | exact Below.refl _ _ | assumption | refine Below.setCell ?_ (by first | exact Nat.le_refl _ | omega | (simp; done) | (simp; omega)) _ | refine Below.alloc ?_ (by first | exact Nat.le_refl _ | omega | (simp; done) | (simp; omega)) _ | refine below_drewN ?_ _)))) (first | (go_at_call 72; refine (IN.out _ hcur).mono ?_; rintro e W2 ⟨v, rfl, hv, hb⟩; obtain ⟨ip, ic, rfl, hri⟩ := hv.rd; have hcur := hcur.trans (hb.mono hcur.size); have hBW := hBW.trans (hb.mono hBW.size)) | (go_at_call 71; refine (OUT.out _ ip ic hBW hri).mono ?_; rintro e W3 ⟨rfl, hb⟩; have hcur := hcur.trans (hb.mono hcur.size); have hBW := hBW.trans (hb.mono hBW.size); have hown3 := hown.below hcur; obtain ⟨-, -, hDl, hzm, hfz, hst3⟩ := hown3.storing (k := m) (by rw [HVL.out]; exact hmn); have hset := Lib.hid hst3; clear hst3))
      all_goals
        have hvs := hset.out y
        rw [← HVS.out] at hvs
        have hBf : Below w.heap.size w (W3.setCell ⟨w.heap.size, m, none⟩ (.int .i64 y)) := by (repeat (first | exact Below.refl _ _ | assumption | refine Below.setCell ?_ (by first | exact Nat.le_refl _ | omega | (simp; done) | (simp; omega)) _ | refine Below.alloc ?_ (by first | exact Nat.le_refl _ | omega | (simp; done) | (simp; omega)) _ | refine below_drewN ?_ _))
        go_wp2_with fail
        go_roundw
        case rel => exact ⟨k + 1, by omega, by go_num, hvs, hBf⟩
        case measure => simp [intOf] <;> omega
    · obtain rfl : k = os.length := by omega
      rw [List.take_length] at hown
      go_wp2_with fail
      go_ret
      exact ⟨_, rfl, hown, hbel⟩
/-! ### NodeValues -/
def frCode (x : PatchD) (s : StateD) (fr : List Int) : Int := if vsB x s then (if decide ((fr.length : Int) = x.inputs) && fr.all isSmp then 0 else 2) else 1
def nvRes (x : PatchD) (s : StateD) (fr : List Int) : List Int := if frCode x s fr = 0 then valsF x s.rows fr (orderL x.nodes) else []
theorem nvRes_small (x : PatchD) (s : StateD) (fr : List Int) : cntI (nvRes x s fr) ≤ 1048576 := by
  unfold cntI nvRes
  split
  · rename_i h
    rw [valsF_length]
    unfold frCode at h
    split at h
    · rename_i h1
      unfold vsB okB at h1
      simp only [Bool.and_eq_true] at h1
      have := (formed_iff.1 h1.1.1).2.2.1
      omega
    · omega
  · simp
theorem frCode_ok {x : PatchD} {s : StateD} {fr : List Int} (h : frCode x s fr = 0) : okB x = true ∧ FrOk x s.rows fr := by
  unfold frCode at h
  split at h
  · rename_i h1
    split at h
    · rename_i h2
      unfold vsB at h1
      simp only [Bool.and_eq_true, decide_eq_true_eq] at h1 h2
      have hk := h1.1
      unfold okB at hk
      rw [Bool.and_eq_true] at hk
      exact ⟨h1.1, FrOk.of hk.1 h1.2 h2.1 h2.2⟩
    · omega
  · omega
def RetN1 (w : World) (L : List Int) (code : Int) (e : Ending) (w' : World) : Prop := ∃ u M, e = .returned (.tuple #[u, .int .i64 code]) ∧ OwnLI w.heap.size w' u L M ∧ Dis M ∧ Below w.heap.size w w'
theorem RetN1.mk {w w' : World} {L : List Int} {code : Int} {u : Value} {B : Nat} (h : OwnI B w' u L) (hB : w.heap.size ≤ B) (hb : Below w.heap.size w w') : RetN1 w L code (.returned (.tuple #[u, .int .i64 code])) w' :=
  ⟨u, [u], rfl, ⟨h.mono hB, rfl⟩, List.pairwise_singleton _ _, hb⟩
theorem OwnI.none1 (B : Nat) (w : World) : OwnI B w (.slice none 0 0) [] := World.ownsRow_nil w B _ 1
end Go.Proofs.Ytdjoaaccnadccaa

namespace Go.Proofs.Ytdjoaaccnadccaa
open Go.ChangeShapes Go.WideShapes Go.ChangeAt Go.RowKit Go.Sort
set_option linter.unusedVariables false

theorem OwnII.nil0 (B : Nat) (w : World) : OwnII B w (.slice none 0 0) [] [] := ⟨World.ownsRow_nil w B _ 1, OwnIs.nil _ _, List.Pairwise.nil⟩
theorem OwnV.sl {B : Nat} {w : World} {E : TypeId} {v : Value} {L : List Value} (h : OwnV B w E v L) : ∃ q n c, v = .slice q n c := by
  rcases h.cases with ⟨rfl, rfl⟩ | ⟨_, _, rfl, _⟩
  · exact ⟨none, 0, 0, rfl⟩
  · exact ⟨_, _, _, rfl⟩
/-- the state at the beginning, as a result -/
def RetSt (B : Nat) (w : World) (xs : List (List Int)) (e : Ending) (w' : World) : Prop := ∃ u L, e = .returned u ∧ OwnState B w' u ⟨xs⟩ L ∧ Below w.heap.size w w'
end Go.Proofs.Ytdjoaaccnadccaa

namespace Go.Proofs.Ytdjoaaccnadccaa
open Go.ChangeShapes Go.WideShapes Go.ChangeAt Go.RowKit Go.Sort
set_option linter.unusedVariables false

theorem OwnV.neBox {B : Nat} {w : World} {E T : TypeId} {v : Value} {L cs : List Value} {s : Nat} (h : OwnV B w E v L) (hb : Box w s cs T) (hT : E ≠ T) : v.ownBlock ≠ some s := by
  intro e
  rcases h.cases with ⟨rfl, -⟩ | ⟨g, cap, rfl, -, -, ⟨cur, hg⟩, -⟩
  · simp [Value.ownBlock] at e
  · simp only [Value.ownBlock, Option.some.injEq] at e
    subst e
    unfold Box at hb
    rw [hg] at hb
    simp only [Option.some.injEq, Obj.cells.injEq] at hb
    exact hT hb.2.1
theorem OwnII.blkNeBox {B : Nat} {w : World} {v : Value} {xss : List (List Int)} {L cs : List Value} {s : Nat} {T : TypeId} (h : OwnII B w v xss L) (hb : Box w s cs T) (hT2 : ¬ mkT T) {k : Nat} (hk : Blk L k) : k ≠ s := by
  rintro rfl
  obtain ⟨cur, T', hg, hm⟩ := h.ints k hk
  rw [Box, hg] at hb
  simp only [Option.some.injEq, Obj.cells.injEq] at hb
  rw [hb.2.1] at hm
  exact hT2 hm
theorem OwnII.setBox {B : Nat} {w : World} {v : Value} {xss : List (List Int)} {L cs : List Value} {s : Nat} {T : TypeId} (h : OwnII B w v xss L) (hb : Box w s cs T) (hT : (26 : TypeId) ≠ T) (hT2 : ¬ mkT T) (u : Value) : OwnII B (w.setCell ⟨s, 0, none⟩ u) v xss L :=
  ⟨h.1.keep fun k hk => Below.heap_setCell _ _ _ _ (fun e => h.1.neBox hb hT (by rw [hk]; exact congrArg some e)), h.2.1.keep fun k hk => Below.heap_setCell _ _ _ _ (h.blkNeBox hb hT2 hk), h.2.2⟩
set_option maxHeartbeats 3200000 in
set_option maxRecDepth 100000 in
theorem l08Start_any {g : Nat} {x : PatchD} (w : World) (h : PPatch w g x) (ok : ∀ n ∈ x.nodes, StartOk n) (hn : x.nodes.length ≤ 24) :
    Calls Try.prog 43 #[.pointer (some ⟨g, 0, none⟩)] w fun e w' => RetSt w.heap.size w (x.nodes.map startL) e w' := by
  obtain ⟨p1, c1, p2, c2, p3, c3, bx, r1, r2, r3⟩ := h
  clear r1 r3
  have hgl := bx.lt
  obtain ⟨r0, hr0⟩ : ∃ r, r = w.heap.size := ⟨_, rfl⟩
  obtain ⟨s0, hs0⟩ : ∃ s, s = w.heap.size + 1 + 1 := ⟨_, rfl⟩
  obtain ⟨m0, hm0⟩ : ∃ m, m = w.heap.size + 1 := ⟨_, rfl⟩
  obtain ⟨E0, hE0⟩ : ∃ E, E = ((w.alloc (.cells #[.slice none 0 0] 76)).alloc (.cells #[] 26)).alloc (.cells #[.slice (some ⟨w.heap.size + 1, 0, none⟩) 0 0] 76) := ⟨_, rfl⟩
  have hB0 : Below w.heap.size w E0 := by rw [hE0]; exact (((Below.refl _ _).alloc (Nat.le_refl _) _).alloc (by simp) _).alloc (by simp; omega) _
  have br : Box E0 r0 [.slice none 0 0] 76 := by rw [hE0, hr0]; exact ((Box.newAt w [.slice none 0 0] _ rfl).alloc _).alloc _
  have bs : Box E0 s0 [.slice (some ⟨m0, 0, none⟩) 0 0] 76 := by rw [hE0, hs0, hm0]; exact Box.newAt ((w.alloc _).alloc _) [.slice (some ⟨w.heap.size + 1, 0, none⟩) 0 0] _ (by simp)
  have HE := Lib.hid hE0
  have HR0 := Lib.hid hr0
  have HS0 := Lib.hid hs0
  have i1 : w.heap.size ≤ r0 := by omega
  have i2 : r0 < s0 := by omega
  have HM0 := Lib.hid hm0
  have i3 : m0 = r0 + 1 := by omega
  have I3 := Lib.hid i3
  have h0 : OwnII (r0 + 1) E0 (.slice (some ⟨m0, 0, none⟩) 0 0) [] [] := by
    have h1 := (OwnII.empty (B := w.heap.size + 1) (w.alloc (.cells #[.slice none 0 0] 76)) (by simp)).below ((Below.refl _ _).alloc (Nat.le_refl _) (.cells #[.slice (some ⟨w.heap.size + 1, 0, none⟩) 0 0] 76))
    rw [World.size_alloc] at h1
    rw [hE0, hm0, hr0]; exact h1
  have bx1 := bx.below hB0
  clear hE0 hr0 hs0 hm0 i3
  have z2 := bx.cell 2 rfl
  go_enter Try.func43, Try.ntmps43
  go_wp2_with fail
  rw [← HE.out, ← HS0.out, ← HR0.out]
  clear z2
  have HOK := Lib.hid ok
  clear ok
  go_loopw [4] (fun i wr => ∃ k : Nat, k ≤ x.nodes.length ∧ i = .int .i64 k ∧ ∃ u L, Box wr s0 [u] 76 ∧ Box wr r0 [.slice none 0 0] 76 ∧ OwnII (r0 + 1) wr u ((x.nodes.take k).map startL) L ∧ Below w.heap.size w wr) (fun i _ => x.nodes.length - (intOf i).toNat)
  case atStart => exact ⟨0, Nat.zero_le _, rfl, .slice (some ⟨m0, 0, none⟩) 0 0, [], bs, br, by simpa using h0, hB0⟩
  case round =>
    clear bs br hB0 HE h0 bx1
    obtain ⟨k, hk, rfl, u, L, hbs, hbr, hown, hbel⟩ := hrel
    obtain ⟨wi, rfl⟩ : ∃ wi : World, wi = wr := ⟨_, rfl⟩
    by_cases hlt2 : k < x.nodes.length
    · obtain ⟨b, o, rfl, hb, hc⟩ := (r2.below hbel).pos hlt2
      have hnd := hc k hlt2
      clear hc
      have OKn := Lib.hid (HOK.out _ (List.getElem_mem hlt2))
      have hst : Hid ((x.nodes.take (k + 1)).map startL = (x.nodes.take k).map startL ++ [startL x.nodes[k]]) := by
        unfold Hid; rw [List.take_succ_eq_append_getElem hlt2, List.map_append]; rfl
      have hlL : L.length < 1099511627776 := by have := hown.2.1.1; simp at this; omega
      generalize x.nodes[k] = nd at hnd OKn hst
      obtain ⟨F, hF⟩ : ∃ F, F = wi := ⟨_, rfl⟩
      have hBF : Below wi.heap.size wi F := by rw [hF]; exact Below.refl _ _
      have HF := Lib.hid hF
      have hsF := hBF.size
      clear hF
      have hbsF := hbs.below hBF
      have hbrF := hbr.below hBF
      have hownF := hown.below hBF
      have hndF := hnd.below hBF
      have hbelF := hbel.trans (hBF.mono hbel.size)
      have bxF := (bx.below hbel).below hBF
      have zn := bxF.cell 2 rfl
      have zw := (bx.below hbel).cell 2 rfl
      have ltb := bxF.lt
      have hcur := belowDrew F
      have t0 := hbsF.cell 0 rfl
      have lt0 := hbsF.lt
      have lt1 := hbs.lt
      have K0 : Hid (∀ W, Below F.heap.size F W → Calls Try.prog 58 #[.pointer (some ⟨b, o + k * 4, none⟩)] W fun e w' => ∃ u, e = .returned u ∧ OwnI W.heap.size w' u (startL nd) ∧ Below W.heap.size W w') := fun W hW =>
        l06Start_any (x := nd) W (hndF.below hW) OKn.out
      have HBS := Lib.hid hbsF
      have HBR := Lib.hid hbrF
      have HOW := Lib.hid hown
      have HBE := Lib.hid hbelF
      clear hbs hbr hown hbel hnd hndF hbsF hbrF hbelF bxF
      go_wp2_with fail
      rw [← HF.out]
      clear HF
      go_region_law (first | (refine step_append_val rfl _ _ rfl 24 (.slice none 0 0) Try.underlying24 infoII rfl (by omega) rfl own2.1 rfl rfl hlL hBs ?_; intro v' W3 ho3 o1 o2 o3 hs3 hk3; obtain ⟨vp, vn, vc, rfl⟩ := ho3.sl; have c3 := (World.cell?_of_block (w := W2) (a := ⟨s0, 0, none⟩) (hk3 _ lt2 hne2)).trans t0; have f3 := ((HBS.out.below hcur).keep (hk3 _ lt2 hne2)).frozen 0) | (go_simp; go_at_call 58; refine (K0.out _ hcur).mono ?_; rintro e W2 ⟨uu, rfl, hu, hb2⟩; obtain ⟨sp, sc, rfl, -⟩ := hu.rd; have hz := hcur.size; have hcur := hcur.trans (hb2.mono hcur.size); have t0 := (hcur.cell (p := ⟨s0, 0, none⟩) lt0).trans t0; have own2 := hownF.below hcur; have lt2 := Nat.lt_of_lt_of_le lt0 hcur.size; have zn := (hcur.cell (p := ⟨g, 2, none⟩) ltb).trans zn; have hBs : r0 + 1 ≤ W2.heap.size := Nat.le_trans i2 (Nat.le_of_lt lt2); have hne2 : u.ownBlock ≠ some s0 := own2.1.neBox (HBS.out.below hcur) (by decide)))
      all_goals
        have bs2 := HBS.out.below hcur
        have br2 := HBR.out.below hcur
        have hw2 : Below w.heap.size w W2 := HBE.out.trans (hcur.mono HBE.out.size)
        have hw3 : Below w.heap.size w W3 := hw2.trans ⟨o1.symm, o2.symm, o3.symm, hs3, fun b' hb' => hk3 b' (Nat.lt_of_lt_of_le hb' hw2.size) (fun e => by have := (own2.1.lt e).1; omega)⟩
        have bs3 := bs2.keep (hk3 _ lt2 hne2)
        have br3 := br2.keep (hk3 _ (by omega) (fun e => by have := (own2.1.lt e).1; omega))
        have own3 := own2.snoc (hu.mono (show r0 + 1 ≤ F.drew.heap.size from Nat.le_trans i2 (Nat.le_of_lt lt0))) (fun b' hx hbk => by have h1 := (hu.lt hx).1; have h2 := (HOW.out.2.1.blk hbk).2.1; have h3 : F.heap.size ≤ b' := h1; omega) ho3 hk3
        rw [← hst.out] at own3
        have bs4 := Lib.hid (bs3.set 0 (.slice vp vn vc))
        have br4 := Lib.hid (br3.other (a := ⟨s0, 0, none⟩) (by simp; omega) (.slice vp vn vc))
        have own4 := Lib.hid (own3.setBox bs3 (by decide) (by decide) (.slice vp vn vc))
        have hb4 : Hid (Below w.heap.size w (W3.setCell ⟨s0, 0, none⟩ (.slice vp vn vc))) := hw3.setCell (by simp; omega) _
        clear bs2 br2 hw2 hw3 bs3 br3 own3 own2 hu hk3 hs3 o1 o2 o3 ho3 t0 c3 f3 hne2 hBs
        go_wp2_with fail
        go_roundw
        case rel => exact ⟨k + 1, by omega, by go_num, _, _, bs4.out, br4.out, own4.out, hb4.out⟩
        case measure => simp [intOf] <;> omega
    · obtain rfl : k = x.nodes.length := by omega
      obtain ⟨up, un, uc, rfl⟩ := hown.1.sl
      have zw := (bx.below hbel).cell 2 rfl
      have t0 := hbs.cell 0 rfl
      have tf := hbr.frozen 0
      have tr := hbr.cell 0 rfl
      rw [List.take_length] at hown
      have hfin : RetSt w.heap.size w (x.nodes.map startL) (.returned (.agg #[.slice up un uc])) (wi.setCell ⟨r0, 0, none⟩ (.slice up un uc)) := ⟨_, L, rfl, ⟨_, L, rfl, rfl, (hown.keeps (w' := wi.setCell ⟨r0, 0, none⟩ (.slice up un uc)) fun b hb _ => Below.heap_setCell _ _ _ _ (by simp; omega)).mono (by omega)⟩, hbel.setCell (by simp; omega) _⟩
      have HFIN := Lib.hid hfin
      have hread : (wi.setCell ⟨r0, 0, none⟩ (.slice up un uc)).cell? ⟨r0, 0, none⟩ = some (.slice up un uc) := (hbr.set 0 (.slice up un uc)).cell 0 rfl
      clear hfin
      go_wp2_with fail
      refine bodyPost_ret (v := .agg #[.slice up un uc]) (by simp [results, Try.results43, go_sem, *]) rfl ?_
      exact HFIN.out
end Go.Proofs.Ytdjoaaccnadccaa

namespace Go.Proofs.Ytdjoaaccnadccaa
open Go.ChangeShapes Go.WideShapes Go.ChangeAt Go.RowKit Go.Sort
set_option linter.unusedVariables false
set_option linter.unusedSimpArgs false

/-- append of one value that has just been laid, as one operation -/
theorem oper_append_val {o : Oper} {a : Act} {K : Act → World → Prop} {Q : Exit → Act → World → Prop} {w : World} {u : Value} {E T : Nat} (s x : Operand)
    (ho : o.op = .call { callee := .builtin .append, args := #[s, x], argTypes := #[T, T] }) (bytes : Nat) (z : Value) (hT : Try.prog.underlying T = some (.slice E)) (hinfo : (Try.prog.info? E).map (fun i => (i.zero, i.size, i.bytes)) = some (some z, 1, bytes)) (hz : z.cells.size = 1) (hby : bytes ≤ 64)
    {B : Nat} {v : Value} {L : List Value} (hs : a.eval s = v) (hown : OwnV B w E v L) (hx : a.eval x = .slice (some ⟨w.heap.size, 0, none⟩) 1 1) (h1 : u.oneCell' = true) (hlen : L.length < 1099511627776) (hB : B ≤ w.heap.size)
    (h : ∀ v' w', OwnV B w' E v' (L ++ [u]) → Below B w w' ∧ w.heap.size ≤ w'.heap.size → (∀ k, k < w.heap.size → v.ownBlock ≠ some k → w'.heap[k]? = w.heap[k]?) → K (a.put o.dst v') w') :
    Oper.wp Try.prog o a (w.alloc (.cells #[u] E)) K Q := by
  obtain ⟨v', w', e1, e2, e3⟩ := run_append_val w o.type E T bytes z hT hinfo hz hby hown h1 hlen hB
  have hk : ∀ k, k < w.heap.size → v.ownBlock ≠ some k → w'.heap[k]? = w.heap[k]? := fun k hk hne => (e3.block k (by simp; omega) (fun e => hne e.symm)).trans (Below.heap_alloc _ _ _ hk)
  have hsz : w.heap.size ≤ w'.heap.size := by have := e3.size; simp at this; omega
  unfold Oper.wp execOp
  simp only [ho, resolve, invoke, builtin, Sem.run_bind, Sem.run_pure, Result.andThen_ok, List.map_toArray, List.map_cons, List.map_nil, hs, hx, e1]
  exact h v' w' e2 ⟨⟨e3.os, e3.tape, e3.output, hsz, fun k hk' => hk k (by omega) fun e => by have := (hown.lt e).1; omega⟩, hsz⟩ hk
theorem OwnII.row {B : Nat} {w : World} {v : Value} {L : List Value} {xss : List (List Int)} (h : OwnII B w v xss L) {k : Nat} (hk : k < xss.length) :
    ∃ b o q c, (∃ n m, v = .slice (some ⟨b, o, none⟩) n m) ∧ b < w.heap.size ∧ w.cell? ⟨b, o + k, none⟩ = some (.slice q (xss.getD k []).length c) ∧ RdI w q (xss.getD k []) ∧ (xss.getD k []).length ≤ c := by
  have hL : k < L.length := by rw [h.2.1.1]; exact hk
  obtain ⟨hL', ho⟩ := h.2.1.at_ hk
  obtain ⟨q, c, e, hr⟩ := ho.rd
  rcases h.1.cases with ⟨-, h0⟩ | ⟨g, cap, rfl, -, hg, -, hrd⟩
  · rw [h0] at hL; simp at hL
  · obtain ⟨b, o, e2, hb, hc⟩ := hrd.pos hL
    cases e2
    have e3 : xss.getD k [] = xss[k] := by rw [List.getD_eq_getElem?_getD, List.getElem?_eq_getElem hk]; rfl
    rw [e3]
    refine ⟨g, 0, q, c, ⟨_, _, rfl⟩, hg, ?_, hr, ?_⟩
    · rw [hc k hL, e]
    · rw [e] at ho; exact ho.cap
set_option maxHeartbeats 4000000 in
set_option maxRecDepth 100000 in
theorem l08Step_any {gp gs Bs : Nat} {x : PatchD} {st : List (List Int)} {fr vs : List Int} {Ls : List Value} {pf pv q : Option Addr} {cf cv d : Nat} (w : World) (h : PPatch w gp x) (hs : Box w gs [.slice q st.length d] 76) (hst : OwnII Bs w (.slice q st.length d) st Ls) (hf : RdI w pf fr) (hv : RdI w pv vs) (ok : FrOk x st fr) (hvl : vs.length = x.nodes.length) (hvs : vs.all isSmp = true) :
    Calls Try.prog 61 #[.pointer (some ⟨gp, 0, none⟩), .pointer (some ⟨gs, 0, none⟩), .slice pf fr.length cf, .slice pv vs.length cv] w fun e w' => ∃ v0 u L, e = .returned v0 ∧ Box w' gs [u] 76 ∧ OwnII w.heap.size w' u (stN x st fr vs) L ∧ Off (· = gs) w w' := by
  obtain ⟨p1, c1, p2, c2, p3, c3, bx, r1, r2, -⟩ := h
  have hn24 : x.nodes.length ≤ 24 := (formed_iff.1 ok.f).2.2.1
  have HOK := Lib.hid ok
  have HVS := Lib.hid hvs
  have HVL := Lib.hid hvl
  have hsl : st.length = x.nodes.length := ok.sl
  have HSL := Lib.hid hsl
  have h0 := OwnII.empty (B := w.heap.size) w (Nat.le_refl _)
  have hB0 := (Below.refl w.heap.size w).alloc (Nat.le_refl _) (.cells #[] 26)
  have hfl := hf.len
  have hvl2 := hv.len
  unfold maxLen at hfl hvl2
  have HSN : Hid (∀ k, k < x.nodes.length → (stN x st fr vs).take (k + 1) = (stN x st fr vs).take k ++ [nextP (ndI x.nodes (k : Int)) (inF (ndI x.nodes (k : Int)) fr vs) (st.getD k []) (vs.getD k 0)]) := fun k hk => by
    have h1 : k < (stN x st fr vs).length := by rw [stN_length]; exact hk
    rw [List.take_succ_eq_append_getElem h1]
    have := stN_get (x := x) (st := st) (fr := fr) (vs := vs) hk
    rw [List.getD_eq_getElem?_getD, List.getElem?_eq_getElem h1] at this
    rw [show (stN x st fr vs)[k] = _ from this]
  have HSL2 : Hid ((stN x st fr vs).length = x.nodes.length) := stN_length _ _ _ _
  generalize stN x st fr vs = R at HSN HSL2 ⊢
  have z2 := bx.cell 2 rfl
  have lgp := bx.lt
  have lgs := hs.lt
  clear ok hvs hvl hsl
  go_enter Try.func61, Try.ntmps61
  go_wp2_with fail
  go_loopw [8, 9] (fun v i wr => ∃ (k : Nat) (L : List Value), k ≤ x.nodes.length ∧ i = .int .i64 k ∧ OwnII w.heap.size wr v (R.take k) L ∧ Below w.heap.size w wr) (fun _ i _ => x.nodes.length - (intOf i).toNat)
  case atStart => exact ⟨0, [], Nat.zero_le _, rfl, by simpa using h0, hB0⟩
  case round =>
    obtain ⟨k, L, hk, rfl, hown, hbel⟩ := hrel
    clear h0 hB0 z2
    obtain ⟨wi, rfl⟩ : ∃ wi : World, wi = wr := ⟨_, rfl⟩
    have hbs := hbel.size
    have z2 := (bx.below hbel).cell 2 rfl
    by_cases hlt : k < x.nodes.length
    · obtain ⟨b, o, rfl, hb, hc⟩ := (r2.below hbel).pos hlt
      have hnd := hc k hlt
      clear hc
      have HSK := Lib.hid (HSN.out k hlt)
      rw [ndI_at hlt] at HSK
      have hsk : k < st.length := by rw [HSL.out]; exact hlt
      have hvk : k < vs.length := by rw [HVL.out]; exact hlt
      have hoo := (HOK.out.out HVS.out hlt).1
      have hndk := HOK.out.nd hlt
      have hs16 := HOK.out.s k hlt
      have hn1 := startL_length (startOk_of hndk.1)
      obtain ⟨b2, o2, q2, d2, ⟨n2, m2, e2⟩, hb2, hrow, hrr, hcap⟩ := hst.row hsk
      obtain ⟨rfl, -, -⟩ := (Value.slice.injEq _ _ _ _ _ _).mp e2
      obtain ⟨b3, o3, rfl, hb3, hc3⟩ := hv.pos hvk
      have hvc := hc3 k hvk
      have hnl : x.nodes[k].src.length ≤ 1048576 := by
        have h1 := hndk.1
        rw [nodeB_split] at h1
        simp only [Bool.and_eq_true, beq_iff_eq] at h1
        have := kAr_le3' h1.1
        have := h1.2.2.1
        omega
      have hvg : vs.getD k 0 = vs[k] := getD_at2 hvk
      rw [hvg] at HSK
      have hr1 := hndk.2.2
      rw [← HVL.out] at hr1
      have hr2 := hndk.2.1
      generalize x.nodes[k] = nd at hnd hoo HSK hnl hr1 hr2 hs16 hn1 hndk
      generalize st.getD k [] = row at hrow hrr hoo HSK hcap hs16
      generalize vs[k] = y at hvc HSK
      have hrl : row.length ≤ 16 := by omega
      have hLl : L.length < 1099511627776 := by have := hown.2.1.1; rw [List.length_take] at this; omega
      have IN : Hid (∀ W, Below wi.heap.size wi W → Calls Try.prog 72 #[.pointer (some ⟨b, o + k * 4, none⟩), .slice pf fr.length cf, .slice (some ⟨b3, o3, none⟩) vs.length cv] W fun e w' => ∃ v, e = .returned v ∧ OwnI W.heap.size w' v (inF nd fr vs) ∧ Below W.heap.size W w') := fun W hW =>
        l08In_any (x := nd) (vs := vs) (cf := cf) (cv := cv) W (hnd.below hW) (hf.below (hbel.trans (hW.mono hbel.size))) (hv.below (hbel.trans (hW.mono hbel.size))) hr2 hr1 hnl
      have NX : Hid (∀ W ip ic, Below wi.heap.size wi W → RdI W ip (inF nd fr vs) → Calls Try.prog 73 #[.pointer (some ⟨b, o + k * 4, none⟩), .slice ip (inF nd fr vs).length ic, .slice q2 row.length d2, .int .i64 y] W fun e w' => ∃ u, e = .returned u ∧ OwnI W.heap.size w' u (nextP nd (inF nd fr vs) row y) ∧ Below W.heap.size W w') := fun W ip ic hW hi =>
        l06Next_any (cx := ic) (cs := d2) y W (hnd.below hW) hi (hrr.below (hbel.trans (hW.mono hbel.size))) hcap hrl hoo
      have CK : Hid (∀ W, Below w.heap.size w W → W.cell? ⟨gs, 0, none⟩ = some (.slice (some ⟨b2, o2, none⟩) st.length d) ∧ W.cell? ⟨b2, o2 + k, none⟩ = some (.slice q2 row.length d2) ∧ W.cell? ⟨b3, o3 + k, none⟩ = some (.int .i64 y)) := fun W hW => ⟨(hs.below hW).cell 0 rfl, (hW.cell (p := ⟨b2, o2 + k, none⟩) hb2).trans hrow, (hW.cell (p := ⟨b3, o3 + k, none⟩) hb3).trans hvc⟩
      generalize inF nd fr vs = ins at IN NX HSK
      have hcur := belowDrew wi
      clear hnd hrow hrr hoo hndk hs16 hn1 hr1 hr2 hvc hc3 hvg hnl hcap hb2 hb3 e2
      go_upto_region 5 with fail
      refine wp_region_plan (fun W => W.cell? ⟨gs, 0, none⟩ = some (.slice (some ⟨b2, o2, none⟩) st.length d) ∧ W.cell? ⟨b2, o2 + k, none⟩ = some (.slice q2 row.length d2) ∧ W.cell? ⟨b3, o3 + k, none⟩ = some (.int .i64 y)) 20 [(0, 0), (1, 0), (2, 0), (3, 0), (4, 0), (6, 0), (7, 0), (8, 0), (9, 1), (10, 0), (11, 0), (12, 1), (13, 0), (14, 0), (15, 0), (16, 1), (5, 2), (17, 2), (18, 2), (19, 2), (20, 3)] (by kernel_rfl) (by kernel_rfl) (CK.out _ (hbel.trans (hcur.mono hbs))) ?_
      repeat ((first | refine wpPlan_take (v := ?_) rfl (by rfl) (by (intro w hSw; clear hSw; go_simp; try with_reducible rfl)) (fun _ _ _ h => h) ?_ | refine wpPlan_load (v := ?_) rfl (by rfl) (by (intro w hSw; (try dsimp only at hSw); go_simp; try with_reducible rfl)) (fun _ _ _ h => h) ?_); try simp only [List.getElem_toArray, List.getElem_cons_succ, List.getElem_cons_zero, Act.put, List.setIfInBounds_toArray, List.set_cons_zero, List.set_cons_succ])
      refine wpPlan_call rfl (by rfl) (fun K hK => ?_)
      go_simp
      refine (IN.out _ hcur).mono ?_; rintro e W2 ⟨v2, rfl, hv2, hb4⟩; obtain ⟨ip, ic, rfl, hri⟩ := hv2.rd; have hcur := hcur.trans (hb4.mono hcur.size)
      refine hK _ _ (CK.out _ (hbel.trans (hcur.mono hbs))) ?_
      clear hK K
      try simp only [Act.put, List.setIfInBounds_toArray, List.set_cons_zero, List.set_cons_succ]
      refine wpPlan_call rfl (by rfl) (fun K hK => ?_)
      go_simp
      refine (NX.out _ ip ic hcur hri).mono ?_; rintro e W3 ⟨u3, rfl, hu3, hb5⟩; obtain ⟨up, uc, rfl, -⟩ := hu3.rd; have hsz2 := hcur.size; have hcur := hcur.trans (hb5.mono hcur.size); have hB3 : Below w.heap.size w W3 := hbel.trans (hcur.mono hbs)
      refine hK _ _ (CK.out _ hB3) ?_
      clear hK K
      try simp only [Act.put, List.setIfInBounds_toArray, List.set_cons_zero, List.set_cons_succ]
      have own3 := hown.below hcur
      have hs3 := hB3.size
      refine wpPlan_call rfl (by rfl) (fun K hK => ?_)
      go_simp
      skip
      refine hK _ _ (CK.out _ (hB3.alloc hs3 _)) ?_
      clear hK K
      try simp only [Act.put, List.setIfInBounds_toArray, List.set_cons_zero, List.set_cons_succ]
      refine wpPlan_call rfl (by rfl) (fun K hK => ?_)
      refine oper_append_val _ _ rfl 24 (.slice none 0 0) Try.underlying24 infoII rfl (by omega) rfl own3.1 rfl rfl hLl hs3 ?_; intro v4 W4 ho4 hb6 hk6; obtain ⟨vp, vn, vc, rfl⟩ := ho4.sl; have hB4 : Below w.heap.size w W4 := hB3.trans hb6.1
      refine hK _ _ (CK.out _ hB4) ?_
      clear hK K
      try simp only [List.getElem_toArray, List.getElem_cons_succ, List.getElem_cons_zero, Act.put, List.setIfInBounds_toArray, List.set_cons_zero, List.set_cons_succ]
      refine wpPlan_store rfl (by rfl) (fun K hK => ?_)
      go_simp
      refine hK _ _ ?_
      clear hK K
      try simp only [Act.put, List.setIfInBounds_toArray, List.set_cons_zero, List.set_cons_succ]
      refine wpPlan_nil ?_
      have own4 := own3.snoc (hu3.mono (show w.heap.size ≤ W2.heap.size by omega)) (fun b' hx hbk => by have h1 := (hu3.lt hx).1; have h2 := (hown.2.1.blk hbk).2.1; omega) ho4 hk6
      rw [← HSK.out] at own4
      go_wp2_with fail
      go_roundw
      case rel => exact ⟨k + 1, _, by omega, by go_num, own4, hB4⟩
      case measure => simp [intOf] <;> omega
    · obtain rfl : k = x.nodes.length := by omega
      obtain ⟨up, un, uc, rfl⟩ := hown.1.sl
      rw [← HSL2.out, List.take_length] at hown
      have bs := hs.below hbel
      have t0 := bs.cell 0 rfl
      have tf := bs.frozen 0
      have own4 := hown.setBox bs (by decide) (by decide) (.slice up un uc)
      have bs4 := bs.set 0 (.slice up un uc)
      have hoff : Off (· = gs) w (wi.setCell ⟨gs, 0, none⟩ (.slice up un uc)) := ⟨hbel.os, hbel.tape, hbel.output, by simpa using hbel.size, fun k' hk' hne => (Below.heap_setCell _ _ _ _ (show k' ≠ gs from hne)).trans (hbel.block k' hk')⟩
      have FIN := Lib.hid (show ∃ u L, Box (wi.setCell ⟨gs, 0, none⟩ (.slice up un uc)) gs [u] 76 ∧ OwnII w.heap.size (wi.setCell ⟨gs, 0, none⟩ (.slice up un uc)) u R L ∧ Off (· = gs) w (wi.setCell ⟨gs, 0, none⟩ (.slice up un uc)) from ⟨_, _, bs4, own4, hoff⟩)
      clear own4 bs4 hoff hown
      go_wp2_with fail
      obtain ⟨u, L, f1, f2, f3⟩ := FIN.out
      refine bodyPost_end (v := .tuple #[]) (by simp [results, Try.results61, go_sem]) rfl ?_
      exact ⟨_, u, L, rfl, f1, f2, f3⟩
end Go.Proofs.Ytdjoaaccnadccaa
