/-
  Patches: the order of the nodes; contracts of both sides.
-/
import Derived.Test.YtdcacmmglkcliaaGreatDoorPatG
namespace Go.Proofs.YtdcacmmglkcliaaGreatDoor
open Go.ChangeShapes Go.WideShapes Go.ChangeAt Go.RowKit Go.Sort
set_option linter.unusedVariables false

def sliceLen : Value → Nat
  | .slice _ n _ => n
  | _ => 0
def boolN : Value → Nat
  | .bool true => 1
  | _ => 0
theorem getD_node {xs : List NodeD} {k : Nat} (h : k < xs.length) : xs.getD k ⟨0, 0, 0, []⟩ = xs[k] := by
  rw [List.getD_eq_getElem?_getD, List.getElem?_eq_getElem h]; rfl
theorem rdy_eq {nodes : List NodeD} {out : List Int} {k : Nat} (h : k < nodes.length) {b : Bool} (hb : out.contains (k : Int) = b) : rdy nodes out k = (!b && (waits nodes[k]).all (fun f => out.contains f)) := by
  unfold rdy; rw [hb, getD_node h]
theorem nxt_step {nodes : List NodeD} {out : List Int} {k n : Nat} (h : k < n) (hr : rdy nodes out k = false) : nxt nodes out k (n - k) = nxt nodes out (k + 1) (n - (k + 1)) := by
  rw [show n - k = (n - (k + 1)) + 1 by omega, nxt, if_neg (by rw [hr]; simp)]
theorem nxt_found {nodes : List NodeD} {out : List Int} {k n : Nat} (h : k < n) (hr : rdy nodes out k = true) : nxt nodes out k (n - k) = some k := by
  rw [show n - k = (n - (k + 1)) + 1 by omega, nxt, if_pos hr]
/-- the order, if there is one -/
def RetO (w : World) (L : List Int) (n : Nat) (e : Ending) (w' : World) : Prop := ∃ u, e = .returned (.tuple #[u, .bool (decide (L.length = n))]) ∧ OwnI w.heap.size w' u (if L.length = n then L else []) ∧ Below w.heap.size w w'
theorem RetO.of {w w' : World} {L : List Int} {n : Nat} (b : Bool) (hb : L.length = n ↔ b = true) {u : Value} (ho : OwnI w.heap.size w' u (if b then L else [])) (hbl : Below w.heap.size w w') : RetO w L n (.returned (.tuple #[u, .bool b])) w' := by
  have e : decide (L.length = n) = b := by
    cases b
    · exact decide_eq_false fun h => by have := hb.1 h; cases this
    · exact decide_eq_true (hb.2 rfl)
  refine ⟨u, by rw [e], ?_, hbl⟩
  cases b
  · rw [if_neg (fun h => by have := hb.1 h; cases this)]; exact ho
  · rw [if_pos (hb.2 rfl)]; exact ho
set_option maxHeartbeats 6400000 in
set_option maxRecDepth 100000 in
theorem l07Order_any {g : Nat} {x : PatchD} (w : World) (h : PPatch w g x) (hf : formedB x = true) :
    Calls Tryz.prog 93 #[.pointer (some ⟨g, 0, none⟩)] w (RetO w (orderL x.nodes) x.nodes.length) := by
  have hlt := h.lt
  obtain ⟨p1, c1, p2, c2, p3, c3, bx, r1, r2, r3⟩ := h
  have hl2 := r2.len
  unfold maxLen at hl2
  have hn24 : x.nodes.length ≤ 24 := (formed_iff.1 hf).2.2.1
  clear hf r1 r3
  have hO : Hid (orderL x.nodes = ord x.nodes x.nodes.length []) := rfl
  generalize orderL x.nodes = OL at hO ⊢
  have h0 := OwnI.lit (B := w.heap.size) w [] (Nat.le_refl _) (by simp [maxLen])
  have hb0 := (Below.refl w.heap.size w).alloc (Nat.le_refl _) (.cells #[] 2)
  go_enter Tryz.func93, Tryz.ntmps93
  go_wp2_with fail
  go_loopw [4] (fun ov wr => ∃ (f : Nat) (out : List Int), f + out.length = x.nodes.length ∧ OwnI w.heap.size wr ov out ∧ Below w.heap.size w wr ∧ Hid (ord x.nodes f out = OL)) (fun ov _ => x.nodes.length - sliceLen ov)
  case atStart => exact ⟨x.nodes.length, [], by simp, h0, hb0, hO.out.symm⟩
  case round =>
    obtain ⟨f, out, hfo, hown, hbel, HO⟩ := hrel
    clear h0 hb0
    obtain ⟨wi, rfl⟩ : ∃ wi : World, wi = wr := ⟨_, rfl⟩
    have bx1 := bx.below hbel
    have r21 := r2.below hbel
    have z2 := bx1.cell 2 rfl
    have hh := hown
    obtain ⟨op, oc, rfl, hro⟩ := hh.rd
    by_cases hf0 : f = 0
    · subst hf0
      have hlen : ¬ ((out.length : Int) < (x.nodes.length : Int)) := by omega
      have HLN : Hid (out.length = x.nodes.length) := by unfold Hid; omega
      clear hfo
      go_wp2_with fail
      refine bodyPost_ret (v := .tuple #[.slice op out.length oc, .bool true]) (by simp [results, Tryz.results93, go_sem, *]) rfl ?_
      rw [show OL = out from HO.out.symm]
      exact RetO.of true (by rw [HLN.out]; simp) hown hbel
    obtain ⟨f', rfl⟩ : ∃ f', f = f' + 1 := ⟨f - 1, by omega⟩
    have hlo : out.length < x.nodes.length := by omega
    go_wp2_with fail
    go_loopw [5, 6] (fun t i wr' => ∃ k : Nat, k ≤ x.nodes.length ∧ i = .int .i64 k ∧ Below wi.heap.size wi wr' ∧ ((t = .int .i64 (-1) ∧ Hid (nxt x.nodes out k (x.nodes.length - k) = nxt x.nodes out 0 x.nodes.length)) ∨ ∃ m : Nat, m < x.nodes.length ∧ t = .int .i64 (m : Int) ∧ Hid (nxt x.nodes out 0 x.nodes.length = some m))) (fun t i _ => x.nodes.length - (intOf i).toNat)
    case atStart => exact ⟨0, Nat.zero_le _, rfl, Below.refl _ _, .inl ⟨rfl, rfl⟩⟩
    case round =>
      obtain ⟨k, hk, rfl, hbel2, hcase⟩ := hrel
      obtain ⟨wj, rfl⟩ : ∃ wj : World, wj = wr := ⟨_, rfl⟩
      have bx2 := bx1.below hbel2
      have y2 := bx2.cell 2 rfl
      rcases hcase with ⟨rfl, HK⟩ | ⟨m, hm, rfl, HM⟩
      · by_cases hlt2 : k < x.nodes.length
        · obtain ⟨b, o, rfl, hb, hc⟩ := (r21.below hbel2).pos hlt2
          have hnd := hc k hlt2
          have hro2 := hro.below hbel2
          have HS := Lib.hid (l00Has_any (c := oc) (k : Int) wj hro2)
          rw [any_contains] at HS
          cases hcn : out.contains (k : Int)
          case true =>
            rw [hcn] at HS
            have HN : Hid (nxt x.nodes out (k + 1) (x.nodes.length - (k + 1)) = nxt x.nodes out 0 x.nodes.length) := by
              unfold Hid; rw [← HK.out, nxt_step hlt2 (by rw [rdy_eq hlt2 hcn]; rfl)]
            clear hcn hc hnd
            go_wp2_with (go_at_call 117; refine HS.out.mono ?_; rintro e w' ⟨rfl, rfl⟩)
            go_roundw
            case rel => exact ⟨k + 1, by omega, by go_num, hbel2, .inl ⟨rfl, HN⟩⟩
            case measure => simp [intOf] <;> omega
          case false =>
            rw [hcn] at HS
            have HRY := Lib.hid (rdy_eq hlt2 hcn)
            generalize hx : x.nodes[k] = nd at hnd HRY
            clear hcn hc hx
            go_wp2_with (go_at_call 117; refine HS.out.mono ?_; rintro e w' ⟨rfl, rfl⟩)
            refine (l07Waits_any wj hnd).mono ?_
            rintro e W2 ⟨u, rfl, hw, hb2⟩
            obtain ⟨wp, wc, rfl, hwr⟩ := hw
            have AL := Lib.hid (l07All_any (c := wc) (d := oc) W2 hwr (hro2.below hb2))
            have hbel3 := hbel2.trans (hb2.mono hbel2.size)
            clear hnd hro2 hwr HS
            cases hal : (waits nd).all (fun f => out.contains f)
            case false =>
              rw [hal] at AL
              have HN : Hid (nxt x.nodes out (k + 1) (x.nodes.length - (k + 1)) = nxt x.nodes out 0 x.nodes.length) := by
                unfold Hid; rw [← HK.out, nxt_step hlt2 (by rw [HRY.out, hal]; rfl)]
              clear hal
              go_wp2_with (go_at_call 118; refine AL.out.mono ?_; rintro e w' ⟨rfl, rfl⟩)
              go_roundw
              case rel => exact ⟨k + 1, by omega, by go_num, hbel3, .inl ⟨rfl, HN⟩⟩
              case measure => simp [intOf] <;> omega
            case true =>
              rw [hal] at AL
              have HN : Hid (nxt x.nodes out 0 x.nodes.length = some k) := by
                unfold Hid; rw [← HK.out, nxt_found hlt2 (by rw [HRY.out, hal]; rfl)]
              clear hal
              go_wp2_with (go_at_call 118; refine AL.out.mono ?_; rintro e w' ⟨rfl, rfl⟩)
              go_roundw
              case rel => exact ⟨k + 1, by omega, by go_num, hbel3, .inr ⟨k, hlt2, rfl, HN⟩⟩
              case measure => simp [intOf] <;> omega
        · obtain rfl : k = x.nodes.length := by omega
          have HL : Hid (OL = out) := by
            have HNN : nxt x.nodes out 0 x.nodes.length = none := by rw [← HK.out, Nat.sub_self]; rfl
            unfold Hid; rw [← HO.out]; exact ord_none HNN _
          have hlo2 := Lib.hid hlo
          go_wp2_with fail
          refine bodyPost_ret (v := .tuple #[.slice none 0 0, .bool false]) (by simp [results, Tryz.results93, go_sem, *]) rfl ?_
          rw [HL.out]
          exact RetO.of false ⟨fun h => by have := hlo2.out; omega, fun h => by cases h⟩ (OwnI.nil _ _) (hbel.trans (hbel2.mono hbel.size))
      · have hown2 := hown.below hbel2
        have hB2 := hbel.trans (hbel2.mono hbel.size)
        have HN : Hid (ord x.nodes f' (out ++ [(m : Int)]) = OL) := by unfold Hid; rw [← HO.out, ord_some HM.out]
        have hsz : w.heap.size ≤ wj.heap.size := hB2.size
        by_cases hkn : k < x.nodes.length
        all_goals
          go_wp2_with (at_builtin; refine wpList_append_one rfl _ _ rfl rfl hown2 rfl hB2 (by omega) hsz (Nat.le_refl _) ?_; intro v' w4 hown4 hb4 hz4 hk4)
          obtain ⟨q4, c4, rfl, -⟩ := hown4.rd
          go_roundw
          case rel => exact ⟨f', out ++ [(m : Int)], by rw [List.length_append, List.length_singleton]; omega, hown4, hb4, HN⟩
          case measure => simp [sliceLen] <;> omega
theorem infoB : (Tryz.prog.info? 4).map (fun i => (i.zero, i.size, i.bytes)) = some (some (.bool false), 1, 1) := by kernel_rfl
theorem tkv (out : List Int) {n f : Nat} (h : f < n) (h' : f < ((tk out n).map Value.bool).length) : ((tk out n).map Value.bool)[f] = .bool (out.contains (f : Int)) := by
  rw [List.getElem_map, tk_get out h]
theorem OwnV.cellB {B : Nat} {w : World} {g n cap : Nat} {out : List Int} (h : OwnV B w 4 (.slice (some ⟨g, 0, none⟩) n cap) ((tk out n).map Value.bool)) {f : Nat} (hf : f < n) : w.cell? ⟨g, f, none⟩ = some (.bool (out.contains (f : Int))) := by
  have hl : f < ((tk out n).map Value.bool).length := by rw [List.length_map, tk_length]; exact hf
  have := (h.storing hl).2.2.2.1
  rw [tkv out hf hl] at this
  exact this
set_option maxHeartbeats 12800000 in
set_option maxRecDepth 100000 in
theorem order_v {v : Value} {x : PatchD} (w : World) (h : VPatch w v x) (hf : formedB x = true) :
    Calls Tryz.prog 98 #[v] w fun e w' => ∃ u, e = .returned u ∧ OwnI w.heap.size w' u (orderL x.nodes) ∧ Below w.heap.size w w' := by
  obtain ⟨p1, c1, p2, c2, p3, c3, rfl, r1, r2, r3⟩ := h
  have hl2 := r2.len
  unfold maxLen at hl2
  have hfm := formed_iff.1 hf
  have hn24 : x.nodes.length ≤ 24 := hfm.2.2.1
  have HSRC : Hid (∀ y ∈ x.nodes, ∀ f ∈ y.src, 0 ≤ f ∧ f < (x.nodes.length : Int)) := fun y hy => ndB_src (hfm.2.2.2.2.1 y hy)
  clear hf hfm r1 r3
  obtain ⟨s, hs⟩ : ∃ s, s = w.heap.size := ⟨_, rfl⟩
  obtain ⟨E0, hE0⟩ : ∃ E, E = w.alloc (.cells #[.int .i64 x.inputs, .slice p1 x.tables.length c1, .slice p2 x.nodes.length c2, .slice p3 x.outputs.length c3] 46) := ⟨_, rfl⟩
  have hB0 : Below s w E0 := by rw [hE0, hs]; exact (Below.refl _ _).alloc (Nat.le_refl _) _
  have bx : Box E0 s [.int .i64 x.inputs, .slice p1 x.tables.length c1, .slice p2 x.nodes.length c2, .slice p3 x.outputs.length c3] 46 := by rw [hE0, hs]; exact Box.newAt w _ _ rfl
  have hsz0 : E0.heap.size = s + 1 := by rw [hE0, hs]; simp
  have HE := Lib.hid hE0
  have HS0 := Lib.hid hs
  have r20 := r2
  clear hE0 hs r2
  have hmk := fun W => run_make_row' (P := Tryz.prog) 132 4 (.bool false) 1 Tryz.underlying132 infoB rfl .i64 .i64 x.nodes.length (by omega) (by omega) W
  have ht0 := OwnV.made (B := s + 1) E0 4 (.bool false) x.nodes.length (by omega) (by unfold maxLen; omega)
  obtain ⟨E1, hE1⟩ : ∃ E, E = E0.alloc (.cells (madeCells #[.bool false] x.nodes.length) 4) := ⟨_, rfl⟩
  rw [← hE1, hsz0] at ht0
  have hsz1 : E1.heap.size = s + 1 + 1 := by rw [hE1]; simp [hsz0]
  have hB1 : Below s w E1 := by rw [hE1]; exact hB0.alloc (by omega) _
  have hB01 : Below E0.heap.size E0 E1 := by rw [hE1]; exact (Below.refl _ _).alloc (Nat.le_refl _) _
  replace bx := bx.below hB01
  have hE1' : E0.alloc (.cells (madeCells #[.bool false] x.nodes.length) 4) = E1 := hE1.symm
  have HE1 := Lib.hid hE1'
  clear hE1 hE1' hB01 hB0
  have h0 := OwnI.lit (B := s + 1 + 1) E1 [] (by omega) (by simp [maxLen])
  obtain ⟨E2, hE2⟩ : ∃ E, E = E1.alloc (.cells #[] 2) := ⟨_, rfl⟩
  have h0' : OwnI (s + 1 + 1) E2 (.slice (some ⟨s + 1 + 1, 0, none⟩) 0 0) [] := by rw [hE2, ← hsz1]; simpa [hsz1] using h0
  have hB12 : Below E1.heap.size E1 E2 := by rw [hE2]; exact (Below.refl _ _).alloc (Nat.le_refl _) _
  have hB2 := hB1.trans (hB12.mono (by omega))
  replace bx := bx.below hB12
  have ht2 := ht0.below hB12
  rw [← List.map_replicate (f := Value.bool), ← tk_nil] at ht2
  have HE2 := Lib.hid hE2
  clear hE2 h0 hB12 ht0 hB1
  have hO : Hid (orderL x.nodes = ord x.nodes x.nodes.length []) := rfl
  generalize orderL x.nodes = OL at hO ⊢
  go_enter Tryz.func98, Tryz.ntmps98
  go_upto_region 1 with fail
  rw [← HE.out, ← HS0.out]
  have z2 : E0.cell? ⟨s, 2, none⟩ = some (.slice p2 x.nodes.length c2) := by
    rw [HE.out, HS0.out]; exact (Box.newAt w [.int .i64 x.inputs, .slice p1 x.tables.length c1, .slice p2 x.nodes.length c2, .slice p3 x.outputs.length c3] 46 rfl).cell 2 rfl
  go_upto_region 2 with fail
  rw [HE1.out]
  clear z2
  go_upto_region 4 with fail
  rw [← HE2.out]
  clear hsz0 hsz1 HE HE1 HE2
  go_loopw [4, 5] (fun ov fd wr => ∃ (f : Nat) (out : List Int) (fnd : Bool), fd = .bool fnd ∧ OwnI (s + 1 + 1) wr ov out ∧ OwnV (s + 1) wr 4 (.slice (some ⟨s + 1, 0, none⟩) x.nodes.length x.nodes.length) ((tk out x.nodes.length).map Value.bool) ∧
      Below s w wr ∧ Box wr s [.int .i64 x.inputs, .slice p1 x.tables.length c1, .slice p2 x.nodes.length c2, .slice p3 x.outputs.length c3] 46 ∧
      Hid ((fnd = true → ord x.nodes f out = OL ∧ f + out.length = x.nodes.length ∧ out.length + free out x.nodes.length = x.nodes.length) ∧ (fnd = false → out = OL))) (fun ov fd _ => 2 * (x.nodes.length - sliceLen ov) + boolN fd)
  case atStart => exact ⟨x.nodes.length, [], true, rfl, h0', ht2, hB2, bx, fun _ => ⟨hO.out.symm, by simp, by rw [free_nil]; simp⟩, fun h => by cases h⟩
  case round =>
    obtain ⟨f, out, fnd, rfl, hown, htk, hbel, bxw, HO⟩ := hrel
    clear h0' ht2 hB2 bx
    obtain ⟨wi, rfl⟩ : ∃ wi : World, wi = wr := ⟨_, rfl⟩
    have hbel' : Below w.heap.size w wi := by rw [← HS0.out]; exact hbel
    have hh := hown
    obtain ⟨op, oc, rfl, -⟩ := hh.rd
    clear hh
    cases fnd
    case false =>
      have HL : Hid (out = OL) := HO.out.2 rfl
      go_wp2_with fail
      go_ret
      exact ⟨_, rfl, by rw [← HL.out]; exact hown.mono (by rw [← HS0.out]; omega), hbel'⟩
    obtain ⟨hOf, hfo, hfree⟩ := HO.out.1 rfl
    have HOF := Lib.hid hOf
    have HFO := Lib.hid hfo
    have HFR := Lib.hid hfree
    clear hOf hfo hfree HO
    have z2 := bxw.cell 2 rfl
    go_wp2_with fail
    clear z2
    go_loopw [4, 5, 20] (fun ov fd i wr' => ∃ k : Nat, k ≤ x.nodes.length ∧ ov = .slice op out.length oc ∧ fd = .bool false ∧ i = .int .i64 k ∧ Below wi.heap.size wi wr' ∧ Hid (nxt x.nodes out k (x.nodes.length - k) = nxt x.nodes out 0 x.nodes.length)) (fun _ _ i _ => x.nodes.length - (intOf i).toNat)
    case atStart => exact ⟨0, Nat.zero_le _, rfl, rfl, rfl, Below.refl _ _, rfl⟩
    case round =>
      obtain ⟨k, hk, rfl, rfl, rfl, hbel2, HK⟩ := hrel
      obtain ⟨wj, rfl⟩ : ∃ wj : World, wj = wr := ⟨_, rfl⟩
      by_cases hlt2 : k < x.nodes.length
      · obtain ⟨b, o, rfl, hb, hc⟩ := (r20.below (hbel'.trans (hbel2.mono hbel'.size))).pos hlt2
        have hnd := hc k hlt2
        have HSR : Hid (∀ f ∈ x.nodes[k].src, 0 ≤ f ∧ f < (x.nodes.length : Int)) := HSRC.out _ (List.getElem_mem hlt2)
        have HRD : Hid (∀ b, out.contains (k : Int) = b → rdy x.nodes out k = (!b && (waits x.nodes[k]).all (fun f => out.contains f))) := fun b hb => rdy_eq hlt2 hb
        clear hc
        generalize x.nodes[k] = nd at hnd HSR HRD
        obtain ⟨y0, y1, y2, q, d, y3, hr⟩ := hnd
        obtain ⟨F, hF⟩ : ∃ F, F = wj.alloc (.cells #[.int .i64 nd.kind, .int .i64 nd.a, .int .i64 nd.b, .slice q nd.src.length d] 26) := ⟨_, rfl⟩
        have hBF : Below wj.heap.size wj F := by rw [hF]; exact (Below.refl _ _).alloc (Nat.le_refl _) _
        have bn : Box F wj.heap.size [.int .i64 nd.kind, .int .i64 nd.a, .int .i64 nd.b, .slice q nd.src.length d] 26 := by rw [hF]; exact Box.newAt _ _ _ rfl
        have HF := Lib.hid hF
        have hBF2 := hbel2.trans (hBF.mono hbel2.size)
        have htkF := htk.below hBF2
        have hc0 := htkF.cellB hlt2
        have t0 := bn.cell 0 rfl
        have t1 := bn.cell 1 rfl
        have t2 := bn.cell 2 rfl
        have t3 := bn.cell 3 rfl
        have WF := Lib.hid (waitsFor_v (x := nd) F ⟨q, d, rfl, hr.below hBF⟩)
        clear hF hr hBF bn
        generalize hcn : out.contains (k : Int) = cb at hc0
        have HCN := Lib.hid hcn
        clear hcn
        go_upto_region 9 with fail
        rw [← HF.out]
        go_wp2_with fail
        refine WF.out.mono ?_
        rintro e F2 ⟨u, rfl, hw, hb2⟩
        obtain ⟨wp, wc, rfl, hwr⟩ := hw
        have hBF3 := hBF2.trans (hb2.mono hBF2.size)
        have htk2 := htkF.below hb2
        have HTC : Hid (∀ f, f < x.nodes.length → F2.cell? ⟨s + 1, f, none⟩ = some (.bool (out.contains (f : Int)))) := fun f hf => htk2.cellB hf
        have hwl := hwr.len
        unfold maxLen at hwl
        clear y0 y1 y2 y3 t0 t1 t2 t3 hc0 htkF hb2 WF hBF2 hb
        go_wp2_with fail
        go_loop [8, 33] (fun r j => ∃ jj : Nat, jj ≤ (waits nd).length ∧ j = .int .i64 jj ∧ ∃ B : Bool, r = .bool B ∧ Hid ((!cb && ((waits nd).take jj).all (fun f => out.contains f)) = B)) (fun _ j => (waits nd).length - (intOf j).toNat)
        case atStart => exact ⟨0, Nat.zero_le _, rfl, !cb, rfl, by unfold Hid; simp⟩
        case round =>
          obtain ⟨jj, hjj, rfl, B, rfl, HB⟩ := hrel
          by_cases hlt3 : jj < (waits nd).length
          · obtain ⟨b2, o2, rfl, hb3, hc2⟩ := hwr.pos hlt3
            have hck := hc2 jj hlt3
            have hmem := HSR.out _ (waits_src (List.getElem_mem hlt3))
            have HN : Hid ((!cb && ((waits nd).take (jj + 1)).all (fun f => out.contains f)) = (B && out.contains (waits nd)[jj])) := by
              unfold Hid
              rw [List.take_succ_eq_append_getElem hlt3, List.all_append, ← HB.out, Bool.and_assoc]
              simp
            clear hc2
            generalize (waits nd)[jj] = fi at hck hmem HN
            obtain ⟨fn, rfl⟩ : ∃ fn : Nat, fi = fn := ⟨fi.toNat, by omega⟩
            have hfn : fn < x.nodes.length := by omega
            have hcf := HTC.out fn hfn
            generalize out.contains (fn : Int) = cf at hcf HN
            clear hmem
            cases B
            all_goals
              go_wp2_with fail
              go_round
              case rel => exact ⟨jj + 1, by omega, by go_num, _, rfl, by unfold Hid; rw [HN.out]; simp⟩
              case measure => simp [intOf] <;> omega
          · obtain rfl : jj = (waits nd).length := by omega
            have HRY : Hid (rdy x.nodes out k = B) := by
              unfold Hid; rw [HRD.out _ HCN.out, ← HB.out, List.take_length]
            clear HB HRD hwr
            cases B
            case false =>
              have HN : Hid (nxt x.nodes out (k + 1) (x.nodes.length - (k + 1)) = nxt x.nodes out 0 x.nodes.length) := by
                unfold Hid; rw [← HK.out, nxt_step hlt2 HRY.out]
              go_wp2_with fail
              go_roundw
              case rel => exact ⟨k + 1, by omega, rfl, rfl, by go_num, hBF3, HN⟩
              case measure => simp [intOf] <;> omega
            case true =>
              have HM : nxt x.nodes out 0 x.nodes.length = some k := by rw [← HK.out, nxt_found hlt2 HRY.out]
              have hpos := free_pos (rdy_free HRY.out) hlt2
              have hadd := free_add out k (rdy_free HRY.out) _ hlt2
              obtain ⟨f', rfl⟩ : ∃ f', f = f' + 1 := ⟨f - 1, by have := HFO.out; have := HFR.out; omega⟩
              have HN : Hid (ord x.nodes f' (out ++ [(k : Int)]) = OL ∧ f' + (out ++ [(k : Int)]).length = x.nodes.length ∧ (out ++ [(k : Int)]).length + free (out ++ [(k : Int)]) x.nodes.length = x.nodes.length) := by
                have h1 := HFO.out
                have h2 := HFR.out
                refine ⟨by rw [← HOF.out, ord_some HM], ?_, ?_⟩ <;> rw [List.length_append, List.length_singleton] <;> omega
              have hlo : out.length < x.nodes.length := by have := HFO.out; omega
              have hlk : k < ((tk out x.nodes.length).map Value.bool).length := by rw [List.length_map, tk_length]; exact hlt2
              obtain ⟨-, -, hgs, hg1, hg2, hst⟩ := htk2.storing hlk
              have hst' := hst (.bool true)
              rw [← List.map_set, ← tk_set out hlt2] at hst'
              have hown2 := hown.below hBF3
              have hown3 : OwnI (s + 1 + 1) (F2.setCell ⟨s + 1, k, none⟩ (.bool true)) (.slice op out.length oc) out := hown2.keep fun j hj => Below.heap_setCell _ _ _ _ (by have := (hown2.lt hj).1; show j ≠ s + 1; omega)
              have hB3 : Below s w (F2.setCell ⟨s + 1, k, none⟩ (.bool true)) := (hbel.trans (hBF3.mono (by rw [HS0.out]; exact hbel.size))).setCell (p := ⟨s + 1, k, none⟩) (by show s ≤ s + 1; omega) _
              have bx3 := (bxw.below hBF3).other (a := ⟨s + 1, k, none⟩) (show s ≠ s + 1 by omega) (.bool true)
              have hszs : s + 1 < F2.heap.size := hgs
              have hsz3 : s + 1 + 1 ≤ (F2.setCell ⟨s + 1, k, none⟩ (.bool true)).heap.size := by simp; omega
              generalize ((tk out x.nodes.length).map Value.bool)[k] = yy at hg1
              clear hst htk2 hown2 hpos hadd HM
              obtain ⟨W3, hW3⟩ : ∃ W, W = F2.setCell ⟨s + 1, k, none⟩ (.bool true) := ⟨_, rfl⟩
              rw [← hW3] at hown3 hB3 bx3 hsz3 hst'
              have HW3 := Lib.hid hW3
              clear hW3
              go_upto_region 17 with fail
              rw [← HW3.out]
              go_wp2_with (at_builtin; refine wpList_append_one rfl _ _ rfl rfl hown3 rfl hB3 (by omega) hsz3 (by omega) ?_; intro v' w4 hown4 hb4 hz4 hk4)
              have htk4 := hst'.keep (w' := w4) fun j hj => hk4 j (hst'.lt hj).2 (fun e => by
                have h1 := (hown3.lt e).1
                simp only [Value.ownBlock, Option.some.injEq] at hj
                omega)
              have bx4 := bx3.keep (w' := w4) (hk4 s bx3.lt (fun e => by have h1 := (hown3.lt e).1; omega))
              obtain ⟨q4, c4, rfl, -⟩ := hown4.rd
              go_roundw
              case rel => exact ⟨f', out ++ [(k : Int)], true, rfl, hown4, htk4, hb4, bx4, (⟨fun _ => HN.out, fun h => Bool.noConfusion h⟩ : _ ∧ _)⟩
              case measure => simp [sliceLen, boolN] <;> omega
      · obtain rfl : k = x.nodes.length := by omega
        have HL : Hid (out = OL) := by
          have HNN : nxt x.nodes out 0 x.nodes.length = none := by rw [← HK.out, Nat.sub_self]; rfl
          unfold Hid; rw [← HOF.out]; exact (ord_none HNN _).symm
        go_wp2_with fail
        go_roundw
        case rel => exact ⟨f, out, false, rfl, hown.below hbel2, htk.below hbel2, hbel.trans (hbel2.mono (by rw [HS0.out]; exact hbel.size)), bxw.below hbel2, (⟨fun h => Bool.noConfusion h, fun _ => HL.out⟩ : _ ∧ _)⟩
        case measure => simp [sliceLen, boolN]
end Go.Proofs.YtdcacmmglkcliaaGreatDoor
