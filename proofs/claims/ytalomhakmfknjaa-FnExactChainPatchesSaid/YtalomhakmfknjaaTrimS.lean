/-
  The patch with the needed nodes only: the reference's side; is it linear, how many cells has it.
-/
import Derived.Test.YtalomhakmfknjaaKeep
import Derived.Test.YtalomhakmfknjaaPatK
namespace Go.Proofs.Ytalomhakmfknjaa
open Go.ChangeShapes Go.WideShapes Go.ChangeAt Go.RowKit
set_option linter.unusedVariables false

/-- a patch behind a pointer, out of its parts -/
theorem OwnP.vpatch {B : Nat} {w : World} {v1 v2 v3 : Value} {ts : List (List Int)} {ns : List NodeD} {os : List Int} {L1 L : List Value} (h : OwnP B w v1 v2 v3 ts ns os L1 L) (inp : Int) : VPatch w (.agg #[.int .i64 inp, v1, v2, v3]) ⟨inp, ts, ns, os⟩ := (h.patch inp).1.rd
theorem pp_of {w : World} {s : Nat} {inp : Int} {v1 v2 v3 : Value} {x : PatchD} (hv : VPatch w (.agg #[.int .i64 inp, v1, v2, v3]) x) (bx : Box w s [.int .i64 inp, v1, v2, v3] 34) : PPatch w s x := by
  obtain ⟨p1, c1, p2, c2, p3, c3, e, r1, r2, r3⟩ := hv
  simp only [Value.agg.injEq, Array.mk.injEq, List.cons.injEq, and_true] at e
  obtain ⟨e0, rfl, rfl, rfl⟩ := e
  rw [e0] at bx
  exact ⟨p1, c1, p2, c2, p3, c3, bx, r1, r2, r3⟩
set_option maxHeartbeats 1600000 in
set_option maxRecDepth 100000 in
theorem l09Trim_any {g : Nat} {x : PatchD} (w : World) (h : PPatch w g x) (hf : formedB x = true) :
    Calls Try.prog 61 #[.pointer (some ⟨g, 0, none⟩)] w (RetP0 w (trimP x)) := by
  obtain ⟨r, hr⟩ : ∃ r, r = w.heap.size := ⟨_, rfl⟩
  obtain ⟨E0, hE⟩ : ∃ E, E = w.alloc (.cells #[.int .i64 0, .slice none 0 0, .slice none 0 0, .slice none 0 0] 34) := ⟨_, rfl⟩
  have hB0 : Below w.heap.size w E0 := by rw [hE]; exact (Below.refl _ _).alloc (Nat.le_refl _) _
  have br : Box E0 r zPatch 34 := by rw [hE, hr]; exact Box.newAt w _ _ rfl
  have i0 : w.heap.size ≤ r := by omega
  have hp0 := h.below hB0
  have K1 := Lib.hid (l07Needed_any E0 hp0 hf)
  have K2 : Hid (∀ (W : World) p c, Below E0.heap.size E0 W → RdI W p (need x) → Calls Try.prog 66 #[.pointer (some ⟨g, 0, none⟩), .slice p (need x).length c] W (RetP0 W (trimP x))) := fun W p c hW hr =>
    l07Keep_any W (hp0.below hW) hr (by have := need_length x; have := (formed_iff.1 hf).2.2.1; omega) need_rng (formed_small hf) (formed_src hf) (formed_outs hf)
  have hinp : (trimP x).inputs = x.inputs := rfl
  generalize trimP x = KP at K2 hinp ⊢
  generalize need x = nd at K1 K2
  have HE := Lib.hid hE
  have HR := Lib.hid hr
  clear hE hr h hp0
  go_enter Try.func61, Try.ntmps61
  go_upto_region 1 with fail
  rw [← HE.out, ← HR.out]
  go_wp2_with fail
  refine K1.out.mono ?_
  rintro e W1 ⟨u, rfl, hu, hb1⟩
  obtain ⟨uq, uc, rfl, hur⟩ := hu.rd
  have K3 := Lib.hid (K2.out W1 uq uc hb1 hur)
  clear K2
  go_wp2_with fail
  refine K3.out.mono ?_
  rintro e W2 ⟨v1, v2, v3, L1, L, rfl, hop, hb2⟩
  obtain ⟨q1, d1, e1⟩ := hop.o1.sl'
  obtain ⟨q2, d2, e2⟩ := hop.o2.sl
  obtain ⟨q3, d3, e3, -⟩ := hop.o3.rd
  subst e1 e2 e3
  have hb12 : Below E0.heap.size E0 W2 := Below.via hb1 hb2
  have bri := br.below hb12
  have hsz1 := hb1.size
  have hle : w.heap.size ≤ W1.heap.size := Nat.le_trans hB0.size hsz1
  have b0 := bri.set 0 (.int .i64 KP.inputs)
  have b1 := b0.set 1 (.slice q1 L1.length d1)
  have b2 := b1.set 2 (.slice q2 KP.nodes.length d2)
  have b3 := b2.set 3 (.slice q3 KP.outputs.length d3)
  have hret : RetP0 w KP (.returned (.agg #[.int .i64 KP.inputs, .slice q1 L1.length d1, .slice q2 KP.nodes.length d2, .slice q3 KP.outputs.length d3])) ((((W2.setCell ⟨r, 0, none⟩ (.int .i64 KP.inputs)).setCell ⟨r, 1, none⟩ (.slice q1 L1.length d1)).setCell ⟨r, 2, none⟩ (.slice q2 KP.nodes.length d2)).setCell ⟨r, 3, none⟩ (.slice q3 KP.outputs.length d3)) :=
    ⟨_, _, _, L1, L, rfl, (((((hop.setBox bri patchT 0 _).setBox b0 patchT 1 _).setBox b1 patchT 2 _).setBox b2 patchT 3 _)).mono hle,
      ((((hB0.trans (hb12.mono hB0.size)).setCell (p := ⟨r, 0, none⟩) i0 _).setCell (p := ⟨r, 1, none⟩) i0 _).setCell (p := ⟨r, 2, none⟩) i0 _).setCell (p := ⟨r, 3, none⟩) i0 _⟩
  have k0 := bri.cell 0 rfl
  have k1 := bri.cell 1 rfl
  have k2 := bri.cell 2 rfl
  have k3 := bri.cell 3 rfl
  have g0 := bri.frozen 0
  have g1 := bri.frozen 1
  have g2 := bri.frozen 2
  have g3 := bri.frozen 3
  have m0 := b3.cell 0 rfl
  have m1 := b3.cell 1 rfl
  have m2 := b3.cell 2 rfl
  have m3 := b3.cell 3 rfl
  have HRET := Lib.hid hret
  clear hret b0 b1 b2 b3 bri hop hinp
  go_wp2_with fail
  refine bodyPost_ret (v := .agg #[.int .i64 KP.inputs, .slice q1 L1.length d1, .slice q2 KP.nodes.length d2, .slice q3 KP.outputs.length d3]) (by simp [results, Try.results61, go_sem, *]) rfl ?_
  exact HRET.out
end Go.Proofs.Ytalomhakmfknjaa
