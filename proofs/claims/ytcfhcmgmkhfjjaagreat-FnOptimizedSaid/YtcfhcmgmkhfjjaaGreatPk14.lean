/-
  Several texts in one: DpO.
-/
import Derived.Test.YtcfhcmgmkhfjjaaGreatPk13
import Derived.Test.YtcfhcmgmkhfjjaaGreatPk6
namespace Go.Proofs.YtcfhcmgmkhfjjaaGreat
open Go.ChangeShapes Go.WideShapes Go.ChangeAt Go.RowKit Go.Sort
set_option linter.unusedVariables false
set_option linter.unusedSimpArgs false

/-- all that the patch has lies below A -/
structure A10 (w0 : World) (g r s : Nat) (v1 v2 v3 : Value) (L1 L : List Value) (A : Nat) : Prop where
  s : s < A
  r : r < A
  g : g < A
  p : ∀ b, PBlk v1 v2 v3 L1 L b → b < A
  w : w0.heap.size ≤ A
/-- a drawn node in its box beside the patch -/
def N10 (g m : Nat) (w0 : World) (r s : Nat) (inp : Int) (v1 v2 v3 : Value) (ts : List (List Int)) (ns : List NodeD) (os : List Int) (L1 L : List Value) (A t : Nat) (wx : World) : Prop :=
  ∃ (x : NodeD) (u : Value), Box wx t [.int .i64 x.kind, .int .i64 x.a, .int .i64 x.b, u] 55 ∧ OwnI A wx u x.src ∧ x.src.length ≤ 4 ∧ DB g m w0 wx r s inp v1 v2 v3 ts ns os L1 L
section
variable {g m m' : Nat} {w0 : World} {r s : Nat} {inp : Int} {v1 v2 v3 : Value} {ts : List (List Int)} {ns : List NodeD} {os : List Int} {L1 L : List Value} {A t : Nat} {wx w' : World}
theorem A10.side (a : A10 w0 g r s v1 v2 v3 L1 L A) (hD : DB g m w0 wx r s inp v1 v2 v3 ts ns os L1 L) {S : Nat → Prop} (ho : Off S wx w') (hS : ∀ b, S b → A ≤ b) : DB g m w0 w' r s inp v1 v2 v3 ts ns os L1 L :=
  hD.skip ho fun b hb => ⟨by have := a.w; have := hS b hb; omega, fun e => by have := a.s; have := hS b hb; omega, fun e => by have := a.r; have := hS b hb; omega, fun hp => by have := a.p b hp; have := hS b hb; omega⟩
theorem N10.src' (h : N10 g m w0 r s inp v1 v2 v3 ts ns os L1 L A t wx) : SrcAt wx g m := by
  obtain ⟨_, _, _, _, _, h4⟩ := h
  exact h4.src
theorem N10.step (h : N10 g m w0 r s inp v1 v2 v3 ts ns os L1 L A t wx) (ht : g < t) (hA : g < A) (ho : Off (· = g) wx w') (hs : SrcAt w' g m') : N10 g m' w0 r s inp v1 v2 v3 ts ns os L1 L A t w' := by
  obtain ⟨x, u, h1, h2, h3, h4⟩ := h
  exact ⟨x, u, h1.off ho (by show ¬ t = g; omega), h2.keep fun b hb => ho.block b (h2.lt hb).2 (by have := (h2.lt hb).1; show b ≠ g; omega), h3, h4.step ho hs⟩
theorem N10.mono (h : N10 g m w0 r s inp v1 v2 v3 ts ns os L1 L A t wx) (hm : m ≤ m') : N10 g m' w0 r s inp v1 v2 v3 ts ns os L1 L A t wx := by
  obtain ⟨x, u, h1, h2, h3, h4⟩ := h
  exact ⟨x, u, h1, h2, h3, h4.mono hm⟩
theorem N10.setA (h : N10 g m w0 r s inp v1 v2 v3 ts ns os L1 L A t wx) (a : A10 w0 g r s v1 v2 v3 L1 L A) (htA : A ≤ t) (n : Int) : N10 g m w0 r s inp v1 v2 v3 ts ns os L1 L A t (wx.setCell ⟨t, 1, none⟩ (.int .i64 n)) := by
  obtain ⟨x, u, h1, h2, h3, h4⟩ := h
  have n1 := h2.typD.notBoxD h1 (by decide)
  exact ⟨⟨x.kind, n, x.b, x.src⟩, u, by simpa using h1.set 1 (.int .i64 n), h2.keep fun b hb => Below.heap_setCell _ _ _ _ (fun e => n1 (by rw [hb, show b = t from e])), h3,
    a.side h4 (Off.set1 (S := (· = t)) (w := wx) (i := 1) (.int .i64 n) rfl) fun b hb => by have : b = t := hb; omega⟩
/-- the inputs are replaced by a list of their own -/
theorem N10.setSrc {y : NodeD} {u0 u : Value} {ys : List Int} (h1 : Box wx t [.int .i64 y.kind, .int .i64 y.a, .int .i64 y.b, u0] 55) (hD : DB g m w0 wx r s inp v1 v2 v3 ts ns os L1 L) (a : A10 w0 g r s v1 v2 v3 L1 L A) (htA : A ≤ t) (hu : OwnI A wx u ys) (hl : ys.length ≤ 4) :
    N10 g m w0 r s inp v1 v2 v3 ts ns os L1 L A t (wx.setCell ⟨t, 3, none⟩ u) := by
  have n1 := hu.typD.notBoxD h1 (by decide)
  exact ⟨⟨y.kind, y.a, y.b, ys⟩, u, by simpa using h1.set 3 u, hu.keep fun b hb => Below.heap_setCell _ _ _ _ (fun e => n1 (by rw [hb, show b = t from e])), hl,
    a.side hD (Off.set1 (S := (· = t)) (w := wx) (i := 3) u rfl) fun b hb => by have : b = t := hb; omega⟩
/-- one of the node's inputs is changed -/
theorem N10.put {x : NodeD} {b0 n c i : Nat} {v : Int} (h1 : Box wx t [.int .i64 x.kind, .int .i64 x.a, .int .i64 x.b, .slice (some ⟨b0, 0, none⟩) n c] 55) (hu : OwnI A wx (.slice (some ⟨b0, 0, none⟩) n c) x.src) (hl : x.src.length ≤ 4) (hD : DB g m w0 wx r s inp v1 v2 v3 ts ns os L1 L) (a : A10 w0 g r s v1 v2 v3 L1 L A) (hi : i < x.src.length) :
    N10 g m w0 r s inp v1 v2 v3 ts ns os L1 L A t (wx.setCell ⟨b0, i, none⟩ (.int .i64 v)) := by
  have hb := (hu.lt (k := b0) rfl).1
  have hnt : b0 ≠ t := fun e => hu.typD.notBoxD h1 (by decide) (by rw [e]; rfl)
  exact ⟨⟨x.kind, x.a, x.b, x.src.set i v⟩, _, h1.other (a := ⟨b0, i, none⟩) (fun e => hnt e.symm) _, (hu.storing hi).2.2.2.2.2 v, by show (x.src.set i v).length ≤ 4; rw [List.length_set]; exact hl,
    a.side hD (Off.set1 (S := (· = b0)) (w := wx) (i := i) (.int .i64 v) rfl) fun b hb' => by have : b = b0 := hb'; omega⟩
end
theorem N10.late {g m : Nat} {w0 : World} {r s : Nat} {inp : Int} {v1 v2 v3 : Value} {ts : List (List Int)} {ns : List NodeD} {os : List Int} {L1 L : List Value} {A : Nat} {W V : World} {y : NodeD} {u : Value} (hD : DB g m w0 W r s inp v1 v2 v3 ts ns os L1 L) (hu : OwnI V.heap.size W u y.src) (hA : A ≤ V.heap.size) (hW : A ≤ W.heap.size) (hl : y.src.length ≤ 4) :
    N10 g m w0 r s inp v1 v2 v3 ts ns os L1 L A W.heap.size (W.alloc (.cells #[.int .i64 y.kind, .int .i64 y.a, .int .i64 y.b, u] 55)) := by
  have hb : Below W.heap.size W (W.alloc (.cells #[.int .i64 y.kind, .int .i64 y.a, .int .i64 y.b, u] 55)) := (Below.refl _ _).alloc (Nat.le_refl _) _
  exact ⟨y, u, Box.newAt W [.int .i64 y.kind, .int .i64 y.a, .int .i64 y.b, u] _ rfl, (hu.mono hA).below hb, hl, hD.below hb⟩
theorem N10.early {g m : Nat} {w0 : World} {r s : Nat} {inp : Int} {v1 v2 v3 : Value} {ts : List (List Int)} {ns : List NodeD} {os : List Int} {L1 L : List Value} {A t : Nat} {W V : World} {y : NodeD} {u z0 z1 z2 z3 : Value} (hD : DB g m w0 W r s inp v1 v2 v3 ts ns os L1 L) (hb : Box W t [z0, z1, z2, z3] 55) (ht : A ≤ t) (hu : OwnI V.heap.size W u y.src) (hA : A ≤ V.heap.size) (a : A10 w0 g r s v1 v2 v3 L1 L A) (hl : y.src.length ≤ 4) :
    N10 g m w0 r s inp v1 v2 v3 ts ns os L1 L A t ((((W.setCell ⟨t, 0, none⟩ (.int .i64 y.kind)).setCell ⟨t, 1, none⟩ (.int .i64 y.a)).setCell ⟨t, 2, none⟩ (.int .i64 y.b)).setCell ⟨t, 3, none⟩ u) := by
  have n1 := hu.typD.notBoxD hb (by decide)
  have hoff : Off (· = t) W ((((W.setCell ⟨t, 0, none⟩ (.int .i64 y.kind)).setCell ⟨t, 1, none⟩ (.int .i64 y.a)).setCell ⟨t, 2, none⟩ (.int .i64 y.b)).setCell ⟨t, 3, none⟩ u) :=
    (((Off.set1 (S := (· = t)) (w := W) (i := 0) (.int .i64 y.kind) rfl).trans (Off.set1 (i := 1) (.int .i64 y.a) rfl)).trans (Off.set1 (i := 2) (.int .i64 y.b) rfl)).trans (Off.set1 (i := 3) u rfl)
  have b3 := (((hb.set 0 (.int .i64 y.kind)).set 1 (.int .i64 y.a)).set 2 (.int .i64 y.b)).set 3 u
  exact ⟨y, u, by simpa using b3, (hu.mono hA).keep fun b hb' => hoff.block b (hu.lt hb').2 (fun e => n1 (by rw [hb', show b = t from e])), hl, a.side hD hoff fun b hb' => by have : b = t := hb'; omega⟩
theorem rdI_blk {W : World} {k : Nat} {xs : List Int} {f : Nat × Nat} {T : TypeId} (h : W.heap[k]? = some (.cells (xs.map (Value.int .i64)).toArray T f)) (hl : xs.length ≤ 1048576) : RdI W (some ⟨k, 0, none⟩) xs := by
  refine ⟨by unfold maxLen; omega, .inr ⟨k, 0, rfl, fun i hi => ?_⟩⟩
  rw [Nat.zero_add]
  unfold World.cell?
  rw [h]
  simp [List.getElem?_map, List.getElem?_eq_getElem hi]
theorem Box.offE {w0 w w' : World} {g : Nat} {L : List Value} {T : TypeId} {S : Nat → Prop} (h : Box w0 g L T) (e : w0.heap = w.heap) (ho : Off S w w') (hS : ¬ S g) : Box w' g L T := by
  have h2 : Box w g L T := by unfold Box at h ⊢; rw [← e]; exact h
  exact h2.off ho hS
def zNd : List Value := [.int .i64 0, .int .i64 0, .int .i64 0, .slice none 0 0]
def drawK : List Int := [2, 3, 4, 5, 5, 6, 6, 9, 10, 11, 13, 15, 16, 7]
theorem drawK_rng {k : Int} (h : k ∈ drawK) : 1 ≤ k ∧ k ≤ 17 := by
  unfold drawK at h
  simp only [List.mem_cons, List.not_mem_nil, or_false] at h
  omega
theorem ar_le4 {k : Int} (h : 1 ≤ k ∧ k ≤ 17) {n : Nat} (hn : (n : Int) = kAr (k - 1).toNat) : n ≤ 4 := by
  have := kinds_of (k := k) (by simp [inB]; omega)
  have : kAr (k - 1).toNat ≤ 3 := by rcases this with h | h | h | h | h | h | h | h | h | h | h | h | h | h | h | h | h <;> rw [h] <;> decide
  omega
/-- a drawn patch -/
def DrewP (g m : Nat) (w : World) (e : Ending) (w' : World) : Prop := ∃ (x : PatchD) (v1 v2 v3 : Value) (L1 L : List Value), e = .returned (.agg #[.int .i64 x.inputs, v1, v2, v3]) ∧ OwnP w.heap.size w' v1 v2 v3 x.tables x.nodes x.outputs L1 L ∧ SrcAt w' g m ∧ Off (· = g) w w'
/-- bounds of a patch that is valid -/
structure Bt10 (ts : List (List Int)) (ns : List NodeD) (os : List Int) : Prop where
  n : 1 ≤ ns.length ∧ ns.length ≤ 25
  t : ts.length ≤ 3
  o : os.length ≤ 3
  s : ∀ nd ∈ ns, nd.src.length ≤ 4
set_option maxHeartbeats 4000000 in
set_option maxRecDepth 100000 in
theorem l10Draw_any {g m : Nat} (w : World) (h : SrcAt w g m) (hm : m + 100000 ≤ 1099511627776) :
    Calls Tryz.prog 17 #[.pointer (some ⟨g, 0, none⟩)] w (DrewP g (m + 60000) w) := by
  have hg := h.lt
  obtain ⟨r, hr⟩ : ∃ r, r = w.heap.size := ⟨_, rfl⟩
  obtain ⟨E, hE⟩ : ∃ E, E = w.alloc (.cells zPatch.toArray 28) := ⟨_, rfl⟩
  have hB0 : Below w.heap.size w E := by rw [hE]; exact (Below.refl _ _).alloc (Nat.le_refl _) _
  have q0 : Box E r zPatch 28 := by rw [hE, hr]; exact Box.newAt w zPatch _ rfl
  have BT := Lib.hid (l07Bent_any E (h.below hB0) (by omega))
  have HE := Lib.hid hE
  have HR := Lib.hid hr
  have HB := Lib.hid hB0
  have hrw : w.heap.size ≤ r := by omega
  clear hE hr h hB0
  go_enter Tryz.func17, Tryz.ntmps17
  go_upto_region 1 with fail
  rw [← HE.out, ← HR.out]
  go_upto_region 2 with (first | (go_at_call 32; refine BT.out.mono ?_; rintro e W2 ⟨x, v1, v2, v3, L1, L, rfl, ho2, hs2, ho, hbt⟩; obtain ⟨p1, c1, rfl⟩ := ho2.o1.sl'; obtain ⟨p2, c2, rfl⟩ := ho2.o2.sl; obtain ⟨p3, c3, rfl, -⟩ := ho2.o3.rd) | fail)
  obtain ⟨s, hs⟩ : ∃ s, s = W2.heap.size := ⟨_, rfl⟩
  obtain ⟨W3, hW3⟩ : ∃ W, W = W2.alloc (.cells #[.int .i64 x.inputs, .slice p1 L1.length c1, .slice p2 x.nodes.length c2, .slice p3 x.outputs.length c3] 28) := ⟨_, rfl⟩
  have hb3 : Below W2.heap.size W2 W3 := by rw [hW3]; exact (Below.refl _ _).alloc (Nat.le_refl _) _
  have b3 : Box W3 s [.int .i64 x.inputs, .slice p1 L1.length c1, .slice p2 x.nodes.length c2, .slice p3 x.outputs.length c3] 28 := by rw [hW3]; exact Box.newAt W2 [.int .i64 x.inputs, .slice p1 L1.length c1, .slice p2 x.nodes.length c2, .slice p3 x.outputs.length c3] _ hs
  rw [← hW3, ← hs]
  have hEs := HB.out.size
  have hrl : r < E.heap.size := q0.lt
  have hD : DB g (m + 20010) w W3 r s x.inputs (.slice p1 L1.length c1) (.slice p2 x.nodes.length c2) (.slice p3 x.outputs.length c3) x.tables x.nodes x.outputs L1 L :=
    ⟨(ho2.mono hEs).below hb3, b3, (q0.off ho (by show ¬ r = g; omega)).below hb3, ((Off.of_below (· = g) HB.out).trans ho).afterD (hb3.mono (Nat.le_trans hEs ho.size)), (hs2.below hb3).mono (by omega), hrw, by have := ho.size; omega, by have := ho.size; omega, hg⟩
  have hPP : PPatch W3 s x := pp_of ((hD.own.patch x.inputs).1.rd) b3
  clear hW3 hs hb3 b3 ho2 hs2 ho q0 BT
  have OK := Lib.hid (l07Ok_any W3 hPP)
  clear hPP
  have FIN : Hid (∀ (W : World) (m' : Nat) (inp : Int) (v1 v2 v3 : Value) (ts : List (List Int)) (ns : List NodeD) (os : List Int) (L1 L : List Value), DB g m' w W r s inp v1 v2 v3 ts ns os L1 L → m' ≤ m + 60000 → DrewP g (m + 60000) w (.returned (.agg #[.int .i64 inp, v1, v2, v3])) ((((W.setCell ⟨r, 0, none⟩ (.int .i64 inp)).setCell ⟨r, 1, none⟩ v1).setCell ⟨r, 2, none⟩ v2).setCell ⟨r, 3, none⟩ v3)) := by
    intro W m' inp v1 v2 v3 ts ns os L1 L hD hm'
    have hrw := hD.hr
    have b0 := hD.res.set 0 (.int .i64 inp)
    have b1 := b0.set 1 v1
    have b2 := b1.set 2 v2
    exact ⟨⟨inp, ts, ns, os⟩, v1, v2, v3, L1, L, rfl, ((((hD.own.setBox hD.res patchT 0 (.int .i64 inp)).setBox b0 patchT 1 v1).setBox b1 patchT 2 v2).setBox b2 patchT 3 v3),
      (hD.src.stay (B := w.heap.size) hD.hg fun q h1 _ => (Below.heap_setCell _ _ _ _ (show q ≠ r by omega)).trans ((Below.heap_setCell _ _ _ _ (show q ≠ r by omega)).trans ((Below.heap_setCell _ _ _ _ (show q ≠ r by omega)).trans (Below.heap_setCell _ _ _ _ (show q ≠ r by omega))))).mono hm',
      (((hD.off.setD (i := 0) hrw (.int .i64 inp)).setD (i := 1) hrw v1).setD (i := 2) hrw v2).setD (i := 3) hrw v3⟩
  have hbt10 : Bt10 x.tables x.nodes x.outputs := ⟨hbt.n, hbt.t, hbt.o, hbt.s⟩
  clear hbt
  generalize x.inputs = inp at hD
  go_upto_if 12 with (first | (go_at_call 20; refine OK.out.mono ?_; rintro e W4 ⟨rfl, hb4⟩; have hD4 := hD.below hb4) | fail)
  clear OK hD hb4
  cases hok : okB x
  · clear hbt10
    have u0 := hD4.res.cell 0 rfl
    have u1 := hD4.res.cell 1 rfl
    have u2 := hD4.res.cell 2 rfl
    have u3 := hD4.res.cell 3 rfl
    have f0 := hD4.res.frozen 0
    have f1 := hD4.res.frozen 1
    have f2 := hD4.res.frozen 2
    have f3 := hD4.res.frozen 3
    have x0 := hD4.out.cell 0 rfl
    have x1 := hD4.out.cell 1 rfl
    have x2 := hD4.out.cell 2 rfl
    have x3 := hD4.out.cell 3 rfl
    have hrl := hD4.res.lt
    have FN := FIN.out W4 _ inp (.slice p1 L1.length c1) (.slice p2 x.nodes.length c2) (.slice p3 x.outputs.length c3) x.tables x.nodes x.outputs L1 L hD4 (by omega)
    have k3 := (((hD4.res.set 0 (.int .i64 inp)).set 1 (.slice p1 L1.length c1)).set 2 (.slice p2 x.nodes.length c2)).set 3 (.slice p3 x.outputs.length c3)
    obtain ⟨W', hW'⟩ : ∃ W', W' = (((W4.setCell ⟨r, 0, none⟩ (.int .i64 inp)).setCell ⟨r, 1, none⟩ (.slice p1 L1.length c1)).setCell ⟨r, 2, none⟩ (.slice p2 x.nodes.length c2)).setCell ⟨r, 3, none⟩ (.slice p3 x.outputs.length c3) := ⟨_, rfl⟩
    rw [← hW'] at k3 FN
    have k0' := k3.cell 0 rfl
    have k1' := k3.cell 1 rfl
    have k2' := k3.cell 2 rfl
    have k3' := k3.cell 3 rfl
    have HFN := Lib.hid FN
    have HWW := Lib.hid hW'
    clear hW' FN k3 hD4
    go_wp2_with fail
    rw [← HWW.out]
    refine bodyPost_ret (v := .agg #[.int .i64 inp, .slice p1 L1.length c1, .slice p2 x.nodes.length c2, .slice p3 x.outputs.length c3]) (by simp [results, Tryz.results17, go_sem, *]) rfl ?_
    exact HFN.out
  clear hok
  generalize x.tables = ts at hD4 hbt10
  generalize x.outputs = os at hD4 hbt10
  generalize x.nodes = ns at hD4 hbt10
  have PK := Lib.hid (pick_any 6 W4 hD4.src (by omega) (by omega))
  go_upto_region 5 with (first | (go_at_call 33; refine PK.out.mono ?_; rintro e W5 ⟨j0, hj0, rfl, hs5, ho5⟩; obtain ⟨hj1, hj2⟩ := pickP_pos hj0 (by omega); have hD5 := hD4.step ho5 hs5) | fail)
  clear PK hj0 hs5 ho5 hD4
  have HL1 : Hid (L1.length ≤ 3) := by have h1 := hD5.own.s1.1; have h2 := hbt10.t; unfold Hid; omega
  go_wp2_with fail
  go_loopw [4] (fun s4 wr => ∃ (j : Nat) (ns : List NodeD) (v2 : Value) (L : List Value), s4 = .int .i64 (j : Int) ∧ j ≤ 5 ∧ Bt10 ts ns os ∧ DB g (m + 20100 + 1000 * (5 - j)) w wr r s inp (.slice p1 L1.length c1) v2 (.slice p3 os.length c3) ts ns os L1 L) (fun i _ => (intOf i).toNat)
  case atStart => exact ⟨j0.toNat, ns, _, L, by rw [Int.toNat_of_nonneg hj1], by omega, hbt10, hD5.mono (by omega)⟩
  case round =>
    clear hD5 hbt10
    obtain ⟨j, ns, v2, L, rfl, hj5, hbt, hD⟩ := hrel
    obtain ⟨W0, rfl⟩ : ∃ W : World, W = wr := ⟨_, rfl⟩
    obtain ⟨p2, c2, rfl⟩ := hD.own.o2.sl
    have hbn := hbt.n
    have z2 := hD.out.cell 2 rfl
    have z1 := hD.out.cell 1 rfl
    by_cases hgo : 0 < j ∧ ns.length < 24
    · obtain ⟨hj0', hn24⟩ := hgo
      have HA : Hid (A10 w g r s (.slice p1 L1.length c1) (.slice p2 ns.length c2) (.slice p3 os.length c3) L1 L W0.heap.size) := ⟨hD.out.lt, hD.res.lt, hD.src.lt, fun b hb => (hD.own.pblk hb).2, hD.off.size⟩
      have hgW := hD.src.lt
      have hsl := hD.out.lt
      have CKO : Hid (∀ W, Off (· = g) W0 W → W.cell? ⟨s, 1, none⟩ = some (.slice p1 L1.length c1)) := fun W hW => (hD.out.off hW (by have := hD.hs; have := hD.hg; show ¬ s = g; omega)).cell 1 rfl
      go_upto_region 8 with fail
      have AM : Hid (∀ W k, Below W0.heap.size W0 W → W0.heap.size ≤ k → RdI W (some ⟨k, 0, none⟩) drawK → Calls Tryz.prog 35 #[.pointer (some ⟨g, 0, none⟩), .slice (some ⟨k, 0, none⟩) 14 14] W (Draws W g (m + 20100 + 1000 * (5 - j) + 2) (fun k => k ∈ drawK))) := fun W k hW hk hr => by
        exact among_any (c := 14) W (hD.src.below hW) hr (fun b o hb => by have := ((Addr.mk.injEq _ _ _ _ _ _).mp (Option.some.inj hb)).1; omega) (by decide) (by decide) (by omega)
      have DX : Hid (∀ (V W : World) (kd : Int), SrcAt V g (m + 20100 + 1000 * (5 - j) + 2) → Below V.heap.size V W → kd ∈ drawK → Calls Tryz.prog 34 #[.pointer (some ⟨g, 0, none⟩), .int .i64 kd, .int .i64 (L1.length : Int), .int .i64 (ns.length : Int)] W (DrewX g (m + 20100 + 1000 * (5 - j) + 2 + 200) kd W)) := fun V W kd hs hV hk => l06DrawX_any kd _ _ W (hs.below hV) (drawK_rng hk) (by have := HL1.out; omega) (by omega) (by omega)
      go_cut [6] (fun s6 wx => ∃ t, s6 = .pointer (some ⟨t, 0, none⟩) ∧ W0.heap.size ≤ t ∧ N10 g (m + 20100 + 1000 * (5 - j) + 202) w r s inp (.slice p1 L1.length c1) (.slice p2 ns.length c2) (.slice p3 os.length c3) ts ns os L1 L W0.heap.size t wx)
      case first =>
        -- BEGIN8
        go_wp2_with fail
        go_region_law (first | (go_simp; go_at_call 35; refine (AM.out _ _ (by (repeat (first | exact Below.refl _ _ | assumption | refine Below.setCell ?_ (by first | exact Nat.le_refl _ | omega | (simp; done) | (simp; omega)) _ | refine Below.alloc ?_ (by first | exact Nat.le_refl _ | omega | (simp; done) | (simp; omega)) _ | refine below_drewN ?_ _))) (by first | exact Nat.le_refl _ | exact Nat.le_succ _ | (rw [World.size_alloc]; exact Nat.le_succ _)) (by first | exact (rdI_lit W0 drawK (by decide)).below (by (repeat (first | exact Below.refl _ _ | assumption | refine Below.setCell ?_ (by first | exact Nat.le_refl _ | omega | (simp; done) | (simp; omega)) _ | refine Below.alloc ?_ (by first | exact Nat.le_refl _ | omega | (simp; done) | (simp; omega)) _ | refine below_drewN ?_ _))) | exact (rdI_lit (W0.alloc (.cells zNd.toArray 55)) drawK (by decide)).below (by (repeat (first | exact Below.refl _ _ | assumption | refine Below.setCell ?_ (by first | exact Nat.le_refl _ | omega | (simp; done) | (simp; omega)) _ | refine Below.alloc ?_ (by first | exact Nat.le_refl _ | omega | (simp; done) | (simp; omega)) _ | refine below_drewN ?_ _))) | (have hq := rdI_lit (W0.alloc (.cells zNd.toArray 55)) drawK (by decide); rw [World.size_alloc] at hq; exact hq.below (by (repeat (first | exact Below.refl _ _ | assumption | refine Below.setCell ?_ (by first | exact Nat.le_refl _ | omega | (simp; done) | (simp; omega)) _ | refine Below.alloc ?_ (by first | exact Nat.le_refl _ | omega | (simp; done) | (simp; omega)) _ | refine below_drewN ?_ _)))))).mono ?_; rintro e Wp ⟨kd, hkd, rfl, hsp, hop⟩; have hcp : Off (· = g) W0 Wp := (Off.of_below _ (by (repeat (first | exact Below.refl _ _ | assumption | refine Below.setCell ?_ (by first | exact Nat.le_refl _ | omega | (simp; done) | (simp; omega)) _ | refine Below.alloc ?_ (by first | exact Nat.le_refl _ | omega | (simp; done) | (simp; omega)) _ | refine below_drewN ?_ _)))).trans hop; have hgp := hcp.size; have hslp : s < Wp.heap.size := (by omega); have z1p := CKO.out _ hcp; (first | (have bq : Box Wp W0.heap.size zNd 55 := Box.offE (S := (· = g)) ((Box.newAt W0 zNd _ rfl).alloc _) (by rfl) hop (by show ¬ W0.heap.size = g; omega); have hqB : W0.heap.size ≤ W0.heap.size := Nat.le_refl _) | (have bq : Box Wp (W0.heap.size + 1) zNd 55 := Box.offE (S := (· = g)) (Box.newAt (W0.alloc (.cells (drawK.map (Value.int .i64)).toArray 2)) zNd _ (by rw [World.size_alloc])) (by rfl) hop (by show ¬ W0.heap.size + 1 = g; omega); have hqB : W0.heap.size ≤ W0.heap.size + 1 := Nat.le_succ _) | skip); clear hop) | (go_simp; go_at_call 34; refine (DX.out Wp _ kd hsp (by (repeat (first | exact Below.refl _ _ | assumption | refine Below.setCell ?_ (by first | exact Nat.le_refl _ | omega | (simp; done) | (simp; omega)) _ | refine Below.alloc ?_ (by first | exact Nat.le_refl _ | omega | (simp; done) | (simp; omega)) _ | refine below_drewN ?_ _))) hkd).mono ?_; rintro e W4' ⟨y, uy, rfl, hyk, hyl, hoy, hs4, ho4⟩; have HYK := Lib.hid hyk; have HYL := Lib.hid hyl; clear hyk hyl; obtain ⟨py, cy, rfl, -⟩ := hoy.rd; have hc4 : Off (· = g) Wp W4' := (Off.of_below _ (by (repeat (first | exact Below.refl _ _ | assumption | refine Below.setCell ?_ (by first | exact Nat.le_refl _ | omega | (simp; done) | (simp; omega)) _ | refine Below.alloc ?_ (by first | exact Nat.le_refl _ | omega | (simp; done) | (simp; omega)) _ | refine below_drewN ?_ _)))).trans ho4; have hD4 := hD.step (hcp.trans hc4) hs4; have hg4 := hc4.size; (first | (have bq : Box W4' Wp.heap.size zNd 55 := Box.offE (S := (· = g)) (Box.newAt Wp zNd _ rfl) (by rfl) ho4 (by show ¬ Wp.heap.size = g; omega); have hqB : W0.heap.size ≤ Wp.heap.size := hgp) | (have bq := bq.off hc4 (by first | (show ¬ W0.heap.size = g; omega) | (show ¬ W0.heap.size + 1 = g; omega))) | skip); clear ho4; (try (have tq0 := bq.cell 0 rfl; have fq0 := bq.frozen 0; have tq1 := bq.cell 1 rfl; have fq1 := bq.frozen 1; have tq2 := bq.cell 2 rfl; have fq2 := bq.frozen 2; have tq3 := bq.cell 3 rfl; have fq3 := bq.frozen 3; have lq := bq.lt))) | fail)
        all_goals
          go_wp2_with fail
          go_meet
          first
            | (refine ⟨_, rfl, hqB, N10.early hD4 bq hqB hoy ?_ HA.out (ar_le4 (drawK_rng hkd) HYL.out)⟩; first | omega | (simp; omega))
            | (refine ⟨_, rfl, ?_, N10.late hD4 hoy ?_ ?_ (ar_le4 (drawK_rng hkd) HYL.out)⟩ <;> first | omega | (simp; omega))
        -- END8
      case rest =>
      obtain ⟨t, rfl, htA, hN⟩ := hcut
      obtain ⟨Wa, rfl⟩ : ∃ W : World, W = wc := ⟨_, rfl⟩
      clear AM DX z2 z1 hD CKO
      have hgA : g < W0.heap.size := hgW
      have hgt : g < t := by omega
      have HTA := Lib.hid htA
      obtain ⟨xa, ua, ba, -, -, hDa⟩ := id hN
      have y0 := ba.cell 0 rfl
      have z1 := hDa.out.cell 1 rfl
      generalize xa.kind = ka at y0
      clear ba
      go_upto_region 9 with fail
      go_cut [46] (fun s46 wx => ∃ b, s46 = .bool b ∧ wx = Wa)
      case first =>
        cases e1 : (ka == 13)
        · go_wp2_with fail
          go_meet
          exact ⟨_, rfl, by first | rfl | trivial⟩
        · go_wp2_with fail
          go_meet
          exact ⟨_, rfl, by first | rfl | trivial⟩
      case rest =>
      obtain ⟨b46, rfl, hwx⟩ := hcut
      subst hwx
      obtain ⟨Wb, rfl⟩ : ∃ W : World, W = wc := ⟨_, rfl⟩
      clear y0 z1 hDa
      go_upto_if 46 with fail
      rename_i KK hKK
      go_cut [] (fun wx => wx = Wb)
      case first =>
        cases b46
        · go_wp2_with fail
          go_meet
          first | rfl | trivial
        · obtain ⟨xb, ub, -, -, -, hDb⟩ := id hN
          go_wp2_with fail
          go_roundw
          case rel => exact ⟨j - 1, ns, _, L, (by show Value.int .i64 _ = Value.int .i64 _; congr 1; omega), by omega, hbt, hDb.mono (by omega)⟩
          case measure => simp [intOf] <;> omega
      case rest =>
      subst hcut
      obtain ⟨Wb, rfl⟩ : ∃ W : World, W = wc := ⟨_, rfl⟩
      refine hKK _ _ ?_
      clear hKK KK
      apply wp_seq_k
      intro _ _
      go_cut [] (fun wx => N10 g (m + 20100 + 1000 * (5 - j) + 800) w r s inp (.slice p1 L1.length c1) (.slice p2 ns.length c2) (.slice p3 os.length c3) ts ns os L1 L W0.heap.size t wx)
      case first =>
        have PK6 := Lib.hid (pick_any 6 Wb hN.src' (by omega) (by omega))
        go_upto_region 11 with (first | (go_at_call 33; refine PK6.out.mono ?_; rintro e Wc ⟨c, -, rfl, hsc, hoc⟩; have hN1 := hN.step hgt hgA hoc hsc) | fail)
        clear PK6 hsc hoc hN
        by_cases hc0 : c = 0
        · subst hc0
          obtain ⟨xb, ub, bb, -, -, -⟩ := id hN1
          have y0 := bb.cell 0 rfl
          have PK3 := Lib.hid (pick_any 3 Wc hN1.src' (by omega) (by omega))
          generalize xb.kind = kb at y0
          clear bb
          cases e1 : (kb == 5) <;> cases e2 : (kb == 2)
          all_goals
            go_wp2_with (first | (go_at_call 33; refine PK3.out.mono ?_; rintro e Wd ⟨y, -, rfl, hsd, hod⟩; have hN2 := hN1.step hgt hgA hod hsd; obtain ⟨xd, ud, bd, -⟩ := id hN2; have t1 := bd.cell 1 rfl; have f1 := bd.frozen 1; have l1 := bd.lt; have hN3 := hN2.setA HA.out HTA.out y) | fail)
            go_meet
            first
              | exact hN1.mono (by omega)
              | exact hN3.mono (by omega)
        by_cases hc1 : c = 1
        · subst hc1
          obtain ⟨xb, ub, bb, hub, hlb, hDb⟩ := id hN1
          obtain ⟨qu, cu, rfl, -⟩ := hub.rd
          have y3 := bb.cell 3 rfl
          by_cases hl0 : 0 < xb.src.length
          · rcases hub.cases with ⟨-, h00⟩ | ⟨b0, cu3, e3, -, -, -, -⟩
            · rw [h00] at hl0; simp at hl0
            obtain ⟨rfl, -, -⟩ := (Value.slice.injEq _ _ _ _ _ _).mp e3
            clear e3
            obtain ⟨-, hB0, hB0l, hc0', hf0', -⟩ := hub.storing hl0
            have hNp := N10.put (v := (ns.length : Int) - 1) bb hub hlb hDb HA.out hl0
            have HNP := Lib.hid hNp
            clear hNp hub bb hDb
            go_wp2_with fail
            go_meet
            exact HNP.out.mono (by omega)
          · go_wp2_with fail
            go_meet
            exact hN1.mono (by omega)
        by_cases hc2 : c = 2
        · subst hc2
          obtain ⟨xb, ub, bb, hub, hlb, hDb⟩ := id hN1
          obtain ⟨g2, cap2, e2⟩ : ∃ g2 cap2, (Value.slice p2 ns.length c2) = .slice (some ⟨g2, 0, none⟩) ns.length cap2 := by
            rcases hDb.own.o2.cases with ⟨-, h0, -⟩ | ⟨g2, cap2, e, hB, hlt, _, hc⟩
            · exfalso; rw [h0] at hbn; simp at hbn
            · exact ⟨g2, cap2, e⟩
          obtain ⟨rfl, -, rfl⟩ := (Value.slice.injEq _ _ _ _ _ _).mp e2
          clear e2
          have hbd := belowDrewD Wc
          have CK : Hid (∀ W, Off (· = g) Wc W → W.cell? ⟨s, 2, none⟩ = some (.slice (some ⟨g2, 0, none⟩) ns.length c2)) := fun W hW => (hDb.out.off hW (by have := hDb.hs; have := hDb.hg; show ¬ s = g; omega)).cell 2 rfl
          have PKn := Lib.hid (pick_any (ns.length : Int) Wc.drew (hDb.src.below hbd) (by omega) (by omega))
          go_upto_region 18 with fail
          refine wp_region_plan (fun W => W.cell? ⟨s, 2, none⟩ = some (.slice (some ⟨g2, 0, none⟩) ns.length c2)) 7 [(0, 0), (1, 1), (2, 0), (3, 0), (4, 2), (5, 0), (6, 2), (7, 3)] (by kernel_rfl) (by kernel_rfl) (CK.out _ (Off.of_below _ hbd)) ?_
          repeat ((first | refine wpPlan_take (v := ?_) rfl (by rfl) (by (intro w hSw; clear hSw; go_simp; try with_reducible rfl)) (fun _ _ _ h => h) ?_ | refine wpPlan_load (v := ?_) rfl (by rfl) (by (intro w hSw; (try dsimp only at hSw); go_simp; try with_reducible rfl)) (fun _ _ _ h => h) ?_); try simp only [List.getElem_toArray, List.getElem_cons_succ, List.getElem_cons_zero, Act.put, List.setIfInBounds_toArray, List.set_cons_zero, List.set_cons_succ])
          refine wpPlan_call rfl (by rfl) (fun K hK => ?_)
          go_simp
          refine PKn.out.mono ?_; rintro e W8 ⟨y, hy, rfl, hs8, ho8⟩; obtain ⟨hy1, hy2⟩ := pickP_pos hy (by omega); have ho8' : Off (· = g) Wc W8 := (Off.of_below _ hbd).trans ho8; have hN8 := hN1.step hgt hgA ho8' hs8
          refine hK _ _ (CK.out _ ho8') ?_
          clear hK K
          try simp only [Act.put, List.setIfInBounds_toArray, List.set_cons_zero, List.set_cons_succ]
          obtain ⟨kn, rfl⟩ := Int.eq_ofNat_of_zero_le hy1
          have hkn : kn < ns.length := by omega
          repeat ((first | refine wpPlan_take (v := ?_) rfl (by rfl) (by (intro w hSw; clear hSw; go_simp; try with_reducible rfl)) (fun _ _ _ h => h) ?_ | refine wpPlan_load (v := ?_) rfl (by rfl) (by (intro w hSw; (try dsimp only at hSw); go_simp; try with_reducible rfl)) (fun _ _ _ h => h) ?_); try simp only [List.getElem_toArray, List.getElem_cons_succ, List.getElem_cons_zero, Act.put, List.setIfInBounds_toArray, List.set_cons_zero, List.set_cons_succ])
          obtain ⟨x8, u8, b8, hu8, hl8, hD8⟩ := id hN8
          have hkL : kn < L.length := by rw [hD8.own.o2.1]; exact hkn
          obtain ⟨n0, n1, n2, n3⟩ : W8.cell? ⟨g2, kn * 4, none⟩ = some (.int .i64 ns[kn].kind) ∧ W8.cell? ⟨g2, kn * 4 + 1, none⟩ = some (.int .i64 ns[kn].a) ∧ W8.cell? ⟨g2, kn * 4 + 2, none⟩ = some (.int .i64 ns[kn].b) ∧ W8.cell? ⟨g2, kn * 4 + 3, none⟩ = some L[kn] := by
            rcases hD8.own.o2.cases with ⟨h00, -⟩ | ⟨g3, cap3, e, -, -, -, hc⟩
            · cases h00
            · obtain ⟨e3, -, -⟩ := (Value.slice.injEq _ _ _ _ _ _).mp e
              simp only [Option.some.injEq, Addr.mk.injEq, and_true] at e3
              rw [e3]; exact hc kn hkn hkL
          obtain ⟨hLk, ou⟩ := hD8.own.s2.at_ (i := kn) (by rw [List.length_map]; exact hkn)
          rw [List.getElem_map] at ou
          have hsl4 := hbt.s _ (List.getElem_mem hkn)
          obtain ⟨qk, ck, ek, rk⟩ := ou.rd
          rw [ek] at n3
          generalize ns[kn] = nk at n0 n1 n2 n3 ou hsl4 rk
          have t0 := b8.cell 0 rfl
          have t1 := b8.cell 1 rfl
          have t2 := b8.cell 2 rfl
          have t3 := b8.cell 3 rfl
          have f0 := b8.frozen 0
          have f1 := b8.frozen 1
          have f2 := b8.frozen 2
          have f3 := b8.frozen 3
          have l8 := b8.lt
          have b9 : Box ((((W8.setCell ⟨t, 0, none⟩ (.int .i64 nk.kind)).setCell ⟨t, 1, none⟩ (.int .i64 nk.a)).setCell ⟨t, 2, none⟩ (.int .i64 nk.b)).setCell ⟨t, 3, none⟩ (.slice qk nk.src.length ck)) t [.int .i64 nk.kind, .int .i64 nk.a, .int .i64 nk.b, .slice qk nk.src.length ck] 55 := by
            have := (((b8.set 0 (.int .i64 nk.kind)).set 1 (.int .i64 nk.a)).set 2 (.int .i64 nk.b)).set 3 (.slice qk nk.src.length ck)
            simpa using this
          have hoff : Off (· = t) W8 ((((W8.setCell ⟨t, 0, none⟩ (.int .i64 nk.kind)).setCell ⟨t, 1, none⟩ (.int .i64 nk.a)).setCell ⟨t, 2, none⟩ (.int .i64 nk.b)).setCell ⟨t, 3, none⟩ (.slice qk nk.src.length ck)) := (((Off.set1 (S := (· = t)) (w := W8) (i := 0) (.int .i64 nk.kind) rfl).trans (Off.set1 (i := 1) (.int .i64 nk.a) rfl)).trans (Off.set1 (i := 2) (.int .i64 nk.b) rfl)).trans (Off.set1 (i := 3) (.slice qk nk.src.length ck) rfl)
          have hD9 := HA.out.side hD8 hoff fun b hb => by have : b = t := hb; have := HTA.out; omega
          have rk9 : RdI ((((W8.setCell ⟨t, 0, none⟩ (.int .i64 nk.kind)).setCell ⟨t, 1, none⟩ (.int .i64 nk.a)).setCell ⟨t, 2, none⟩ (.int .i64 nk.b)).setCell ⟨t, 3, none⟩ (.slice qk nk.src.length ck)) qk nk.src := rk.keep (fun b o e hb => hoff.block b hb (fun e' => by
            have e'' : b = t := e'
            have hbk : PBlk (.slice p1 L1.length c1) (.slice (some ⟨g2, 0, none⟩) ns.length c2) (.slice p3 os.length c3) L1 L b := .inr (.inr (blk_append.2 (.inr (blk_append.2 (.inl ⟨L[kn], List.getElem_mem hkL, by rw [ek, e]; rfl⟩)))))
            have := HA.out.p b hbk
            have := HTA.out
            omega))
          obtain ⟨W9, hW9⟩ : ∃ W, W = (((W8.setCell ⟨t, 0, none⟩ (.int .i64 nk.kind)).setCell ⟨t, 1, none⟩ (.int .i64 nk.a)).setCell ⟨t, 2, none⟩ (.int .i64 nk.b)).setCell ⟨t, 3, none⟩ (.slice qk nk.src.length ck) := ⟨_, rfl⟩
          rw [← hW9] at b9 hD9 rk9
          have HW9 := Lib.hid hW9
          have HB9 := Lib.hid b9
          have HD9 := Lib.hid hD9
          have y3 := b9.cell 3 rfl
          have l9 := b9.lt
          have OW := Lib.hid (l00Own_any (c := ck) W9 rk9 (by omega))
          clear hW9 b9 hD9 rk9 hoff hN8 hu8 hD8 ek rk hy
          refine wpPlan_call rfl (by rfl) (fun K hK => ?_)
          go_simp
          skip
          refine hK _ _ (CK.out _ ho8') ?_
          clear hK K
          try simp only [Act.put, List.setIfInBounds_toArray, List.set_cons_zero, List.set_cons_succ]
          refine wpPlan_store rfl (by rfl) (fun K hK => ?_)
          go_simp
          refine hK _ _ ?_
          clear hK K
          try simp only [Act.put, List.setIfInBounds_toArray, List.set_cons_zero, List.set_cons_succ]
          rw [← HW9.out]
          refine wpPlan_nil ?_
          clear n0 n1 n2 n3 t0 t1 t2 t3 f0 f1 f2 f3 b8
          go_wp2_with (first | (go_at_call 36; refine OW.out.mono ?_; rintro e W10 ⟨v10, rfl, o10, hb10⟩; obtain ⟨q10, c10, rfl, -⟩ := o10.rd; have b10 := HB9.out.below hb10; have t3 := b10.cell 3 rfl; have f3 := b10.frozen 3; have l10 := b10.lt) | fail)
          go_meet
          exact (N10.setSrc b10 (HD9.out.below hb10) HA.out HTA.out (o10.mono (by have := HTA.out; omega)) hsl4).mono (by omega)
        by_cases hc3 : c = 3
        · subst hc3
          go_wp2_with fail
          go_loopw [7] (fun s7 wr => ∃ k : Nat, 1 ≤ k ∧ k ≤ 5 ∧ s7 = .int .i64 (k : Int) ∧ N10 g (m + 20100 + 1000 * (5 - j) + 204) w r s inp (.slice p1 L1.length c1) (.slice p2 ns.length c2) (.slice p3 os.length c3) ts ns os L1 L W0.heap.size t wr) (fun i _ => 6 - (intOf i).toNat)
          case atStart => exact ⟨1, by omega, by omega, rfl, hN1.mono (by omega)⟩
          case round =>
            obtain ⟨k, hk1, hk5, rfl, hNk⟩ := hrel
            obtain ⟨Wk, rfl⟩ : ∃ W : World, W = wr := ⟨_, rfl⟩
            clear hN1
            have hbd := belowDrewD Wk
            have hNd := hNk.step hgt hgA (Off.of_below _ hbd) (hNk.src'.below hbd)
            obtain ⟨xb, ub, bb, hub, hlb, hDb⟩ := id hNd
            obtain ⟨qu, cu, rfl, -⟩ := hub.rd
            have y3 := bb.cell 3 rfl
            have y3' : Wk.cell? ⟨t, 3, none⟩ = some (.slice qu xb.src.length cu) := y3
            by_cases hkl : k < xb.src.length
            · rcases hub.cases with ⟨-, h00⟩ | ⟨b0, cu3, e3, -, -, -, -⟩
              · rw [h00] at hkl; simp at hkl
              obtain ⟨rfl, -, -⟩ := (Value.slice.injEq _ _ _ _ _ _).mp e3
              clear e3
              have hl0 : 0 < xb.src.length := by omega
              obtain ⟨-, hB0, hB0l, hck, hfk, -⟩ := hub.storing hkl
              obtain ⟨-, -, -, hc0', -, -⟩ := hub.storing (k := 0) (by omega)
              generalize xb.src[0] = v0 at hc0'
              generalize xb.src[k] = vk at hck
              have hNp := N10.put (v := v0) bb hub hlb hDb HA.out hkl
              have HNP := Lib.hid hNp
              clear hNp hub bb hDb
              go_upto_region 24 with fail
              refine wp_region_plan (fun W => W.cell? ⟨t, 3, none⟩ = some (.slice (some ⟨b0, 0, none⟩) xb.src.length cu) ∧ W.cell? ⟨b0, 0, none⟩ = some (.int .i64 v0)) 8 [(0, 0), (1, 1), (2, 0), (3, 0), (4, 1), (5, 0), (6, 1), (7, 0), (8, 3)] (by kernel_rfl) (by kernel_rfl) ⟨y3, hc0'⟩ ?_
              repeat ((first | refine wpPlan_take (v := ?_) rfl (by rfl) (by (intro w hSw; clear hSw; go_simp; try with_reducible rfl)) (fun _ _ _ h => h) ?_ | refine wpPlan_load (v := ?_) rfl (by rfl) (by (intro w hSw; (try dsimp only at hSw); go_simp; try with_reducible rfl)) (fun _ _ _ h => h) ?_); try simp only [List.getElem_toArray, List.getElem_cons_succ, List.getElem_cons_zero, Act.put, List.setIfInBounds_toArray, List.set_cons_zero, List.set_cons_succ])
              refine wpPlan_store rfl (by rfl) (fun K hK => ?_)
              go_simp
              refine hK _ _ ?_
              clear hK K
              try simp only [Act.put, List.setIfInBounds_toArray, List.set_cons_zero, List.set_cons_succ]
              refine wpPlan_nil ?_
              go_wp2_with fail
              go_roundw
              case rel => exact ⟨k + 1, by omega, by omega, by go_num, HNP.out⟩
              case measure => simp [intOf] <;> omega
            · go_wp2_with fail
              go_meet
              exact hNk.mono (by omega)
        go_wp2_with fail
        go_meet
        exact hN1.mono (by omega)
      case rest =>
      obtain ⟨We, rfl⟩ : ∃ W : World, W = wc := ⟨_, rfl⟩
      clear hN
      obtain ⟨xb, ub, bb, hub, hlb, hDb⟩ := hcut
      obtain ⟨qu, cu, rfl, -⟩ := hub.rd
      have y0 := bb.cell 0 rfl
      have y1 := bb.cell 1 rfl
      have y2 := bb.cell 2 rfl
      have y3 := bb.cell 3 rfl
      have z2 := hDb.out.cell 2 rfl
      have hwz : w.heap.size ≤ We.heap.size := hDb.off.size
      have hlL : ns.length < 1099511627776 := by omega
      have hu0 := hub.mono HA.out.w
      have hnew : ∀ b, (Value.slice qu xb.src.length cu).ownBlock = some b → ¬ Blk (L1 ++ (L ++ [.slice p3 os.length c3])) b := fun b hb hbk => by
        have e1 := (hub.lt hb).1
        have e2 := HA.out.p b (.inr (.inr hbk))
        omega
      have hsl5 := hDb.out.lt
      have htl5 := bb.lt
      go_wp2_with (first | (at_builtin; refine wpList_append_node rfl _ _ rfl xb rfl rfl rfl rfl hDb.own.o2 rfl rfl hlL hwz ?_; intro v' W9 hv hg9 hk9; obtain ⟨vp, vc, rfl⟩ := hv.slS; have PN := hDb.node hu0 hnew hv hg9; have c2' := PN.1.1; have f2' := PN.1.2; have l9 : s < W9.heap.size := Nat.lt_of_lt_of_le hsl5 hg9.size) | fail)
      have HPN := Lib.hid PN.2
      have hbt2 : Bt10 ts (ns ++ [xb]) os := ⟨by (rw [List.length_append, List.length_singleton]; omega), hbt.t, hbt.o, fun nd hnd => by
        rcases List.mem_append.1 hnd with h | h
        · exact hbt.s nd h
        · rw [List.mem_singleton.1 h]; exact hlb⟩
      clear PN y0 y1 y2 y3 z2 c2' f2' hv hg9 hk9
      go_roundw
      case rel => exact ⟨j - 1, ns ++ [xb], _, _, (by show Value.int .i64 _ = Value.int .i64 _; congr 1; omega), by omega, hbt2, HPN.out.mono (by omega)⟩
      case measure => simp [intOf] <;> omega
    · go_upto_region 5 with fail
      go_cut [23] (fun s23 wx => s23 = .bool false ∧ wx = W0)
      case first =>
        by_cases hj0' : 0 < j
        · have hn24 : ¬ ns.length < 24 := fun h => hgo ⟨hj0', h⟩
          have hn24' : ¬ ((ns.length : Int) < 24) := by omega
          go_wp2_with fail
          go_meet
          exact ⟨by first | rfl | exact congrArg Value.bool (decide_eq_false (by omega)), by first | rfl | trivial⟩
        · go_wp2_with fail
          go_meet
          exact ⟨rfl, by first | rfl | trivial⟩
      case rest =>
      obtain ⟨rfl, hwx⟩ := hcut
      subst hwx
      obtain ⟨Wb, rfl⟩ : ∃ W : World, W = wc := ⟨_, rfl⟩
      have hDs := hD.mono (m' := m + 26000) (by omega)
      clear hD z1 z2 hgo
      go_wp2_with fail
      go_loopw [8] (fun s8 wr => ∃ (k : Nat) (os' : List Int), k ≤ os.length ∧ os'.length = os.length ∧ s8 = .int .i64 (k : Int) ∧ DB g (m + 26000 + 10 * k) w wr r s inp (.slice p1 L1.length c1) (.slice p2 ns.length c2) (.slice p3 os.length c3) ts ns os' L1 L) (fun i _ => os.length - (intOf i).toNat)
      case atStart => exact ⟨0, os, by omega, rfl, rfl, hDs.mono (by omega)⟩
      case round =>
        obtain ⟨k, os', hk, hol, rfl, hDk⟩ := hrel
        clear hDs
        obtain ⟨Wk, rfl⟩ : ∃ W : World, W = wr := ⟨_, rfl⟩
        have HOL := Lib.hid hol
        have ho3 := hbt.o
        by_cases hkl : k < os.length
        · have hkl' : k < os'.length := by omega
          obtain ⟨g3, hg3⟩ : ∃ g3, p3 = some ⟨g3, 0, none⟩ := by
            rcases hDk.own.o3.cases with ⟨-, h00⟩ | ⟨g3, c', e, -, -, -, -⟩
            · rw [h00] at hkl'; simp at hkl'
            · exact ⟨g3, ((Value.slice.injEq _ _ _ _ _ _).mp e).1⟩
          subst hg3
          clear hol
          have hbd := belowDrewD Wk
          have CK : Hid (∀ W, Off (· = g) Wk W → W.cell? ⟨s, 3, none⟩ = some (.slice (some ⟨g3, 0, none⟩) os.length c3) ∧ W.cell? ⟨s, 2, none⟩ = some (.slice p2 ns.length c2)) := fun W hW => by
            have b := hDk.out.off hW (by have := hDk.hs; have := hDk.hg; show ¬ s = g; omega)
            exact ⟨b.cell 3 rfl, b.cell 2 rfl⟩
          have PK := Lib.hid (pick_any 4 Wk.drew (hDk.src.below hbd) (by omega) (by omega))
          have hbn' := hbt.n
          have z3 := (CK.out Wk (Off.refl _ _)).1
          go_upto_region 29 with fail
          refine wp_region_plan (fun W => W.cell? ⟨s, 3, none⟩ = some (.slice (some ⟨g3, 0, none⟩) os.length c3) ∧ W.cell? ⟨s, 2, none⟩ = some (.slice p2 ns.length c2)) 12 [(0, 0), (1, 1), (2, 0), (3, 0), (4, 1), (5, 0), (6, 0), (7, 0), (8, 2), (9, 0), (10, 2), (11, 0), (12, 3)] (by kernel_rfl) (by kernel_rfl) (CK.out _ (Off.of_below _ hbd)) ?_
          repeat ((first | refine wpPlan_take (v := ?_) rfl (by rfl) (by (intro w hSw; clear hSw; go_simp; try with_reducible rfl)) (fun _ _ _ h => h) ?_ | refine wpPlan_load (v := ?_) rfl (by rfl) (by (intro w hSw; (try dsimp only at hSw); go_simp; try with_reducible rfl)) (fun _ _ _ h => h) ?_); try simp only [List.getElem_toArray, List.getElem_cons_succ, List.getElem_cons_zero, Act.put, List.setIfInBounds_toArray, List.set_cons_zero, List.set_cons_succ])
          refine wpPlan_call rfl (by rfl) (fun K hK => ?_)
          go_simp
          refine PK.out.mono ?_; rintro e W8 ⟨y2, hy2, rfl, hs8, ho8⟩; obtain ⟨hp1, hp2⟩ := pickP_pos hy2 (by omega); have ho8' : Off (· = g) Wk W8 := (Off.of_below _ hbd).trans ho8; have D8 := hDk.step ho8' hs8
          refine hK _ _ (CK.out _ ho8') ?_
          clear hK K
          try simp only [Act.put, List.setIfInBounds_toArray, List.set_cons_zero, List.set_cons_succ]
          repeat ((first | refine wpPlan_take (v := ?_) rfl (by rfl) (by (intro w hSw; clear hSw; go_simp; try with_reducible rfl)) (fun _ _ _ h => h) ?_ | refine wpPlan_load (v := ?_) rfl (by rfl) (by (intro w hSw; (try dsimp only at hSw); go_simp; try with_reducible rfl)) (fun _ _ _ h => h) ?_); try simp only [List.getElem_toArray, List.getElem_cons_succ, List.getElem_cons_zero, Act.put, List.setIfInBounds_toArray, List.set_cons_zero, List.set_cons_succ])
          refine wpPlan_call rfl (by rfl) (fun K hK => ?_)
          go_simp
          refine (l00Max_any _ _ _).mono ?_; rintro e W9 ⟨rfl, hw9⟩; obtain rfl := hw9
          refine hK _ _ (CK.out _ ho8') ?_
          clear hK K
          try simp only [Act.put, List.setIfInBounds_toArray, List.set_cons_zero, List.set_cons_succ]
          repeat ((first | refine wpPlan_take (v := ?_) rfl (by rfl) (by (intro w hSw; clear hSw; go_simp; try with_reducible rfl)) (fun _ _ _ h => h) ?_ | refine wpPlan_load (v := ?_) rfl (by rfl) (by (intro w hSw; (try dsimp only at hSw); go_simp; try with_reducible rfl)) (fun _ _ _ h => h) ?_); try simp only [List.getElem_toArray, List.getElem_cons_succ, List.getElem_cons_zero, Act.put, List.setIfInBounds_toArray, List.set_cons_zero, List.set_cons_succ])
          obtain ⟨-, hB8, hl8, hc8, hf8, hset8⟩ := D8.own.o3.storing hkl'
          generalize os'[k] = ok' at hc8
          have hsg : s ≠ g3 := fun e => (D8.own.neBox D8.out patchT).2.2 (blk_append.2 (.inr (blk_append.2 (.inr (Blk.one.2 (by rw [e]; rfl))))))
          have FIN2 : Hid (∀ v : Int, DB g (m + 26000 + 10 * (k + 1)) w (W8.setCell ⟨g3, k, none⟩ (.int .i64 v)) r s inp (.slice p1 L1.length c1) (.slice p2 ns.length c2) (.slice (some ⟨g3, 0, none⟩) os.length c3) ts ns (os'.set k v) L1 L) := fun v => by
            have own' := D8.own.growOutD (hset8 v) (fun q _ hq => Below.heap_setCell _ _ _ _ (show q ≠ g3 from fun e => hq (by rw [e]; rfl))) (fun q hq => .inl hq)
            exact (D8.upd (Off.set1 (S := fun q => q = s ∨ PBlk (.slice p1 L1.length c1) (.slice p2 ns.length c2) (.slice (some ⟨g3, 0, none⟩) os.length c3) L1 L q) _ (.inr (.inr (.inr (blk_append.2 (.inr (blk_append.2 (.inr (Blk.one.2 rfl))))))))) own' (D8.out.other (a := ⟨g3, k, none⟩) hsg _)).mono (by omega)
          clear D8 hset8
          refine wpPlan_store rfl (by rfl) (fun K hK => ?_)
          go_simp
          refine hK _ _ ?_
          clear hK K
          try simp only [Act.put, List.setIfInBounds_toArray, List.set_cons_zero, List.set_cons_succ]
          refine wpPlan_nil ?_
          go_wp2_with fail
          go_roundw
          case rel => exact ⟨k + 1, _, by omega, by (rw [List.length_set]; exact HOL.out), by go_num, FIN2.out _⟩
          case measure => simp [intOf] <;> omega
        · obtain rfl : os.length = k := by omega
          have hz3 := hDk.out.cell 3 rfl
          have hDF := hDk.mono (m' := m + 27000) (by omega)
          clear hDk
          have u0 := hDF.res.cell 0 rfl
          have u1 := hDF.res.cell 1 rfl
          have u2 := hDF.res.cell 2 rfl
          have u3 := hDF.res.cell 3 rfl
          have f0 := hDF.res.frozen 0
          have f1 := hDF.res.frozen 1
          have f2 := hDF.res.frozen 2
          have f3 := hDF.res.frozen 3
          have x0 := hDF.out.cell 0 rfl
          have x1 := hDF.out.cell 1 rfl
          have x2 := hDF.out.cell 2 rfl
          have x3 := hDF.out.cell 3 rfl
          have hrl := hDF.res.lt
          have FN := FIN.out Wk _ inp (.slice p1 L1.length c1) (.slice p2 ns.length c2) (.slice p3 os.length c3) ts ns os' L1 L hDF (by omega)
          have k3 := (((hDF.res.set 0 (.int .i64 inp)).set 1 (.slice p1 L1.length c1)).set 2 (.slice p2 ns.length c2)).set 3 (.slice p3 os.length c3)
          obtain ⟨W', hW'⟩ : ∃ W', W' = (((Wk.setCell ⟨r, 0, none⟩ (.int .i64 inp)).setCell ⟨r, 1, none⟩ (.slice p1 L1.length c1)).setCell ⟨r, 2, none⟩ (.slice p2 ns.length c2)).setCell ⟨r, 3, none⟩ (.slice p3 os.length c3) := ⟨_, rfl⟩
          rw [← hW'] at k3 FN
          have k0' := k3.cell 0 rfl
          have k1' := k3.cell 1 rfl
          have k2' := k3.cell 2 rfl
          have k3' := k3.cell 3 rfl
          have HFN := Lib.hid FN
          have HWW := Lib.hid hW'
          clear hW' FN k3 hDF
          go_wp2_with fail
          rw [← HWW.out]
          refine bodyPost_ret (v := .agg #[.int .i64 inp, .slice p1 L1.length c1, .slice p2 ns.length c2, .slice p3 os.length c3]) (by simp [results, Tryz.results17, go_sem, *]) rfl ?_
          exact HFN.out
/-- a drawn patch to be optimized -/
def DrewO (w : World) (e : Ending) (w' : World) : Prop := ∃ (x : PatchD) (vx : Value), e = .returned vx ∧ VPatch w' vx x ∧ Below w.heap.size w w'
set_option maxHeartbeats 1000000 in
theorem drawOptimize_any {p : Option Addr} {c : Nat} {bs : List Int} (w : World) (hr : RdB w p bs) (hl : bs.length ≤ 1048576) :
    Calls Tryz.prog 5 #[.slice p bs.length c] w (DrewO w) := by
  obtain ⟨r2, hr2⟩ : ∃ r, r = w.heap.size := ⟨_, rfl⟩
  obtain ⟨E, hE⟩ : ∃ E, E = w.alloc (.cells zPatch.toArray 28) := ⟨_, rfl⟩
  have hB0 : Below w.heap.size w E := by rw [hE]; exact (Below.refl _ _).alloc (Nat.le_refl _) _
  have q2 : Box E r2 zPatch 28 := by rw [hE, hr2]; exact Box.newAt w zPatch _ rfl
  have LF := Lib.hid (l00From_any (c := c) E (hr.below hB0) hl)
  have HE := Lib.hid hE
  have HR2 := Lib.hid hr2
  have hw2 : w.heap.size ≤ r2 := by omega
  have h2E : r2 < E.heap.size := q2.lt
  have HB := Lib.hid hB0
  clear hE hr2 hr hB0
  go_enter Tryz.func5, Tryz.ntmps5
  go_upto_region 1 with fail
  rw [← HE.out, ← HR2.out]
  go_upto_region 2 with (first | (go_at_call 16; refine LF.out.mono ?_; rintro e W1 ⟨rfl, hs1, hb1⟩) | fail)
  obtain ⟨g, hg⟩ : ∃ g, g = E.heap.size := ⟨_, rfl⟩
  rw [← hg] at hs1 ⊢
  have h2g : r2 < g := by omega
  replace q2 := q2.below hb1
  have hB1 : Below w.heap.size w W1 := HB.out.trans (hb1.mono HB.out.size)
  have BT := Lib.hid (l10Draw_any W1 hs1 (by omega))
  have h2W : r2 < W1.heap.size := q2.lt
  have HGE := Lib.hid hg
  clear hg hb1 hs1 LF
  go_wp2_with (first | (go_at_call 17; refine BT.out.mono ?_; rintro e W2 ⟨x, v1, v2, v3, L1, L, rfl, ho2, hs2, ho⟩; obtain ⟨p1, c1, rfl⟩ := ho2.o1.sl'; obtain ⟨p2, c2, rfl⟩ := ho2.o2.sl; obtain ⟨p3, c3, rfl, -⟩ := ho2.o3.rd; have q25 := q2.off ho (by show ¬ r2 = g; omega); have t0 := q25.cell 0 rfl; have t1 := q25.cell 1 rfl; have t2 := q25.cell 2 rfl; have t3 := q25.cell 3 rfl; have f0 := q25.frozen 0; have f1 := q25.frozen 1; have f2 := q25.frozen 2; have f3 := q25.frozen 3; have l5 := q25.lt) | fail)
  have hB5 := hB1.trans (ho.below (fun k hk => by have : k = g := hk; omega) hB1.size)
  have k0 := q25.set 0 (.int .i64 x.inputs)
  have k1 := k0.set 1 (.slice p1 L1.length c1)
  have k2 := k1.set 2 (.slice p2 x.nodes.length c2)
  have k3 := k2.set 3 (.slice p3 x.outputs.length c3)
  have V5 := (((((ho2.setBox q25 patchT 0 (.int .i64 x.inputs)).setBox k0 patchT 1 (.slice p1 L1.length c1)).setBox k1 patchT 2 (.slice p2 x.nodes.length c2)).setBox k2 patchT 3 (.slice p3 x.outputs.length c3)).patch x.inputs).1.rd
  have HBW := (((hB5.setCell (p := ⟨r2, 0, none⟩) hw2 (.int .i64 x.inputs)).setCell (p := ⟨r2, 1, none⟩) hw2 (.slice p1 L1.length c1)).setCell (p := ⟨r2, 2, none⟩) hw2 (.slice p2 x.nodes.length c2)).setCell (p := ⟨r2, 3, none⟩) hw2 (.slice p3 x.outputs.length c3)
  obtain ⟨W', hW'⟩ : ∃ W', W' = (((W2.setCell ⟨r2, 0, none⟩ (.int .i64 x.inputs)).setCell ⟨r2, 1, none⟩ (.slice p1 L1.length c1)).setCell ⟨r2, 2, none⟩ (.slice p2 x.nodes.length c2)).setCell ⟨r2, 3, none⟩ (.slice p3 x.outputs.length c3) := ⟨_, rfl⟩
  rw [← hW'] at k3 V5 HBW ⊢
  have c20 := k3.cell 0 rfl
  have c21 := k3.cell 1 rfl
  have c22 := k3.cell 2 rfl
  have c23 := k3.cell 3 rfl
  refine bodyPost_ret (v := .agg #[.int .i64 x.inputs, .slice p1 L1.length c1, .slice p2 x.nodes.length c2, .slice p3 x.outputs.length c3]) (by simp [results, Tryz.results5, go_sem, *]) rfl ?_
  exact ⟨x, _, rfl, V5, HBW⟩
end Go.Proofs.YtcfhcmgmkhfjjaaGreat
