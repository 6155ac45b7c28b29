/-
  Several texts in one: RwTwo.
-/
import Derived.Test.YtcfhcmgmkhfjjaaGreatPk7
import Derived.Test.YtcfhcmgmkhfjjaaGreatPk6
import Derived.Deep.RegionHeld3
import Derived.Test.YtcfhcmgmkhfjjaaGreatPk8
namespace Go.Proofs.YtcfhcmgmkhfjjaaGreat
open Go.ChangeShapes Go.WideShapes Go.ChangeAt Go.RowKit Go.Sort
set_option linter.unusedVariables false

def zN : NodeD := ⟨0, 0, 0, []⟩
/-- a node of the call's own, and whether there is one -/
def RetN (w : World) (y : NodeD) (t : Bool) (e : Ending) (w' : World) : Prop :=
  ∃ s, e = .returned (.tuple #[.agg #[.int .i64 y.kind, .int .i64 y.a, .int .i64 y.b, s], .bool t]) ∧ OwnI w.heap.size w' s y.src ∧ Below w.heap.size w w'
theorem nodeB_a {n : NodeD} {t : Int} (h : nodeB n t = true) : -2147483648 ≤ n.a ∧ n.a ≤ 2147483647 := by
  rw [nodeB_split] at h
  simp only [Bool.and_eq_true] at h
  obtain ⟨h1, h2, -⟩ := h
  obtain ⟨k, a, b, s⟩ := n
  simp only at *
  rcases kinds_of h1 with rfl | rfl | rfl | rfl | rfl | rfl | rfl | rfl | rfl | rfl | rfl | rfl | rfl | rfl | rfl | rfl | rfl
  all_goals
    unfold aB at h2
    first
      | (rw [if_neg (by decide), if_pos (by decide), inB_iff] at h2; simp [kLo, kHi] at h2; omega)
      | (rw [if_neg (by decide), if_neg (by decide), beq_iff_eq] at h2; omega)
      | (rw [if_pos rfl, inB_iff] at h2; omega)
theorem const_ok {x : PatchD} (hf : formedB x = true) {i : Int} (h0 : 0 ≤ i) (h1 : i < (x.nodes.length : Int)) (hc : constB x i = true) :
    OutOk (nodeAt x.nodes i) x.tables (constIn x i) [] ∧ ((nodeAt x.nodes i).kind ≠ 6 ∧ (nodeAt x.nodes i).kind ≠ 7 ∧ (nodeAt x.nodes i).kind ≠ 8 ∧ (nodeAt x.nodes i).kind ≠ 12 ∧ (nodeAt x.nodes i).kind ≠ 14 ∧ (nodeAt x.nodes i).kind ≠ 16 ∧ (nodeAt x.nodes i).kind ≠ 17) := by
  have hn := nodeAt_ok hf h0 h1
  have hs := nodeAt_src hf h0 h1
  obtain ⟨hk, har⟩ := nodeB_ar hn
  unfold constB at hc
  rw [Bool.and_eq_true] at hc
  have hk1 : (nodeAt x.nodes i).kind ∈ foldL := by simpa using hc.1
  have hne : (nodeAt x.nodes i).kind ≠ 1 ∧ ((nodeAt x.nodes i).kind ≠ 6 ∧ (nodeAt x.nodes i).kind ≠ 7 ∧ (nodeAt x.nodes i).kind ≠ 8 ∧ (nodeAt x.nodes i).kind ≠ 12 ∧ (nodeAt x.nodes i).kind ≠ 14 ∧ (nodeAt x.nodes i).kind ≠ 16 ∧ (nodeAt x.nodes i).kind ≠ 17) := by
    simp only [foldL, List.mem_cons, List.not_mem_nil, or_false] at hk1
    omega
  refine ⟨?_, hne.2⟩
  have ht : tablesB x.tables = true := (formed_iff.1 hf).2.1
  unfold tablesB at ht
  simp only [Bool.and_eq_true, List.all_eq_true, decide_eq_true_eq] at ht
  have h3 := hn
  rw [nodeB_split] at h3
  simp only [Bool.and_eq_true] at h3
  refine ⟨hk, ?_, fun h => by omega, fun y hy => ?_, fun e => ?_, fun e => ?_, fun e => ?_⟩
  · unfold constIn inN
    rw [List.length_map, if_neg hne.1]; exact har
  · unfold constIn at hy
    rw [List.mem_map] at hy
    obtain ⟨j, hj, rfl⟩ := hy
    obtain ⟨j0, j1⟩ := hs j hj
    exact nodeB_a (nodeAt_ok hf j0 j1)
  · have h2 := h3.2.1
    rw [e] at h2
    have : inB (nodeAt x.nodes i).a 0 2147483647 = true := h2
    rwa [inB_iff] at this
  · have h2 := h3.2.1
    rw [e] at h2
    have : inB (nodeAt x.nodes i).a 0 31 = true := h2
    rwa [inB_iff] at this
  · have h2 := h3.2.1
    rw [e] at h2
    have : inB (nodeAt x.nodes i).a 0 (min (max (x.tables.length : Int) 0) 4 - 1) = true := h2
    rw [inB_iff] at this
    refine ⟨by omega, by omega, fun t htm => ?_⟩
    have := ht.1 t htm
    unfold tblB at this
    simp only [Bool.and_eq_true, Bool.or_eq_true, decide_eq_true_eq] at this
    omega
theorem any_has (xs : List Int) (n : Int) : xs.any (fun y => n == y) = xs.contains n := by
  rw [← any_contains]
  congr 1
  funext y
  rw [Bool.eq_iff_iff, beq_iff_eq, beq_iff_eq]
  exact eq_comm
/-- what stands in the box of a result when a node is stored there -/
theorem put_res {w W : World} {g : Nat} {l0 l1 l2 l3 s : Value} {y : NodeD} (br : Box W g [l0, l1, l2, l3] 55) (ho : OwnI w.heap.size W s y.src) (hs : s.ownBlock ≠ some g) (hb : Below w.heap.size w W) (hg : w.heap.size ≤ g) :
    ∃ W', W' = ((((W.setCell ⟨g, 0, none⟩ (.int .i64 y.kind)).setCell ⟨g, 1, none⟩ (.int .i64 y.a)).setCell ⟨g, 2, none⟩ (.int .i64 y.b)).setCell ⟨g, 3, none⟩ s) ∧ Box W' g [.int .i64 y.kind, .int .i64 y.a, .int .i64 y.b, s] 55 ∧ OwnI w.heap.size W' s y.src ∧ Below w.heap.size w W' :=
  ⟨_, rfl, br.put4, ho.put4 _ _ _ _ hs, below_put4 _ _ _ _ hb hg⟩
set_option maxHeartbeats 8000000 in
set_option maxRecDepth 100000 in
theorem toConst_x {x : PatchD} {p1 p3 : Option Addr} {c1 c2 c3 b o : Nat} {i : Nat} (w : World) (NS : NodesAt w b o x) (RT : RdII w p1 x.tables) (hf : formedB x = true) (hi : i < x.nodes.length) :
    Calls Tryz.prog 49 #[(.agg #[.int .i64 x.inputs, .slice p1 x.tables.length c1, .slice (some ⟨b, o, none⟩) x.nodes.length c2, .slice p3 x.outputs.length c3]), .int .i64 (i : Int)] w (RetN w (if constB x (i : Int) then ⟨2, constV x (i : Int), 0, []⟩ else zN) (constB x (i : Int))) := by
  have HC : Hid (∀ b1 b2, foldL.contains (nodeAt x.nodes (i : Int)).kind = b1 → (nodeAt x.nodes (i : Int)).src.all (fun j => isC (nodeAt x.nodes j)) = b2 → constB x (i : Int) = (b1 && b2)) := by
    intro b1 b2 e1 e2
    unfold constB; rw [e1, e2]
  obtain ⟨Y, hY⟩ : ∃ Y, Y = (if constB x (i : Int) then (⟨2, constV x (i : Int), 0, []⟩ : NodeD) else zN) := ⟨_, rfl⟩
  rw [← hY]
  have HY : Hid (∀ b, constB x (i : Int) = b → Y = (if b then (⟨2, constV x (i : Int), 0, []⟩ : NodeD) else zN)) := fun b h => by rw [hY, h]
  clear hY
  have OKC := Lib.hid (fun h => const_ok hf (i := (i : Int)) (by omega) (by omega) h)
  have CV : Hid (constV x (i : Int) = outP (nodeAt x.nodes (i : Int)) x.tables (constIn x (i : Int)) []) := rfl
  have hn := NS i hi
  have hok := nodeAt_ok hf (i := (i : Int)) (by omega) (by omega)
  obtain ⟨hk, har⟩ := nodeB_ar hok
  have hN3 := src_le3 hok
  have FK := fun k h => from_at (p1 := p1) (p3 := p3) (c1 := c1) (c2 := c2) (c3 := c3) (k := k) (k : Int) w NS hf hi h rfl
  have F0 := fun h => from_at (p1 := p1) (p3 := p3) (c1 := c1) (c2 := c2) (c3 := c3) (k := 0) 0 w NS hf hi h rfl
  obtain ⟨y0, y1, y2, q, d, y3, hr⟩ := hn
  have hlen := hr.len
  unfold maxLen at hlen
  have hlb := World.block_lt_of_cell? w _ y0
  obtain ⟨g, hg⟩ : ∃ g, g = w.heap.size := ⟨_, rfl⟩
  obtain ⟨E1, hE1⟩ : ∃ E, E = (w.alloc (.cells #[.int .i64 x.inputs, .slice p1 x.tables.length c1, .slice (some ⟨b, o, none⟩) x.nodes.length c2, .slice p3 x.outputs.length c3] 28)).alloc (.cells #[.int .i64 0, .int .i64 0, .int .i64 0, .slice none 0 0] 55) := ⟨_, rfl⟩
  have hB1 : Below w.heap.size w E1 := by rw [hE1]; exact ((Below.refl _ _).alloc (Nat.le_refl _) _).alloc (by simp) _
  have x0 := (hB1.cell (p := ⟨b, o + i * 4, none⟩) hlb).trans y0
  have x1 := (hB1.cell (p := ⟨b, o + i * 4 + 1, none⟩) hlb).trans y1
  have x2 := (hB1.cell (p := ⟨b, o + i * 4 + 2, none⟩) hlb).trans y2
  have x3 := (hB1.cell (p := ⟨b, o + i * 4 + 3, none⟩) hlb).trans y3
  have bx1 : Box E1 g [.int .i64 x.inputs, .slice p1 x.tables.length c1, .slice (some ⟨b, o, none⟩) x.nodes.length c2, .slice p3 x.outputs.length c3] 28 := by rw [hE1, hg]; exact (Box.newAt w _ _ rfl).alloc _
  have br1 : Box E1 (g + 1) [.int .i64 0, .int .i64 0, .int .i64 0, .slice none 0 0] 55 := by rw [hE1, hg]; exact Box.newAt (w.alloc _) _ _ (by simp)
  have u2 := bx1.cell 2 rfl
  have hgl : w.heap.size ≤ g + 1 := by omega
  have vn : VNode w (.agg #[.int .i64 (nodeAt x.nodes (i : Int)).kind, .int .i64 (nodeAt x.nodes (i : Int)).a, .int .i64 (nodeAt x.nodes (i : Int)).b, .slice q (nodeAt x.nodes (i : Int)).src.length d]) (nodeAt x.nodes (i : Int)) := ⟨q, d, rfl, hr⟩
  have OUT : Hid (constB x (i : Int) = true → ∀ W p c, Below w.heap.size w W → RdI W p (constIn x (i : Int)) → Calls Tryz.prog 92 #[.agg #[.int .i64 (nodeAt x.nodes (i : Int)).kind, .int .i64 (nodeAt x.nodes (i : Int)).a, .int .i64 (nodeAt x.nodes (i : Int)).b, .slice q (nodeAt x.nodes (i : Int)).src.length d], .slice p1 x.tables.length c1, .slice p (constIn x (i : Int)).length c] W
      fun e w' => e = .returned (.int .i64 (constV x (i : Int))) ∧ Below W.heap.size W w') := fun hc W p c hW hp => by
    obtain ⟨ok, hne⟩ := OKC.out hc
    exact output_v W (vn.below hW) (RT.below hW) hp [] ok hne
  have HCI : Hid ((constIn x (i : Int)).length = (nodeAt x.nodes (i : Int)).src.length) := by unfold Hid constIn; rw [List.length_map]
  have HCS : Hid (∀ k, k < (nodeAt x.nodes (i : Int)).src.length → (constIn x (i : Int)).take (k + 1) = (constIn x (i : Int)).take k ++ [(frm x (i : Int) k).a]) := fun k hk => by
    have e : (constIn x (i : Int))[k]? = some (frm x (i : Int) k).a := by
      unfold constIn frm inp
      rw [List.getElem?_map, List.getD_eq_getElem?_getD, List.getElem?_eq_getElem hk]; rfl
    rw [List.take_add_one, e]; rfl
  have HAL : Hid (∀ k, k < (nodeAt x.nodes (i : Int)).src.length → ((nodeAt x.nodes (i : Int)).src.take (k + 1)).all (fun j => isC (nodeAt x.nodes j)) = (((nodeAt x.nodes (i : Int)).src.take k).all (fun j => isC (nodeAt x.nodes j)) && isC (frm x (i : Int) k))) := fun k hk => by
    have e : (nodeAt x.nodes (i : Int)).src[k]? = some (inp x (i : Int) k) := by
      unfold inp
      rw [List.getD_eq_getElem?_getD, List.getElem?_eq_getElem hk]; rfl
    rw [List.take_add_one, e, List.all_append]
    show (((nodeAt x.nodes (i : Int)).src.take k).all (fun j => isC (nodeAt x.nodes j)) && (isC (frm x (i : Int) k) && true)) = _
    rw [Bool.and_true]
  have HAF : Hid (∀ k, k < (nodeAt x.nodes (i : Int)).src.length → isC (frm x (i : Int) k) = false → (nodeAt x.nodes (i : Int)).src.all (fun j => isC (nodeAt x.nodes j)) = false) := fun k hk h => by
    refine all_false hk ?_
    have e : (nodeAt x.nodes (i : Int)).src[k] = inp x (i : Int) k := by
      unfold inp
      rw [List.getD_eq_getElem?_getD, List.getElem?_eq_getElem hk]; rfl
    rw [e]; exact h
  clear hr vn hok F0 har
  generalize hsr : (nodeAt x.nodes (i : Int)).src = SR at *
  generalize hK : (nodeAt x.nodes (i : Int)).kind = K at *
  generalize (nodeAt x.nodes (i : Int)).a = A at *
  generalize (nodeAt x.nodes (i : Int)).b = B at *
  generalize hN : SR.length = N at *
  generalize constIn x (i : Int) = CI at *
  generalize constV x (i : Int) = CVV at *
  generalize constB x (i : Int) = CB at *
  clear hK hsr CV OKC hk
  obtain ⟨E, hE⟩ : ∃ E, E = E1.alloc (.cells #[.int .i64 K, .int .i64 A, .int .i64 B, .slice q N d] 55) := ⟨_, rfl⟩
  have hBE : Below E1.heap.size E1 E := by rw [hE]; exact (Below.refl _ _).alloc (Nat.le_refl _) _
  have hB0 := hB1.trans (hBE.mono hB1.size)
  have bx : Box E g [.int .i64 x.inputs, .slice p1 x.tables.length c1, .slice (some ⟨b, o, none⟩) x.nodes.length c2, .slice p3 x.outputs.length c3] 28 := bx1.below hBE
  have br : Box E (g + 1) [.int .i64 0, .int .i64 0, .int .i64 0, .slice none 0 0] 55 := br1.below hBE
  have bn : Box E (g + 2) [.int .i64 K, .int .i64 A, .int .i64 B, .slice q N d] 55 := by rw [hE]; exact Box.newAt E1 _ _ (by rw [hE1, hg]; simp)
  have hgE : g + 2 < E.heap.size := bn.lt
  have HE := Lib.hid hE
  have HE1 := Lib.hid hE1
  have HG := Lib.hid hg
  have HSZ : Hid (E1.heap.size = g + 2) := by unfold Hid; rw [hE1, hg]; simp
  clear hE hE1 hg hBE bx1 br1
  have hl8 := rdI_lit' E foldL (by simp [foldL])
  have HAS := Lib.hid (has_any (xs := foldL) (c := 8) K _ hl8)
  have hBL : Below E.heap.size E (E.alloc (.cells (foldL.map (Value.int .i64)).toArray 2)) := (Below.refl _ _).alloc (Nat.le_refl _) _
  rw [any_has] at HAS
  obtain ⟨F, hF⟩ : ∃ F, F = E.alloc (.cells (foldL.map (Value.int .i64)).toArray 2) := ⟨_, rfl⟩
  rw [← hF] at HAS hBL
  have hBF := hB0.trans (hBL.mono hB0.size)
  have fx := bx.below hBL
  have fr := br.below hBL
  have fn := bn.below hBL
  have HF := Lib.hid hF
  have HSE : Hid (E.heap.size = g + 3) := by unfold Hid; rw [HE.out]; have := HSZ.out; simp; omega
  clear hF hl8
  have v0 := bx.cell 0 rfl
  have v1 := bx.cell 1 rfl
  have v2 := bx.cell 2 rfl
  have v3 := bx.cell 3 rfl
  have z0 := bn.cell 0 rfl
  have z1 := bn.cell 1 rfl
  have z2 := bn.cell 2 rfl
  have z3 := bn.cell 3 rfl
  have j0 := br.frozen 0
  have j1 := br.frozen 1
  have j2 := br.frozen 2
  have j3 := br.frozen 3
  have i0 := br.cell 0 rfl
  have i1 := br.cell 1 rfl
  have i2 := br.cell 2 rfl
  have i3 := br.cell 3 rfl
  clear bx br bn
  have ENTRY : True := trivial
  cases hc1 : foldL.contains K
  case false =>
    rw [hc1] at HAS
    obtain rfl := HC.out _ _ hc1 rfl
    obtain rfl := HY.out false (by rw [Bool.false_and])
    rw [Bool.false_and]
    have ho9 : OwnI w.heap.size F (.slice none 0 0) [] := OwnI.nil _ _
    clear hc1 HC OUT FK HCS HAL HAF
    go_enter Tryz.func49, Tryz.ntmps49
    go_upto_region 1 with fail
    rw [← HE1.out, ← HG.out]
    go_upto_region 2 with fail
    rw [← HE.out, HSZ.out]
    go_wp2_with fail
    rw [show (E.alloc (.cells #[.int .i64 3, .int .i64 4, .int .i64 5, .int .i64 9, .int .i64 10, .int .i64 11, .int .i64 13, .int .i64 15] 2)) = F from HF.out.symm]
    refine HAS.out.mono ?_
    rintro e W1 ⟨rfl, rfl⟩
    clear v0 v1 v2 v3 z0 z1 z2 z3 j0 j1 j2 j3 i0 i1 i2 i3
    have v0 := fx.cell 0 rfl
    have v1 := fx.cell 1 rfl
    have v2 := fx.cell 2 rfl
    have v3 := fx.cell 3 rfl
    have z0 := fn.cell 0 rfl
    have z1 := fn.cell 1 rfl
    have z2 := fn.cell 2 rfl
    have z3 := fn.cell 3 rfl
    have j0 := fr.frozen 0
    have j1 := fr.frozen 1
    have j2 := fr.frozen 2
    have j3 := fr.frozen 3
    have i0 := fr.cell 0 rfl
    have i1 := fr.cell 1 rfl
    have i2 := fr.cell 2 rfl
    have i3 := fr.cell 3 rfl
    obtain ⟨W9, hW9, b9, o9, l9⟩ := put_res (y := ⟨0, 0, 0, []⟩) (s := (.slice none 0 0)) fr ho9 (by simp [Value.ownBlock]) hBF hgl
    have q0 := b9.cell 0 rfl
    have q1 := b9.cell 1 rfl
    have q2 := b9.cell 2 rfl
    have q3 := b9.cell 3 rfl
    have O9 := Lib.hid o9
    have L9 := Lib.hid l9
    have H9 := Lib.hid hW9
    clear hW9 o9 l9 b9
    go_wp2_with fail
    rw [← H9.out]
    refine bodyPost_ret (v := .tuple #[.agg #[.int .i64 0, .int .i64 0, .int .i64 0, (.slice none 0 0)], .bool false]) (by simp [results, Tryz.results49, go_sem, *]) rfl ?_
    exact ⟨_, rfl, O9.out, L9.out⟩
  rw [hc1] at HAS
  have HC2 := Lib.hid (fun b2 h2 => HC.out true b2 hc1 h2)
  clear HC hc1
  have hE2 : Below F.heap.size F (F.alloc (.cells #[] 2)) := (Below.refl _ _).alloc (Nat.le_refl _) _
  obtain ⟨G, hG⟩ : ∃ G, G = F.alloc (.cells #[] 2) := ⟨_, rfl⟩
  rw [← hG] at hE2
  have o0 : OwnI F.heap.size G (.slice (some ⟨F.heap.size, 0, none⟩) 0 0) [] := by
    have := OwnI.lit (B := F.heap.size) F [] (Nat.le_refl _) (by simp [maxLen])
    rw [hG]; simpa using this
  have HGG := Lib.hid hG
  have gx := fx.below hE2
  have gr := fr.below hE2
  have gn := fn.below hE2
  have hBG := hBF.trans (hE2.mono hBF.size)
  clear hG
  go_enter Tryz.func49, Tryz.ntmps49
  go_upto_region 1 with fail
  rw [← HE1.out, ← HG.out]
  go_upto_region 2 with fail
  rw [← HE.out, HSZ.out]
  go_wp2_with fail
  rw [show (E.alloc (.cells #[.int .i64 3, .int .i64 4, .int .i64 5, .int .i64 9, .int .i64 10, .int .i64 11, .int .i64 13, .int .i64 15] 2)) = F from HF.out.symm]
  refine HAS.out.mono ?_
  rintro e W1 ⟨rfl, rfl⟩
  clear v0 v1 v2 v3 z0 z1 z2 z3 j0 j1 j2 j3 i0 i1 i2 i3
  have v0 := gx.cell 0 rfl
  have v1 := gx.cell 1 rfl
  have v2 := gx.cell 2 rfl
  have v3 := gx.cell 3 rfl
  have z0 := gn.cell 0 rfl
  have z1 := gn.cell 1 rfl
  have z2 := gn.cell 2 rfl
  have z3 := gn.cell 3 rfl
  have j0 := gr.frozen 0
  have j1 := gr.frozen 1
  have j2 := gr.frozen 2
  have j3 := gr.frozen 3
  have i0 := gr.cell 0 rfl
  have i1 := gr.cell 1 rfl
  have i2 := gr.cell 2 rfl
  have i3 := gr.cell 3 rfl
  go_upto_region 5 with fail
  rw [← HGG.out]
  go_wp2_with fail
  clear v0 v1 v2 v3 z0 z1 z2 z3 j0 j1 j2 j3 i0 i1 i2 i3
  go_loopw [7, 24] (fun vin ci wr => ∃ k : Nat, k ≤ N ∧ ci = .int .i64 k ∧ OwnI F.heap.size wr vin (CI.take k) ∧ (SR.take k).all (fun j => isC (nodeAt x.nodes j)) = true ∧ Below F.heap.size F wr) (fun _ ci _ => N - (intOf ci).toNat)
  case atStart => exact ⟨0, Nat.zero_le _, rfl, by simpa using o0, by simp, hE2⟩
  case round =>
    obtain ⟨k, hk, rfl, hown, hall, hbel⟩ := hrel
    obtain ⟨wi, rfl⟩ : ∃ wi : World, wi = wr := ⟨_, rfl⟩
    have HA := Lib.hid hall
    clear hall
    have wx := fx.below hbel
    have wn := fn.below hbel
    have wrr := fr.below hbel
    have hBW := hBF.trans (hbel.mono hBF.size)
    have v0 := wx.cell 0 rfl
    have v1 := wx.cell 1 rfl
    have v2 := wx.cell 2 rfl
    have v3 := wx.cell 3 rfl
    have z0 := wn.cell 0 rfl
    have z1 := wn.cell 1 rfl
    have z2 := wn.cell 2 rfl
    have z3 := wn.cell 3 rfl
    have j0 := wrr.frozen 0
    have j1 := wrr.frozen 1
    have j2 := wrr.frozen 2
    have j3 := wrr.frozen 3
    have i0 := wrr.cell 0 rfl
    have i1 := wrr.cell 1 rfl
    have i2 := wrr.cell 2 rfl
    have i3 := wrr.cell 3 rfl
    by_cases hlt : k < N
    · obtain ⟨fq, fc, -, FC⟩ := FK k hlt
      have FC1 := Lib.hid (FC wi hBW)
      have S1 := Lib.hid (HCS.out k hlt)
      have AL := Lib.hid (HAL.out k hlt)
      have AF := Lib.hid (HAF.out k hlt)
      generalize frm x (i : Int) k = f at *
      have IC := Lib.hid (fun W => isConst_x (k := f.kind) (a := f.a) (b := f.b) (q := fq) (n := f.src.length) (c := fc) W)
      cases hc2 : (f.kind == 2)
      case false =>
        rw [hc2] at IC
        obtain rfl := HC2.out _ (AF.out hc2)
        obtain rfl := HY.out false (by rw [Bool.true_and])
        rw [Bool.true_and]
        clear hc2
        go_wp2_with fail
        refine FC1.out.mono ?_
        rintro e W1 ⟨rfl, h1⟩
        have k1 := hBW.trans (h1.mono hBW.size)
        have rx1 := wrr.below h1
        go_wp2_with fail
        refine (IC.out W1).mono ?_
        rintro e W2 ⟨rfl, h2⟩
        have k2 := k1.trans (h2.mono k1.size)
        have rx2 := rx1.below h2
        have ho9 : OwnI w.heap.size W2 (.slice none 0 0) [] := OwnI.nil _ _
        clear v0 v1 v2 v3 z0 z1 z2 z3 j0 j1 j2 j3 i0 i1 i2 i3
        have j0 := rx2.frozen 0
        have j1 := rx2.frozen 1
        have j2 := rx2.frozen 2
        have j3 := rx2.frozen 3
        have i0 := rx2.cell 0 rfl
        have i1 := rx2.cell 1 rfl
        have i2 := rx2.cell 2 rfl
        have i3 := rx2.cell 3 rfl
        obtain ⟨W9, hW9, b9, o9, l9⟩ := put_res (y := ⟨0, 0, 0, []⟩) (s := (.slice none 0 0)) rx2 ho9 (by simp [Value.ownBlock]) k2 hgl
        have q0 := b9.cell 0 rfl
        have q1 := b9.cell 1 rfl
        have q2 := b9.cell 2 rfl
        have q3 := b9.cell 3 rfl
        have O9 := Lib.hid o9
        have L9 := Lib.hid l9
        have H9 := Lib.hid hW9
        clear hW9 o9 l9 b9
        go_wp2_with fail
        rw [← H9.out]
        refine bodyPost_ret (v := .tuple #[.agg #[.int .i64 0, .int .i64 0, .int .i64 0, (.slice none 0 0)], .bool false]) (by simp [results, Tryz.results49, go_sem, *]) rfl ?_
        exact ⟨_, rfl, O9.out, L9.out⟩
      rw [hc2] at IC
      have HI := Lib.hid hc2
      clear hc2
      go_wp2_with fail
      refine FC1.out.mono ?_
      rintro e W1 ⟨rfl, h1⟩
      have k1 := hBW.trans (h1.mono hBW.size)
      go_wp2_with fail
      refine (IC.out W1).mono ?_
      rintro e W2 ⟨rfl, h2⟩
      have k2 := k1.trans (h2.mono k1.size)
      have h12 : Below wi.heap.size wi W2 := h1.trans (h2.mono h1.size)
      have FC2 := Lib.hid (FC W2 k2)
      have fd := node_field1 f.kind f.a f.b fq f.src.length fc
      have wx2 := wx.below h12
      have wn2 := wn.below h12
      have wr2 := wrr.below h12
      clear v0 v1 v2 v3 z0 z1 z2 z3 j0 j1 j2 j3 i0 i1 i2 i3
      have v0 := wx2.cell 0 rfl
      have v1 := wx2.cell 1 rfl
      have v2 := wx2.cell 2 rfl
      have v3 := wx2.cell 3 rfl
      have z0 := wn2.cell 0 rfl
      have z1 := wn2.cell 1 rfl
      have z2 := wn2.cell 2 rfl
      have z3 := wn2.cell 3 rfl
      have j0 := wr2.frozen 0
      have j1 := wr2.frozen 1
      have j2 := wr2.frozen 2
      have j3 := wr2.frozen 3
      have i0 := wr2.cell 0 rfl
      have i1 := wr2.cell 1 rfl
      have i2 := wr2.cell 2 rfl
      have i3 := wr2.cell 3 rfl
      go_wp2_with fail
      refine FC2.out.mono ?_
      rintro e W3 ⟨rfl, h3⟩
      have h13 : Below wi.heap.size wi W3 := h12.trans (h3.mono h12.size)
      have hown3 := hown.below h13
      have hbel3 := hbel.trans (h13.mono hbel.size)
      have hlen3 : (CI.take k).length < 17592186044415 := by rw [List.length_take]; omega
      have hsz3 : F.heap.size ≤ W3.heap.size := hbel3.size
      generalize CI.take k = L at *
      go_wp2_with (at_builtin; refine wpList_append_one rfl _ _ rfl rfl hown3 rfl hbel3 hlen3 hsz3 (Nat.le_refl _) ?_; intro v' w4 hown5 hbel5 hs4 hk4)
      go_roundw
      case rel => exact ⟨k + 1, by omega, by go_num, by rw [S1.out]; exact hown5, by rw [AL.out, HA.out, Bool.true_and]; exact HI.out, hbel5⟩
      case measure => simp [intOf] <;> omega
    · obtain rfl : k = N := by omega
      have hCN : CI.take k = CI := List.take_of_length_le (by rw [HCI.out]; exact Nat.le_refl _)
      have hSN : SR.take k = SR := List.take_of_length_le (by omega)
      rw [hCN] at hown
      have hA2 := HA.out
      rw [hSN] at hA2
      have hcb := HC2.out _ hA2
      rw [Bool.true_and] at hcb
      have hY1 : Y = ⟨2, CVV, 0, []⟩ := HY.out true hcb
      obtain ⟨pv, cv, rfl, hrv⟩ := hown.rd
      have O1 := Lib.hid (OUT.out hcb wi pv cv hBW hrv)
      rw [HCI.out] at O1 ⊢
      clear HC2 HY HA hA2 hown hrv hCN hSN OUT FK HCS HAL HAF
      subst hY1 hcb
      go_wp2_with fail
      refine O1.out.mono ?_
      rintro e W1 ⟨rfl, h1⟩
      have k1 := hBW.trans (h1.mono hBW.size)
      go_wp2_with fail
      refine (constOf_x CVV W1).mono ?_
      rintro e W2 ⟨u, rfl, hu, h2⟩
      have k2 := k1.trans (h2.mono k1.size)
      have rx2 := (wrr.below h1).below h2
      obtain ⟨uq, uc, rfl, -⟩ := hu.rd
      have hne : (Value.slice uq 0 uc).ownBlock ≠ some (g + 1) := fun e => by
        have := (hu.lt e).1
        have := wrr.lt
        have := h1.size
        omega
      have ho9 : OwnI w.heap.size W2 (.slice uq 0 uc) [] := hu.mono k1.size
      clear v0 v1 v2 v3 z0 z1 z2 z3 j0 j1 j2 j3 i0 i1 i2 i3
      have j0 := rx2.frozen 0
      have j1 := rx2.frozen 1
      have j2 := rx2.frozen 2
      have j3 := rx2.frozen 3
      have i0 := rx2.cell 0 rfl
      have i1 := rx2.cell 1 rfl
      have i2 := rx2.cell 2 rfl
      have i3 := rx2.cell 3 rfl
      obtain ⟨W9, hW9, b9, o9, l9⟩ := put_res (y := ⟨2, CVV, 0, []⟩) (s := (.slice uq 0 uc)) rx2 ho9 hne k2 hgl
      have q0 := b9.cell 0 rfl
      have q1 := b9.cell 1 rfl
      have q2 := b9.cell 2 rfl
      have q3 := b9.cell 3 rfl
      have O9 := Lib.hid o9
      have L9 := Lib.hid l9
      have H9 := Lib.hid hW9
      clear hW9 o9 l9 b9
      go_wp2_with fail
      rw [← H9.out]
      refine bodyPost_ret (v := .tuple #[.agg #[.int .i64 2, .int .i64 CVV, .int .i64 0, (.slice uq 0 uc)], .bool true]) (by simp [results, Tryz.results49, go_sem, *]) rfl ?_
      exact ⟨_, rfl, O9.out, L9.out⟩

end Go.Proofs.YtcfhcmgmkhfjjaaGreat

namespace Go.Proofs.YtcfhcmgmkhfjjaaGreat
open Go.ChangeShapes Go.WideShapes Go.ChangeAt Go.RowKit Go.Sort
set_option linter.unusedVariables false

set_option maxHeartbeats 8000000 in
set_option maxRecDepth 100000 in
theorem joined_x {x : PatchD} {p1 p3 : Option Addr} {c1 c2 c3 b o : Nat} {i : Nat} {kk : Int} (w : World) (NS : NodesAt w b o x) (hf : formedB x = true) (hi : i < x.nodes.length) (h56 : kk = 5 ∨ kk = 6) :
    Calls Tryz.prog 56 #[(.agg #[.int .i64 x.inputs, .slice p1 x.tables.length c1, .slice (some ⟨b, o, none⟩) x.nodes.length c2, .slice p3 x.outputs.length c3]), .int .i64 (i : Int), .int .i64 kk] w (RetN w (if joinB x (i : Int) kk then joinN x (i : Int) kk else zN) (joinOk x (i : Int) kk)) := by
  have HJ : Hid (∀ b1 b2 b3, ((nodeAt x.nodes (i : Int)).kind == kk) = b1 → ((frm x (i : Int) 0).kind == kk) = b2 → (inp x (i : Int) 0 == (i : Int)) = b3 → joinB x (i : Int) kk = ((b1 && b2) && !b3)) := by
    intro b1 b2 b3 e1 e2 e3
    unfold joinB; rw [e1, e2, e3]
  obtain ⟨Y, hY⟩ : ∃ Y, Y = (if joinB x (i : Int) kk then joinN x (i : Int) kk else zN) := ⟨_, rfl⟩
  obtain ⟨T, hT⟩ : ∃ T, T = joinOk x (i : Int) kk := ⟨_, rfl⟩
  rw [← hY, ← hT]
  have HY : Hid (∀ b, joinB x (i : Int) kk = b → Y = (if b then joinN x (i : Int) kk else zN) ∧ T = (b && (kk == 5 || decide (joinA x (i : Int) kk ≤ 16)))) := fun b h => by
    unfold joinOk at hT
    rw [hY, hT, h]
    exact ⟨rfl, rfl⟩
  have HN : Hid (joinN x (i : Int) kk = ⟨kk, joinA x (i : Int) kk, 0, (frm x (i : Int) 0).src⟩) := rfl
  have HA : Hid (joinA x (i : Int) kk = if kk = 5 then smp ((nodeAt x.nodes (i : Int)).a * (frm x (i : Int) 0).a) else (nodeAt x.nodes (i : Int)).a + (frm x (i : Int) 0).a) := rfl
  clear hY hT
  have hn := NS i hi
  have hok := nodeAt_ok hf (i := (i : Int)) (by omega) (by omega)
  obtain ⟨hk, har⟩ := nodeB_ar hok
  have hN3 := src_le3 hok
  have FK := fun k h => from_at (p1 := p1) (p3 := p3) (c1 := c1) (c2 := c2) (c3 := c3) (k := k) (k : Int) w NS hf hi h rfl
  have F0 := fun h => from_at (p1 := p1) (p3 := p3) (c1 := c1) (c2 := c2) (c3 := c3) (k := 0) 0 w NS hf hi h rfl
  obtain ⟨y0, y1, y2, q, d, y3, hr⟩ := hn
  have hlen := hr.len
  unfold maxLen at hlen
  have hlb := World.block_lt_of_cell? w _ y0
  obtain ⟨g, hg⟩ : ∃ g, g = w.heap.size := ⟨_, rfl⟩
  obtain ⟨E1, hE1⟩ : ∃ E, E = (w.alloc (.cells #[.int .i64 x.inputs, .slice p1 x.tables.length c1, .slice (some ⟨b, o, none⟩) x.nodes.length c2, .slice p3 x.outputs.length c3] 28)).alloc (.cells #[.int .i64 0, .int .i64 0, .int .i64 0, .slice none 0 0] 55) := ⟨_, rfl⟩
  have hB1 : Below w.heap.size w E1 := by rw [hE1]; exact ((Below.refl _ _).alloc (Nat.le_refl _) _).alloc (by simp) _
  have x0 := (hB1.cell (p := ⟨b, o + i * 4, none⟩) hlb).trans y0
  have x1 := (hB1.cell (p := ⟨b, o + i * 4 + 1, none⟩) hlb).trans y1
  have x2 := (hB1.cell (p := ⟨b, o + i * 4 + 2, none⟩) hlb).trans y2
  have x3 := (hB1.cell (p := ⟨b, o + i * 4 + 3, none⟩) hlb).trans y3
  have bx1 : Box E1 g [.int .i64 x.inputs, .slice p1 x.tables.length c1, .slice (some ⟨b, o, none⟩) x.nodes.length c2, .slice p3 x.outputs.length c3] 28 := by rw [hE1, hg]; exact (Box.newAt w _ _ rfl).alloc _
  have br1 : Box E1 (g + 1) [.int .i64 0, .int .i64 0, .int .i64 0, .slice none 0 0] 55 := by rw [hE1, hg]; exact Box.newAt (w.alloc _) _ _ (by simp)
  have u2 := bx1.cell 2 rfl
  have hgl : w.heap.size ≤ g + 1 := by omega
  have SC : Hid (1 ≤ (nodeAt x.nodes (i : Int)).src.length → ∃ b2 o2, q = some ⟨b2, o2, none⟩ ∧ b2 < w.heap.size ∧ w.cell? ⟨b2, o2, none⟩ = some (.int .i64 (inp x (i : Int) 0)) ∧ (frm x (i : Int) 0).src.length ≤ 3 ∧ -2147483648 ≤ (frm x (i : Int) 0).a ∧ (frm x (i : Int) 0).a ≤ 2147483647) := fun h => by
    obtain ⟨b2, o2, e, hb, hc⟩ := hr.at0 h
    obtain ⟨r0, r1⟩ := inp_rng hf (i := (i : Int)) (by omega) (by omega) (k := 0) (by omega)
    have h3 := nodeAt_ok hf r0 r1
    exact ⟨b2, o2, e, hb, hc 0 (by omega), src_le3 h3, (nodeB_a h3).1, (nodeB_a h3).2⟩
  have hA1 := nodeB_a hok
  have har5 : (nodeAt x.nodes (i : Int)).kind = kk → (nodeAt x.nodes (i : Int)).src.length = 1 := fun h => by
    rw [h] at har
    rcases h56 with rfl | rfl
    · have : kAr ((5 : Int) - 1).toNat = 1 := rfl
      omega
    · have : kAr ((6 : Int) - 1).toNat = 1 := rfl
      omega
  clear hr hok FK har hk
  generalize (nodeAt x.nodes (i : Int)).kind = K at *
  generalize (nodeAt x.nodes (i : Int)).a = A at *
  generalize (nodeAt x.nodes (i : Int)).b = B at *
  generalize (nodeAt x.nodes (i : Int)).src.length = N at *
  generalize inp x (i : Int) 0 = s0 at *
  generalize frm x (i : Int) 0 = f0 at *
  generalize joinN x (i : Int) kk = JN at *
  generalize joinA x (i : Int) kk = JA at *
  generalize joinB x (i : Int) kk = JB at *
  obtain ⟨E, hE⟩ : ∃ E, E = E1.alloc (.cells #[.int .i64 K, .int .i64 A, .int .i64 B, .slice q N d] 55) := ⟨_, rfl⟩
  have hBE : Below E1.heap.size E1 E := by rw [hE]; exact (Below.refl _ _).alloc (Nat.le_refl _) _
  have hB0 := hB1.trans (hBE.mono hB1.size)
  have bx : Box E g [.int .i64 x.inputs, .slice p1 x.tables.length c1, .slice (some ⟨b, o, none⟩) x.nodes.length c2, .slice p3 x.outputs.length c3] 28 := bx1.below hBE
  have br : Box E (g + 1) [.int .i64 0, .int .i64 0, .int .i64 0, .slice none 0 0] 55 := br1.below hBE
  have bn : Box E (g + 2) [.int .i64 K, .int .i64 A, .int .i64 B, .slice q N d] 55 := by rw [hE]; exact Box.newAt E1 _ _ (by rw [hE1, hg]; simp)
  have hgE : g + 2 < E.heap.size := bn.lt
  have HE := Lib.hid hE
  have HE1 := Lib.hid hE1
  have HG := Lib.hid hg
  have HSZ : Hid (E1.heap.size = g + 2) := by unfold Hid; rw [hE1, hg]; simp
  clear hE hE1 hg hBE bx1 br1
  have v0 := bx.cell 0 rfl
  have v1 := bx.cell 1 rfl
  have v2 := bx.cell 2 rfl
  have v3 := bx.cell 3 rfl
  have z0 := bn.cell 0 rfl
  have z1 := bn.cell 1 rfl
  have z2 := bn.cell 2 rfl
  have z3 := bn.cell 3 rfl
  have j0 := br.frozen 0
  have j1 := br.frozen 1
  have j2 := br.frozen 2
  have j3 := br.frozen 3
  have i0 := br.cell 0 rfl
  have i1 := br.cell 1 rfl
  have i2 := br.cell 2 rfl
  have i3 := br.cell 3 rfl
  by_cases h1 : K = kk
  case neg =>
    have q1 : (K != kk) = true := by rw [bne_iff_ne]; exact h1
    obtain ⟨hY1, hT1⟩ := HY.out false (by rw [HJ.out false _ _ (by rw [beq_eq_false_iff_ne]; exact h1) rfl rfl]; rfl)
    have hY2 : Y = ⟨0, 0, 0, []⟩ := hY1
    have hT2 : T = false := hT1
    subst hY2 hT2
    have ho9 : OwnI w.heap.size E (.slice none 0 0) [] := OwnI.nil _ _
    clear hY1 hT1 HY HJ h1 F0 SC har5
    go_enter Tryz.func56, Tryz.ntmps56
    go_upto_region 1 with fail
    rw [← HE1.out, ← HG.out]
    go_upto_region 2 with fail
    rw [← HE.out, HSZ.out]
    obtain ⟨W9, hW9, b9, o9, l9⟩ := put_res (y := ⟨0, 0, 0, []⟩) (s := (.slice none 0 0)) br ho9 (by simp [Value.ownBlock]) hB0 hgl
    have q0 := b9.cell 0 rfl
    have q1 := b9.cell 1 rfl
    have q2 := b9.cell 2 rfl
    have q3 := b9.cell 3 rfl
    have O9 := Lib.hid o9
    have L9 := Lib.hid l9
    have H9 := Lib.hid hW9
    clear hW9 o9 l9 b9
    go_wp2_with fail
    rw [← H9.out]
    refine bodyPost_ret (v := .tuple #[.agg #[.int .i64 0, .int .i64 0, .int .i64 0, (.slice none 0 0)], .bool false]) (by simp [results, Tryz.results56, go_sem, *]) rfl ?_
    exact ⟨_, rfl, O9.out, L9.out⟩
  have q1 : (K != kk) = false := by rw [bne_eq_false_iff_eq]; exact h1
  have hN1 := har5 h1
  have HJ2 := Lib.hid (fun b2 b3 e2 e3 => HJ.out true b2 b3 (by rw [beq_iff_eq]; exact h1) e2 e3)
  obtain ⟨b2, o2, rfl, hb2, S0, hl0, ha0, ha1⟩ := SC.out (by omega)
  obtain ⟨fq, fc, hfr, FC⟩ := F0 (by omega)
  have r0 := (hB0.cell (p := ⟨b2, o2, none⟩) hb2).trans S0
  have hN0 : 0 < N := by omega
  clear har5 SC HJ S0 h1 F0 hN1
  have fd0 := node_field0 f0.kind f0.a f0.b fq f0.src.length fc
  have FC1 := Lib.hid (FC E hB0)
  by_cases h2 : f0.kind = kk
  case neg =>
    have q2 : (f0.kind != kk) = true := by rw [bne_iff_ne]; exact h2
    obtain ⟨hY1, hT1⟩ := HY.out false (by rw [HJ2.out false _ (by rw [beq_eq_false_iff_ne]; exact h2) rfl]; rfl)
    have hY2 : Y = ⟨0, 0, 0, []⟩ := hY1
    have hT2 : T = false := hT1
    subst hY2 hT2
    clear hY1 hT1 HY HJ2 h2
    go_enter Tryz.func56, Tryz.ntmps56
    go_upto_region 1 with fail
    rw [← HE1.out, ← HG.out]
    go_upto_region 2 with fail
    rw [← HE.out, HSZ.out]
    go_wp2_with fail
    refine FC1.out.mono ?_
    rintro e W1 ⟨rfl, d1⟩
    have k1 := hB0.trans (d1.mono hB0.size)
    have rx1 := br.below d1
    have ho9 : OwnI w.heap.size W1 (.slice none 0 0) [] := OwnI.nil _ _
    clear v0 v1 v2 v3 z0 z1 z2 z3 j0 j1 j2 j3 i0 i1 i2 i3
    have j0 := rx1.frozen 0
    have j1 := rx1.frozen 1
    have j2 := rx1.frozen 2
    have j3 := rx1.frozen 3
    have i0 := rx1.cell 0 rfl
    have i1 := rx1.cell 1 rfl
    have i2 := rx1.cell 2 rfl
    have i3 := rx1.cell 3 rfl
    obtain ⟨W9, hW9, b9, o9, l9⟩ := put_res (y := ⟨0, 0, 0, []⟩) (s := (.slice none 0 0)) rx1 ho9 (by simp [Value.ownBlock]) k1 hgl
    have q0 := b9.cell 0 rfl
    have q1 := b9.cell 1 rfl
    have q2 := b9.cell 2 rfl
    have q3 := b9.cell 3 rfl
    have O9 := Lib.hid o9
    have L9 := Lib.hid l9
    have H9 := Lib.hid hW9
    clear hW9 o9 l9 b9
    go_wp2_with fail
    rw [← H9.out]
    refine bodyPost_ret (v := .tuple #[.agg #[.int .i64 0, .int .i64 0, .int .i64 0, (.slice none 0 0)], .bool false]) (by simp [results, Tryz.results56, go_sem, *]) rfl ?_
    exact ⟨_, rfl, O9.out, L9.out⟩
  have q2 : (f0.kind != kk) = false := by rw [bne_eq_false_iff_eq]; exact h2
  have HJ3 := Lib.hid (fun b3 e3 => HJ2.out true b3 (by rw [beq_iff_eq]; exact h2) e3)
  clear HJ2 h2
  by_cases h3 : s0 = (i : Int)
  case pos =>
    have q3 : (s0 == (i : Int)) = true := by rw [beq_iff_eq]; exact h3
    obtain ⟨hY1, hT1⟩ := HY.out false (by rw [HJ3.out true q3]; rfl)
    have hY2 : Y = ⟨0, 0, 0, []⟩ := hY1
    have hT2 : T = false := hT1
    subst hY2 hT2
    clear hY1 hT1 HY HJ3 h3
    go_enter Tryz.func56, Tryz.ntmps56
    go_upto_region 1 with fail
    rw [← HE1.out, ← HG.out]
    go_upto_region 2 with fail
    rw [← HE.out, HSZ.out]
    go_wp2_with fail
    refine FC1.out.mono ?_
    rintro e W1 ⟨rfl, d1⟩
    have k1 := hB0.trans (d1.mono hB0.size)
    have x1' := bx.below d1
    have n1' := bn.below d1
    have rx1 := br.below d1
    replace r0 := (d1.cell (p := ⟨b2, o2, none⟩) (Nat.lt_of_lt_of_le hb2 hB0.size)).trans r0
    clear v0 v1 v2 v3 z0 z1 z2 z3 j0 j1 j2 j3 i0 i1 i2 i3
    have v0 := x1'.cell 0 rfl
    have v1 := x1'.cell 1 rfl
    have v2 := x1'.cell 2 rfl
    have v3 := x1'.cell 3 rfl
    have z0 := n1'.cell 0 rfl
    have z1 := n1'.cell 1 rfl
    have z2 := n1'.cell 2 rfl
    have z3 := n1'.cell 3 rfl
    have j0 := rx1.frozen 0
    have j1 := rx1.frozen 1
    have j2 := rx1.frozen 2
    have j3 := rx1.frozen 3
    have i0 := rx1.cell 0 rfl
    have i1 := rx1.cell 1 rfl
    have i2 := rx1.cell 2 rfl
    have i3 := rx1.cell 3 rfl
    have ho9 : OwnI w.heap.size W1 (.slice none 0 0) [] := OwnI.nil _ _
    obtain ⟨W9, hW9, b9, o9, l9⟩ := put_res (y := ⟨0, 0, 0, []⟩) (s := (.slice none 0 0)) rx1 ho9 (by simp [Value.ownBlock]) k1 hgl
    have q0 := b9.cell 0 rfl
    have q1 := b9.cell 1 rfl
    have q2 := b9.cell 2 rfl
    have q3 := b9.cell 3 rfl
    have O9 := Lib.hid o9
    have L9 := Lib.hid l9
    have H9 := Lib.hid hW9
    clear hW9 o9 l9 b9
    go_wp2_with fail
    rw [← H9.out]
    refine bodyPost_ret (v := .tuple #[.agg #[.int .i64 0, .int .i64 0, .int .i64 0, (.slice none 0 0)], .bool false]) (by simp [results, Tryz.results56, go_sem, *]) rfl ?_
    exact ⟨_, rfl, O9.out, L9.out⟩
  have q3 : (s0 == (i : Int)) = false := by rw [beq_eq_false_iff_ne]; exact h3
  obtain ⟨hY1, hT1⟩ := HY.out true (by rw [HJ3.out false q3]; rfl)
  rw [if_pos rfl, HN.out] at hY1
  rw [Bool.true_and] at hT1
  have hw : IntKind.i64.wrap (A + f0.a) = A + f0.a := IntWalk.i64_in _ (by omega)
  have hJA := HA.out
  clear HY HJ3 h3 HN HA
  have KCL : Hid (∀ W, Below w.heap.size w W → Calls Tryz.prog 78 #[.slice fq f0.src.length fc] W fun e w' => ∃ v, e = .returned v ∧ OwnI W.heap.size w' v f0.src ∧ Below W.heap.size W w') := fun W hW => clone_any W (hfr.below hW) (by omega)
  rcases h56 with rfl | rfl
  · rw [if_pos rfl] at hJA
    subst hJA
    have hT2 : T = true := hT1
    subst hT2 hY1
    clear hT1
    have TAIL : True := trivial
    go_enter Tryz.func56, Tryz.ntmps56
    go_upto_region 1 with fail
    rw [← HE1.out, ← HG.out]
    go_upto_region 2 with fail
    rw [← HE.out, HSZ.out]
    go_wp2_with fail
    refine FC1.out.mono ?_
    rintro e W1 ⟨rfl, d1⟩
    have k1 := hB0.trans (d1.mono hB0.size)
    have x1' := bx.below d1
    have n1' := bn.below d1
    have rx1 := br.below d1
    replace r0 := (d1.cell (p := ⟨b2, o2, none⟩) (Nat.lt_of_lt_of_le hb2 hB0.size)).trans r0
    clear v0 v1 v2 v3 z0 z1 z2 z3 j0 j1 j2 j3 i0 i1 i2 i3
    have v0 := x1'.cell 0 rfl
    have v1 := x1'.cell 1 rfl
    have v2 := x1'.cell 2 rfl
    have v3 := x1'.cell 3 rfl
    have z0 := n1'.cell 0 rfl
    have z1 := n1'.cell 1 rfl
    have z2 := n1'.cell 2 rfl
    have z3 := n1'.cell 3 rfl
    have j0 := rx1.frozen 0
    have j1 := rx1.frozen 1
    have j2 := rx1.frozen 2
    have j3 := rx1.frozen 3
    have i0 := rx1.cell 0 rfl
    have i1 := rx1.cell 1 rfl
    have i2 := rx1.cell 2 rfl
    have i3 := rx1.cell 3 rfl
    go_wp2_with fail
    have FC2 := Lib.hid (FC W1 k1)
    refine FC2.out.mono ?_
    rintro e W2 ⟨rfl, d2⟩
    have k2 := k1.trans (d2.mono k1.size)
    have x2' := x1'.below d2
    have n2' := n1'.below d2
    have rx2 := rx1.below d2
    obtain ⟨V, hV⟩ : ∃ V, V = W2.alloc (.cells #[.int .i64 f0.kind, .int .i64 f0.a, .int .i64 f0.b, .slice fq f0.src.length fc] 55) := ⟨_, rfl⟩
    have d3 : Below W2.heap.size W2 V := by rw [hV]; exact (Below.refl _ _).alloc (Nat.le_refl _) _
    have bo : Box V W2.heap.size [.int .i64 f0.kind, .int .i64 f0.a, .int .i64 f0.b, .slice fq f0.src.length fc] 55 := by rw [hV]; exact Box.newAt W2 _ _ rfl
    have k3 := k2.trans (d3.mono k2.size)
    have x3' := x2'.below d3
    have n3' := n2'.below d3
    have rx3 := rx2.below d3
    have HV := Lib.hid hV
    clear hV v0 v1 v2 v3 z0 z1 z2 z3 j0 j1 j2 j3 i0 i1 i2 i3
    have t1 := bo.cell 1 rfl
    have t3 := bo.cell 3 rfl
    have v0 := x3'.cell 0 rfl
    have v1 := x3'.cell 1 rfl
    have v2 := x3'.cell 2 rfl
    have v3 := x3'.cell 3 rfl
    have z0 := n3'.cell 0 rfl
    have z1 := n3'.cell 1 rfl
    have z2 := n3'.cell 2 rfl
    have z3 := n3'.cell 3 rfl
    have j0 := rx3.frozen 0
    have j1 := rx3.frozen 1
    have j2 := rx3.frozen 2
    have j3 := rx3.frozen 3
    have i0 := rx3.cell 0 rfl
    have i1 := rx3.cell 1 rfl
    have i2 := rx3.cell 2 rfl
    have i3 := rx3.cell 3 rfl
    go_upto_region 5 with fail
    rw [← HV.out]
    go_wp2_with (go_at_call 96; refine (implWrap_any _ _).mono ?_; rintro e w' ⟨rfl, rfl⟩)
    refine (KCL.out V k3).mono ?_
    rintro e W4 ⟨u, rfl, hu, d4⟩
    have k4 := k3.trans (d4.mono k3.size)
    have rx4 := rx3.below d4
    obtain ⟨uq, uc, rfl, -⟩ := hu.rd
    have hne : (Value.slice uq f0.src.length uc).ownBlock ≠ some (g + 1) := fun e => by
      have := (hu.lt e).1
      have := rx3.lt
      omega
    have ho9 : OwnI w.heap.size W4 (.slice uq f0.src.length uc) f0.src := hu.mono k3.size
    clear v0 v1 v2 v3 z0 z1 z2 z3 j0 j1 j2 j3 i0 i1 i2 i3
    have j0 := rx4.frozen 0
    have j1 := rx4.frozen 1
    have j2 := rx4.frozen 2
    have j3 := rx4.frozen 3
    have i0 := rx4.cell 0 rfl
    have i1 := rx4.cell 1 rfl
    have i2 := rx4.cell 2 rfl
    have i3 := rx4.cell 3 rfl
    rw [smp_wrap64]
    obtain ⟨W9, hW9, b9, o9, l9⟩ := put_res (y := ⟨5, (smp (A * f0.a)), 0, f0.src⟩) (s := (.slice uq f0.src.length uc)) rx4 ho9 hne k4 hgl
    have q0 := b9.cell 0 rfl
    have q1 := b9.cell 1 rfl
    have q2 := b9.cell 2 rfl
    have q3 := b9.cell 3 rfl
    have O9 := Lib.hid o9
    have L9 := Lib.hid l9
    have H9 := Lib.hid hW9
    clear hW9 o9 l9 b9
    go_wp2_with fail
    rw [← H9.out]
    refine bodyPost_ret (v := .tuple #[.agg #[.int .i64 5, .int .i64 (smp (A * f0.a)), .int .i64 0, (.slice uq f0.src.length uc)], .bool true]) (by simp [results, Tryz.results56, go_sem, *]) rfl ?_
    exact ⟨_, rfl, O9.out, L9.out⟩
  · rw [if_neg (by decide)] at hJA
    subst hJA
    cases hd : decide (A + f0.a ≤ 16)
    case false =>
      rw [hd] at hT1
      have hT2 : T = false := hT1
      subst hT2 hY1
      clear hT1
      go_enter Tryz.func56, Tryz.ntmps56
      go_upto_region 1 with fail
      rw [← HE1.out, ← HG.out]
      go_upto_region 2 with fail
      rw [← HE.out, HSZ.out]
      go_wp2_with fail
      refine FC1.out.mono ?_
      rintro e W1 ⟨rfl, d1⟩
      have k1 := hB0.trans (d1.mono hB0.size)
      have x1' := bx.below d1
      have n1' := bn.below d1
      have rx1 := br.below d1
      replace r0 := (d1.cell (p := ⟨b2, o2, none⟩) (Nat.lt_of_lt_of_le hb2 hB0.size)).trans r0
      clear v0 v1 v2 v3 z0 z1 z2 z3 j0 j1 j2 j3 i0 i1 i2 i3
      have v0 := x1'.cell 0 rfl
      have v1 := x1'.cell 1 rfl
      have v2 := x1'.cell 2 rfl
      have v3 := x1'.cell 3 rfl
      have z0 := n1'.cell 0 rfl
      have z1 := n1'.cell 1 rfl
      have z2 := n1'.cell 2 rfl
      have z3 := n1'.cell 3 rfl
      have j0 := rx1.frozen 0
      have j1 := rx1.frozen 1
      have j2 := rx1.frozen 2
      have j3 := rx1.frozen 3
      have i0 := rx1.cell 0 rfl
      have i1 := rx1.cell 1 rfl
      have i2 := rx1.cell 2 rfl
      have i3 := rx1.cell 3 rfl
      go_wp2_with fail
      have FC2 := Lib.hid (FC W1 k1)
      refine FC2.out.mono ?_
      rintro e W2 ⟨rfl, d2⟩
      have k2 := k1.trans (d2.mono k1.size)
      have x2' := x1'.below d2
      have n2' := n1'.below d2
      have rx2 := rx1.below d2
      obtain ⟨V, hV⟩ : ∃ V, V = W2.alloc (.cells #[.int .i64 f0.kind, .int .i64 f0.a, .int .i64 f0.b, .slice fq f0.src.length fc] 55) := ⟨_, rfl⟩
      have d3 : Below W2.heap.size W2 V := by rw [hV]; exact (Below.refl _ _).alloc (Nat.le_refl _) _
      have bo : Box V W2.heap.size [.int .i64 f0.kind, .int .i64 f0.a, .int .i64 f0.b, .slice fq f0.src.length fc] 55 := by rw [hV]; exact Box.newAt W2 _ _ rfl
      have k3 := k2.trans (d3.mono k2.size)
      have x3' := x2'.below d3
      have n3' := n2'.below d3
      have rx3 := rx2.below d3
      have HV := Lib.hid hV
      clear hV v0 v1 v2 v3 z0 z1 z2 z3 j0 j1 j2 j3 i0 i1 i2 i3
      have t1 := bo.cell 1 rfl
      have t3 := bo.cell 3 rfl
      have v0 := x3'.cell 0 rfl
      have v1 := x3'.cell 1 rfl
      have v2 := x3'.cell 2 rfl
      have v3 := x3'.cell 3 rfl
      have z0 := n3'.cell 0 rfl
      have z1 := n3'.cell 1 rfl
      have z2 := n3'.cell 2 rfl
      have z3 := n3'.cell 3 rfl
      have j0 := rx3.frozen 0
      have j1 := rx3.frozen 1
      have j2 := rx3.frozen 2
      have j3 := rx3.frozen 3
      have i0 := rx3.cell 0 rfl
      have i1 := rx3.cell 1 rfl
      have i2 := rx3.cell 2 rfl
      have i3 := rx3.cell 3 rfl
      go_upto_region 5 with fail
      rw [← HV.out]
      go_wp2_with fail
      refine (KCL.out V k3).mono ?_
      rintro e W4 ⟨u, rfl, hu, d4⟩
      have k4 := k3.trans (d4.mono k3.size)
      have rx4 := rx3.below d4
      obtain ⟨uq, uc, rfl, -⟩ := hu.rd
      have hne : (Value.slice uq f0.src.length uc).ownBlock ≠ some (g + 1) := fun e => by
        have := (hu.lt e).1
        have := rx3.lt
        omega
      have ho9 : OwnI w.heap.size W4 (.slice uq f0.src.length uc) f0.src := hu.mono k3.size
      clear v0 v1 v2 v3 z0 z1 z2 z3 j0 j1 j2 j3 i0 i1 i2 i3
      have j0 := rx4.frozen 0
      have j1 := rx4.frozen 1
      have j2 := rx4.frozen 2
      have j3 := rx4.frozen 3
      have i0 := rx4.cell 0 rfl
      have i1 := rx4.cell 1 rfl
      have i2 := rx4.cell 2 rfl
      have i3 := rx4.cell 3 rfl
      obtain ⟨W9, hW9, b9, o9, l9⟩ := put_res (y := ⟨6, (A + f0.a), 0, f0.src⟩) (s := (.slice uq f0.src.length uc)) rx4 ho9 hne k4 hgl
      have q0 := b9.cell 0 rfl
      have q1 := b9.cell 1 rfl
      have q2 := b9.cell 2 rfl
      have q3 := b9.cell 3 rfl
      have O9 := Lib.hid o9
      have L9 := Lib.hid l9
      have H9 := Lib.hid hW9
      clear hW9 o9 l9 b9
      go_wp2_with fail
      rw [← H9.out]
      refine bodyPost_ret (v := .tuple #[.agg #[.int .i64 6, .int .i64 (A + f0.a), .int .i64 0, (.slice uq f0.src.length uc)], .bool false]) (by simp [results, Tryz.results56, go_sem, *]) rfl ?_
      exact ⟨_, rfl, O9.out, L9.out⟩
    case true =>
      rw [hd] at hT1
      have hT2 : T = true := hT1
      subst hT2 hY1
      clear hT1
      go_enter Tryz.func56, Tryz.ntmps56
      go_upto_region 1 with fail
      rw [← HE1.out, ← HG.out]
      go_upto_region 2 with fail
      rw [← HE.out, HSZ.out]
      go_wp2_with fail
      refine FC1.out.mono ?_
      rintro e W1 ⟨rfl, d1⟩
      have k1 := hB0.trans (d1.mono hB0.size)
      have x1' := bx.below d1
      have n1' := bn.below d1
      have rx1 := br.below d1
      replace r0 := (d1.cell (p := ⟨b2, o2, none⟩) (Nat.lt_of_lt_of_le hb2 hB0.size)).trans r0
      clear v0 v1 v2 v3 z0 z1 z2 z3 j0 j1 j2 j3 i0 i1 i2 i3
      have v0 := x1'.cell 0 rfl
      have v1 := x1'.cell 1 rfl
      have v2 := x1'.cell 2 rfl
      have v3 := x1'.cell 3 rfl
      have z0 := n1'.cell 0 rfl
      have z1 := n1'.cell 1 rfl
      have z2 := n1'.cell 2 rfl
      have z3 := n1'.cell 3 rfl
      have j0 := rx1.frozen 0
      have j1 := rx1.frozen 1
      have j2 := rx1.frozen 2
      have j3 := rx1.frozen 3
      have i0 := rx1.cell 0 rfl
      have i1 := rx1.cell 1 rfl
      have i2 := rx1.cell 2 rfl
      have i3 := rx1.cell 3 rfl
      go_wp2_with fail
      have FC2 := Lib.hid (FC W1 k1)
      refine FC2.out.mono ?_
      rintro e W2 ⟨rfl, d2⟩
      have k2 := k1.trans (d2.mono k1.size)
      have x2' := x1'.below d2
      have n2' := n1'.below d2
      have rx2 := rx1.below d2
      obtain ⟨V, hV⟩ : ∃ V, V = W2.alloc (.cells #[.int .i64 f0.kind, .int .i64 f0.a, .int .i64 f0.b, .slice fq f0.src.length fc] 55) := ⟨_, rfl⟩
      have d3 : Below W2.heap.size W2 V := by rw [hV]; exact (Below.refl _ _).alloc (Nat.le_refl _) _
      have bo : Box V W2.heap.size [.int .i64 f0.kind, .int .i64 f0.a, .int .i64 f0.b, .slice fq f0.src.length fc] 55 := by rw [hV]; exact Box.newAt W2 _ _ rfl
      have k3 := k2.trans (d3.mono k2.size)
      have x3' := x2'.below d3
      have n3' := n2'.below d3
      have rx3 := rx2.below d3
      have HV := Lib.hid hV
      clear hV v0 v1 v2 v3 z0 z1 z2 z3 j0 j1 j2 j3 i0 i1 i2 i3
      have t1 := bo.cell 1 rfl
      have t3 := bo.cell 3 rfl
      have v0 := x3'.cell 0 rfl
      have v1 := x3'.cell 1 rfl
      have v2 := x3'.cell 2 rfl
      have v3 := x3'.cell 3 rfl
      have z0 := n3'.cell 0 rfl
      have z1 := n3'.cell 1 rfl
      have z2 := n3'.cell 2 rfl
      have z3 := n3'.cell 3 rfl
      have j0 := rx3.frozen 0
      have j1 := rx3.frozen 1
      have j2 := rx3.frozen 2
      have j3 := rx3.frozen 3
      have i0 := rx3.cell 0 rfl
      have i1 := rx3.cell 1 rfl
      have i2 := rx3.cell 2 rfl
      have i3 := rx3.cell 3 rfl
      go_upto_region 5 with fail
      rw [← HV.out]
      go_wp2_with fail
      refine (KCL.out V k3).mono ?_
      rintro e W4 ⟨u, rfl, hu, d4⟩
      have k4 := k3.trans (d4.mono k3.size)
      have rx4 := rx3.below d4
      obtain ⟨uq, uc, rfl, -⟩ := hu.rd
      have hne : (Value.slice uq f0.src.length uc).ownBlock ≠ some (g + 1) := fun e => by
        have := (hu.lt e).1
        have := rx3.lt
        omega
      have ho9 : OwnI w.heap.size W4 (.slice uq f0.src.length uc) f0.src := hu.mono k3.size
      clear v0 v1 v2 v3 z0 z1 z2 z3 j0 j1 j2 j3 i0 i1 i2 i3
      have j0 := rx4.frozen 0
      have j1 := rx4.frozen 1
      have j2 := rx4.frozen 2
      have j3 := rx4.frozen 3
      have i0 := rx4.cell 0 rfl
      have i1 := rx4.cell 1 rfl
      have i2 := rx4.cell 2 rfl
      have i3 := rx4.cell 3 rfl
      obtain ⟨W9, hW9, b9, o9, l9⟩ := put_res (y := ⟨6, (A + f0.a), 0, f0.src⟩) (s := (.slice uq f0.src.length uc)) rx4 ho9 hne k4 hgl
      have q0 := b9.cell 0 rfl
      have q1 := b9.cell 1 rfl
      have q2 := b9.cell 2 rfl
      have q3 := b9.cell 3 rfl
      have O9 := Lib.hid o9
      have L9 := Lib.hid l9
      have H9 := Lib.hid hW9
      clear hW9 o9 l9 b9
      go_wp2_with fail
      rw [← H9.out]
      refine bodyPost_ret (v := .tuple #[.agg #[.int .i64 6, .int .i64 (A + f0.a), .int .i64 0, (.slice uq f0.src.length uc)], .bool true]) (by simp [results, Tryz.results56, go_sem, *]) rfl ?_
      exact ⟨_, rfl, O9.out, L9.out⟩
end Go.Proofs.YtcfhcmgmkhfjjaaGreat

namespace Go.Proofs.YtcfhcmgmkhfjjaaGreat
open Go.ChangeShapes Go.WideShapes Go.ChangeAt Go.RowKit Go.Sort
set_option linter.unusedVariables false

theorem RdV.atOwn {w : World} {g : Nat} {L : List Value} (h : RdV w (some ⟨g, 0, none⟩) L) : ∀ i, (hi : i < L.length) → w.cell? ⟨g, i, none⟩ = some L[i] := fun i hi => by
  rcases h.cells with rfl | ⟨b, o, e, hc⟩
  · simp at hi
  · simp only [Option.some.injEq, Addr.mk.injEq, and_true] at e
    obtain ⟨rfl, rfl⟩ := e
    have := hc i hi
    rwa [Nat.zero_add] at this
theorem Below.drewR' {B : Nat} {a w : World} (h : Below B a w) : Below B a w.drew := ⟨h.os, h.tape, h.output, h.size, h.block⟩
theorem put_lit {w W : World} {g : Nat} {l0 l1 l2 l3 : Value} {k a b z : Int} (br : Box W g [l0, l1, l2, l3] 55) (hb : Below w.heap.size w W) (hg : w.heap.size ≤ g) :
    ∃ V, V = (((((W.setCell ⟨g, 0, none⟩ (.int .i64 k)).setCell ⟨g, 1, none⟩ (.int .i64 a)).setCell ⟨g, 2, none⟩ (.int .i64 b)).setCell ⟨g, 3, none⟩ (.slice (some ⟨W.heap.size, 0, none⟩) 1 1)).alloc (.cells #[.int .i64 z] 2)) ∧
      Box V g [.int .i64 k, .int .i64 a, .int .i64 b, .slice (some ⟨W.heap.size, 0, none⟩) 1 1] 55 ∧ OwnI w.heap.size V (.slice (some ⟨W.heap.size, 0, none⟩) 1 1) [z] ∧ Below w.heap.size w V := by
  have h1 := br.put4 (a := .int .i64 k) (b := .int .i64 a) (c := .int .i64 b) (d := .slice (some ⟨W.heap.size, 0, none⟩) 1 1)
  have h2 := below_put4 (.int .i64 k) (.int .i64 a) (.int .i64 b) (.slice (some ⟨W.heap.size, 0, none⟩) 1 1) hb hg
  have h3 := OwnI.lit (B := w.heap.size) _ [z] h2.size (by simp [maxLen])
  refine ⟨_, rfl, h1.alloc _, ?_, h2.alloc h2.size _⟩
  simpa using h3
set_option maxHeartbeats 8000000 in
set_option maxRecDepth 100000 in
theorem toGain_x {x : PatchD} {p1 p3 : Option Addr} {c1 c2 c3 b o : Nat} {i : Nat} (w : World) (NS : NodesAt w b o x) (hf : formedB x = true) (hi : i < x.nodes.length) :
    Calls Tryz.prog 55 #[(.agg #[.int .i64 x.inputs, .slice p1 x.tables.length c1, .slice (some ⟨b, o, none⟩) x.nodes.length c2, .slice p3 x.outputs.length c3]), .int .i64 (i : Int)] w (RetN w (if factB x (i : Int) then factN x (i : Int) else zN) (factB x (i : Int))) := by
  have HF : Hid (∀ b0 b1 b2, ((nodeAt x.nodes (i : Int)).kind == 9) = b0 → ((frm x (i : Int) 0).kind == 2) = b1 → ((frm x (i : Int) 1).kind == 2) = b2 → factB x (i : Int) = (b0 && (b1 || b2)) ∧ factN x (i : Int) = if b1 then ⟨5, (frm x (i : Int) 0).a, 0, [inp x (i : Int) 1]⟩ else ⟨5, (frm x (i : Int) 1).a, 0, [inp x (i : Int) 0]⟩) := by
    intro b0 b1 b2 e0 e1 e2
    unfold factB factN isC
    rw [e0, e1, e2]
    exact ⟨rfl, rfl⟩
  obtain ⟨Y, hY⟩ : ∃ Y, Y = (if factB x (i : Int) then factN x (i : Int) else zN) := ⟨_, rfl⟩
  obtain ⟨T, hT⟩ : ∃ T, T = factB x (i : Int) := ⟨_, rfl⟩
  rw [← hY, ← hT]
  have HY : Hid (∀ b, factB x (i : Int) = b → Y = (if b then factN x (i : Int) else zN) ∧ T = b) := fun b h => by
    rw [hY, hT, h]
    exact ⟨rfl, rfl⟩
  clear hY hT
  have hn := NS i hi
  have hok := nodeAt_ok hf (i := (i : Int)) (by omega) (by omega)
  obtain ⟨hk, har⟩ := nodeB_ar hok
  have hN3 := src_le3 hok
  have FK := fun k h => from_at (p1 := p1) (p3 := p3) (c1 := c1) (c2 := c2) (c3 := c3) (k := k) (k : Int) w NS hf hi h rfl
  have F0 := fun h => from_at (p1 := p1) (p3 := p3) (c1 := c1) (c2 := c2) (c3 := c3) (k := 0) 0 w NS hf hi h rfl
  obtain ⟨y0, y1, y2, q, d, y3, hr⟩ := hn
  have hlen := hr.len
  unfold maxLen at hlen
  have hlb := World.block_lt_of_cell? w _ y0
  obtain ⟨g, hg⟩ : ∃ g, g = w.heap.size := ⟨_, rfl⟩
  obtain ⟨E1, hE1⟩ : ∃ E, E = (w.alloc (.cells #[.int .i64 x.inputs, .slice p1 x.tables.length c1, .slice (some ⟨b, o, none⟩) x.nodes.length c2, .slice p3 x.outputs.length c3] 28)).alloc (.cells #[.int .i64 0, .int .i64 0, .int .i64 0, .slice none 0 0] 55) := ⟨_, rfl⟩
  have hB1 : Below w.heap.size w E1 := by rw [hE1]; exact ((Below.refl _ _).alloc (Nat.le_refl _) _).alloc (by simp) _
  have x0 := (hB1.cell (p := ⟨b, o + i * 4, none⟩) hlb).trans y0
  have x1 := (hB1.cell (p := ⟨b, o + i * 4 + 1, none⟩) hlb).trans y1
  have x2 := (hB1.cell (p := ⟨b, o + i * 4 + 2, none⟩) hlb).trans y2
  have x3 := (hB1.cell (p := ⟨b, o + i * 4 + 3, none⟩) hlb).trans y3
  have bx1 : Box E1 g [.int .i64 x.inputs, .slice p1 x.tables.length c1, .slice (some ⟨b, o, none⟩) x.nodes.length c2, .slice p3 x.outputs.length c3] 28 := by rw [hE1, hg]; exact (Box.newAt w _ _ rfl).alloc _
  have br1 : Box E1 (g + 1) [.int .i64 0, .int .i64 0, .int .i64 0, .slice none 0 0] 55 := by rw [hE1, hg]; exact Box.newAt (w.alloc _) _ _ (by simp)
  have u2 := bx1.cell 2 rfl
  have hgl : w.heap.size ≤ g + 1 := by omega
  have F1 := fun h => from_at (p1 := p1) (p3 := p3) (c1 := c1) (c2 := c2) (c3 := c3) (k := 1) 1 w NS hf hi h rfl
  have SC : Hid (2 ≤ (nodeAt x.nodes (i : Int)).src.length → ∃ b2 o2, q = some ⟨b2, o2, none⟩ ∧ b2 < w.heap.size ∧ w.cell? ⟨b2, o2, none⟩ = some (.int .i64 (inp x (i : Int) 0)) ∧ w.cell? ⟨b2, o2 + 1, none⟩ = some (.int .i64 (inp x (i : Int) 1))) := fun h => by
    obtain ⟨b2, o2, e, hb, hc⟩ := hr.at0 (by omega)
    exact ⟨b2, o2, e, hb, hc 0 (by omega), hc 1 (by omega)⟩
  have har5 : (nodeAt x.nodes (i : Int)).kind = 9 → (nodeAt x.nodes (i : Int)).src.length = 2 := fun h => by
    rw [h] at har
    have : kAr ((9 : Int) - 1).toNat = 2 := rfl
    omega
  clear hr hok FK har hk
  generalize (nodeAt x.nodes (i : Int)).kind = K at *
  generalize (nodeAt x.nodes (i : Int)).a = A at *
  generalize (nodeAt x.nodes (i : Int)).b = B at *
  generalize (nodeAt x.nodes (i : Int)).src.length = N at *
  generalize inp x (i : Int) 0 = s0 at *
  generalize inp x (i : Int) 1 = s1 at *
  generalize frm x (i : Int) 0 = f0 at *
  generalize frm x (i : Int) 1 = f1 at *
  generalize factN x (i : Int) = FN at *
  generalize factB x (i : Int) = FB at *
  obtain ⟨E, hE⟩ : ∃ E, E = E1.alloc (.cells #[.int .i64 K, .int .i64 A, .int .i64 B, .slice q N d] 55) := ⟨_, rfl⟩
  have hBE : Below E1.heap.size E1 E := by rw [hE]; exact (Below.refl _ _).alloc (Nat.le_refl _) _
  have hB0 := hB1.trans (hBE.mono hB1.size)
  have bx : Box E g [.int .i64 x.inputs, .slice p1 x.tables.length c1, .slice (some ⟨b, o, none⟩) x.nodes.length c2, .slice p3 x.outputs.length c3] 28 := bx1.below hBE
  have br : Box E (g + 1) [.int .i64 0, .int .i64 0, .int .i64 0, .slice none 0 0] 55 := br1.below hBE
  have bn : Box E (g + 2) [.int .i64 K, .int .i64 A, .int .i64 B, .slice q N d] 55 := by rw [hE]; exact Box.newAt E1 _ _ (by rw [hE1, hg]; simp)
  have hgE : g + 2 < E.heap.size := bn.lt
  have HE := Lib.hid hE
  have HE1 := Lib.hid hE1
  have HG := Lib.hid hg
  have HSZ : Hid (E1.heap.size = g + 2) := by unfold Hid; rw [hE1, hg]; simp
  clear hE hE1 hg hBE bx1 br1
  have v0 := bx.cell 0 rfl
  have v1 := bx.cell 1 rfl
  have v2 := bx.cell 2 rfl
  have v3 := bx.cell 3 rfl
  have z0 := bn.cell 0 rfl
  have z1 := bn.cell 1 rfl
  have z2 := bn.cell 2 rfl
  have z3 := bn.cell 3 rfl
  have j0 := br.frozen 0
  have j1 := br.frozen 1
  have j2 := br.frozen 2
  have j3 := br.frozen 3
  have i0 := br.cell 0 rfl
  have i1 := br.cell 1 rfl
  have i2 := br.cell 2 rfl
  have i3 := br.cell 3 rfl
  by_cases h1 : K = 9
  case neg =>
    have q1 : (K != 9) = true := by rw [bne_iff_ne]; exact h1
    obtain ⟨hY1, hT1⟩ := HY.out false (by rw [(HF.out false _ _ (by rw [beq_eq_false_iff_ne]; exact h1) rfl rfl).1]; rfl)
    have hY2 : Y = ⟨0, 0, 0, []⟩ := hY1
    subst hY2 hT1
    have ho9 : OwnI w.heap.size E (.slice none 0 0) [] := OwnI.nil _ _
    clear hY1 HY HF h1 F0 F1 SC har5
    go_enter Tryz.func55, Tryz.ntmps55
    go_upto_region 1 with fail
    rw [← HE1.out, ← HG.out]
    go_upto_region 2 with fail
    rw [← HE.out, HSZ.out]
    obtain ⟨W9, hW9, b9, o9, l9⟩ := put_res (y := ⟨0, 0, 0, []⟩) (s := (.slice none 0 0)) br ho9 (by simp [Value.ownBlock]) hB0 hgl
    have q0 := b9.cell 0 rfl
    have q1 := b9.cell 1 rfl
    have q2 := b9.cell 2 rfl
    have q3 := b9.cell 3 rfl
    have O9 := Lib.hid o9
    have L9 := Lib.hid l9
    have H9 := Lib.hid hW9
    clear hW9 o9 l9 b9
    go_wp2_with fail
    rw [← H9.out]
    refine bodyPost_ret (v := .tuple #[.agg #[.int .i64 0, .int .i64 0, .int .i64 0, (.slice none 0 0)], .bool false]) (by simp [results, Tryz.results55, go_sem, *]) rfl ?_
    exact ⟨_, rfl, O9.out, L9.out⟩
  have q1 : (K != 9) = false := by rw [bne_eq_false_iff_eq]; exact h1
  have hN1 := har5 h1
  have HF2 := Lib.hid (fun b1 b2 e1 e2 => HF.out true b1 b2 (by rw [beq_iff_eq]; exact h1) e1 e2)
  obtain ⟨b2, o2, rfl, hb2, S0, S1⟩ := SC.out (by omega)
  obtain ⟨fq, fc, -, FC⟩ := F0 (by omega)
  obtain ⟨gq, gc, -, GC⟩ := F1 (by omega)
  have r0 := (hB0.cell (p := ⟨b2, o2, none⟩) hb2).trans S0
  have r1 := (hB0.cell (p := ⟨b2, o2 + 1, none⟩) hb2).trans S1
  subst hN1
  clear har5 SC HF S0 S1 h1 F0 F1
  have fd0 := node_field1 f0.kind f0.a f0.b fq f0.src.length fc
  have fd1 := node_field1 f1.kind f1.a f1.b gq f1.src.length gc
  have RND : True := trivial
  go_enter Tryz.func55, Tryz.ntmps55
  go_upto_region 1 with fail
  rw [← HE1.out, ← HG.out]
  go_upto_region 2 with fail
  rw [← HE.out, HSZ.out]
  go_wp2_with fail
  clear v0 v1 v2 v3 z0 z1 z2 z3 j0 j1 j2 j3 i0 i1 i2 i3
  go_loopw [20] (fun ci wr => ∃ k : Nat, k ≤ 2 ∧ ci = .int .i64 k ∧ (1 ≤ k → (f0.kind == 2) = false) ∧ (2 ≤ k → (f1.kind == 2) = false) ∧ Below E.heap.size E wr) (fun ci _ => 2 - (intOf ci).toNat)
  case atStart => exact ⟨0, Nat.zero_le _, rfl, fun h => by omega, fun h => by omega, Below.refl _ _⟩
  case round =>
    obtain ⟨k, hk, rfl, hc0, hc1, hbel⟩ := hrel
    obtain ⟨wi, rfl⟩ : ∃ wi : World, wi = wr := ⟨_, rfl⟩
    have xw := bx.below hbel
    have nw := bn.below hbel
    have rw_ := br.below hbel
    have hBW := hB0.trans (hbel.mono hB0.size)
    replace r0 := (hbel.cell (p := ⟨b2, o2, none⟩) (Nat.lt_of_lt_of_le hb2 hB0.size)).trans r0
    replace r1 := (hbel.cell (p := ⟨b2, o2 + 1, none⟩) (Nat.lt_of_lt_of_le hb2 hB0.size)).trans r1
    have v0 := xw.cell 0 rfl
    have v1 := xw.cell 1 rfl
    have v2 := xw.cell 2 rfl
    have v3 := xw.cell 3 rfl
    have z0 := nw.cell 0 rfl
    have z1 := nw.cell 1 rfl
    have z2 := nw.cell 2 rfl
    have z3 := nw.cell 3 rfl
    have j0 := rw_.frozen 0
    have j1 := rw_.frozen 1
    have j2 := rw_.frozen 2
    have j3 := rw_.frozen 3
    have i0 := rw_.cell 0 rfl
    have i1 := rw_.cell 1 rfl
    have i2 := rw_.cell 2 rfl
    have i3 := rw_.cell 3 rfl
    rcases (show k = 0 ∨ k = 1 ∨ k = 2 by omega) with rfl | rfl | rfl
    · have IC := Lib.hid (fun W => isConst_x (k := f0.kind) (a := f0.a) (b := f0.b) (q := fq) (n := f0.src.length) (c := fc) W)
      clear hc0 hc1
      cases hc : (f0.kind == 2)
      case false =>
        rw [hc] at IC
        have HI := Lib.hid hc
        clear hc
        go_wp2_with fail
        refine (FC wi hBW).mono ?_
        rintro e W1 ⟨rfl, d1⟩
        have k1 := hBW.trans (d1.mono hBW.size)
        have x1w := xw.below d1
        have n1w := nw.below d1
        have r1w := rw_.below d1
        replace r0 := (d1.cell (p := ⟨b2, o2, none⟩) (Nat.lt_of_lt_of_le hb2 hBW.size)).trans r0
        replace r1 := (d1.cell (p := ⟨b2, o2 + 1, none⟩) (Nat.lt_of_lt_of_le hb2 hBW.size)).trans r1
        clear v0 v1 v2 v3 z0 z1 z2 z3 j0 j1 j2 j3 i0 i1 i2 i3
        have v0 := x1w.cell 0 rfl
        have v1 := x1w.cell 1 rfl
        have v2 := x1w.cell 2 rfl
        have v3 := x1w.cell 3 rfl
        have z0 := n1w.cell 0 rfl
        have z1 := n1w.cell 1 rfl
        have z2 := n1w.cell 2 rfl
        have z3 := n1w.cell 3 rfl
        have j0 := r1w.frozen 0
        have j1 := r1w.frozen 1
        have j2 := r1w.frozen 2
        have j3 := r1w.frozen 3
        have i0 := r1w.cell 0 rfl
        have i1 := r1w.cell 1 rfl
        have i2 := r1w.cell 2 rfl
        have i3 := r1w.cell 3 rfl
        go_wp2_with fail
        refine (IC.out W1).mono ?_
        rintro e W2 ⟨rfl, d2⟩
        have k2 := k1.trans (d2.mono k1.size)
        have x2w := x1w.below d2
        have n2w := n1w.below d2
        have r2w := r1w.below d2
        replace r0 := (d2.cell (p := ⟨b2, o2, none⟩) (Nat.lt_of_lt_of_le hb2 k1.size)).trans r0
        replace r1 := (d2.cell (p := ⟨b2, o2 + 1, none⟩) (Nat.lt_of_lt_of_le hb2 k1.size)).trans r1
        clear v0 v1 v2 v3 z0 z1 z2 z3 j0 j1 j2 j3 i0 i1 i2 i3
        have v0 := x2w.cell 0 rfl
        have v1 := x2w.cell 1 rfl
        have v2 := x2w.cell 2 rfl
        have v3 := x2w.cell 3 rfl
        have z0 := n2w.cell 0 rfl
        have z1 := n2w.cell 1 rfl
        have z2 := n2w.cell 2 rfl
        have z3 := n2w.cell 3 rfl
        have j0 := r2w.frozen 0
        have j1 := r2w.frozen 1
        have j2 := r2w.frozen 2
        have j3 := r2w.frozen 3
        have i0 := r2w.cell 0 rfl
        have i1 := r2w.cell 1 rfl
        have i2 := r2w.cell 2 rfl
        have i3 := r2w.cell 3 rfl
        have hb9 : Below E.heap.size E W2 := hbel.trans ((d1.trans (d2.mono d1.size)).mono hbel.size)
        go_wp2_with fail
        go_roundw
        case rel => exact ⟨1, by omega, by go_num, by first | exact fun _ => HI.out | exact fun _ => trivial, fun h => by omega, hb9⟩
        case measure => simp [intOf] <;> omega
      case true =>
        rw [hc] at IC
        have HI := Lib.hid hc
        clear hc
        go_wp2_with fail
        refine (FC wi hBW).mono ?_
        rintro e W1 ⟨rfl, d1⟩
        have k1 := hBW.trans (d1.mono hBW.size)
        have x1w := xw.below d1
        have n1w := nw.below d1
        have r1w := rw_.below d1
        replace r0 := (d1.cell (p := ⟨b2, o2, none⟩) (Nat.lt_of_lt_of_le hb2 hBW.size)).trans r0
        replace r1 := (d1.cell (p := ⟨b2, o2 + 1, none⟩) (Nat.lt_of_lt_of_le hb2 hBW.size)).trans r1
        clear v0 v1 v2 v3 z0 z1 z2 z3 j0 j1 j2 j3 i0 i1 i2 i3
        have v0 := x1w.cell 0 rfl
        have v1 := x1w.cell 1 rfl
        have v2 := x1w.cell 2 rfl
        have v3 := x1w.cell 3 rfl
        have z0 := n1w.cell 0 rfl
        have z1 := n1w.cell 1 rfl
        have z2 := n1w.cell 2 rfl
        have z3 := n1w.cell 3 rfl
        have j0 := r1w.frozen 0
        have j1 := r1w.frozen 1
        have j2 := r1w.frozen 2
        have j3 := r1w.frozen 3
        have i0 := r1w.cell 0 rfl
        have i1 := r1w.cell 1 rfl
        have i2 := r1w.cell 2 rfl
        have i3 := r1w.cell 3 rfl
        go_wp2_with fail
        refine (IC.out W1).mono ?_
        rintro e W2 ⟨rfl, d2⟩
        have k2 := k1.trans (d2.mono k1.size)
        have x2w := x1w.below d2
        have n2w := n1w.below d2
        have r2w := r1w.below d2
        replace r0 := (d2.cell (p := ⟨b2, o2, none⟩) (Nat.lt_of_lt_of_le hb2 k1.size)).trans r0
        replace r1 := (d2.cell (p := ⟨b2, o2 + 1, none⟩) (Nat.lt_of_lt_of_le hb2 k1.size)).trans r1
        clear v0 v1 v2 v3 z0 z1 z2 z3 j0 j1 j2 j3 i0 i1 i2 i3
        have v0 := x2w.cell 0 rfl
        have v1 := x2w.cell 1 rfl
        have v2 := x2w.cell 2 rfl
        have v3 := x2w.cell 3 rfl
        have z0 := n2w.cell 0 rfl
        have z1 := n2w.cell 1 rfl
        have z2 := n2w.cell 2 rfl
        have z3 := n2w.cell 3 rfl
        have j0 := r2w.frozen 0
        have j1 := r2w.frozen 1
        have j2 := r2w.frozen 2
        have j3 := r2w.frozen 3
        have i0 := r2w.cell 0 rfl
        have i1 := r2w.cell 1 rfl
        have i2 := r2w.cell 2 rfl
        have i3 := r2w.cell 3 rfl
        obtain ⟨e1, e2⟩ := HF2.out true _ HI.out rfl
        obtain ⟨hY1, hT1⟩ := HY.out true (by rw [e1]; rfl)
        rw [if_pos rfl, e2] at hY1
        have hY2 : Y = ⟨5, f0.a, 0, [s1]⟩ := hY1
        subst hY2 hT1
        clear hY1 e1 e2 HY HF2
        go_upto_region 8 with fail
        have hcur := bdrewn W2
        have wp1 : IntKind.i64.wrap 1 = 1 := by decide
        have wp0 : IntKind.i64.wrap 0 = 0 := by decide
        have lx2 := x2w.lt
        have ln2 := n2w.lt
        have lr2 := r2w.lt
        have hs2 := k2.size
        have hbw : b2 < W2.heap.size := Nat.lt_of_lt_of_le hb2 hs2
        have FCb := Lib.hid (fun W (hW : Below W2.heap.size W2 W) => (FC W (k2.trans (hW.mono k2.size))).mono fun e w' ⟨h1, h2⟩ => (⟨h1, h2, hW.trans (h2.mono hW.size)⟩ : _ ∧ Below W.heap.size W w' ∧ Below W2.heap.size W2 w'))
        have OL := Lib.hid (OwnI.lit (B := w.heap.size) W2 [s1] hs2 (by simp [maxLen]))
        go_region_law (first | (go_simp; go_at_call 91; refine (FCb.out _ (by repeat (first | exact Below.refl _ _ | assumption | refine Below.alloc ?_ (by first | exact Nat.le_refl _ | omega | (simp; done)) _ | refine Below.drewR' ?_))).mono ?_; rintro e W3 ⟨rfl, d3, k3⟩; (first | (have ol3 := OL.out.below d3) | (have ol3 := OL.out.below (below_drew' d3)) | (have ol3 : True := trivial)); have k4 := k2.trans (k3.mono k2.size); have x3w := x2w.below k3; have n3w := n2w.below k3; have r3w := r2w.below k3; have v0 := x3w.cell 0 rfl; have v1 := x3w.cell 1 rfl; have v2 := x3w.cell 2 rfl; have v3 := x3w.cell 3 rfl; have z3 := n3w.cell 3 rfl; have r0 := (k3.cell (p := ⟨b2, o2, none⟩) hbw).trans r0; have r1 := (k3.cell (p := ⟨b2, o2 + 1, none⟩) hbw).trans r1; have lx3 := x3w.lt; have ln3 := n3w.lt; have lr3 := r3w.lt; have lb3 := Nat.lt_of_lt_of_le hbw k3.size; have j0 := r3w.frozen 0; have j1 := r3w.frozen 1; have j2 := r3w.frozen 2; have j3 := r3w.frozen 3; have i0 := r3w.cell 0 rfl; have i1 := r3w.cell 1 rfl; have i2 := r3w.cell 2 rfl; have i3 := r3w.cell 3 rfl) | fail)
        all_goals clear v0 v1 v2 v3 z0 z1 z2 z3 fd0 fd1 FCb
        all_goals (first | (obtain ⟨W9, hW9, b9, o9, l9⟩ := put_res (y := ⟨5, f0.a, 0, [s1]⟩) (s := (.slice (some ⟨W2.heap.size, 0, none⟩) 1 1)) r3w ol3 (by simp [Value.ownBlock]; omega) k4 hgl; have q0 := b9.cell 0 rfl; have q1' := b9.cell 1 rfl; have q2 := b9.cell 2 rfl; have q3 := b9.cell 3 rfl; have O9 := Lib.hid o9; have L9 := Lib.hid l9; have H9 := Lib.hid hW9; clear hW9 o9 l9 b9; go_wp2_with fail; rw [← H9.out]; refine bodyPost_ret (v := .tuple #[.agg #[.int .i64 5, .int .i64 f0.a, .int .i64 0, (.slice (some ⟨W2.heap.size, 0, none⟩) 1 1)], .bool true]) (by simp [results, Tryz.results55, go_sem, *]) rfl ?_; exact ⟨_, rfl, O9.out, L9.out⟩) | (obtain ⟨W9, hW9, b9, o9, l9⟩ := put_lit (k := 5) (a := f0.a) (b := 0) (z := s1) r3w k4 hgl; have q0 := b9.cell 0 rfl; have q1' := b9.cell 1 rfl; have q2 := b9.cell 2 rfl; have q3 := b9.cell 3 rfl; have O9 := Lib.hid o9; have L9 := Lib.hid l9; have H9 := Lib.hid hW9; clear hW9 o9 l9 b9; go_wp2_with fail; rw [← H9.out]; refine bodyPost_ret (v := .tuple #[.agg #[.int .i64 5, .int .i64 f0.a, .int .i64 0, (.slice (some ⟨W3.heap.size, 0, none⟩) 1 1)], .bool true]) (by simp [results, Tryz.results55, go_sem, *]) rfl ?_; exact ⟨_, rfl, O9.out, L9.out⟩))
    · have IC := Lib.hid (fun W => isConst_x (k := f1.kind) (a := f1.a) (b := f1.b) (q := gq) (n := f1.src.length) (c := gc) W)
      have hk0 := hc0 (Nat.le_refl _)
      clear hc0 hc1
      cases hc : (f1.kind == 2)
      case false =>
        rw [hc] at IC
        have HI := Lib.hid hc
        clear hc
        go_wp2_with fail
        refine (GC wi hBW).mono ?_
        rintro e W1 ⟨rfl, d1⟩
        have k1 := hBW.trans (d1.mono hBW.size)
        have x1w := xw.below d1
        have n1w := nw.below d1
        have r1w := rw_.below d1
        replace r0 := (d1.cell (p := ⟨b2, o2, none⟩) (Nat.lt_of_lt_of_le hb2 hBW.size)).trans r0
        replace r1 := (d1.cell (p := ⟨b2, o2 + 1, none⟩) (Nat.lt_of_lt_of_le hb2 hBW.size)).trans r1
        clear v0 v1 v2 v3 z0 z1 z2 z3 j0 j1 j2 j3 i0 i1 i2 i3
        have v0 := x1w.cell 0 rfl
        have v1 := x1w.cell 1 rfl
        have v2 := x1w.cell 2 rfl
        have v3 := x1w.cell 3 rfl
        have z0 := n1w.cell 0 rfl
        have z1 := n1w.cell 1 rfl
        have z2 := n1w.cell 2 rfl
        have z3 := n1w.cell 3 rfl
        have j0 := r1w.frozen 0
        have j1 := r1w.frozen 1
        have j2 := r1w.frozen 2
        have j3 := r1w.frozen 3
        have i0 := r1w.cell 0 rfl
        have i1 := r1w.cell 1 rfl
        have i2 := r1w.cell 2 rfl
        have i3 := r1w.cell 3 rfl
        go_wp2_with fail
        refine (IC.out W1).mono ?_
        rintro e W2 ⟨rfl, d2⟩
        have k2 := k1.trans (d2.mono k1.size)
        have x2w := x1w.below d2
        have n2w := n1w.below d2
        have r2w := r1w.below d2
        replace r0 := (d2.cell (p := ⟨b2, o2, none⟩) (Nat.lt_of_lt_of_le hb2 k1.size)).trans r0
        replace r1 := (d2.cell (p := ⟨b2, o2 + 1, none⟩) (Nat.lt_of_lt_of_le hb2 k1.size)).trans r1
        clear v0 v1 v2 v3 z0 z1 z2 z3 j0 j1 j2 j3 i0 i1 i2 i3
        have v0 := x2w.cell 0 rfl
        have v1 := x2w.cell 1 rfl
        have v2 := x2w.cell 2 rfl
        have v3 := x2w.cell 3 rfl
        have z0 := n2w.cell 0 rfl
        have z1 := n2w.cell 1 rfl
        have z2 := n2w.cell 2 rfl
        have z3 := n2w.cell 3 rfl
        have j0 := r2w.frozen 0
        have j1 := r2w.frozen 1
        have j2 := r2w.frozen 2
        have j3 := r2w.frozen 3
        have i0 := r2w.cell 0 rfl
        have i1 := r2w.cell 1 rfl
        have i2 := r2w.cell 2 rfl
        have i3 := r2w.cell 3 rfl
        have hb9 : Below E.heap.size E W2 := hbel.trans ((d1.trans (d2.mono d1.size)).mono hbel.size)
        go_wp2_with fail
        go_roundw
        case rel => exact ⟨2, by omega, by go_num, by first | exact fun _ => hk0 | exact fun _ => trivial, by first | exact fun _ => HI.out | exact fun _ => trivial, hb9⟩
        case measure => simp [intOf] <;> omega
      case true =>
        rw [hc] at IC
        have HI := Lib.hid hc
        clear hc
        go_wp2_with fail
        refine (GC wi hBW).mono ?_
        rintro e W1 ⟨rfl, d1⟩
        have k1 := hBW.trans (d1.mono hBW.size)
        have x1w := xw.below d1
        have n1w := nw.below d1
        have r1w := rw_.below d1
        replace r0 := (d1.cell (p := ⟨b2, o2, none⟩) (Nat.lt_of_lt_of_le hb2 hBW.size)).trans r0
        replace r1 := (d1.cell (p := ⟨b2, o2 + 1, none⟩) (Nat.lt_of_lt_of_le hb2 hBW.size)).trans r1
        clear v0 v1 v2 v3 z0 z1 z2 z3 j0 j1 j2 j3 i0 i1 i2 i3
        have v0 := x1w.cell 0 rfl
        have v1 := x1w.cell 1 rfl
        have v2 := x1w.cell 2 rfl
        have v3 := x1w.cell 3 rfl
        have z0 := n1w.cell 0 rfl
        have z1 := n1w.cell 1 rfl
        have z2 := n1w.cell 2 rfl
        have z3 := n1w.cell 3 rfl
        have j0 := r1w.frozen 0
        have j1 := r1w.frozen 1
        have j2 := r1w.frozen 2
        have j3 := r1w.frozen 3
        have i0 := r1w.cell 0 rfl
        have i1 := r1w.cell 1 rfl
        have i2 := r1w.cell 2 rfl
        have i3 := r1w.cell 3 rfl
        go_wp2_with fail
        refine (IC.out W1).mono ?_
        rintro e W2 ⟨rfl, d2⟩
        have k2 := k1.trans (d2.mono k1.size)
        have x2w := x1w.below d2
        have n2w := n1w.below d2
        have r2w := r1w.below d2
        replace r0 := (d2.cell (p := ⟨b2, o2, none⟩) (Nat.lt_of_lt_of_le hb2 k1.size)).trans r0
        replace r1 := (d2.cell (p := ⟨b2, o2 + 1, none⟩) (Nat.lt_of_lt_of_le hb2 k1.size)).trans r1
        clear v0 v1 v2 v3 z0 z1 z2 z3 j0 j1 j2 j3 i0 i1 i2 i3
        have v0 := x2w.cell 0 rfl
        have v1 := x2w.cell 1 rfl
        have v2 := x2w.cell 2 rfl
        have v3 := x2w.cell 3 rfl
        have z0 := n2w.cell 0 rfl
        have z1 := n2w.cell 1 rfl
        have z2 := n2w.cell 2 rfl
        have z3 := n2w.cell 3 rfl
        have j0 := r2w.frozen 0
        have j1 := r2w.frozen 1
        have j2 := r2w.frozen 2
        have j3 := r2w.frozen 3
        have i0 := r2w.cell 0 rfl
        have i1 := r2w.cell 1 rfl
        have i2 := r2w.cell 2 rfl
        have i3 := r2w.cell 3 rfl
        obtain ⟨e1, e2⟩ := HF2.out false true hk0 HI.out
        obtain ⟨hY1, hT1⟩ := HY.out true (by rw [e1]; rfl)
        rw [if_pos rfl, e2] at hY1
        have hY2 : Y = ⟨5, f1.a, 0, [s0]⟩ := hY1
        subst hY2 hT1
        clear hY1 e1 e2 HY HF2
        go_upto_region 8 with fail
        have hcur := bdrewn W2
        have wp1 : IntKind.i64.wrap 1 = 1 := by decide
        have wp0 : IntKind.i64.wrap 0 = 0 := by decide
        have lx2 := x2w.lt
        have ln2 := n2w.lt
        have lr2 := r2w.lt
        have hs2 := k2.size
        have hbw : b2 < W2.heap.size := Nat.lt_of_lt_of_le hb2 hs2
        have FCb := Lib.hid (fun W (hW : Below W2.heap.size W2 W) => (GC W (k2.trans (hW.mono k2.size))).mono fun e w' ⟨h1, h2⟩ => (⟨h1, h2, hW.trans (h2.mono hW.size)⟩ : _ ∧ Below W.heap.size W w' ∧ Below W2.heap.size W2 w'))
        have OL := Lib.hid (OwnI.lit (B := w.heap.size) W2 [s0] hs2 (by simp [maxLen]))
        go_region_law (first | (go_simp; go_at_call 91; refine (FCb.out _ (by repeat (first | exact Below.refl _ _ | assumption | refine Below.alloc ?_ (by first | exact Nat.le_refl _ | omega | (simp; done)) _ | refine Below.drewR' ?_))).mono ?_; rintro e W3 ⟨rfl, d3, k3⟩; (first | (have ol3 := OL.out.below d3) | (have ol3 := OL.out.below (below_drew' d3)) | (have ol3 : True := trivial)); have k4 := k2.trans (k3.mono k2.size); have x3w := x2w.below k3; have n3w := n2w.below k3; have r3w := r2w.below k3; have v0 := x3w.cell 0 rfl; have v1 := x3w.cell 1 rfl; have v2 := x3w.cell 2 rfl; have v3 := x3w.cell 3 rfl; have z3 := n3w.cell 3 rfl; have r0 := (k3.cell (p := ⟨b2, o2, none⟩) hbw).trans r0; have r1 := (k3.cell (p := ⟨b2, o2 + 1, none⟩) hbw).trans r1; have lx3 := x3w.lt; have ln3 := n3w.lt; have lr3 := r3w.lt; have lb3 := Nat.lt_of_lt_of_le hbw k3.size; have j0 := r3w.frozen 0; have j1 := r3w.frozen 1; have j2 := r3w.frozen 2; have j3 := r3w.frozen 3; have i0 := r3w.cell 0 rfl; have i1 := r3w.cell 1 rfl; have i2 := r3w.cell 2 rfl; have i3 := r3w.cell 3 rfl) | fail)
        all_goals clear v0 v1 v2 v3 z0 z1 z2 z3 fd0 fd1 FCb
        all_goals (first | (obtain ⟨W9, hW9, b9, o9, l9⟩ := put_res (y := ⟨5, f1.a, 0, [s0]⟩) (s := (.slice (some ⟨W2.heap.size, 0, none⟩) 1 1)) r3w ol3 (by simp [Value.ownBlock]; omega) k4 hgl; have q0 := b9.cell 0 rfl; have q1' := b9.cell 1 rfl; have q2 := b9.cell 2 rfl; have q3 := b9.cell 3 rfl; have O9 := Lib.hid o9; have L9 := Lib.hid l9; have H9 := Lib.hid hW9; clear hW9 o9 l9 b9; go_wp2_with fail; rw [← H9.out]; refine bodyPost_ret (v := .tuple #[.agg #[.int .i64 5, .int .i64 f1.a, .int .i64 0, (.slice (some ⟨W2.heap.size, 0, none⟩) 1 1)], .bool true]) (by simp [results, Tryz.results55, go_sem, *]) rfl ?_; exact ⟨_, rfl, O9.out, L9.out⟩) | (obtain ⟨W9, hW9, b9, o9, l9⟩ := put_lit (k := 5) (a := f1.a) (b := 0) (z := s0) r3w k4 hgl; have q0 := b9.cell 0 rfl; have q1' := b9.cell 1 rfl; have q2 := b9.cell 2 rfl; have q3 := b9.cell 3 rfl; have O9 := Lib.hid o9; have L9 := Lib.hid l9; have H9 := Lib.hid hW9; clear hW9 o9 l9 b9; go_wp2_with fail; rw [← H9.out]; refine bodyPost_ret (v := .tuple #[.agg #[.int .i64 5, .int .i64 f1.a, .int .i64 0, (.slice (some ⟨W3.heap.size, 0, none⟩) 1 1)], .bool true]) (by simp [results, Tryz.results55, go_sem, *]) rfl ?_; exact ⟨_, rfl, O9.out, L9.out⟩))
    · obtain ⟨e1, -⟩ := HF2.out false false (hc0 (by omega)) (hc1 (by omega))
      obtain ⟨hY1, hT1⟩ := HY.out false (by rw [e1]; rfl)
      have hY2 : Y = ⟨0, 0, 0, []⟩ := hY1
      subst hY2 hT1
      have ho9 : OwnI w.heap.size wi (.slice none 0 0) [] := OwnI.nil _ _
      clear hY1 e1 HY HF2 hc0 hc1
      obtain ⟨W9, hW9, b9, o9, l9⟩ := put_res (y := ⟨0, 0, 0, []⟩) (s := (.slice none 0 0)) rw_ ho9 (by simp [Value.ownBlock]) hBW hgl
      have q0 := b9.cell 0 rfl
      have q1 := b9.cell 1 rfl
      have q2 := b9.cell 2 rfl
      have q3 := b9.cell 3 rfl
      have O9 := Lib.hid o9
      have L9 := Lib.hid l9
      have H9 := Lib.hid hW9
      clear hW9 o9 l9 b9
      go_wp2_with fail
      rw [← H9.out]
      refine bodyPost_ret (v := .tuple #[.agg #[.int .i64 0, .int .i64 0, .int .i64 0, (.slice none 0 0)], .bool false]) (by simp [results, Tryz.results55, go_sem, *]) rfl ?_
      exact ⟨_, rfl, O9.out, L9.out⟩
set_option maxHeartbeats 8000000 in
set_option maxRecDepth 100000 in
theorem twin_x {x : PatchD} {p1 p3 : Option Addr} {c1 c2 c3 b o : Nat} {i : Nat} {u : Value} {B : Nat} (w : World) (NS : NodesAt w b o x) (hf : formedB x = true) (hi : i < x.nodes.length) (hu : OwnV B w 4 u ((marksL x.nodes x.outputs).map Value.bool)) :
    Calls Tryz.prog 57 #[(.agg #[.int .i64 x.inputs, .slice p1 x.tables.length c1, .slice (some ⟨b, o, none⟩) x.nodes.length c2, .slice p3 x.outputs.length c3]), .int .i64 (i : Int), u] w fun e w' => e = .returned (.int .i64 (twinI x (i : Int))) ∧ Below w.heap.size w w' := by
  have hn24 := (formed_iff.1 hf).2.2.1
  have hml : (marksL x.nodes x.outputs).length = x.nodes.length := (marksL_end (formed_src hf) (formed_outs hf)).len
  have HS : Hid (∀ k : Nat, k < i → (marksL x.nodes x.outputs).getD k false = true → nodeAt x.nodes (k : Int) = nodeAt x.nodes (i : Int) → (∀ j : Nat, j < k → (marksL x.nodes x.outputs).getD j false = true → nodeAt x.nodes (j : Int) ≠ nodeAt x.nodes (i : Int)) → twinI x (i : Int) = (k : Int)) := fun k hk hm he hb =>
    twin_some (mem_ups.2 ⟨by omega, by omega, by unfold mk; rw [Int.toNat_natCast]; exact hm⟩) (by omega) he fun j hj hjk => by
      obtain ⟨h0, h1, h2⟩ := mem_ups.1 hj
      obtain ⟨m, rfl⟩ := Int.eq_ofNat_of_zero_le h0
      exact hb m (by omega) (by unfold mk at h2; rwa [Int.toNat_natCast] at h2)
  have HN : Hid ((∀ j : Nat, j < i → (marksL x.nodes x.outputs).getD j false = true → nodeAt x.nodes (j : Int) ≠ nodeAt x.nodes (i : Int)) → twinI x (i : Int) = -1) := fun hb =>
    twin_none fun j hj hji => by
      obtain ⟨h0, h1, h2⟩ := mem_ups.1 hj
      obtain ⟨m, rfl⟩ := Int.eq_ofNat_of_zero_le h0
      exact hb m (by omega) (by unfold mk at h2; rwa [Int.toNat_natCast] at h2)
  generalize twinI x (i : Int) = R at HS HN ⊢
  generalize marksL x.nodes x.outputs = M at *
  rcases hu.cases with ⟨-, hnil⟩ | ⟨mg, mc, rfl, -, hmg, -, hmc0⟩
  · exfalso
    have h1 : M.length = 0 := by rw [← List.length_map (f := Value.bool), hnil]; rfl
    omega
  have hmc := hmc0.atOwn
  obtain ⟨g, hg⟩ : ∃ g, g = w.heap.size := ⟨_, rfl⟩
  obtain ⟨E, hE⟩ : ∃ E, E = w.alloc (.cells #[.int .i64 x.inputs, .slice p1 x.tables.length c1, .slice (some ⟨b, o, none⟩) x.nodes.length c2, .slice p3 x.outputs.length c3] 28) := ⟨_, rfl⟩
  have hB0 : Below w.heap.size w E := by rw [hE]; exact (Below.refl _ _).alloc (Nat.le_refl _) _
  have bx : Box E g [.int .i64 x.inputs, .slice p1 x.tables.length c1, .slice (some ⟨b, o, none⟩) x.nodes.length c2, .slice p3 x.outputs.length c3] 28 := by rw [hE, hg]; exact Box.newAt w _ _ rfl
  have HE := Lib.hid hE
  have HG := Lib.hid hg
  have NE := NS.below hB0
  have hLM : (M.map Value.bool).length = x.nodes.length := by rw [List.length_map]; exact hml
  rw [hLM]
  have hmc2 : ∀ k (h : k < M.length), E.cell? ⟨mg, k, none⟩ = some (.bool (M.getD k false)) := fun k h => by
    have h1 := hmc k (by rw [List.length_map]; exact h)
    rw [mbool M h] at h1
    exact (hB0.cell (p := ⟨mg, k, none⟩) hmg).trans h1
  clear hE hg hmc hmc0 NS hu
  obtain ⟨y0, y1, y2, q, d, y3, hr⟩ := NE i hi
  go_enter Tryz.func57, Tryz.ntmps57
  go_upto_region 1 with fail
  rw [← HE.out, ← HG.out]
  go_wp2_with fail
  go_loopw [9] (fun ci wr => ∃ k : Nat, k ≤ i ∧ ci = .int .i64 k ∧ (∀ j : Nat, j < k → M.getD j false = true → nodeAt x.nodes (j : Int) ≠ nodeAt x.nodes (i : Int)) ∧ Below E.heap.size E wr) (fun ci _ => i - (intOf ci).toNat)
  case atStart => exact ⟨0, Nat.zero_le _, rfl, fun j h => by omega, Below.refl _ _⟩
  case round =>
    obtain ⟨k, hk, rfl, hno, hbel⟩ := hrel
    obtain ⟨wi, rfl⟩ : ∃ wi : World, wi = wr := ⟨_, rfl⟩
    have HNO := Lib.hid hno
    clear hno
    by_cases hlt : k < i
    · have hkn : k < x.nodes.length := by omega
      obtain ⟨t0, t1, t2, q', d', t3, hr'⟩ := NE k hkn
      have mk0 := hmc2 k (by rw [hml]; exact hkn)
      have SNB : Hid (∀ bb, decide (nodeAt x.nodes (k : Int) = nodeAt x.nodes (i : Int)) = bb → ∀ n os, Calls Tryz.prog 97 #[.agg #[.int .i64 (nodeAt x.nodes (k : Int)).kind, .int .i64 (nodeAt x.nodes (k : Int)).a, .int .i64 (nodeAt x.nodes (k : Int)).b, .slice q' (nodeAt x.nodes (k : Int)).src.length d'], .agg #[.int .i64 (nodeAt x.nodes (i : Int)).kind, .int .i64 (nodeAt x.nodes (i : Int)).a, .int .i64 (nodeAt x.nodes (i : Int)).b, .slice q (nodeAt x.nodes (i : Int)).src.length d]] (grow (redrawn wi n) os)
          fun e w'' => e = .returned (.bool bb) ∧ ∃ p : Regrown, w'' = grow (redrawn wi p.d) p.os) := fun bb hbb n os => Calls.regrown_of (by
        rw [← hbb]
        have hW := hbel.trans ((below_regrown wi n os).mono hbel.size)
        exact sameNode_v _ ⟨q', d', rfl, hr'.below hW⟩ ⟨q, d, rfl, hr.below hW⟩)
      have EQ : Hid (∀ bb, decide (nodeAt x.nodes (k : Int) = nodeAt x.nodes (i : Int)) = bb → if bb then nodeAt x.nodes (k : Int) = nodeAt x.nodes (i : Int) else nodeAt x.nodes (k : Int) ≠ nodeAt x.nodes (i : Int)) := fun bb h => by
        cases bb
        · rw [if_neg (by decide)]; exact of_decide_eq_false h
        · rw [if_pos rfl]; exact of_decide_eq_true h
      have cE := fun (a : Addr) (v : Value) (h : E.cell? a = some v) => (hbel.cell (p := a) (World.block_lt_of_cell? E _ h)).trans h
      have a0 := cell_regrown (cE _ _ y0)
      have a1 := cell_regrown (cE _ _ y1)
      have a2 := cell_regrown (cE _ _ y2)
      have a3 := cell_regrown (cE _ _ y3)
      have e0 := cell_regrown (cE _ _ t0)
      have e1 := cell_regrown (cE _ _ t1)
      have e2 := cell_regrown (cE _ _ t2)
      have e3 := cell_regrown (cE _ _ t3)
      have m0 := cell_regrown (cE _ _ mk0)
      have p2 := cell_regrown (cE _ _ (bx.cell 2 rfl))
      clear cE t0 t1 t2 t3 hr' mk0
      generalize hnk : nodeAt x.nodes (k : Int) = nk at *
      generalize hni : nodeAt x.nodes (i : Int) = ni at *
      have HNK := Lib.hid hnk
      have HNI := Lib.hid hni
      clear hnk hni
      generalize hmb : M.getD k false = mb at *
      have HMB := Lib.hid hmb
      clear hmb
      cases mb
      case false =>
        go_wp2_with fail
        refine wp_region_quiet_below (by kernel_rfl) (by kernel_rfl) ?_
        repeat (first | go_big_quiet_step ((go_at_call 97; fail)) | quiet_step ((go_at_call 97; fail)))
        refine wpQuiet_nil ?_
        intro _ hw'
        obtain ⟨⟨dq, osq⟩, hw''⟩ := hw'
        subst hw''
        have hq := hbel.trans ((below_regrown wi dq osq).mono hbel.size)
        generalize grow (redrawn wi dq) osq = W2 at hq ⊢
        go_wp2_with fail
        go_roundw
        case rel => exact ⟨k + 1, by omega, by go_num, fun j hj hm => by
          rcases Nat.lt_or_ge j k with h | h
          · exact HNO.out j h hm
          · obtain rfl : j = k := by omega
            rw [HMB.out] at hm
            exact absurd hm (by decide), hq⟩
        case measure => simp [intOf] <;> omega
      case true =>
        cases hd : decide (nk = ni)
        case false =>
          have SB := Lib.hid (SNB.out _ hd)
          have hne := EQ.out _ hd
          rw [if_neg (by decide)] at hne
          have HNE := Lib.hid hne
          clear hd hne SNB EQ
          go_wp2_with fail
          refine wp_region_quiet_below (by kernel_rfl) (by kernel_rfl) ?_
          repeat (first | go_big_quiet_step ((go_at_call 97; exact SB.out _ _)) | quiet_step ((go_at_call 97; exact SB.out _ _)))
          refine wpQuiet_nil ?_
          intro _ hw'
          obtain ⟨⟨dq, osq⟩, hw''⟩ := hw'
          subst hw''
          have hq := hbel.trans ((below_regrown wi dq osq).mono hbel.size)
          generalize grow (redrawn wi dq) osq = W2 at hq ⊢
          go_wp2_with fail
          go_roundw
          case rel => exact ⟨k + 1, by omega, by go_num, fun j hj hm => by
            rcases Nat.lt_or_ge j k with h | h
            · exact HNO.out j h hm
            · obtain rfl : j = k := by omega
              rw [HNK.out]; exact HNE.out, hq⟩
          case measure => simp [intOf] <;> omega
        case true =>
          have SB := Lib.hid (SNB.out _ hd)
          have he := EQ.out _ hd
          rw [if_pos rfl] at he
          obtain rfl := HS.out k hlt HMB.out (by rw [HNK.out]; exact he) HNO.out
          clear hd he SNB EQ
          go_wp2_with fail
          refine wp_region_quiet_below (by kernel_rfl) (by kernel_rfl) ?_
          repeat (first | go_big_quiet_step ((go_at_call 97; exact SB.out _ _)) | quiet_step ((go_at_call 97; exact SB.out _ _)))
          refine wpQuiet_nil ?_
          intro _ hw'
          obtain ⟨⟨dq, osq⟩, hw''⟩ := hw'
          subst hw''
          have hq := hbel.trans ((below_regrown wi dq osq).mono hbel.size)
          generalize grow (redrawn wi dq) osq = W2 at hq ⊢
          go_wp2_with fail
          go_ret
          exact ⟨rfl, hB0.trans (hq.mono hB0.size)⟩
    · obtain rfl : k = i := by omega
      obtain rfl := HN.out HNO.out
      go_wp2_with fail
      go_ret
      exact ⟨rfl, hB0.trans (hbel.mono hB0.size)⟩
end Go.Proofs.YtcfhcmgmkhfjjaaGreat

namespace Go.Proofs.YtcfhcmgmkhfjjaaGreat
open Go.ChangeShapes Go.WideShapes Go.ChangeAt Go.RowKit Go.Sort
set_option linter.unusedVariables false

theorem OwnIs.putAt {B : Nat} {w w' : World} {L : List Value} {xss : List (List Int)} (h : OwnIs B w L xss) {k : Nat} (hk : k < xss.length) {s : Value} {ys : List Int} (hs : OwnI B w' s ys)
    (hkeep : ∀ i (hi : i < L.length), i ≠ k → ∀ j, L[i].ownBlock = some j → w'.heap[j]? = w.heap[j]?) : OwnIs B w' (L.set k s) (xss.set k ys) := by
  have hl := h.1
  refine ⟨by rw [List.length_set, List.length_set]; exact hl, fun i hi => ?_⟩
  have hi' : i < xss.length := by rw [List.length_set] at hi; exact hi
  by_cases e : k = i
  · subst e
    exact ⟨s, List.getElem?_set_self (by omega), by rw [List.getElem_set_self]; exact hs⟩
  · obtain ⟨hL, ho⟩ := h.at_ hi'
    exact ⟨L[i], by rw [List.getElem?_set_ne e]; exact List.getElem?_eq_getElem hL, by rw [List.getElem_set_ne e]; exact ho.keep fun j hj => hkeep i hL (fun e' => e e'.symm) j hj⟩
theorem Dis.setOne {A : List Value} (h : Dis A) (k : Nat) {s : Value} (hs : ∀ b, s.ownBlock = some b → ¬ Blk A b) : Dis (A.set k s) := by
  refine List.pairwise_iff_getElem.2 fun i j hi hj hij b hb => ?_
  rw [List.length_set] at hi hj
  rw [List.getElem_set] at hb ⊢
  by_cases e1 : k = i
  · rw [if_pos e1] at hb
    rw [if_neg (by omega)]
    exact fun e => hs b hb ⟨A[j], List.getElem_mem hj, e⟩
  · rw [if_neg e1] at hb
    by_cases e2 : k = j
    · rw [if_pos e2]
      exact fun e => hs b e ⟨A[i], List.getElem_mem hi, hb⟩
    · rw [if_neg e2]
      exact List.pairwise_iff_getElem.1 h i j hi hj hij b hb
theorem nodeCells_src : ∀ (ns : List NodeD) (L : List Value) (k : Nat) (ys : List Int), nodeCells (ns.set k { ns.getD k zN with src := ys }) L = nodeCells ns L
  | [], _, _, _ => rfl
  | x :: xs, [], 0, ys => by simp [nodeCells]
  | x :: xs, [], k + 1, ys => by simp [nodeCells]
  | x :: xs, u :: us, 0, ys => rfl
  | x :: xs, u :: us, k + 1, ys => by
    have := nodeCells_src xs us k ys
    simp only [List.set_cons_succ, List.getD_cons_succ, nodeCells]
    rw [this]
section
variable {B : Nat} {w : World} {v1 v2 v3 : Value} {ts : List (List Int)} {ns : List NodeD} {os : List Int} {L1 L : List Value}
theorem OwnP.setNode {g n cap : Nat} (h : OwnP B w v1 (.slice (some ⟨g, 0, none⟩) n cap) v3 ts ns os L1 L) {k : Nat} (hk : k < ns.length) (y : NodeD) {s : Value} (hs : OwnI B w s y.src) (hnew : ∀ b, s.ownBlock = some b → ¬ Blk (L1 ++ (L ++ [v3])) b) :
    OwnP B ((((w.setCell ⟨g, k * 4, none⟩ (.int .i64 y.kind)).setCell ⟨g, k * 4 + 1, none⟩ (.int .i64 y.a)).setCell ⟨g, k * 4 + 2, none⟩ (.int .i64 y.b)).setCell ⟨g, k * 4 + 3, none⟩ s) v1 (.slice (some ⟨g, 0, none⟩) n cap) v3 ts (ns.set k y) os L1 (L.set k s) := by
  have hkp : ∀ j, j ≠ g → ((((w.setCell ⟨g, k * 4, none⟩ (.int .i64 y.kind)).setCell ⟨g, k * 4 + 1, none⟩ (.int .i64 y.a)).setCell ⟨g, k * 4 + 2, none⟩ (.int .i64 y.b)).setCell ⟨g, k * 4 + 3, none⟩ s).heap[j]? = w.heap[j]? := fun j hj =>
    (Below.heap_setCell _ _ _ _ hj).trans ((Below.heap_setCell _ _ _ _ hj).trans ((Below.heap_setCell _ _ _ _ hj).trans (Below.heap_setCell _ _ _ _ hj)))
  have t2 := Typed.of h.o2.2
  have hg : (Value.slice (some ⟨g, 0, none⟩) n cap).ownBlock = some g := rfl
  have hL := h.o2.1
  refine ⟨h.o1.keep fun j hj => hkp j fun e => t2.ne (Typed.of h.o1) (by decide) hg (e ▸ hj), h.s1.keep fun j hj => hkp j fun e => ?_, (h.o2.storing hk).2.2.2.2.2 y s, ?_, h.o3.keep fun j hj => hkp j fun e => t2.ne (Typed.of h.o3) (by decide) hg (e ▸ hj), ?_⟩
  · obtain ⟨v, hv, hb⟩ := hj
    exact t2.ne (h.s1.typed hv) (by decide) hg (e ▸ hb)
  · rw [List.map_set]
    refine h.s2.putAt (by rw [List.length_map]; exact hk) (hs.keep fun j hj => hkp j fun e => t2.ne (Typed.of hs) (by decide) hg (e ▸ hj)) fun i hi _ j hj => hkp j fun e => ?_
    exact t2.ne (h.s2.typed (List.getElem_mem hi)) (by decide) hg (e ▸ hj)
  · have := Dis.setOne h.dis (L1.length + k) hnew
    rw [List.set_append_right _ _ (by omega), show L1.length + k - L1.length = k by omega, List.set_append_left _ _ (by omega)] at this
    exact this
theorem OwnP.swapAt {w' : World} (h : OwnP B w v1 v2 v3 ts ns os L1 L) {k : Nat} (hk : k < ns.length) (hkL : k < L.length) {ys : List Int} (hu : OwnI B w' L[k] ys) (hf : Off (fun b => L[k].ownBlock = some b) w w') :
    OwnP B w' v1 v2 v3 ts (ns.set k { ns.getD k zN with src := ys }) os L1 L := by
  have hmem : L[k] ∈ L := List.getElem_mem hkL
  have tk := h.s2.typed hmem
  refine ⟨h.o1.keep fun j hj => hf.block j (h.o1.lt hj).2 fun e => (Typed.of h.o1).ne tk (by decide) hj e, h.s1.keep fun j hj => hf.block j (h.s1.blk hj).2.1 fun e => h.dis.sep j hj (blk_append.2 (.inl ⟨L[k], hmem, e⟩)), ?_, ?_, h.o3.keep fun j hj => hf.block j (h.o3.lt hj).2 fun e => ?_, h.dis⟩
  · have h1 := h.o2.keep (w' := w') fun j hj => hf.block j (h.o2.lt hj).2 fun e => (Typed.of h.o2.2).ne tk (by decide) hj e
    refine ⟨by rw [List.length_set]; exact h1.1, ?_⟩
    rw [nodeCells_src, List.length_set]
    exact h1.2
  · rw [List.map_set]
    have := h.s2.putAt (k := k) (by rw [List.length_map]; exact hk) hu fun i hi hne j hj => hf.block j (h.s2.blk ⟨L[i], List.getElem_mem hi, hj⟩).2.1 fun e => h.dis.right.left.at_ hkL hi (fun e' => hne e'.symm) e hj
    rwa [List.set_getElem_self] at this
  · exact h.dis.right.sep j ⟨L[k], hmem, e⟩ (Blk.one.2 hj)
theorem OwnP.swapOut {w' : World} (h : OwnP B w v1 v2 v3 ts ns os L1 L) {ys : List Int} (hu : OwnI B w' v3 ys) (hf : Off (fun b => v3.ownBlock = some b) w w') : OwnP B w' v1 v2 v3 ts ns ys L1 L := by
  have t3 := Typed.of h.o3
  refine ⟨h.o1.keep fun j hj => hf.block j (h.o1.lt hj).2 fun e => (Typed.of h.o1).ne t3 (by decide) hj e, h.s1.keep fun j hj => hf.block j (h.s1.blk hj).2.1 fun e => h.dis.sep j hj (blk_append.2 (.inr (Blk.one.2 e))),
    h.o2.keep fun j hj => hf.block j (h.o2.lt hj).2 fun e => (Typed.of h.o2.2).ne t3 (by decide) hj e, h.s2.keep fun j hj => hf.block j (h.s2.blk hj).2.1 fun e => h.dis.right.sep j hj (Blk.one.2 e), hu, h.dis⟩
end
/-- a patch whose parts are the call's own, from block B on -/
def RetPB (B : Nat) (w : World) (x : PatchD) (e : Ending) (w' : World) : Prop := ∃ v1 v2 v3 L1 L, e = .returned (.agg #[.int .i64 x.inputs, v1, v2, v3]) ∧ OwnP B w' v1 v2 v3 x.tables x.nodes x.outputs L1 L ∧ Below w.heap.size w w'
/-- what stands in the box of a result when a patch is stored there -/
theorem put_patch {B : Nat} {w W : World} {g : Nat} {inp : Int} {l0 l1 l2 l3 v1 v2 v3 : Value} {ts : List (List Int)} {ns : List NodeD} {os : List Int} {L1 L : List Value} (br : Box W g [l0, l1, l2, l3] 28)
    (h : OwnP B W v1 v2 v3 ts ns os L1 L) (hb : Below w.heap.size w W) (hg : w.heap.size ≤ g) :
    ∃ W', W' = ((((W.setCell ⟨g, 0, none⟩ (.int .i64 inp)).setCell ⟨g, 1, none⟩ v1).setCell ⟨g, 2, none⟩ v2).setCell ⟨g, 3, none⟩ v3) ∧ Box W' g [.int .i64 inp, v1, v2, v3] 28 ∧ OwnP B W' v1 v2 v3 ts ns os L1 L ∧ Below w.heap.size w W' := by
  have b0 := br.set 0 (.int .i64 inp)
  have b1 := b0.set 1 v1
  have b2 := b1.set 2 v2
  exact ⟨_, rfl, br.put4, (((h.setBox br patchT 0 _).setBox b0 patchT 1 _).setBox b1 patchT 2 _).setBox b2 patchT 3 _, below_put4 _ _ _ _ hb hg⟩
set_option maxHeartbeats 8000000 in
set_option maxRecDepth 100000 in
theorem with_x {x : PatchD} {v s : Value} {i B : Nat} (y : NodeD) (w : World) (h : VPatch w v x) (hf : formedB x = true) (hi : i < x.nodes.length) (hs : OwnI B w s y.src) (hB : B ≤ w.heap.size) :
    Calls Tryz.prog 50 #[v, .int .i64 (i : Int), .agg #[.int .i64 y.kind, .int .i64 y.a, .int .i64 y.b, s]] w (RetPB B w (setN x (i : Int) y)) := by
  have hv := h
  obtain ⟨qs, ds, es, -⟩ := hs.rd
  subst es
  obtain ⟨p1, c1, p2, c2, p3, c3, rfl, -, -, -⟩ := h
  obtain ⟨g, hg⟩ : ∃ g, g = w.heap.size := ⟨_, rfl⟩
  obtain ⟨E, hE⟩ : ∃ E, E = ((w.alloc (.cells #[.int .i64 x.inputs, .slice p1 x.tables.length c1, .slice p2 x.nodes.length c2, .slice p3 x.outputs.length c3] 28)).alloc (.cells #[.int .i64 y.kind, .int .i64 y.a, .int .i64 y.b, .slice qs y.src.length ds] 55)).alloc (.cells #[.int .i64 0, .slice none 0 0, .slice none 0 0, .slice none 0 0] 28) := ⟨_, rfl⟩
  have hB0 : Below w.heap.size w E := by rw [hE]; exact (((Below.refl _ _).alloc (Nat.le_refl _) _).alloc (by simp) _).alloc (by simp; omega) _
  have bx : Box E g [.int .i64 x.inputs, .slice p1 x.tables.length c1, .slice p2 x.nodes.length c2, .slice p3 x.outputs.length c3] 28 := by rw [hE, hg]; exact ((Box.newAt w _ _ rfl).alloc _).alloc _
  have bn : Box E (g + 1) [.int .i64 y.kind, .int .i64 y.a, .int .i64 y.b, .slice qs y.src.length ds] 55 := by rw [hE, hg]; exact (Box.newAt (w.alloc _) _ _ (by simp)).alloc _
  have br : Box E (g + 2) zPatch 28 := by rw [hE, hg]; exact Box.newAt ((w.alloc _).alloc _) _ _ (by simp)
  have hgE : g + 2 < E.heap.size := br.lt
  have hgw : w.heap.size ≤ g + 2 := by omega
  have CP := Lib.hid (copyPatch_v E (hv.below hB0) (formed_small hf))
  have HE := Lib.hid hE
  have HG := Lib.hid hg
  have v0 := bx.cell 0 rfl
  have vv1 := bx.cell 1 rfl
  have vv2 := bx.cell 2 rfl
  have vv3 := bx.cell 3 rfl
  clear hE hg hv
  go_enter Tryz.func50, Tryz.ntmps50
  go_upto_region 1 with fail
  rw [← HE.out, ← HG.out]
  go_wp2_with fail
  refine CP.out.mono ?_
  rintro e W1 ⟨w1, w2, w3, L1, L, rfl, ho, hb1⟩
  obtain ⟨qa, da, ea⟩ := ho.o1.sl'
  obtain ⟨qb, db, eb, -⟩ := ho.o3.rd
  subst ea eb
  rcases ho.o2.cases with ⟨-, hn0, -⟩ | ⟨mg, mc, rfl, hmB, hml, -, -⟩
  · rw [hn0] at hi; simp at hi
  obtain ⟨V, hV⟩ : ∃ V, V = W1.alloc (.cells #[.int .i64 x.inputs, (.slice qa L1.length da), .slice (some ⟨mg, 0, none⟩) x.nodes.length mc, (.slice qb x.outputs.length db)] 28) := ⟨_, rfl⟩
  have d2 : Below W1.heap.size W1 V := by rw [hV]; exact (Below.refl _ _).alloc (Nat.le_refl _) _
  have bo : Box V W1.heap.size [.int .i64 x.inputs, (.slice qa L1.length da), .slice (some ⟨mg, 0, none⟩) x.nodes.length mc, (.slice qb x.outputs.length db)] 28 := by rw [hV]; exact Box.newAt W1 _ _ rfl
  obtain ⟨so, hso⟩ : ∃ so, so = W1.heap.size := ⟨_, rfl⟩
  rw [← hso] at bo
  have k1 := hB0.trans (hb1.mono hB0.size)
  have k2 := k1.trans (d2.mono k1.size)
  have hoV := (ho.below d2).mono (Nat.le_trans hB hB0.size)
  have hsV : OwnI B V (.slice qs y.src.length ds) y.src := hs.keep fun j hj => k2.block j (hs.lt hj).2
  have hnew : ∀ b, (Value.slice qs y.src.length ds).ownBlock = some b → ¬ Blk (L1 ++ (L ++ [Value.slice qb x.outputs.length db])) b := fun b hb hbk => by
    have h1 := (hs.lt hb).2
    have h2 := (ho.blk hbk).1
    have h3 := hB0.size
    omega
  have SN := hoV.setNode hi y hsV hnew
  obtain ⟨-, -, -, ⟨u0, u1, u2, u3, g0, g1, g2, g3⟩, hfr, -⟩ := hoV.o2.storing hi
  have f0 := hfr (i * 4)
  have f1 := hfr (i * 4 + 1)
  have f2 := hfr (i * 4 + 2)
  have f3 := hfr (i * 4 + 3)
  have hne := hoV.neBox bo patchT
  have hmso : so ≠ mg := fun e => hne.2.1 (by rw [e]; rfl)
  have bnV := (bn.below hb1).below d2
  have brV := (br.below hb1).below d2
  have hnr := hoV.neBox brV patchT
  have hmr : g + 2 ≠ mg := fun e => hnr.2.1 (by rw [e]; rfl)
  have z0 := bnV.cell 0 rfl
  have z1 := bnV.cell 1 rfl
  have z2 := bnV.cell 2 rfl
  have z3 := bnV.cell 3 rfl
  have o2 := bo.cell 2 rfl
  have HV := Lib.hid hV
  have HSO := Lib.hid hso
  obtain ⟨W3, hW3⟩ : ∃ W3, W3 = ((((V.setCell ⟨mg, i * 4, none⟩ (.int .i64 y.kind)).setCell ⟨mg, i * 4 + 1, none⟩ (.int .i64 y.a)).setCell ⟨mg, i * 4 + 2, none⟩ (.int .i64 y.b)).setCell ⟨mg, i * 4 + 3, none⟩ (.slice qs y.src.length ds)) := ⟨_, rfl⟩
  rw [← hW3] at SN
  have b3 : Box W3 so [.int .i64 x.inputs, (.slice qa L1.length da), .slice (some ⟨mg, 0, none⟩) x.nodes.length mc, (.slice qb x.outputs.length db)] 28 := by
    rw [hW3]; exact (((bo.other (by exact hmso) _).other (by exact hmso) _).other (by exact hmso) _).other (by exact hmso) _
  have r3 : Box W3 (g + 2) zPatch 28 := by
    rw [hW3]; exact (((brV.other (by exact hmr) _).other (by exact hmr) _).other (by exact hmr) _).other (by exact hmr) _
  have k3 : Below w.heap.size w W3 := by
    have hm : w.heap.size ≤ mg := Nat.le_trans hB0.size hmB
    rw [hW3]
    exact (((k2.setCell (p := ⟨mg, i * 4, none⟩) hm _).setCell (p := ⟨mg, i * 4 + 1, none⟩) hm _).setCell (p := ⟨mg, i * 4 + 2, none⟩) hm _).setCell (p := ⟨mg, i * 4 + 3, none⟩) hm _
  have HW3 := Lib.hid hW3
  clear hV hso hW3 hfr hnew hsV hoV ho hnr hne v0 vv1 vv2 vv3
  go_upto_region 2 with fail
  rw [← HV.out, ← HSO.out]
  go_upto_region 3 with fail
  rw [← HW3.out]
  clear g0 g1 g2 g3 f0 f1 f2 f3 z0 z1 z2 z3 o2
  have y0 := b3.cell 0 rfl
  have y1 := b3.cell 1 rfl
  have y2 := b3.cell 2 rfl
  have y3 := b3.cell 3 rfl
  have j0 := r3.frozen 0
  have j1 := r3.frozen 1
  have j2 := r3.frozen 2
  have j3 := r3.frozen 3
  have i0 := r3.cell 0 rfl
  have i1 := r3.cell 1 rfl
  have i2 := r3.cell 2 rfl
  have i3 := r3.cell 3 rfl
  obtain ⟨W9, hW9, b9, o9, l9⟩ := put_patch (inp := x.inputs) r3 SN k3 hgw
  have q0 := b9.cell 0 rfl
  have q1 := b9.cell 1 rfl
  have q2 := b9.cell 2 rfl
  have q3 := b9.cell 3 rfl
  have O9 := Lib.hid o9
  have L9 := Lib.hid l9
  have H9 := Lib.hid hW9
  clear hW9 o9 l9 b9 SN k3
  go_wp2_with fail
  rw [← H9.out]
  refine bodyPost_ret (v := .agg #[.int .i64 x.inputs, (.slice qa L1.length da), .slice (some ⟨mg, 0, none⟩) x.nodes.length mc, (.slice qb x.outputs.length db)]) (by simp [results, Tryz.results50, go_sem, *]) rfl ?_
  exact ⟨_, _, _, _, _, rfl, by simpa [setN] using O9.out, L9.out⟩
end Go.Proofs.YtcfhcmgmkhfjjaaGreat

namespace Go.Proofs.YtcfhcmgmkhfjjaaGreat
open Go.ChangeShapes Go.WideShapes Go.ChangeAt Go.RowKit Go.Sort
set_option linter.unusedVariables false

theorem swapL_step {i y : Int} {xs : List Int} {k : Nat} (h : k < xs.length) : swapL i y (xs.take (k + 1)) = swapL i y (xs.take k) ++ [if xs[k] = i then y else xs[k]] := by
  unfold swapL
  rw [List.take_succ_eq_append_getElem h, List.map_append]; rfl
theorem swapL_len (i y : Int) (xs : List Int) : (swapL i y xs).length = xs.length := by simp [swapL]
theorem swap_mix_get {i y : Int} {xs : List Int} {k : Nat} (h : k < xs.length) (h' : k < (swapL i y (xs.take k) ++ xs.drop k).length) : (swapL i y (xs.take k) ++ xs.drop k)[k] = xs[k] := by
  rw [List.getElem_append_right (by rw [swapL_len, List.length_take]; omega)]
  simp only [swapL_len, List.length_take, List.getElem_drop]
  congr 1; omega
theorem swap_mix_keep {i y : Int} {xs : List Int} {k : Nat} (h : k < xs.length) (hne : xs[k] ≠ i) : swapL i y (xs.take (k + 1)) ++ xs.drop (k + 1) = swapL i y (xs.take k) ++ xs.drop k := by
  rw [swapL_step h, if_neg hne, List.append_assoc, List.singleton_append, ← List.drop_eq_getElem_cons h]
theorem swap_mix_set {i y : Int} {xs : List Int} {k : Nat} (h : k < xs.length) (he : xs[k] = i) : swapL i y (xs.take (k + 1)) ++ xs.drop (k + 1) = (swapL i y (xs.take k) ++ xs.drop k).set k y := by
  rw [swapL_step h, if_pos he, List.append_assoc, List.set_append_right _ _ (by rw [swapL_len, List.length_take]; omega), swapL_len, List.length_take, show k - min k xs.length = 0 by omega, List.drop_eq_getElem_cons h, List.set_cons_zero]
  rfl
set_option maxHeartbeats 4000000 in
set_option maxRecDepth 100000 in
theorem swap_any {B : Nat} {u : Value} {xs : List Int} {gi gb : Nat} {i y : Int} (w : World) (ho : OwnI B w u xs) (hi : w.cell? ⟨gi, 0, none⟩ = some (.int .i64 i)) (hb : w.cell? ⟨gb, 0, none⟩ = some (.int .i64 y)) (hni : u.ownBlock ≠ some gi) (hnb : u.ownBlock ≠ some gb) (hl : xs.length ≤ 1000) :
    Calls Tryz.prog 95 #[u, .pointer (some ⟨gi, 0, none⟩), .pointer (some ⟨gb, 0, none⟩)] w fun e w' => e = .returned (.tuple #[]) ∧ OwnI B w' u (swapL i y xs) ∧ Off (fun b => u.ownBlock = some b) w w' := by
  obtain ⟨p, c, rfl, -⟩ := ho.rd
  have lgi := World.block_lt_of_cell? w _ hi
  have lgb := World.block_lt_of_cell? w _ hb
  go_enter Tryz.func95, Tryz.ntmps95
  go_wp2_with fail
  go_loopw [8] (fun ci wr => ∃ k : Nat, k ≤ xs.length ∧ ci = .int .i64 k ∧ OwnI B wr (.slice p xs.length c) (swapL i y (xs.take k) ++ xs.drop k) ∧ Off (fun b => (Value.slice p xs.length c).ownBlock = some b) w wr) (fun ci _ => xs.length - (intOf ci).toNat)
  case atStart => exact ⟨0, Nat.zero_le _, rfl, by simpa [swapL] using ho, Off.refl _ _⟩
  case round =>
    obtain ⟨k, hk, rfl, hown, hof⟩ := hrel
    obtain ⟨wi, rfl⟩ : ∃ wi : World, wi = wr := ⟨_, rfl⟩
    have zi : wi.cell? ⟨gi, 0, none⟩ = some (.int .i64 i) := (World.cell?_of_block (w := w) (a := ⟨gi, 0, none⟩) (hof.block gi lgi hni)).trans hi
    have zb : wi.cell? ⟨gb, 0, none⟩ = some (.int .i64 y) := (World.cell?_of_block (w := w) (a := ⟨gb, 0, none⟩) (hof.block gb lgb hnb)).trans hb
    by_cases hlt : k < xs.length
    · have hml : (swapL i y (xs.take k) ++ xs.drop k).length = xs.length := by rw [List.length_append, swapL_len, List.length_take, List.length_drop]; omega
      have hkm : k < (swapL i y (xs.take k) ++ xs.drop k).length := by rw [hml]; exact hlt
      rcases hown.cases with ⟨-, hnil⟩ | ⟨g, cap, e, hB, hgl, -, -⟩
      · rw [hnil] at hkm; simp at hkm
      · simp only [Value.slice.injEq] at e
        obtain ⟨rfl, -, rfl⟩ := e
        obtain ⟨-, -, -, hck, hfr, hst⟩ := hown.storing hkm
        rw [swap_mix_get hlt] at hck
        have hst1 := Lib.hid (hst y)
        have hgi : g ≠ gi := fun e => hni (by rw [e]; rfl)
        have SK := Lib.hid (swap_mix_keep (i := i) (y := y) hlt)
        have SS := Lib.hid (swap_mix_set (i := i) (y := y) hlt)
        have HO : Hid (∀ v, Off (fun b => (Value.slice (some ⟨g, 0, none⟩) xs.length c).ownBlock = some b) w (wi.setCell ⟨g, k, none⟩ v)) := fun v =>
          hof.trans ⟨rfl, rfl, rfl, by simp, fun j hj hn => Below.heap_setCell _ _ _ _ fun e => hn (by rw [e]; rfl)⟩
        have HOF := Lib.hid hof
        have HOWN := Lib.hid hown
        clear hst hof hown
        generalize xs[k] = z at *
        clear hml hkm
        by_cases hz : z = i
        · have q : (z == i) = true := by rw [beq_iff_eq]; exact hz
          have S1 := SS.out hz
          have S2 := Lib.hid S1
          clear hz S1 SK SS
          go_wp2_with fail
          go_roundw
          case rel => exact ⟨k + 1, by omega, by go_num, by rw [S2.out]; exact hst1.out, HO.out _⟩
          case measure => simp [intOf] <;> omega
        · have q : (z == i) = false := by rw [beq_eq_false_iff_ne]; exact hz
          have S1 := SK.out hz
          have S2 := Lib.hid S1
          clear hz S1 SK SS
          go_wp2_with fail
          go_roundw
          case rel => exact ⟨k + 1, by omega, by go_num, by rw [S2.out]; exact HOWN.out, HOF.out⟩
          case measure => simp [intOf] <;> omega
    · obtain rfl : k = xs.length := by omega
      rw [List.take_length, List.drop_length, List.append_nil] at hown
      go_wp2_with fail
      go_end0
      exact ⟨rfl, hown, hof⟩
/-- the first k nodes with their inputs swapped -/
def mixN (i y : Int) (ns : List NodeD) (k : Nat) : List NodeD := (ns.take k).map (fun n => { n with src := swapL i y n.src }) ++ ns.drop k
theorem mixN_len (i y : Int) (ns : List NodeD) {k : Nat} (h : k ≤ ns.length) : (mixN i y ns k).length = ns.length := by unfold mixN; rw [List.length_append, List.length_map, List.length_take, List.length_drop]; omega
theorem mixN_get {i y : Int} {ns : List NodeD} {k : Nat} (h : k < ns.length) (h' : k < (mixN i y ns k).length) : (mixN i y ns k)[k] = ns[k] := by
  have e : (mixN i y ns k)[k]? = ns[k]? := by
    unfold mixN
    rw [List.getElem?_append_right (by rw [List.length_map, List.length_take]; omega), List.getElem?_drop]
    congr 1
    rw [List.length_map, List.length_take]; omega
  rw [List.getElem?_eq_getElem h', List.getElem?_eq_getElem h] at e
  exact Option.some.inj e
theorem mixN_step {i y : Int} {ns : List NodeD} {k : Nat} (h : k < ns.length) : mixN i y ns (k + 1) = (mixN i y ns k).set k { (mixN i y ns k).getD k zN with src := swapL i y ns[k].src } := by
  have e : (mixN i y ns k).getD k zN = ns[k] := by
    have h' : k < (mixN i y ns k).length := by rw [mixN_len _ _ _ (by omega)]; exact h
    rw [List.getD_eq_getElem?_getD, List.getElem?_eq_getElem h', mixN_get h h']; rfl
  rw [e]
  unfold mixN
  rw [List.take_succ_eq_append_getElem h, List.map_append, List.append_assoc, List.set_append_right _ _ (by rw [List.length_map, List.length_take]; omega), List.length_map, List.length_take, show k - min k ns.length = 0 by omega,
    List.drop_eq_getElem_cons h, List.set_cons_zero]
  rfl
set_option maxHeartbeats 8000000 in
set_option maxRecDepth 100000 in
theorem replaced_x {x : PatchD} {v : Value} {i y : Int} (w : World) (h : VPatch w v x) (hf : formedB x = true) :
    Calls Tryz.prog 54 #[v, .int .i64 i, .int .i64 y] w (RetPB w.heap.size w (replP x i y)) := by
  have hv := h
  have sm := formed_small hf
  have hn24 := (formed_iff.1 hf).2.2.1
  obtain ⟨p1, c1, p2, c2, p3, c3, rfl, -, -, -⟩ := h
  have hmf : ∀ (fn : Fn) (first cap : Array Value) (w : World), (Instr.makeFunc fn first cap).run Tryz.prog w = .ok (.func fn first cap) w := fun _ _ _ _ => rfl
  obtain ⟨g, hg⟩ : ∃ g, g = w.heap.size := ⟨_, rfl⟩
  obtain ⟨E, hE⟩ : ∃ E, E = (((w.alloc (.cells #[.int .i64 x.inputs, .slice p1 x.tables.length c1, .slice p2 x.nodes.length c2, .slice p3 x.outputs.length c3] 28)).alloc (.cells #[.int .i64 i] 2)).alloc (.cells #[.int .i64 y] 2)).alloc (.cells #[.int .i64 0, .slice none 0 0, .slice none 0 0, .slice none 0 0] 28) := ⟨_, rfl⟩
  have hB0 : Below w.heap.size w E := by rw [hE]; exact ((((Below.refl _ _).alloc (Nat.le_refl _) _).alloc (by simp) _).alloc (by simp; omega) _).alloc (by simp; omega) _
  have bx : Box E g [.int .i64 x.inputs, .slice p1 x.tables.length c1, .slice p2 x.nodes.length c2, .slice p3 x.outputs.length c3] 28 := by rw [hE, hg]; exact (((Box.newAt w _ _ rfl).alloc _).alloc _).alloc _
  have bi : Box E (g + 1) [.int .i64 i] 2 := by rw [hE, hg]; exact ((Box.newAt (w.alloc _) _ _ (by simp)).alloc _).alloc _
  have bb : Box E (g + 2) [.int .i64 y] 2 := by rw [hE, hg]; exact (Box.newAt ((w.alloc _).alloc _) _ _ (by simp)).alloc _
  have br : Box E (g + 3) zPatch 28 := by rw [hE, hg]; exact Box.newAt (((w.alloc _).alloc _).alloc _) _ _ (by simp)
  have hgE : g + 3 < E.heap.size := br.lt
  have hgw : w.heap.size ≤ g + 3 := by omega
  have CP := Lib.hid (copyPatch_v E (hv.below hB0) sm)
  have HE := Lib.hid hE
  have HG := Lib.hid hg
  have v0 := bx.cell 0 rfl
  have vv1 := bx.cell 1 rfl
  have vv2 := bx.cell 2 rfl
  have vv3 := bx.cell 3 rfl
  clear hE hg hv bx
  go_enter Tryz.func54, Tryz.ntmps54
  go_upto_region 1 with fail
  rw [← HE.out, ← HG.out]
  go_wp2_with fail
  refine CP.out.mono ?_
  rintro e W1 ⟨w1, w2, w3, L1, L, rfl, ho, hb1⟩
  obtain ⟨qa, da, ea⟩ := ho.o1.sl'
  obtain ⟨qb, db, eb, -⟩ := ho.o3.rd
  obtain ⟨qc, dc, ec⟩ := ho.o2.sl
  subst ea eb ec
  obtain ⟨V, hV⟩ : ∃ V, V = W1.alloc (.cells #[.int .i64 x.inputs, .slice qa L1.length da, .slice qc x.nodes.length dc, .slice qb x.outputs.length db] 28) := ⟨_, rfl⟩
  have d2 : Below W1.heap.size W1 V := by rw [hV]; exact (Below.refl _ _).alloc (Nat.le_refl _) _
  have bo : Box V W1.heap.size [.int .i64 x.inputs, .slice qa L1.length da, .slice qc x.nodes.length dc, .slice qb x.outputs.length db] 28 := by rw [hV]; exact Box.newAt W1 _ _ rfl
  obtain ⟨so, hso⟩ : ∃ so, so = W1.heap.size := ⟨_, rfl⟩
  rw [← hso] at bo
  have eV : Below E.heap.size E V := hb1.trans (d2.mono hb1.size)
  have hoV := ho.below d2
  have HV := Lib.hid hV
  have HSO := Lib.hid hso
  clear hV hso ho hb1 d2 v0 vv1 vv2 vv3
  have o2 := bo.cell 2 rfl
  go_upto_region 2 with fail
  rw [← HV.out, ← HSO.out]
  go_wp2_with fail
  clear o2
  go_loopw [17] (fun ci wr => ∃ k : Nat, k ≤ x.nodes.length ∧ ci = .int .i64 k ∧ OwnP E.heap.size wr (.slice qa L1.length da) (.slice qc x.nodes.length dc) (.slice qb x.outputs.length db) x.tables (mixN i y x.nodes k) x.outputs L1 L ∧ Box wr so [.int .i64 x.inputs, .slice qa L1.length da, .slice qc x.nodes.length dc, .slice qb x.outputs.length db] 28 ∧ Below E.heap.size E wr) (fun ci _ => x.nodes.length - (intOf ci).toNat)
  case atStart => exact ⟨0, Nat.zero_le _, rfl, by simpa [mixN] using hoV, bo, eV⟩
  case round =>
    obtain ⟨k, hk, rfl, hop, bow, hbel⟩ := hrel
    obtain ⟨wi, rfl⟩ : ∃ wi : World, wi = wr := ⟨_, rfl⟩
    clear hoV bo eV
    by_cases hlt : k < x.nodes.length
    · have hml : k < (mixN i y x.nodes k).length := by rw [mixN_len _ _ _ hk]; exact hlt
      have hkL : k < L.length := by rw [hop.o2.1]; exact hml
      rcases hop.o2.cases with ⟨-, hn0, -⟩ | ⟨mg, mc, e, hmB, hmgl, -, hc⟩
      · rw [hn0] at hml; simp at hml
      simp only [Value.slice.injEq] at e
      obtain ⟨rfl, -, rfl⟩ := e
      obtain ⟨z0, z1, z2, z3⟩ := hc k hml hkL
      obtain ⟨hL', hu⟩ := hop.s2.at_ (i := k) (by rw [List.length_map]; exact hml)
      rw [List.getElem_map] at hu
      rw [mixN_get hlt hml] at z0 z1 z2 hu
      have hsl := sm.srcs _ (List.getElem_mem hlt)
      have MS := Lib.hid (mixN_step (i := i) (y := y) hlt)
      generalize x.nodes[k] = n at *
      obtain ⟨uq, ud, hur, -⟩ := hu.rd
      rw [hur] at z3
      obtain ⟨F, hF⟩ : ∃ F, F = wi.alloc (.cells #[.int .i64 n.kind, .int .i64 n.a, .int .i64 n.b, .slice uq n.src.length ud] 55) := ⟨_, rfl⟩
      have dF : Below wi.heap.size wi F := by rw [hF]; exact (Below.refl _ _).alloc (Nat.le_refl _) _
      have bF : Box F wi.heap.size [.int .i64 n.kind, .int .i64 n.a, .int .i64 n.b, .slice uq n.src.length ud] 55 := by rw [hF]; exact Box.newAt wi _ _ rfl
      have hopF := hop.below dF
      have bowF := bow.below dF
      have hbF := hbel.trans (dF.mono hbel.size)
      have huF := hu.below dF
      have HF := Lib.hid hF
      have t3 := bF.cell 3 rfl
      have ti := (bi.below hbF).cell 0 rfl
      have tb := (bb.below hbF).cell 0 rfl
      have hge : ∀ j, L[k].ownBlock = some j → E.heap.size ≤ j := fun j hj => (huF.lt hj).1
      have hni : L[k].ownBlock ≠ some (g + 1) := fun e => by have := hge _ e; omega
      have hnb : L[k].ownBlock ≠ some (g + 2) := fun e => by have := hge _ e; omega
      have SW := Lib.hid (swap_any F huF ti tb hni hnb hsl)
      rw [hur] at SW
      have NB := Lib.hid (hopF.neBox bowF patchT).2.2
      have HUR := Lib.hid hur
      have SA := Lib.hid (fun w' (h1 : OwnI E.heap.size w' L[k] (swapL i y n.src)) (h2 : Off (fun b => L[k].ownBlock = some b) F w') => hopF.swapAt hml hkL h1 h2)
      have HMEM : Hid (L[k] ∈ L) := List.getElem_mem hkL
      have lo := bow.lt
      have l2 := bow.cell 2 rfl
      clear hF hop bow hu huF hc hur dF
      go_upto_region 6 with fail
      rw [← HF.out]
      go_wp2_with fail
      refine SW.out.mono ?_
      rintro e W2 ⟨rfl, h1, h2⟩
      rw [← HUR.out] at h1 h2
      have hop2 := SA.out W2 h1 h2
      have bow2 : Box W2 so _ _ := bowF.off h2 fun e => NB.out (blk_append.2 (.inr (blk_append.2 (.inl ⟨L[k], HMEM.out, e⟩))))
      have hb2 : Below E.heap.size E W2 := ⟨h2.os.trans hbF.os, h2.tape.trans hbF.tape, h2.output.trans hbF.output, Nat.le_trans hbF.size h2.size, fun j hj => (h2.block j (Nat.lt_of_lt_of_le hj hbF.size) fun e => by have := hge j e; omega).trans (hbF.block j hj)⟩
      rw [← MS.out] at hop2
      have HOP2 := Lib.hid hop2
      clear h1 h2 hop2 SA hopF bowF
      go_wp2_with fail
      go_roundw
      case rel => exact ⟨k + 1, by omega, by go_num, HOP2.out, bow2, hb2⟩
      case measure => simp [intOf] <;> omega
    · obtain rfl : k = x.nodes.length := by omega
      have hmix : mixN i y x.nodes x.nodes.length = x.nodes.map (fun n => { n with src := swapL i y n.src }) := by unfold mixN; rw [List.take_length, List.drop_length, List.append_nil]
      rw [hmix] at hop
      have l3 := bow.cell 3 rfl
      have ti := (bi.below hbel).cell 0 rfl
      have tb := (bb.below hbel).cell 0 rfl
      have hge : ∀ j, (Value.slice qb x.outputs.length db).ownBlock = some j → E.heap.size ≤ j := fun j hj => (hop.o3.lt hj).1
      have SW := Lib.hid (swap_any (i := i) (y := y) wi hop.o3 ti tb (fun e => by have := hge _ e; omega) (fun e => by have := hge _ e; omega) (by have := sm.outs; omega))
      have SA := Lib.hid (fun w' h1 (h2 : Off (fun b => (Value.slice qb x.outputs.length db).ownBlock = some b) wi w') => hop.swapOut (w' := w') (ys := swapL i y x.outputs) h1 h2)
      have NB := Lib.hid (hop.neBox bow patchT).2.2
      have NR := Lib.hid (hop.neBox (br.below hbel) patchT).2.2
      have brw := br.below hbel
      clear hop hmix
      go_wp2_with fail
      refine SW.out.mono ?_
      rintro e W2 ⟨rfl, h1, h2⟩
      have hop2 := SA.out W2 h1 h2
      have bow2 := bow.off h2 fun e => NB.out (blk_append.2 (.inr (blk_append.2 (.inr (Blk.one.2 e)))))
      have br2 := brw.off h2 fun e => NR.out (blk_append.2 (.inr (blk_append.2 (.inr (Blk.one.2 e)))))
      have hb2 : Below E.heap.size E W2 := ⟨h2.os.trans hbel.os, h2.tape.trans hbel.tape, h2.output.trans hbel.output, Nat.le_trans hbel.size h2.size, fun j hj => (h2.block j (Nat.lt_of_lt_of_le hj hbel.size) fun e => by have := hge j e; omega).trans (hbel.block j hj)⟩
      have k2 := hB0.trans (hb2.mono hB0.size)
      clear h1 h2 SA l3 ti tb
      have y0 := bow2.cell 0 rfl
      have y1 := bow2.cell 1 rfl
      have y2 := bow2.cell 2 rfl
      have y3 := bow2.cell 3 rfl
      have j0 := br2.frozen 0
      have j1 := br2.frozen 1
      have j2 := br2.frozen 2
      have j3 := br2.frozen 3
      have i0 := br2.cell 0 rfl
      have i1 := br2.cell 1 rfl
      have i2 := br2.cell 2 rfl
      have i3 := br2.cell 3 rfl
      obtain ⟨W9, hW9, b9, o9, l9⟩ := put_patch (inp := x.inputs) br2 hop2 k2 hgw
      have q0 := b9.cell 0 rfl
      have q1 := b9.cell 1 rfl
      have q2 := b9.cell 2 rfl
      have q3 := b9.cell 3 rfl
      have O9 := Lib.hid o9
      have L9 := Lib.hid l9
      have H9 := Lib.hid hW9
      clear hW9 o9 l9 b9 hop2 k2
      go_wp2_with fail
      rw [← H9.out]
      refine bodyPost_ret (v := .agg #[.int .i64 x.inputs, .slice qa L1.length da, .slice qc x.nodes.length dc, .slice qb x.outputs.length db]) (by simp [results, Tryz.results54, go_sem, *]) rfl ?_
      exact ⟨_, _, _, _, _, rfl, (O9.out.mono hB0.size), L9.out⟩
end Go.Proofs.YtcfhcmgmkhfjjaaGreat

namespace Go.Proofs.YtcfhcmgmkhfjjaaGreat
open Go.ChangeShapes Go.WideShapes Go.ChangeAt Go.RowKit Go.Sort
set_option linter.unusedVariables false

def ruleK (nd c z : Bool) (s : Int) (f j5 j6 : Bool) (t : Int) : Int :=
  if nd then (if c then 1 else if z then 2 else if 0 ≤ s then 3 else if f then 4 else if j5 then 5 else if j6 then 6 else if 0 ≤ t then 7 else 0) else 0
theorem ruleP_eq (x : PatchD) (i : Int) : ruleP x i = ruleK ((need x).contains i) (constB x i) (zeroB x i) (sameI x i) (factB x i) (joinOk x i 5) (joinOk x i 6) (twinI x i) := rfl
/-- a rule and a patch; the patch is the call's own if a rule applied -/
def RetW (w : World) (r : Int) (y : PatchD) (e : Ending) (w' : World) : Prop :=
  ∃ v', e = .returned (.tuple #[.int .i64 r, v']) ∧ VPatch w' v' y ∧ (r ≠ 0 → ∃ v1 v2 v3 L1 L, v' = .agg #[.int .i64 y.inputs, v1, v2, v3] ∧ OwnP w.heap.size w' v1 v2 v3 y.tables y.nodes y.outputs L1 L) ∧ Below w.heap.size w w'
theorem retW_mk {B : Nat} {w w' : World} {r : Int} {y : PatchD} {v1 v2 v3 : Value} {L1 L : List Value} (h : OwnP B w' v1 v2 v3 y.tables y.nodes y.outputs L1 L) (hb : Below w.heap.size w w') (hB : w.heap.size = B := by rfl) :
    RetW w r y (.returned (.tuple #[.int .i64 r, .agg #[.int .i64 y.inputs, v1, v2, v3]])) w' := by
  subst hB
  exact ⟨_, rfl, (h.patch y.inputs).1.rd, fun _ => ⟨_, _, _, _, _, rfl, h⟩, hb⟩
theorem put_same {w W : World} {g : Nat} {inp : Int} {l0 l1 l2 l3 v1 v2 v3 : Value} (br : Box W g [l0, l1, l2, l3] 28) (hb : Below w.heap.size w W) (hg : w.heap.size ≤ g) :
    ∃ W', W' = ((((W.setCell ⟨g, 0, none⟩ (.int .i64 inp)).setCell ⟨g, 1, none⟩ v1).setCell ⟨g, 2, none⟩ v2).setCell ⟨g, 3, none⟩ v3) ∧ Box W' g [.int .i64 inp, v1, v2, v3] 28 ∧ Below w.heap.size w W' :=
  ⟨_, rfl, br.put4, below_put4 _ _ _ _ hb hg⟩
theorem need_mark {x : PatchD} {i : Nat} (hi : i < x.nodes.length) {mb : Bool} (h : (marksL x.nodes x.outputs).getD i false = mb) : (need x).contains (i : Int) = mb := by
  rw [Bool.eq_iff_iff, List.contains_iff_mem]
  unfold need
  rw [mem_ups]
  unfold mk
  rw [Int.toNat_natCast, h]
  constructor
  · exact fun h => h.2.2
  · exact fun h => ⟨by omega, by omega, h⟩
set_option maxHeartbeats 16000000 in
set_option maxRecDepth 100000 in
theorem rewrite_x {x : PatchD} {v : Value} {i : Nat} (w : World) (h : VPatch w v x) (hf : formedB x = true) (hi : i < x.nodes.length) :
    Calls Tryz.prog 31 #[v, .int .i64 (i : Int)] w (RetW w (ruleP x (i : Int)) (afterP x (i : Int) (ruleP x (i : Int)))) := by
  have hv := h
  have hn24 := (formed_iff.1 hf).2.2.1
  have ho4 := (formed_iff.1 hf).2.2.2.1
  have hml : (marksL x.nodes x.outputs).length = x.nodes.length := (marksL_end (formed_src hf) (formed_outs hf)).len
  obtain ⟨R, hR⟩ : ∃ R, R = ruleP x (i : Int) := ⟨_, rfl⟩
  obtain ⟨Y, hY⟩ : ∃ Y, Y = afterP x (i : Int) R := ⟨_, rfl⟩
  rw [← hR, ← hY]
  rw [ruleP_eq] at hR
  have HR : Hid (∀ nd c z s f j5 j6 t, (need x).contains (i : Int) = nd → constB x (i : Int) = c → zeroB x (i : Int) = z → sameI x (i : Int) = s → factB x (i : Int) = f → joinOk x (i : Int) 5 = j5 → joinOk x (i : Int) 6 = j6 → twinI x (i : Int) = t → R = ruleK nd c z s f j5 j6 t) := by
    intro nd c z s f j5 j6 t e1 e2 e3 e4 e5 e6 e7 e8
    rw [hR, e1, e2, e3, e4, e5, e6, e7, e8]
  have HY : Hid (∀ r, R = r → Y = afterP x (i : Int) r) := fun r e => by rw [hY, e]
  clear hR hY
  obtain ⟨p1, c1, p2, c2, p3, c3, rfl, RT, RN, RO⟩ := h
  obtain ⟨b, o, rfl, -, NS⟩ := NodesAt.of RN hi
  clear RN RO
  obtain ⟨g, hg⟩ : ∃ g, g = w.heap.size := ⟨_, rfl⟩
  obtain ⟨E, hE⟩ : ∃ E, E = (w.alloc (.cells #[.int .i64 x.inputs, .slice p1 x.tables.length c1, .slice (some ⟨b, o, none⟩) x.nodes.length c2, .slice p3 x.outputs.length c3] 28)).alloc (.cells #[.int .i64 0, .slice none 0 0, .slice none 0 0, .slice none 0 0] 28) := ⟨_, rfl⟩
  have k0 : Below w.heap.size w E := by rw [hE]; exact ((Below.refl _ _).alloc (Nat.le_refl _) _).alloc (by simp) _
  have bx0 : Box E g [.int .i64 x.inputs, .slice p1 x.tables.length c1, .slice (some ⟨b, o, none⟩) x.nodes.length c2, .slice p3 x.outputs.length c3] 28 := by rw [hE, hg]; exact (Box.newAt w _ _ rfl).alloc _
  have br0 : Box E (g + 1) zPatch 28 := by rw [hE, hg]; exact Box.newAt (w.alloc _) _ _ (by simp)
  have hgw : w.heap.size ≤ g + 1 := by omega
  have NM := Lib.hid (neededMarks_v E (hv.below k0) (formed_src hf) (formed_outs hf) hn24 ho4)
  have HE := Lib.hid hE
  have HG := Lib.hid hg
  have HV := Lib.hid hv
  clear hE hg hv
  have v0 := bx0.cell 0 rfl
  have v1 := bx0.cell 1 rfl
  have v2 := bx0.cell 2 rfl
  have v3 := bx0.cell 3 rfl
  have j0 := br0.frozen 0
  have j1 := br0.frozen 1
  have j2 := br0.frozen 2
  have j3 := br0.frozen 3
  have i0 := br0.cell 0 rfl
  have i1 := br0.cell 1 rfl
  have i2 := br0.cell 2 rfl
  have i3 := br0.cell 3 rfl
  go_enter Tryz.func31, Tryz.ntmps31
  go_upto_region 1 with fail
  rw [← HE.out, ← HG.out]
  go_wp2_with fail
  refine NM.out.mono ?_
  rintro e W1 ⟨u, rfl, hu, d1⟩
  have hu0 := hu
  rcases hu.cases with ⟨-, hnil⟩ | ⟨mg, mc, rfl, -, hmg, -, hmc0⟩
  · exfalso
    have h1 : (marksL x.nodes x.outputs).length = 0 := by rw [← List.length_map (f := Value.bool), hnil]; rfl
    omega
  have hLM : ((marksL x.nodes x.outputs).map Value.bool).length = x.nodes.length := by rw [List.length_map]; exact hml
  have mcell := hmc0.atOwn i (by rw [hLM]; exact hi)
  rw [mbool _ (by rw [hml]; exact hi)] at mcell
  rw [hLM] at hu0 ⊢
  have k1 := k0.trans (d1.mono k0.size)
  have bx1 := bx0.below d1
  have br1 := br0.below d1
  clear hu hmc0 hLM NM
  clear v0 v1 v2 v3 j0 j1 j2 j3 i0 i1 i2 i3
  have v0 := bx1.cell 0 rfl
  have v1 := bx1.cell 1 rfl
  have v2 := bx1.cell 2 rfl
  have v3 := bx1.cell 3 rfl
  have j0 := br1.frozen 0
  have j1 := br1.frozen 1
  have j2 := br1.frozen 2
  have j3 := br1.frozen 3
  have i0 := br1.cell 0 rfl
  have i1 := br1.cell 1 rfl
  have i2 := br1.cell 2 rfl
  have i3 := br1.cell 3 rfl
  cases hmb : (marksL x.nodes x.outputs).getD i false
  case false =>
    rw [hmb] at mcell
    obtain rfl : R = 0 := HR.out false _ _ _ _ _ _ _ (need_mark hi hmb) rfl rfl rfl rfl rfl rfl rfl
    have hYx : x = Y := (HY.out 0 rfl).symm
    subst hYx
    have HVW := Lib.hid (fun W (hW : Below w.heap.size w W) => HV.out.below hW)
    clear hmb HR HY
    go_wp2_with fail
    obtain ⟨W9, hW9, b9, l9⟩ := put_same (inp := x.inputs) (v1 := .slice p1 x.tables.length c1) (v2 := .slice (some ⟨b, o, none⟩) x.nodes.length c2) (v3 := .slice p3 x.outputs.length c3) br1 k1 hgw
    have q0 := b9.cell 0 rfl
    have q1 := b9.cell 1 rfl
    have q2 := b9.cell 2 rfl
    have q3 := b9.cell 3 rfl
    have L9 := Lib.hid l9
    have H9 := Lib.hid hW9
    clear hW9 l9 b9
    go_region
    all_goals
      go_wp2_with fail
      rw [← H9.out]
      refine bodyPost_ret (v := .tuple #[.int .i64 0, .agg #[.int .i64 x.inputs, .slice p1 x.tables.length c1, .slice (some ⟨b, o, none⟩) x.nodes.length c2, .slice p3 x.outputs.length c3]]) (by simp [results, Tryz.results31, go_sem, *]) rfl ?_
      first
        | exact ⟨_, rfl, HVW.out _ L9.out, fun h => absurd rfl h, L9.out⟩
        | exact ⟨_, rfl, HVW.out _ (Below.drewR' L9.out), fun h => absurd rfl h, Below.drewR' L9.out⟩
  rw [hmb] at mcell
  have HR1 := Lib.hid (fun c z s f j5 j6 t e2 e3 e4 e5 e6 e7 e8 => HR.out true c z s f j5 j6 t (need_mark hi hmb) e2 e3 e4 e5 e6 e7 e8)
  clear hmb HR
  have NN := Lib.hid (toConst_x (p1 := p1) (p3 := p3) (c1 := c1) (c2 := c2) (c3 := c3) (i := i) W1 (NS.below k1) (RT.below k1) hf hi)
  generalize hN4 : (if constB x (i : Int) then (⟨2, constV x (i : Int), 0, []⟩ : NodeD) else zN) = nd4 at NN
  generalize hT4 : constB x (i : Int) = T4 at NN
  go_wp2_with fail
  refine NN.out.mono ?_
  rintro e A4 ⟨s4, rfl, hs4, a4⟩
  obtain ⟨qs4, ds4, es4, -⟩ := hs4.rd
  subst es4
  clear NN
  obtain ⟨V4, hV4⟩ : ∃ V, V = A4.alloc (.cells #[.int .i64 nd4.kind, .int .i64 nd4.a, .int .i64 nd4.b, .slice qs4 nd4.src.length ds4] 55) := ⟨_, rfl⟩
  have e4 : Below A4.heap.size A4 V4 := by rw [hV4]; exact (Below.refl _ _).alloc (Nat.le_refl _) _
  have bn4 : Box V4 A4.heap.size [.int .i64 nd4.kind, .int .i64 nd4.a, .int .i64 nd4.b, .slice qs4 nd4.src.length ds4] 55 := by rw [hV4]; exact Box.newAt A4 _ _ rfl
  have dd4 : Below W1.heap.size W1 V4 := a4.trans (e4.mono a4.size)
  have kk4 := k1.trans (dd4.mono k1.size)
  have xx4 := bx1.below dd4
  have rr4 := br1.below dd4
  have hsV4 : OwnI w.heap.size V4 (.slice qs4 nd4.src.length ds4) nd4.src := (hs4.mono k1.size).below e4
  have HVV4 := Lib.hid hV4
  have t0 := bn4.cell 0 rfl
  have t1 := bn4.cell 1 rfl
  have t2 := bn4.cell 2 rfl
  have t3 := bn4.cell 3 rfl
  clear hV4
  clear v0 v1 v2 v3 j0 j1 j2 j3 i0 i1 i2 i3
  have v0 := xx4.cell 0 rfl
  have v1 := xx4.cell 1 rfl
  have v2 := xx4.cell 2 rfl
  have v3 := xx4.cell 3 rfl
  have j0 := rr4.frozen 0
  have j1 := rr4.frozen 1
  have j2 := rr4.frozen 2
  have j3 := rr4.frozen 3
  have i0 := rr4.cell 0 rfl
  have i1 := rr4.cell 1 rfl
  have i2 := rr4.cell 2 rfl
  have i3 := rr4.cell 3 rfl
  go_upto_region 5 with fail
  rw [← HVV4.out]
  cases T4
  case true =>
    have hRr : R = 1 := HR1.out true _ _ _ _ _ _ hT4 rfl rfl rfl rfl rfl rfl
    subst hRr
    have hYr : Y = setN x (i : Int) nd4 := by rw [HY.out 1 rfl]; rw [← hN4, hT4]; rfl
    have WX := Lib.hid (with_x (i := i) nd4 V4 (HV.out.below kk4) hf hi hsV4 kk4.size)
    rw [← hYr] at WX
    clear hYr HY hT4 hN4 HR1
    go_wp2_with fail
    refine WX.out.mono ?_
    rintro e Z9 ⟨w1, w2, w3, L1, L, rfl, hoZ, hZ⟩
    obtain ⟨qa, da, ea⟩ := hoZ.o1.sl'
    obtain ⟨qb, db, eb, -⟩ := hoZ.o3.rd
    obtain ⟨qc, dc, ec⟩ := hoZ.o2.sl
    subst ea eb ec
    have rZ := rr4.below hZ
    have kZ := kk4.trans (hZ.mono kk4.size)
    clear v0 v1 v2 v3 j0 j1 j2 j3 i0 i1 i2 i3
    have j0 := rZ.frozen 0
    have j1 := rZ.frozen 1
    have j2 := rZ.frozen 2
    have j3 := rZ.frozen 3
    have i0 := rZ.cell 0 rfl
    have i1 := rZ.cell 1 rfl
    have i2 := rZ.cell 2 rfl
    have i3 := rZ.cell 3 rfl
    obtain ⟨W9, hW9, b9, o9, l9⟩ := put_patch (inp := Y.inputs) rZ hoZ kZ hgw
    have q0 := b9.cell 0 rfl
    have q1 := b9.cell 1 rfl
    have q2 := b9.cell 2 rfl
    have q3 := b9.cell 3 rfl
    have O9 := Lib.hid o9
    have L9 := Lib.hid l9
    have H9 := Lib.hid hW9
    clear hW9 o9 l9 b9
    go_wp2_with fail
    rw [← H9.out]
    refine bodyPost_ret (v := .tuple #[.int .i64 1, .agg #[.int .i64 Y.inputs, .slice qa L1.length da, .slice qc Y.nodes.length dc, .slice qb Y.outputs.length db]]) (by simp [results, Tryz.results31, go_sem, *]) rfl ?_
    exact retW_mk (O9.out) L9.out
  have HR2 := Lib.hid (fun z s f j5 j6 t e_z e_s e_f e_j5 e_j6 e_t => HR1.out false z s f j5 j6 t hT4 e_z e_s e_f e_j5 e_j6 e_t)
  clear HR1
  clear hN4
  have ZN := Lib.hid (isZeroNode_x (p1 := p1) (p3 := p3) (c1 := c1) (c2 := c2) (c3 := c3) V4 (NS.below kk4) hf hi)
  go_wp2_with fail
  refine ZN.out.mono ?_
  rintro e A5 ⟨rfl, a5⟩
  clear ZN
  have kk5 := kk4.trans (a5.mono kk4.size)
  have xx5 := xx4.below a5
  have rr5 := rr4.below a5
  clear v0 v1 v2 v3 j0 j1 j2 j3 i0 i1 i2 i3
  have v0 := xx5.cell 0 rfl
  have v1 := xx5.cell 1 rfl
  have v2 := xx5.cell 2 rfl
  have v3 := xx5.cell 3 rfl
  have j0 := rr5.frozen 0
  have j1 := rr5.frozen 1
  have j2 := rr5.frozen 2
  have j3 := rr5.frozen 3
  have i0 := rr5.cell 0 rfl
  have i1 := rr5.cell 1 rfl
  have i2 := rr5.cell 2 rfl
  have i3 := rr5.cell 3 rfl
  cases hz : zeroB x (i : Int)
  case true =>
    have hRr : R = 2 := HR2.out true _ _ _ _ _ hz rfl rfl rfl rfl rfl
    subst hRr
    have hYr : Y = setN x (i : Int) ⟨2, 0, 0, []⟩ := HY.out 2 rfl
    have hcur := bdrewn A5
    have FCO := Lib.hid (fun W (hW : Below A5.heap.size A5 W) => (constOf_x 0 W).mono fun e w' ⟨u, h1, h2, h3⟩ => (⟨u, h1, h2.mono (Nat.le_trans kk5.size hW.size), h3, hW.trans (h3.mono hW.size)⟩ : ∃ u, e = Ending.returned (.agg #[.int .i64 2, .int .i64 0, .int .i64 0, u]) ∧ OwnI w.heap.size w' u [] ∧ Below W.heap.size W w' ∧ Below A5.heap.size A5 w'))
    have WX := Lib.hid (fun W (hW : Below A5.heap.size A5 W) u (hu : OwnI w.heap.size W u []) => with_x (i := i) ⟨2, 0, 0, []⟩ W (HV.out.below (kk5.trans (hW.mono kk5.size))) hf hi hu (Nat.le_trans kk5.size hW.size))
    rw [← hYr] at WX
    have lx5 := xx5.lt
    have lr5 := rr5.lt
    clear hYr HY hz HR2
    go_upto_region 8 with fail
    go_region_law (first | (go_simp; go_at_call 52; refine (FCO.out _ (by repeat (first | exact Below.refl _ _ | assumption | refine Below.alloc ?_ (by first | exact Nat.le_refl _ | omega | (simp; done)) _ | refine Below.drewR' ?_))).mono ?_; rintro e A6 ⟨uc, rfl, huc, d6, k6⟩; have xx6 := xx5.below k6; have rr6 := rr5.below k6; have v0 := xx6.cell 0 rfl; have v1 := xx6.cell 1 rfl; have v2 := xx6.cell 2 rfl; have v3 := xx6.cell 3 rfl; have lx6 := xx6.lt; have lr6 := rr6.lt) | (go_simp; go_at_call 50; refine (WX.out _ k6 _ huc).mono ?_; rintro e Z9 ⟨w1, w2, w3, L1, L, rfl, hoZ, hZ⟩; obtain ⟨qa, da, ea⟩ := hoZ.o1.sl'; obtain ⟨qb, db, eb, -⟩ := hoZ.o3.rd; obtain ⟨qc, dc, ec⟩ := hoZ.o2.sl; subst ea eb ec; have rZ := rr6.below hZ; have kZ := (kk5.trans (k6.mono kk5.size)).trans (hZ.mono (kk5.trans (k6.mono kk5.size)).size); have j0 := rZ.frozen 0; have j1 := rZ.frozen 1; have j2 := rZ.frozen 2; have j3 := rZ.frozen 3; have i0 := rZ.cell 0 rfl; have i1 := rZ.cell 1 rfl; have i2 := rZ.cell 2 rfl; have i3 := rZ.cell 3 rfl) | fail)
    all_goals
      obtain ⟨W9, hW9, b9, o9, l9⟩ := put_patch (inp := Y.inputs) rZ hoZ kZ hgw
      have q0 := b9.cell 0 rfl
      have q1 := b9.cell 1 rfl
      have q2 := b9.cell 2 rfl
      have q3 := b9.cell 3 rfl
      have O9 := Lib.hid o9
      have L9 := Lib.hid l9
      have H9 := Lib.hid hW9
      clear hW9 o9 l9 b9
      go_wp2_with fail
      rw [← H9.out]
      refine bodyPost_ret (v := .tuple #[.int .i64 2, .agg #[.int .i64 Y.inputs, .slice qa L1.length da, .slice qc Y.nodes.length dc, .slice qb Y.outputs.length db]]) (by simp [results, Tryz.results31, go_sem, *]) rfl ?_
      exact retW_mk (O9.out) L9.out
  have HR3 := Lib.hid (fun s f j5 j6 t e_s e_f e_j5 e_j6 e_t => HR2.out false s f j5 j6 t hz e_s e_f e_j5 e_j6 e_t)
  clear HR2
  clear hz
  have SM := Lib.hid (replacement_x (p1 := p1) (p3 := p3) (c1 := c1) (c2 := c2) (c3 := c3) A5 (NS.below kk5) hf hi)
  generalize hS : sameI x (i : Int) = S at SM
  go_wp2_with fail
  refine SM.out.mono ?_
  rintro e A6 ⟨rfl, a6⟩
  clear SM
  have kk6 := kk5.trans (a6.mono kk5.size)
  have xx6 := xx5.below a6
  have rr6 := rr5.below a6
  clear v0 v1 v2 v3 j0 j1 j2 j3 i0 i1 i2 i3
  have v0 := xx6.cell 0 rfl
  have v1 := xx6.cell 1 rfl
  have v2 := xx6.cell 2 rfl
  have v3 := xx6.cell 3 rfl
  have j0 := rr6.frozen 0
  have j1 := rr6.frozen 1
  have j2 := rr6.frozen 2
  have j3 := rr6.frozen 3
  have i0 := rr6.cell 0 rfl
  have i1 := rr6.cell 1 rfl
  have i2 := rr6.cell 2 rfl
  have i3 := rr6.cell 3 rfl
  by_cases hs0 : 0 ≤ S
  case pos =>
    have hRr : R = 3 := by rw [HR3.out S _ _ _ _ hS rfl rfl rfl rfl]; unfold ruleK; rw [if_pos rfl, if_neg (by decide), if_neg (by decide), if_pos hs0]
    subst hRr
    have hYr : Y = replP x (i : Int) S := by rw [HY.out 3 rfl, ← hS]; rfl
    have WX := Lib.hid (replaced_x (i := (i : Int)) (y := S) A6 (HV.out.below kk6) hf)
    rw [← hYr] at WX
    clear hYr HY hS HR3
    go_wp2_with fail
    refine WX.out.mono ?_
    rintro e Z9 ⟨w1, w2, w3, L1, L, rfl, hoZ, hZ⟩
    obtain ⟨qa, da, ea⟩ := hoZ.o1.sl'
    obtain ⟨qb, db, eb, -⟩ := hoZ.o3.rd
    obtain ⟨qc, dc, ec⟩ := hoZ.o2.sl
    subst ea eb ec
    replace hoZ := hoZ.mono kk6.size
    have rZ := rr6.below hZ
    have kZ := kk6.trans (hZ.mono kk6.size)
    clear v0 v1 v2 v3 j0 j1 j2 j3 i0 i1 i2 i3
    have j0 := rZ.frozen 0
    have j1 := rZ.frozen 1
    have j2 := rZ.frozen 2
    have j3 := rZ.frozen 3
    have i0 := rZ.cell 0 rfl
    have i1 := rZ.cell 1 rfl
    have i2 := rZ.cell 2 rfl
    have i3 := rZ.cell 3 rfl
    obtain ⟨W9, hW9, b9, o9, l9⟩ := put_patch (inp := Y.inputs) rZ hoZ kZ hgw
    have q0 := b9.cell 0 rfl
    have q1 := b9.cell 1 rfl
    have q2 := b9.cell 2 rfl
    have q3 := b9.cell 3 rfl
    have O9 := Lib.hid o9
    have L9 := Lib.hid l9
    have H9 := Lib.hid hW9
    clear hW9 o9 l9 b9
    go_wp2_with fail
    rw [← H9.out]
    refine bodyPost_ret (v := .tuple #[.int .i64 3, .agg #[.int .i64 Y.inputs, .slice qa L1.length da, .slice qc Y.nodes.length dc, .slice qb Y.outputs.length db]]) (by simp [results, Tryz.results31, go_sem, *]) rfl ?_
    exact retW_mk (O9.out) L9.out
  have HR4 := Lib.hid (fun f j5 j6 t e_f e_j5 e_j6 e_t => (HR3.out S f j5 j6 t hS e_f e_j5 e_j6 e_t).trans (by simp [ruleK, hs0] : ruleK true false false S f j5 j6 t = ruleK true false false (-1) f j5 j6 t))
  clear HR3 hS
  have NN := Lib.hid (toGain_x (p1 := p1) (p3 := p3) (c1 := c1) (c2 := c2) (c3 := c3) (i := i) A6 (NS.below kk6) hf hi)
  generalize hN10 : (if factB x (i : Int) then factN x (i : Int) else zN) = nd10 at NN
  generalize hT10 : factB x (i : Int) = T10 at NN
  go_wp2_with fail
  refine NN.out.mono ?_
  rintro e A10 ⟨s10, rfl, hs10, a10⟩
  obtain ⟨qs10, ds10, es10, -⟩ := hs10.rd
  subst es10
  clear NN
  obtain ⟨V10, hV10⟩ : ∃ V, V = A10.alloc (.cells #[.int .i64 nd10.kind, .int .i64 nd10.a, .int .i64 nd10.b, .slice qs10 nd10.src.length ds10] 55) := ⟨_, rfl⟩
  have e10 : Below A10.heap.size A10 V10 := by rw [hV10]; exact (Below.refl _ _).alloc (Nat.le_refl _) _
  have bn10 : Box V10 A10.heap.size [.int .i64 nd10.kind, .int .i64 nd10.a, .int .i64 nd10.b, .slice qs10 nd10.src.length ds10] 55 := by rw [hV10]; exact Box.newAt A10 _ _ rfl
  have dd10 : Below A6.heap.size A6 V10 := a10.trans (e10.mono a10.size)
  have kk10 := kk6.trans (dd10.mono kk6.size)
  have xx10 := xx6.below dd10
  have rr10 := rr6.below dd10
  have hsV10 : OwnI w.heap.size V10 (.slice qs10 nd10.src.length ds10) nd10.src := (hs10.mono kk6.size).below e10
  have HVV10 := Lib.hid hV10
  have t0 := bn10.cell 0 rfl
  have t1 := bn10.cell 1 rfl
  have t2 := bn10.cell 2 rfl
  have t3 := bn10.cell 3 rfl
  clear hV10
  clear v0 v1 v2 v3 j0 j1 j2 j3 i0 i1 i2 i3
  have v0 := xx10.cell 0 rfl
  have v1 := xx10.cell 1 rfl
  have v2 := xx10.cell 2 rfl
  have v3 := xx10.cell 3 rfl
  have j0 := rr10.frozen 0
  have j1 := rr10.frozen 1
  have j2 := rr10.frozen 2
  have j3 := rr10.frozen 3
  have i0 := rr10.cell 0 rfl
  have i1 := rr10.cell 1 rfl
  have i2 := rr10.cell 2 rfl
  have i3 := rr10.cell 3 rfl
  go_upto_region 13 with fail
  rw [← HVV10.out]
  cases T10
  case true =>
    have hRr : R = 4 := HR4.out true _ _ _ hT10 rfl rfl rfl
    subst hRr
    have hYr : Y = setN x (i : Int) nd10 := by rw [HY.out 4 rfl]; rw [← hN10, hT10]; rfl
    have WX := Lib.hid (with_x (i := i) nd10 V10 (HV.out.below kk10) hf hi hsV10 kk10.size)
    rw [← hYr] at WX
    clear hYr HY hT10 hN10 HR4
    go_wp2_with fail
    refine WX.out.mono ?_
    rintro e Z9 ⟨w1, w2, w3, L1, L, rfl, hoZ, hZ⟩
    obtain ⟨qa, da, ea⟩ := hoZ.o1.sl'
    obtain ⟨qb, db, eb, -⟩ := hoZ.o3.rd
    obtain ⟨qc, dc, ec⟩ := hoZ.o2.sl
    subst ea eb ec
    have rZ := rr10.below hZ
    have kZ := kk10.trans (hZ.mono kk10.size)
    clear v0 v1 v2 v3 j0 j1 j2 j3 i0 i1 i2 i3
    have j0 := rZ.frozen 0
    have j1 := rZ.frozen 1
    have j2 := rZ.frozen 2
    have j3 := rZ.frozen 3
    have i0 := rZ.cell 0 rfl
    have i1 := rZ.cell 1 rfl
    have i2 := rZ.cell 2 rfl
    have i3 := rZ.cell 3 rfl
    obtain ⟨W9, hW9, b9, o9, l9⟩ := put_patch (inp := Y.inputs) rZ hoZ kZ hgw
    have q0 := b9.cell 0 rfl
    have q1 := b9.cell 1 rfl
    have q2 := b9.cell 2 rfl
    have q3 := b9.cell 3 rfl
    have O9 := Lib.hid o9
    have L9 := Lib.hid l9
    have H9 := Lib.hid hW9
    clear hW9 o9 l9 b9
    go_wp2_with fail
    rw [← H9.out]
    refine bodyPost_ret (v := .tuple #[.int .i64 4, .agg #[.int .i64 Y.inputs, .slice qa L1.length da, .slice qc Y.nodes.length dc, .slice qb Y.outputs.length db]]) (by simp [results, Tryz.results31, go_sem, *]) rfl ?_
    exact retW_mk (O9.out) L9.out
  have HR5 := Lib.hid (fun j5 j6 t e_j5 e_j6 e_t => HR4.out false j5 j6 t hT10 e_j5 e_j6 e_t)
  clear HR4
  clear hN10
  have NN := Lib.hid (joined_x (p1 := p1) (p3 := p3) (c1 := c1) (c2 := c2) (c3 := c3) (i := i) (kk := 5) V10 (NS.below kk10) hf hi (.inl rfl))
  generalize hN12 : (if joinB x (i : Int) 5 then joinN x (i : Int) 5 else zN) = nd12 at NN
  generalize hT12 : joinOk x (i : Int) 5 = T12 at NN
  go_wp2_with fail
  refine NN.out.mono ?_
  rintro e A12 ⟨s12, rfl, hs12, a12⟩
  obtain ⟨qs12, ds12, es12, -⟩ := hs12.rd
  subst es12
  clear NN
  obtain ⟨V12, hV12⟩ : ∃ V, V = A12.alloc (.cells #[.int .i64 nd12.kind, .int .i64 nd12.a, .int .i64 nd12.b, .slice qs12 nd12.src.length ds12] 55) := ⟨_, rfl⟩
  have e12 : Below A12.heap.size A12 V12 := by rw [hV12]; exact (Below.refl _ _).alloc (Nat.le_refl _) _
  have bn12 : Box V12 A12.heap.size [.int .i64 nd12.kind, .int .i64 nd12.a, .int .i64 nd12.b, .slice qs12 nd12.src.length ds12] 55 := by rw [hV12]; exact Box.newAt A12 _ _ rfl
  have dd12 : Below V10.heap.size V10 V12 := a12.trans (e12.mono a12.size)
  have kk12 := kk10.trans (dd12.mono kk10.size)
  have xx12 := xx10.below dd12
  have rr12 := rr10.below dd12
  have hsV12 : OwnI w.heap.size V12 (.slice qs12 nd12.src.length ds12) nd12.src := (hs12.mono kk10.size).below e12
  have HVV12 := Lib.hid hV12
  have t0 := bn12.cell 0 rfl
  have t1 := bn12.cell 1 rfl
  have t2 := bn12.cell 2 rfl
  have t3 := bn12.cell 3 rfl
  clear hV12
  clear v0 v1 v2 v3 j0 j1 j2 j3 i0 i1 i2 i3
  have v0 := xx12.cell 0 rfl
  have v1 := xx12.cell 1 rfl
  have v2 := xx12.cell 2 rfl
  have v3 := xx12.cell 3 rfl
  have j0 := rr12.frozen 0
  have j1 := rr12.frozen 1
  have j2 := rr12.frozen 2
  have j3 := rr12.frozen 3
  have i0 := rr12.cell 0 rfl
  have i1 := rr12.cell 1 rfl
  have i2 := rr12.cell 2 rfl
  have i3 := rr12.cell 3 rfl
  go_upto_region 16 with fail
  rw [← HVV12.out]
  cases T12
  case true =>
    have hRr : R = 5 := HR5.out true _ _ hT12 rfl rfl
    subst hRr
    have hYr : Y = setN x (i : Int) nd12 := by rw [HY.out 5 rfl]; rw [← hN12, show joinB x (i : Int) 5 = true by unfold joinOk at hT12; rw [Bool.and_eq_true] at hT12; exact hT12.1]; rfl
    have WX := Lib.hid (with_x (i := i) nd12 V12 (HV.out.below kk12) hf hi hsV12 kk12.size)
    rw [← hYr] at WX
    clear hYr HY hT12 hN12 HR5
    go_wp2_with fail
    refine WX.out.mono ?_
    rintro e Z9 ⟨w1, w2, w3, L1, L, rfl, hoZ, hZ⟩
    obtain ⟨qa, da, ea⟩ := hoZ.o1.sl'
    obtain ⟨qb, db, eb, -⟩ := hoZ.o3.rd
    obtain ⟨qc, dc, ec⟩ := hoZ.o2.sl
    subst ea eb ec
    have rZ := rr12.below hZ
    have kZ := kk12.trans (hZ.mono kk12.size)
    clear v0 v1 v2 v3 j0 j1 j2 j3 i0 i1 i2 i3
    have j0 := rZ.frozen 0
    have j1 := rZ.frozen 1
    have j2 := rZ.frozen 2
    have j3 := rZ.frozen 3
    have i0 := rZ.cell 0 rfl
    have i1 := rZ.cell 1 rfl
    have i2 := rZ.cell 2 rfl
    have i3 := rZ.cell 3 rfl
    obtain ⟨W9, hW9, b9, o9, l9⟩ := put_patch (inp := Y.inputs) rZ hoZ kZ hgw
    have q0 := b9.cell 0 rfl
    have q1 := b9.cell 1 rfl
    have q2 := b9.cell 2 rfl
    have q3 := b9.cell 3 rfl
    have O9 := Lib.hid o9
    have L9 := Lib.hid l9
    have H9 := Lib.hid hW9
    clear hW9 o9 l9 b9
    go_wp2_with fail
    rw [← H9.out]
    refine bodyPost_ret (v := .tuple #[.int .i64 5, .agg #[.int .i64 Y.inputs, .slice qa L1.length da, .slice qc Y.nodes.length dc, .slice qb Y.outputs.length db]]) (by simp [results, Tryz.results31, go_sem, *]) rfl ?_
    exact retW_mk (O9.out) L9.out
  have HR6 := Lib.hid (fun j6 t e_j6 e_t => HR5.out false j6 t hT12 e_j6 e_t)
  clear HR5
  clear hN12
  have NN := Lib.hid (joined_x (p1 := p1) (p3 := p3) (c1 := c1) (c2 := c2) (c3 := c3) (i := i) (kk := 6) V12 (NS.below kk12) hf hi (.inr rfl))
  generalize hN14 : (if joinB x (i : Int) 6 then joinN x (i : Int) 6 else zN) = nd14 at NN
  generalize hT14 : joinOk x (i : Int) 6 = T14 at NN
  go_wp2_with fail
  refine NN.out.mono ?_
  rintro e A14 ⟨s14, rfl, hs14, a14⟩
  obtain ⟨qs14, ds14, es14, -⟩ := hs14.rd
  subst es14
  clear NN
  obtain ⟨V14, hV14⟩ : ∃ V, V = A14.alloc (.cells #[.int .i64 nd14.kind, .int .i64 nd14.a, .int .i64 nd14.b, .slice qs14 nd14.src.length ds14] 55) := ⟨_, rfl⟩
  have e14 : Below A14.heap.size A14 V14 := by rw [hV14]; exact (Below.refl _ _).alloc (Nat.le_refl _) _
  have bn14 : Box V14 A14.heap.size [.int .i64 nd14.kind, .int .i64 nd14.a, .int .i64 nd14.b, .slice qs14 nd14.src.length ds14] 55 := by rw [hV14]; exact Box.newAt A14 _ _ rfl
  have dd14 : Below V12.heap.size V12 V14 := a14.trans (e14.mono a14.size)
  have kk14 := kk12.trans (dd14.mono kk12.size)
  have xx14 := xx12.below dd14
  have rr14 := rr12.below dd14
  have hsV14 : OwnI w.heap.size V14 (.slice qs14 nd14.src.length ds14) nd14.src := (hs14.mono kk12.size).below e14
  have HVV14 := Lib.hid hV14
  have t0 := bn14.cell 0 rfl
  have t1 := bn14.cell 1 rfl
  have t2 := bn14.cell 2 rfl
  have t3 := bn14.cell 3 rfl
  clear hV14
  clear v0 v1 v2 v3 j0 j1 j2 j3 i0 i1 i2 i3
  have v0 := xx14.cell 0 rfl
  have v1 := xx14.cell 1 rfl
  have v2 := xx14.cell 2 rfl
  have v3 := xx14.cell 3 rfl
  have j0 := rr14.frozen 0
  have j1 := rr14.frozen 1
  have j2 := rr14.frozen 2
  have j3 := rr14.frozen 3
  have i0 := rr14.cell 0 rfl
  have i1 := rr14.cell 1 rfl
  have i2 := rr14.cell 2 rfl
  have i3 := rr14.cell 3 rfl
  go_upto_region 19 with fail
  rw [← HVV14.out]
  cases T14
  case true =>
    have hRr : R = 6 := HR6.out true _ hT14 rfl
    subst hRr
    have hYr : Y = setN x (i : Int) nd14 := by rw [HY.out 6 rfl]; rw [← hN14, show joinB x (i : Int) 6 = true by unfold joinOk at hT14; rw [Bool.and_eq_true] at hT14; exact hT14.1]; rfl
    have WX := Lib.hid (with_x (i := i) nd14 V14 (HV.out.below kk14) hf hi hsV14 kk14.size)
    rw [← hYr] at WX
    clear hYr HY hT14 hN14 HR6
    go_wp2_with fail
    refine WX.out.mono ?_
    rintro e Z9 ⟨w1, w2, w3, L1, L, rfl, hoZ, hZ⟩
    obtain ⟨qa, da, ea⟩ := hoZ.o1.sl'
    obtain ⟨qb, db, eb, -⟩ := hoZ.o3.rd
    obtain ⟨qc, dc, ec⟩ := hoZ.o2.sl
    subst ea eb ec
    have rZ := rr14.below hZ
    have kZ := kk14.trans (hZ.mono kk14.size)
    clear v0 v1 v2 v3 j0 j1 j2 j3 i0 i1 i2 i3
    have j0 := rZ.frozen 0
    have j1 := rZ.frozen 1
    have j2 := rZ.frozen 2
    have j3 := rZ.frozen 3
    have i0 := rZ.cell 0 rfl
    have i1 := rZ.cell 1 rfl
    have i2 := rZ.cell 2 rfl
    have i3 := rZ.cell 3 rfl
    obtain ⟨W9, hW9, b9, o9, l9⟩ := put_patch (inp := Y.inputs) rZ hoZ kZ hgw
    have q0 := b9.cell 0 rfl
    have q1 := b9.cell 1 rfl
    have q2 := b9.cell 2 rfl
    have q3 := b9.cell 3 rfl
    have O9 := Lib.hid o9
    have L9 := Lib.hid l9
    have H9 := Lib.hid hW9
    clear hW9 o9 l9 b9
    go_wp2_with fail
    rw [← H9.out]
    refine bodyPost_ret (v := .tuple #[.int .i64 6, .agg #[.int .i64 Y.inputs, .slice qa L1.length da, .slice qc Y.nodes.length dc, .slice qb Y.outputs.length db]]) (by simp [results, Tryz.results31, go_sem, *]) rfl ?_
    exact retW_mk (O9.out) L9.out
  have HR7 := Lib.hid (fun t e_t => HR6.out false t hT14 e_t)
  clear HR6
  clear hN14
  have TW := Lib.hid (twin_x (p1 := p1) (p3 := p3) (c1 := c1) (c2 := c2) (c3 := c3) (i := i) V14 (NS.below kk14) hf hi (((hu0.below (a4.trans (e4.mono a4.size))).below a5).below a6 |>.below dd10 |>.below dd12 |>.below dd14))
  generalize hS : twinI x (i : Int) = S at TW
  go_wp2_with fail
  refine TW.out.mono ?_
  rintro e A16 ⟨rfl, a16⟩
  clear TW
  have kk16 := kk14.trans (a16.mono kk14.size)
  have xx16 := xx14.below a16
  have rr16 := rr14.below a16
  clear v0 v1 v2 v3 j0 j1 j2 j3 i0 i1 i2 i3
  have v0 := xx16.cell 0 rfl
  have v1 := xx16.cell 1 rfl
  have v2 := xx16.cell 2 rfl
  have v3 := xx16.cell 3 rfl
  have j0 := rr16.frozen 0
  have j1 := rr16.frozen 1
  have j2 := rr16.frozen 2
  have j3 := rr16.frozen 3
  have i0 := rr16.cell 0 rfl
  have i1 := rr16.cell 1 rfl
  have i2 := rr16.cell 2 rfl
  have i3 := rr16.cell 3 rfl
  by_cases hs1 : 0 ≤ S
  case pos =>
    have hRr : R = 7 := by rw [HR7.out S hS]; unfold ruleK; rw [if_pos rfl, if_neg (by decide), if_neg (by decide), if_neg (by decide), if_neg (by decide), if_neg (by decide), if_neg (by decide), if_pos hs1]
    subst hRr
    have hYr : Y = replP x (i : Int) S := by rw [HY.out 7 rfl, ← hS]; rfl
    have WX := Lib.hid (replaced_x (i := (i : Int)) (y := S) A16 (HV.out.below kk16) hf)
    rw [← hYr] at WX
    clear hYr HY hS HR7
    go_wp2_with fail
    refine WX.out.mono ?_
    rintro e Z9 ⟨w1, w2, w3, L1, L, rfl, hoZ, hZ⟩
    obtain ⟨qa, da, ea⟩ := hoZ.o1.sl'
    obtain ⟨qb, db, eb, -⟩ := hoZ.o3.rd
    obtain ⟨qc, dc, ec⟩ := hoZ.o2.sl
    subst ea eb ec
    replace hoZ := hoZ.mono kk16.size
    have rZ := rr16.below hZ
    have kZ := kk16.trans (hZ.mono kk16.size)
    clear v0 v1 v2 v3 j0 j1 j2 j3 i0 i1 i2 i3
    have j0 := rZ.frozen 0
    have j1 := rZ.frozen 1
    have j2 := rZ.frozen 2
    have j3 := rZ.frozen 3
    have i0 := rZ.cell 0 rfl
    have i1 := rZ.cell 1 rfl
    have i2 := rZ.cell 2 rfl
    have i3 := rZ.cell 3 rfl
    obtain ⟨W9, hW9, b9, o9, l9⟩ := put_patch (inp := Y.inputs) rZ hoZ kZ hgw
    have q0 := b9.cell 0 rfl
    have q1 := b9.cell 1 rfl
    have q2 := b9.cell 2 rfl
    have q3 := b9.cell 3 rfl
    have O9 := Lib.hid o9
    have L9 := Lib.hid l9
    have H9 := Lib.hid hW9
    clear hW9 o9 l9 b9
    go_wp2_with fail
    rw [← H9.out]
    refine bodyPost_ret (v := .tuple #[.int .i64 7, .agg #[.int .i64 Y.inputs, .slice qa L1.length da, .slice qc Y.nodes.length dc, .slice qb Y.outputs.length db]]) (by simp [results, Tryz.results31, go_sem, *]) rfl ?_
    exact retW_mk (O9.out) L9.out
  have hRr : R = 0 := by rw [HR7.out S hS]; unfold ruleK; rw [if_pos rfl, if_neg (by decide), if_neg (by decide), if_neg (by decide), if_neg (by decide), if_neg (by decide), if_neg (by decide), if_neg hs1]
  subst hRr
  have hYx : x = Y := (HY.out 0 rfl).symm
  subst hYx
  have HVW := Lib.hid (fun W (hW : Below w.heap.size w W) => HV.out.below hW)
  clear HY HR7 hS
  go_wp2_with fail
  obtain ⟨W9, hW9, b9, l9⟩ := put_same (inp := x.inputs) (v1 := .slice p1 x.tables.length c1) (v2 := .slice (some ⟨b, o, none⟩) x.nodes.length c2) (v3 := .slice p3 x.outputs.length c3) rr16 kk16 hgw
  have q0 := b9.cell 0 rfl
  have q1 := b9.cell 1 rfl
  have q2 := b9.cell 2 rfl
  have q3 := b9.cell 3 rfl
  have L9 := Lib.hid l9
  have H9 := Lib.hid hW9
  clear hW9 l9 b9
  go_region
  all_goals
    go_wp2_with fail
    rw [← H9.out]
    refine bodyPost_ret (v := .tuple #[.int .i64 0, .agg #[.int .i64 x.inputs, .slice p1 x.tables.length c1, .slice (some ⟨b, o, none⟩) x.nodes.length c2, .slice p3 x.outputs.length c3]]) (by simp [results, Tryz.results31, go_sem, *]) rfl ?_
    first
      | exact ⟨_, rfl, HVW.out _ L9.out, fun h => absurd rfl h, L9.out⟩
      | exact ⟨_, rfl, HVW.out _ (Below.drewR' L9.out), fun h => absurd rfl h, Below.drewR' L9.out⟩
end Go.Proofs.YtcfhcmgmkhfjjaaGreat
