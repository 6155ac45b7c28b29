/-
  Rewriting, the reference: the patch behind a rule.
-/
import Derived.Test.YtonkdndpfnapjaaGreatApX
namespace Go.Proofs.YtonkdndpfnapjaaGreat
open Go.ChangeShapes Go.WideShapes Go.ChangeAt Go.RowKit Go.Sort
set_option linter.unusedVariables false

set_option maxHeartbeats 8000000 in
set_option maxRecDepth 100000 in
theorem l10Apply_join6 {x : PatchD} {gp i : Nat} (w : World) (h : PPatch w gp x) (hok : okB x = true) (hi : i < x.nodes.length) {j : Nat} (hs1 : (nodeAt x.nodes (i : Int)).src = [(j : Int)]) (hj : j < x.nodes.length) (ha : 1 ≤ (nodeAt x.nodes (i : Int)).a ∧ (nodeAt x.nodes (i : Int)).a ≤ 16) (hb : 1 ≤ (nodeAt x.nodes (j : Int)).a ∧ (nodeAt x.nodes (j : Int)).a ≤ 16) :
    Calls Tryz.prog 41 #[.pointer (some ⟨gp, 0, none⟩), .int .i64 6, .int .i64 (i : Int)] w (RetP0 w (setN x (i : Int) ⟨6, (nodeAt x.nodes (i : Int)).a + (nodeAt x.nodes (j : Int)).a, 0, (nodeAt x.nodes (j : Int)).src⟩)) := by
  have hf := okB_formed hok
  have hn24 := (formed_iff.1 hf).2.2.1
  have sm := formed_small hf
  obtain ⟨b, o, c2, SP⟩ := SPat.of h hi
  obtain ⟨g, hg⟩ : ∃ g, g = w.heap.size := ⟨_, rfl⟩
  obtain ⟨E, hE⟩ : ∃ E, E = w.alloc (.cells #[.int .i64 0, .slice none 0 0, .slice none 0 0, .slice none 0 0] 32) := ⟨_, rfl⟩
  have hB0 : Below w.heap.size w E := by rw [hE]; exact (Below.refl _ _).alloc (Nat.le_refl _) _
  have br : Box E g zPatch 32 := by rw [hE, hg]; exact Box.newAt w _ _ rfl
  have hgw : w.heap.size ≤ g := by omega
  have hp0 := h.below hB0
  have SP0 := SP.below hB0
  have OWN := Lib.hid (l07Own_any E hp0 sm)
  have HE := Lib.hid hE
  have HG := Lib.hid hg
  clear hE hg h SP
  have NA : Hid (nodeAt x.nodes (i : Int) = x.nodes[i]) := nodeAt_eq hi
  have hl3 := src_le3 (nodeAt_ok hf (i := (j : Int)) (by omega) (by omega))
  go_enter Tryz.func41, Tryz.ntmps41
  go_upto_region 1 with fail
  rw [← HE.out, ← HG.out]
  go_wp2_with fail
  refine OWN.out.mono ?_
  rintro e W1 ⟨w1, w2, w3, L1, L, rfl, ho, hb1⟩
  obtain ⟨qa, da, ea⟩ := ho.o1.sl'
  obtain ⟨qb, db, eb, -⟩ := ho.o3.rd
  subst ea eb
  rcases ho.o2.cases with ⟨-, hn0, -⟩ | ⟨mg, mc, rfl, hmB, hml, -, hcn⟩
  · rw [hn0] at hi; simp at hi
  obtain ⟨V, hV⟩ : ∃ V, V = W1.alloc (.cells #[.int .i64 x.inputs, .slice qa L1.length da, .slice (some ⟨mg, 0, none⟩) x.nodes.length mc, .slice qb x.outputs.length db] 32) := ⟨_, rfl⟩
  have d2 : Below W1.heap.size W1 V := by rw [hV]; exact (Below.refl _ _).alloc (Nat.le_refl _) _
  have bo : Box V W1.heap.size [.int .i64 x.inputs, .slice qa L1.length da, .slice (some ⟨mg, 0, none⟩) x.nodes.length mc, .slice qb x.outputs.length db] 32 := by rw [hV]; exact Box.newAt W1 _ _ rfl
  obtain ⟨so, hso⟩ : ∃ so, so = W1.heap.size := ⟨_, rfl⟩
  rw [← hso] at bo
  have eV : Below E.heap.size E V := hb1.trans (d2.mono hb1.size)
  have hoV := ho.below d2
  have hiL : i < L.length := by rw [ho.o2.1]; exact hi
  obtain ⟨t0, t1, t2, t3⟩ := hcn i hi hiL
  have z0 := (d2.cell (p := ⟨mg, i * 4, none⟩) hml).trans t0
  have z1 := (d2.cell (p := ⟨mg, i * 4 + 1, none⟩) hml).trans t1
  have z2 := (d2.cell (p := ⟨mg, i * 4 + 2, none⟩) hml).trans t2
  have z3 := (d2.cell (p := ⟨mg, i * 4 + 3, none⟩) hml).trans t3
  have HV := Lib.hid hV
  have HSO := Lib.hid hso
  clear hV hso hcn d2 ho t0 t1 t2 t3
  have o2 := bo.cell 2 rfl
  obtain ⟨hL', hu⟩ := hoV.s2.at_ (i := i) (by rw [List.length_map]; exact hi)
  rw [List.getElem_map, ← NA.out, hs1] at hu
  rw [← NA.out] at z0 z1 z2
  obtain ⟨uq, ud, hur, hru⟩ := hu.rd
  rw [hur] at z3
  obtain ⟨b', o', rfl, hb', hcq⟩ := hru.pos (k := 0) (by simp)
  have s0 := hcq 0 (by simp)
  simp only [List.getElem_cons_zero, List.length_cons, List.length_nil, Nat.add_zero] at s0 z3
  obtain ⟨p2, NSV⟩ := SP0.below eV
  obtain ⟨n0, n1, n2, nq, nd, n3, nr⟩ := NSV j hj
  generalize (nodeAt x.nodes (j : Int)).src = SR at *
  generalize (nodeAt x.nodes (j : Int)).a = A at *
  generalize (nodeAt x.nodes (j : Int)).b = B' at *
  generalize (nodeAt x.nodes (j : Int)).kind = K at *
  generalize (nodeAt x.nodes (i : Int)).a = A0 at *
  generalize (nodeAt x.nodes (i : Int)).b = B0 at *
  generalize (nodeAt x.nodes (i : Int)).kind = K0 at *
  have lmg := World.block_lt_of_cell? V _ z0
  have lb := World.block_lt_of_cell? V _ n0
  have lgp := World.block_lt_of_cell? V _ p2
  have hwr : IntKind.i64.wrap (A0 + A) = A0 + A := IntWalk.i64_in _ (by omega)
  obtain ⟨si, hsi⟩ : ∃ si, si = V.heap.size := ⟨_, rfl⟩
  obtain ⟨G, hG⟩ : ∃ G, G = (V.alloc (.cells #[.int .i64 K, .int .i64 A, .int .i64 B', .slice nq SR.length nd] 64)).drew := ⟨_, rfl⟩
  have dG : Below V.heap.size V G := by rw [hG]; exact ((Below.refl _ _).alloc (Nat.le_refl _) _).trans ((bdrewn _).mono (by simp))
  have bi : Box G si [.int .i64 K, .int .i64 A, .int .i64 B', .slice nq SR.length nd] 64 := by rw [hG, hsi]; exact (Box.newAt V [.int .i64 K, .int .i64 A, .int .i64 B', .slice nq SR.length nd] _ rfl).below (bdrewn _)
  have hsiG := bi.lt
  have hoG := hoV.below dG
  have boG := bo.below dG
  have eG : Below E.heap.size E G := eV.trans (dG.mono eV.size)
  have KO : Hid (∀ W, Below G.heap.size G W → Calls Tryz.prog 69 #[.slice nq SR.length nd] W fun e w' => ∃ v, e = .returned v ∧ OwnI W.heap.size w' v SR ∧ Below W.heap.size W w' ∧ Below G.heap.size G w') := fun W hW =>
    (l00Own_any W ((nr.below dG).below hW) (by omega)).mono fun e w' ⟨v, h1, h2, h3⟩ => ⟨v, h1, h2, h3, hW.trans (h3.mono hW.size)⟩
  have zG0 := (dG.cell (p := ⟨mg, i * 4, none⟩) lmg).trans z0
  have zG1 := (dG.cell (p := ⟨mg, i * 4 + 1, none⟩) lmg).trans z1
  have zG2 := (dG.cell (p := ⟨mg, i * 4 + 2, none⟩) lmg).trans z2
  have zG3 := (dG.cell (p := ⟨mg, i * 4 + 3, none⟩) lmg).trans z3
  have lmG : mg < G.heap.size := Nat.lt_of_lt_of_le lmg dG.size
  have FK : Hid (∀ W, Below G.heap.size G W → (W.cell? ⟨mg, i * 4, none⟩ = some (.int .i64 K0) ∧ W.cell? ⟨mg, i * 4 + 1, none⟩ = some (.int .i64 A0) ∧ W.cell? ⟨mg, i * 4 + 2, none⟩ = some (.int .i64 B0) ∧ W.cell? ⟨mg, i * 4 + 3, none⟩ = some (.slice (some ⟨b', o', none⟩) (0 + 1) ud)) ∧ (W.cell? ⟨si, 1, none⟩ = some (.int .i64 A) ∧ W.cell? ⟨si, 3, none⟩ = some (.slice nq SR.length nd)) ∧
      (W.frozen? ⟨mg, i * 4, none⟩ = false ∧ W.frozen? ⟨mg, i * 4 + 1, none⟩ = false ∧ W.frozen? ⟨mg, i * 4 + 2, none⟩ = false ∧ W.frozen? ⟨mg, i * 4 + 3, none⟩ = false)) := fun W hW => by
    obtain ⟨-, -, -, -, hfr, -⟩ := (hoG.below hW).o2.storing hi
    have bW := bi.below hW
    exact ⟨⟨(hW.cell (p := ⟨mg, i * 4, none⟩) lmG).trans zG0, (hW.cell (p := ⟨mg, i * 4 + 1, none⟩) lmG).trans zG1, (hW.cell (p := ⟨mg, i * 4 + 2, none⟩) lmG).trans zG2, (hW.cell (p := ⟨mg, i * 4 + 3, none⟩) lmG).trans zG3⟩, ⟨bW.cell 1 rfl, bW.cell 3 rfl⟩, hfr _, hfr _, hfr _, hfr _⟩
  have HG2 := Lib.hid hG
  have HSI := Lib.hid hsi
  clear hu hru hcq hur NSV hL' hG hsi
  go_upto_region 2 with fail
  rw [← HV.out, ← HSO.out]
  go_upto_region 22 with fail
  go_region
  rw [← HG2.out, ← HSI.out]
  clear z0 z1 z2 z3 n0 n1 n2 n3 p2 o2 s0 lb lgp lmg hb' zG0 zG1 zG2 zG3
  obtain ⟨⟨z0, z1, z2, z3⟩, ⟨t1, t3⟩, f0, f1, f2, f3⟩ := FK.out G (Below.refl _ _)
  go_upto_region 23 with fail
  go_region_law (first | (go_simp; go_at_call 69; refine (KO.out _ (by first | exact Below.refl _ _ | exact bdrewn _)).mono ?_; rintro e W2 ⟨u, rfl, hu, hb2, hb3⟩; obtain ⟨sp, sc, rfl, -⟩ := hu.rd; obtain ⟨⟨z0, z1, z2, z3⟩, ⟨t1, t3⟩, f0, f1, f2, f3⟩ := FK.out W2 hb3) | fail)
  all_goals
    have hoW := hoG.below hb3
    have boW := boG.below hb3
    have huG : OwnI G.heap.size W2 (.slice sp SR.length sc) SR := hu
    have SN := hoW.setNode hi ⟨6, (A0 + A), 0, SR⟩ (s := .slice sp SR.length sc) (huG.mono eG.size) (fun b hb hbk => by have h1 := (huG.lt hb).1; have h2 := (hoG.blk hbk).2; omega)
    have hne := hoW.neBox boW patchT
    have hmso : so ≠ mg := fun e => hne.2.1 (by rw [e]; rfl)
    have eF := eG.trans (hb3.mono eG.size)
    have brF := br.below eF
    have hnr := hoW.neBox brF patchT
    have hmr : g ≠ mg := fun e => hnr.2.1 (by rw [e]; rfl)
    have k2 := hB0.trans (eF.mono hB0.size)
    obtain ⟨W3, hW3⟩ : ∃ W3, W3 = ((((W2.setCell ⟨mg, i * 4, none⟩ (.int .i64 6)).setCell ⟨mg, i * 4 + 1, none⟩ (.int .i64 (A0 + A))).setCell ⟨mg, i * 4 + 2, none⟩ (.int .i64 0)).setCell ⟨mg, i * 4 + 3, none⟩ (.slice sp SR.length sc)) := ⟨_, rfl⟩
    rw [← hW3] at SN
    have b3 : Box W3 so [.int .i64 x.inputs, .slice qa L1.length da, .slice (some ⟨mg, 0, none⟩) x.nodes.length mc, .slice qb x.outputs.length db] 32 := by
      rw [hW3]; exact (((boW.other (by exact hmso) _).other (by exact hmso) _).other (by exact hmso) _).other (by exact hmso) _
    have r3 : Box W3 g zPatch 32 := by
      rw [hW3]; exact (((brF.other (by exact hmr) _).other (by exact hmr) _).other (by exact hmr) _).other (by exact hmr) _
    have k3 : Below w.heap.size w W3 := by
      have hm : w.heap.size ≤ mg := Nat.le_trans hB0.size hmB
      rw [hW3]
      exact (((k2.setCell (p := ⟨mg, i * 4, none⟩) hm _).setCell (p := ⟨mg, i * 4 + 1, none⟩) hm _).setCell (p := ⟨mg, i * 4 + 2, none⟩) hm _).setCell (p := ⟨mg, i * 4 + 3, none⟩) hm _
    have HW3 := Lib.hid hW3
    clear hW3 hnr hne hoW boW z0 z1 z2 z3 t1 t3 f0 f1 f2 f3
    go_upto_region 24 with fail
    rw [← HW3.out]
    have y0 := b3.cell 0 rfl
    have y1 := b3.cell 1 rfl
    have y2 := b3.cell 2 rfl
    have y3 := b3.cell 3 rfl
    have j0 := r3.frozen 0
    have j1 := r3.frozen 1
    have j2 := r3.frozen 2
    have j3 := r3.frozen 3
    have i0 := r3.cell 0 rfl
    have i1 := r3.cell 1 rfl
    have i2 := r3.cell 2 rfl
    have i3 := r3.cell 3 rfl
    obtain ⟨W9, hW9, b9, o9, l9⟩ := put_patch (inp := x.inputs) r3 SN k3 hgw
    have q0 := b9.cell 0 rfl
    have q1 := b9.cell 1 rfl
    have q2 := b9.cell 2 rfl
    have q3 := b9.cell 3 rfl
    have O9 := Lib.hid (o9.mono hB0.size)
    have L9 := Lib.hid l9
    have H9 := Lib.hid hW9
    clear hW9 o9 l9 b9 SN k3
    go_wp2_with fail
    rw [← H9.out]
    refine bodyPost_ret (v := .agg #[.int .i64 x.inputs, .slice qa L1.length da, .slice (some ⟨mg, 0, none⟩) x.nodes.length mc, .slice qb x.outputs.length db]) (by simp [results, Tryz.results41, go_sem, *]) rfl ?_
    exact ⟨_, _, _, _, _, rfl, by simpa [setN] using O9.out, L9.out⟩
end Go.Proofs.YtonkdndpfnapjaaGreat
