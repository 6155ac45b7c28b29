/-
  The first rewrite of a patch: the program's side.
-/
import Derived.Test.YtonkdndpfnapjaaGreatRwThree
namespace Go.Proofs.YtonkdndpfnapjaaGreat
open Go.ChangeShapes Go.WideShapes Go.ChangeAt Go.RowKit Go.Sort
set_option linter.unusedVariables false

/-- the first rewrite, the patch behind it, and whether there is one -/
def RetX (w : World) (x : PatchD) (e : Ending) (w' : World) : Prop :=
  ∃ v', e = .returned (.tuple #[.agg #[.int .i64 (nxR x), .int .i64 (nxN x)], v', .bool (nxB x)]) ∧ VPatch w' v' (nxP x) ∧ Below w.heap.size w w' ∧ (nxB x = true → ∃ v1 v2 v3 L1 L, v' = .agg #[.int .i64 (nxP x).inputs, v1, v2, v3] ∧ OwnP w.heap.size w' v1 v2 v3 (nxP x).tables (nxP x).nodes (nxP x).outputs L1 L)
theorem RetX.drew {w W : World} {x : PatchD} {e : Ending} (h : RetX w x e W) : RetX w x e W.drew := by
  obtain ⟨v', e1, h1, h2, h3⟩ := h
  refine ⟨v', e1, h1.below (bdrewn W), h2.trans ((bdrewn W).mono h2.size), fun hb => ?_⟩
  obtain ⟨v1, v2, v3, L1, L, e, ho⟩ := h3 hb
  exact ⟨v1, v2, v3, L1, L, e, ho.below (bdrewn W)⟩
/-- the world behind the stores of a rewrite and of a patch, in both orders -/
theorem put_next {w W : World} {g k : Nat} {T : TypeId} {l0 l1 m0 m1 m2 m3 a b c0 c1 c2 c3 : Value} (h1 : Box W g [l0, l1] T) (h2 : Box W k [m0, m1, m2, m3] 32) (hgk : g ≠ k) (hb : Below w.heap.size w W) (hg : w.heap.size ≤ g) (hk : w.heap.size ≤ k) :
    ∃ V, V = ((((((W.setCell ⟨g, 0, none⟩ a).setCell ⟨g, 1, none⟩ b).setCell ⟨k, 0, none⟩ c0).setCell ⟨k, 1, none⟩ c1).setCell ⟨k, 2, none⟩ c2).setCell ⟨k, 3, none⟩ c3) ∧ Box V g [a, b] T ∧ Box V k [c0, c1, c2, c3] 32 ∧ Below w.heap.size w V ∧ ∀ b, b ≠ g → b ≠ k → V.heap[b]? = W.heap[b]? := by
  have e1 := h1.put2 (a := a) (b := b)
  have e2 : Box ((W.setCell ⟨g, 0, none⟩ a).setCell ⟨g, 1, none⟩ b) k [m0, m1, m2, m3] 32 := (h2.other (fun e => hgk e.symm) _).other (fun e => hgk e.symm) _
  have e3 := e2.put4 (a := c0) (b := c1) (c := c2) (d := c3)
  exact ⟨_, rfl, (((e1.other (by exact hgk) _).other (by exact hgk) _).other (by exact hgk) _).other (by exact hgk) _, e3, below_put4 _ _ _ _ (below_put2 _ _ hb hg) hk, fun b h1 h2 => by
    rw [Below.heap_setCell _ _ _ _ h2, Below.heap_setCell _ _ _ _ h2, Below.heap_setCell _ _ _ _ h2, Below.heap_setCell _ _ _ _ h2, Below.heap_setCell _ _ _ _ h1, Below.heap_setCell _ _ _ _ h1]⟩
theorem put_next' {w W : World} {g k : Nat} {T : TypeId} {l0 l1 m0 m1 m2 m3 a b c0 c1 c2 c3 : Value} (h1 : Box W g [l0, l1] T) (h2 : Box W k [m0, m1, m2, m3] 32) (hgk : g ≠ k) (hb : Below w.heap.size w W) (hg : w.heap.size ≤ g) (hk : w.heap.size ≤ k) :
    ∃ V, V = ((((((W.setCell ⟨k, 0, none⟩ c0).setCell ⟨k, 1, none⟩ c1).setCell ⟨k, 2, none⟩ c2).setCell ⟨k, 3, none⟩ c3).setCell ⟨g, 0, none⟩ a).setCell ⟨g, 1, none⟩ b) ∧ Box V g [a, b] T ∧ Box V k [c0, c1, c2, c3] 32 ∧ Below w.heap.size w V ∧ ∀ b, b ≠ g → b ≠ k → V.heap[b]? = W.heap[b]? := by
  have e1 := h2.put4 (a := c0) (b := c1) (c := c2) (d := c3)
  have e2 : Box ((((W.setCell ⟨k, 0, none⟩ c0).setCell ⟨k, 1, none⟩ c1).setCell ⟨k, 2, none⟩ c2).setCell ⟨k, 3, none⟩ c3) g [l0, l1] T := (((h1.other (by exact hgk) _).other (by exact hgk) _).other (by exact hgk) _).other (by exact hgk) _
  have e3 := e2.put2 (a := a) (b := b)
  exact ⟨_, rfl, e3, (e1.other (fun e => hgk e.symm) _).other (fun e => hgk e.symm) _, below_put2 _ _ (below_put4 _ _ _ _ hb hk) hg, fun b h1 h2 => by
    rw [Below.heap_setCell _ _ _ _ h1, Below.heap_setCell _ _ _ _ h1, Below.heap_setCell _ _ _ _ h2, Below.heap_setCell _ _ _ _ h2, Below.heap_setCell _ _ _ _ h2, Below.heap_setCell _ _ _ _ h2]⟩
set_option maxHeartbeats 16000000 in
set_option maxRecDepth 100000 in
theorem next_x {x : PatchD} {v : Value} (w : World) (h : VPatch w v x) (hf : formedB x = true) :
    Calls Tryz.prog 59 #[v] w (RetX w x) := by
  have hv := h
  have hn24 := (formed_iff.1 hf).2.2.1
  obtain ⟨r, hr⟩ : ∃ r, r = nxR x := ⟨_, rfl⟩
  obtain ⟨n, hn⟩ : ∃ n, n = nxN x := ⟨_, rfl⟩
  obtain ⟨t, ht⟩ : ∃ t, t = nxB x := ⟨_, rfl⟩
  obtain ⟨P, hP⟩ : ∃ P, P = nxP x := ⟨_, rfl⟩
  have RX : Hid (∀ v' w', VPatch w' v' P → Below w.heap.size w w' → (t = true → ∃ v1 v2 v3 L1 L, v' = .agg #[.int .i64 P.inputs, v1, v2, v3] ∧ OwnP w.heap.size w' v1 v2 v3 P.tables P.nodes P.outputs L1 L) → RetX w x (.returned (.tuple #[.agg #[.int .i64 r, .int .i64 n], v', .bool t])) w') := fun v' w' h1 h2 h3 => by
    rw [hr, hn, ht]
    rw [hP, ht] at h3
    rw [hP] at h1
    exact ⟨v', rfl, h1, h2, h3⟩
  have HS : Hid (∀ i, fstI x = some i → r = ruleP x i ∧ n = i ∧ t = true ∧ P = afterP x i (ruleP x i)) := fun i e => by
    obtain ⟨e1, e2, e3, e4⟩ := fst_vals e
    exact ⟨hr.trans e1, hn.trans e2, ht.trans e3, hP.trans e4⟩
  have HN : Hid (fstI x = none → r = 0 ∧ n = 0 ∧ t = false ∧ P = x) := fun e => by
    obtain ⟨e1, e2, e3, e4⟩ := fst_novals e
    exact ⟨hr.trans e1, hn.trans e2, ht.trans e3, hP.trans e4⟩
  clear hr hn ht hP
  obtain ⟨p1, c1, p2, c2, p3, c3, rfl, r1, r2, r3⟩ := h
  have hml := r2.len
  clear r1 r2 r3
  obtain ⟨g, hg⟩ : ∃ g, g = w.heap.size := ⟨_, rfl⟩
  obtain ⟨E, hE⟩ : ∃ E, E = ((w.alloc (.cells #[.int .i64 x.inputs, .slice p1 x.tables.length c1, .slice p2 x.nodes.length c2, .slice p3 x.outputs.length c3] 32)).alloc (.cells #[.int .i64 0, .int .i64 0] 40)).alloc (.cells #[.int .i64 0, .slice none 0 0, .slice none 0 0, .slice none 0 0] 32) := ⟨_, rfl⟩
  have hB0 : Below w.heap.size w E := by rw [hE]; exact (((Below.refl _ _).alloc (Nat.le_refl _) _).alloc (by simp) _).alloc (by simp; omega) _
  have bx : Box E g [.int .i64 x.inputs, .slice p1 x.tables.length c1, .slice p2 x.nodes.length c2, .slice p3 x.outputs.length c3] 32 := by rw [hE, hg]; exact ((Box.newAt w _ _ rfl).alloc _).alloc _
  have bw : Box E (g + 1) [.int .i64 0, .int .i64 0] 40 := by rw [hE, hg]; exact (Box.newAt (w.alloc _) [.int .i64 0, .int .i64 0] _ (by simp)).alloc _
  have br : Box E (g + 1 + 1) zPatch 32 := by rw [hE, hg]; exact Box.newAt ((w.alloc _).alloc _) _ _ (by simp)
  have hg1 : w.heap.size ≤ g + 1 := by omega
  have hg2 : w.heap.size ≤ g + 1 + 1 := by omega
  have HE := Lib.hid hE
  have HG := Lib.hid hg
  clear hE hg
  have z0 := bx.cell 0 rfl
  have z1 := bx.cell 1 rfl
  have z2 := bx.cell 2 rfl
  have z3 := bx.cell 3 rfl
  go_enter Tryz.func59, Tryz.ntmps59
  go_upto_region 1 with fail
  rw [← HE.out, ← HG.out]
  go_wp2_with (go_at_call 34; refine (sizeN_any _ _ _ _ hml).mono ?_; rintro e w' ⟨rfl, rfl⟩)
  clear z0 z1 z2 z3
  go_loopw [11] (fun ci wr => ∃ k : Nat, k ≤ x.nodes.length ∧ ci = .int .i64 k ∧ (∀ j : Nat, j < k → ruleP x (j : Int) = 0) ∧ Below E.heap.size E wr) (fun ci _ => x.nodes.length - (intOf ci).toNat)
  case atStart => exact ⟨0, Nat.zero_le _, rfl, fun j h => by omega, Below.refl _ _⟩
  case round =>
    obtain ⟨k, hk, rfl, hno, hbel⟩ := hrel
    obtain ⟨wi, rfl⟩ : ∃ wi : World, wi = wr := ⟨_, rfl⟩
    have HNO := Lib.hid hno
    clear hno
    have hwi := hB0.trans (hbel.mono hB0.size)
    have xx := bx.below hbel
    have ww := bw.below hbel
    have rr := br.below hbel
    have z0 := xx.cell 0 rfl
    have z1 := xx.cell 1 rfl
    have z2 := xx.cell 2 rfl
    have z3 := xx.cell 3 rfl
    by_cases hlt : k < x.nodes.length
    · have RW := Lib.hid (rewrite_x wi (hv.below hwi) hf hlt)
      go_wp2_with fail
      refine RW.out.mono ?_
      rintro e W2 ⟨v', rfl, hv2, hown, hb2⟩
      obtain ⟨s1, d1, s2, d2, s3, d3, rfl, u1, u2, u3⟩ := hv2
      have HOWN := Lib.hid hown
      clear hown
      clear u1 u2 u3 RW z0 z1 z2 z3
      obtain ⟨Q, hQ⟩ : ∃ Q, Q = afterP x (k : Int) (ruleP x (k : Int)) := ⟨_, rfl⟩
      rw [← hQ] at HOWN ⊢
      obtain ⟨V, hV⟩ : ∃ V, V = W2.alloc (.cells #[.int .i64 Q.inputs, .slice s1 Q.tables.length d1, .slice s2 Q.nodes.length d2, .slice s3 Q.outputs.length d3] 32) := ⟨_, rfl⟩
      have d2' : Below W2.heap.size W2 V := by rw [hV]; exact (Below.refl _ _).alloc (Nat.le_refl _) _
      have bo : Box V W2.heap.size [.int .i64 Q.inputs, .slice s1 Q.tables.length d1, .slice s2 Q.nodes.length d2, .slice s3 Q.outputs.length d3] 32 := by rw [hV]; exact Box.newAt W2 _ _ rfl
      have hw2 := hwi.trans (hb2.mono hwi.size)
      have hwV := hw2.trans (d2'.mono hw2.size)
      have hbV := hbel.trans ((hb2.trans (d2'.mono hb2.size)).mono hbel.size)
      have xV := (xx.below hb2).below d2'
      have wV := (ww.below hb2).below d2'
      have rV := (rr.below hb2).below d2'
      have HV := Lib.hid hV
      have HQ := Lib.hid hQ
      have HVO : Hid (ruleP x (k : Int) ≠ 0 → ∃ L1 L, OwnP wi.heap.size V (.slice s1 Q.tables.length d1) (.slice s2 Q.nodes.length d2) (.slice s3 Q.outputs.length d3) Q.tables Q.nodes Q.outputs L1 L) := fun h => by
        obtain ⟨v1, v2, v3, L1, L, e, ho⟩ := HOWN.out h
        simp only [Value.agg.injEq, Array.mk.injEq, List.cons.injEq, and_true, true_and] at e
        obtain ⟨rfl, rfl, rfl⟩ := e
        exact ⟨L1, L, ho.below d2'⟩
      clear hV hQ HOWN d2'
      go_upto_region 5 with fail
      rw [← HV.out]
      by_cases hz : ruleP x (k : Int) = 0
      · have q : (ruleP x (k : Int) != 0) = false := by rw [bne_eq_false_iff_eq]; exact hz
        have HZ := Lib.hid hz
        clear hz
        go_wp2_with fail
        go_roundw
        case rel => exact ⟨k + 1, by omega, by go_num, fun j hj => by
          rcases Nat.lt_or_ge j k with h | h
          · exact HNO.out j h
          · obtain rfl : j = k := by omega
            exact HZ.out, hbV⟩
        case measure => simp [intOf] <;> omega
      · have q : (ruleP x (k : Int) != 0) = true := by rw [bne_iff_ne]; exact hz
        obtain ⟨e1, e2, e3, e4⟩ := HS.out (k : Int) (fst_some hz fun j hj hjk => by
          obtain ⟨h0, -⟩ := need_rng j hj
          obtain ⟨m, rfl⟩ := Int.eq_ofNat_of_zero_le h0
          exact HNO.out m (by omega))
        rw [← HQ.out] at e4
        subst e4
        subst e3
        subst e1 e2
        have HZ := Lib.hid hz
        clear hz HS HN
        have o0 := bo.cell 0 rfl
        have o1 := bo.cell 1 rfl
        have o2 := bo.cell 2 rfl
        have o3 := bo.cell 3 rfl
        have a0 := wV.frozen 0
        have a1 := wV.frozen 1
        have i0 := wV.cell 0 rfl
        have i1 := wV.cell 1 rfl
        have b0 := rV.frozen 0
        have b1 := rV.frozen 1
        have b2 := rV.frozen 2
        have b3 := rV.frozen 3
        have k0 := rV.cell 0 rfl
        have k1 := rV.cell 1 rfl
        have k2 := rV.cell 2 rfl
        have k3 := rV.cell 3 rfl
        have n1 : g + 1 < W2.heap.size := (ww.below hb2).lt
        have n2 : g + 1 + 1 < W2.heap.size := (rr.below hb2).lt
        have n3 : W2.heap.size ≠ g + 1 := by omega
        have n4 : W2.heap.size ≠ g + 1 + 1 := by omega
        have n5 : g + 1 ≠ W2.heap.size := by omega
        have n6 : g + 1 + 1 ≠ W2.heap.size := by omega
        go_upto_region 6 with fail
        obtain ⟨Va, hVa, qa, qb, qc, qd⟩ := put_next (a := .int .i64 (ruleP x (k : Int))) (b := .int .i64 (k : Int)) (c0 := .int .i64 P.inputs) (c1 := .slice s1 P.tables.length d1) (c2 := .slice s2 P.nodes.length d2) (c3 := .slice s3 P.outputs.length d3) wV rV (by omega) hwV hg1 hg2
        obtain ⟨Vb, hVb, ua, ub, uc, ud⟩ := put_next' (a := .int .i64 (ruleP x (k : Int))) (b := .int .i64 (k : Int)) (c0 := .int .i64 P.inputs) (c1 := .slice s1 P.tables.length d1) (c2 := .slice s2 P.nodes.length d2) (c3 := .slice s3 P.outputs.length d3) wV rV (by omega) hwV hg1 hg2
        obtain ⟨L1, L, ho⟩ := HVO.out HZ.out
        have hgi : g + 1 + 1 < wi.heap.size := rr.lt
        have FA : Hid (RetX w x (.returned (.tuple #[.agg #[.int .i64 (ruleP x (k : Int)), .int .i64 (k : Int)], .agg #[.int .i64 P.inputs, .slice s1 P.tables.length d1, .slice s2 P.nodes.length d2, .slice s3 P.outputs.length d3], .bool true])) Va) :=
          RX.out _ _ (((ho.keep fun b hb1 _ _ => qd b (by omega) (by omega)).patch P.inputs).1.rd) qc fun _ => ⟨_, _, _, L1, L, rfl, (ho.keep fun b hb1 _ _ => qd b (by omega) (by omega)).mono hwi.size⟩
        have FB : Hid (RetX w x (.returned (.tuple #[.agg #[.int .i64 (ruleP x (k : Int)), .int .i64 (k : Int)], .agg #[.int .i64 P.inputs, .slice s1 P.tables.length d1, .slice s2 P.nodes.length d2, .slice s3 P.outputs.length d3], .bool true])) Vb) :=
          RX.out _ _ (((ho.keep fun b hb1 _ _ => ud b (by omega) (by omega)).patch P.inputs).1.rd) uc fun _ => ⟨_, _, _, L1, L, rfl, (ho.keep fun b hb1 _ _ => ud b (by omega) (by omega)).mono hwi.size⟩
        clear ho
        have fa0 := qa.cell 0 rfl
        have fa1 := qa.cell 1 rfl
        have fa2 := qb.cell 0 rfl
        have fa3 := qb.cell 1 rfl
        have fa4 := qb.cell 2 rfl
        have fa5 := qb.cell 3 rfl
        have fb0 := ua.cell 0 rfl
        have fb1 := ua.cell 1 rfl
        have fb2 := ub.cell 0 rfl
        have fb3 := ub.cell 1 rfl
        have fb4 := ub.cell 2 rfl
        have fb5 := ub.cell 3 rfl
        subst hVa hVb
        clear qa qb qc qd ua ub uc ud
        go_region
        all_goals
          (go_wp2_with fail
           refine bodyPost_ret (v := .tuple #[.agg #[.int .i64 (ruleP x (k : Int)), .int .i64 (k : Int)], .agg #[.int .i64 P.inputs, .slice s1 P.tables.length d1, .slice s2 P.nodes.length d2, .slice s3 P.outputs.length d3], .bool true]) (by simp [results, Tryz.results59, go_sem, *]) rfl ?_
           first | exact FA.out.drew | exact FB.out.drew)
    · obtain rfl : k = x.nodes.length := by omega
      obtain ⟨e1, e2, e3, e4⟩ := HN.out (fst_none fun j hj => by
        obtain ⟨h0, h1⟩ := need_rng j hj
        obtain ⟨m, rfl⟩ := Int.eq_ofNat_of_zero_le h0
        exact HNO.out m (by omega))
      subst e1 e2 e3 e4
      obtain ⟨Va, hVa, qa, qb, qc, qd⟩ := put_next (a := .int .i64 0) (b := .int .i64 0) (c0 := .int .i64 P.inputs) (c1 := .slice p1 P.tables.length c1) (c2 := .slice p2 P.nodes.length c2) (c3 := .slice p3 P.outputs.length c3) ww rr (by omega) hwi hg1 hg2
      obtain ⟨Vb, hVb, ua, ub, uc, ud⟩ := put_next' (a := .int .i64 0) (b := .int .i64 0) (c0 := .int .i64 P.inputs) (c1 := .slice p1 P.tables.length c1) (c2 := .slice p2 P.nodes.length c2) (c3 := .slice p3 P.outputs.length c3) ww rr (by omega) hwi hg1 hg2
      have FA : Hid (RetX w P (.returned (.tuple #[.agg #[.int .i64 0, .int .i64 0], .agg #[.int .i64 P.inputs, .slice p1 P.tables.length c1, .slice p2 P.nodes.length c2, .slice p3 P.outputs.length c3], .bool false])) Va) :=
        RX.out _ _ (hv.below qc) qc (by intro h; cases h)
      have FB : Hid (RetX w P (.returned (.tuple #[.agg #[.int .i64 0, .int .i64 0], .agg #[.int .i64 P.inputs, .slice p1 P.tables.length c1, .slice p2 P.nodes.length c2, .slice p3 P.outputs.length c3], .bool false])) Vb) :=
        RX.out _ _ (hv.below uc) uc (by intro h; cases h)
      have fa0 := qa.cell 0 rfl
      have fa1 := qa.cell 1 rfl
      have fa2 := qb.cell 0 rfl
      have fa3 := qb.cell 1 rfl
      have fa4 := qb.cell 2 rfl
      have fa5 := qb.cell 3 rfl
      have fb0 := ua.cell 0 rfl
      have fb1 := ua.cell 1 rfl
      have fb2 := ub.cell 0 rfl
      have fb3 := ub.cell 1 rfl
      have fb4 := ub.cell 2 rfl
      have fb5 := ub.cell 3 rfl
      have a0 := ww.frozen 0
      have a1 := ww.frozen 1
      have i0 := ww.cell 0 rfl
      have i1 := ww.cell 1 rfl
      have b0 := rr.frozen 0
      have b1 := rr.frozen 1
      have b2 := rr.frozen 2
      have b3 := rr.frozen 3
      have k0 := rr.cell 0 rfl
      have k1 := rr.cell 1 rfl
      have k2 := rr.cell 2 rfl
      have k3 := rr.cell 3 rfl
      subst hVa hVb
      clear qa qb qc qd ua ub uc ud HNO HS
      go_upto_region 8 with fail
      go_region
      all_goals
        (go_wp2_with fail
         refine bodyPost_ret (v := .tuple #[.agg #[.int .i64 0, .int .i64 0], .agg #[.int .i64 P.inputs, .slice p1 P.tables.length c1, .slice p2 P.nodes.length c2, .slice p3 P.outputs.length c3], .bool false]) (by simp [results, Tryz.results59, go_sem, *]) rfl ?_
         first | exact FA.out.drew | exact FB.out.drew)
end Go.Proofs.YtonkdndpfnapjaaGreat
