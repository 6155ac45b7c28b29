/-
  Several texts in one: DpD, DpE, DpF, DpG, RnR, RnL, NeedM, KeepM.
-/
import Derived.Test.YtaapkpjokmoekaaGreatDoorPk7
import Derived.Test.YtaapkpjokmoekaaGreatDoorPk2
import Derived.Test.YtaapkpjokmoekaaGreatDoorPk6
import Derived.Test.YtaapkpjokmoekaaGreatDoorPk5
import Derived.Test.YtaapkpjokmoekaaGreatDoorPk1
import Derived.Deep.RegionHeld3
import Derived.Test.YtaapkpjokmoekaaGreatDoorPk3
import Derived.Test.YtaapkpjokmoekaaGreatDoorPk4
namespace Go.Proofs.YtaapkpjokmoekaaGreatDoor
open Go.ChangeShapes Go.WideShapes Go.ChangeAt Go.RowKit Go.Sort
set_option linter.unusedVariables false
set_option linter.unusedSimpArgs false

theorem DB.freshAt {g m : Nat} {w0 w W : World} {r s : Nat} {inp : Int} {v1 v2 v3 u : Value} {ts : List (List Int)} {ns : List NodeD} {os : List Int} {L1 L : List Value} {B' : Nat} {xs : List Int} (_ : DB g m w0 w r s inp v1 v2 v3 ts ns os L1 L) (hu : OwnI B' W u xs) (hB : ∀ b, Blk (L1 ++ (L ++ [v3])) b → b < B') : ∀ b, u.ownBlock = some b → ¬ Blk (L1 ++ (L ++ [v3])) b := fun b hb hbk => by
  have h1 := (hu.lt hb).1
  have h2 := hB b hbk
  omega
/-- bounds of a drawn patch -/
structure BtOk (inp : Int) (ts : List (List Int)) (ns : List NodeD) (os : List Int) : Prop where
  i : -1 ≤ inp ∧ inp ≤ 5
  o : os.length ≤ 3
  n : 1 ≤ ns.length ∧ ns.length ≤ 25
  t : ts.length ≤ 3
  r : ∀ t ∈ ts, t.length ≤ 8
  s : ∀ nd ∈ ns, nd.src.length ≤ 4
/-- a drawn patch -/
def DrewB (g m : Nat) (w : World) (e : Ending) (w' : World) : Prop := ∃ (x : PatchD) (v1 v2 v3 : Value) (L1 L : List Value), e = .returned (.agg #[.int .i64 x.inputs, v1, v2, v3]) ∧ OwnP w.heap.size w' v1 v2 v3 x.tables x.nodes x.outputs L1 L ∧ SrcAt w' g m ∧ Off (· = g) w w' ∧ BtOk x.inputs x.tables x.nodes x.outputs
/-- a patch under construction, with its bounds -/
def DBB (g m : Nat) (w0 w : World) (r s : Nat) : Prop := ∃ (inp : Int) (v1 v2 v3 : Value) (ts : List (List Int)) (ns : List NodeD) (os : List Int) (L1 L : List Value), DB g m w0 w r s inp v1 v2 v3 ts ns os L1 L ∧ BtOk inp ts ns os
theorem wpList_append_valD {ops : Array Oper} {rest : List Oper} {o : Oper} {a : Act} {Q : Exit → Act → World → Prop} {w : World} {u : Value} {E T : Nat} (hgd : o.guard = none) (s x : Operand)
    (ho : o.op = .call { callee := .builtin .append, args := #[s, x], argTypes := #[T, T] }) (bytes : Nat) (z : Value) (hT : Tryz.prog.underlying T = some (.slice E)) (hinfo : (Tryz.prog.info? E).map (fun i => (i.zero, i.size, i.bytes)) = some (some z, 1, bytes)) (hz : z.cells.size = 1) (hby : bytes ≤ 64)
    {B : Nat} {v : Value} {L : List Value} (hs : a.eval s = v) (hown : OwnV B w E v L) (hx : a.eval x = .slice (some ⟨w.heap.size, 0, none⟩) 1 1) (h1 : u.oneCell' = true) (hlen : L.length < 1099511627776) (hB : B ≤ w.heap.size)
    (h : ∀ v' w', OwnV B w' E v' (L ++ [u]) → w.grownBy w' v.ownBlock → wpList Tryz.prog ops Q rest (a.put o.dst v') w') : wpList Tryz.prog ops Q (o :: rest) a (w.alloc (.cells #[u] E)) := by
  refine wpList_plain hgd fun K hK => ?_
  obtain ⟨v', w', e1, e2, e3⟩ := run_append_val w o.type E T bytes z hT hinfo hz hby hown h1 hlen hB
  unfold Oper.wp execOp
  simp only [ho, resolve, invoke, builtin, Sem.run_bind, Sem.run_pure, Result.andThen_ok, List.map_toArray, List.map_cons, List.map_nil, hs, hx, e1]
  have hk : ∀ k, k < w.heap.size → v.ownBlock ≠ some k → w'.heap[k]? = w.heap[k]? := fun k hk hne => (e3.block k (by simp; omega) (fun e => hne e.symm)).trans (Below.heap_alloc _ _ _ hk)
  exact hK _ _ (h v' w' e2 ⟨e3.os, e3.tape, e3.output, by have := e3.size; simp at this; omega, fun k h1 h2 => hk k h1 (fun e => h2 e.symm)⟩)
/-- the number of a patch's nodes, as it stands in its box -/
def nodesAt (w : World) (s : Nat) : Nat := match w.cell? ⟨s, 2, none⟩ with
  | some (.slice _ n _) => n
  | _ => 0
set_option maxHeartbeats 1000000 in
set_option maxRecDepth 100000 in
theorem l07Bent_any {g m : Nat} (w : World) (h : SrcAt w g m) (hm : m + 40000 ≤ 1099511627776) :
    Calls Tryz.prog 17 #[.pointer (some ⟨g, 0, none⟩)] w (DrewB g (m + 20000) w) := by
  have hg := h.lt
  obtain ⟨r, hr⟩ : ∃ r, r = w.heap.size := ⟨_, rfl⟩
  obtain ⟨E, hE⟩ : ∃ E, E = w.alloc (.cells zPatch.toArray 28) := ⟨_, rfl⟩
  have hB0 : Below w.heap.size w E := by rw [hE]; exact (Below.refl _ _).alloc (Nat.le_refl _) _
  have q0 : Box E r zPatch 28 := by rw [hE, hr]; exact Box.newAt w zPatch _ rfl
  have A1 := Lib.hid (amongLit_any [1, 1, 2, 0] E (h.below hB0) (by simp) (by simp) (by omega))
  have HE := Lib.hid hE
  have HR := Lib.hid hr
  have HQ := Lib.hid q0
  have HB := Lib.hid hB0
  have hrw : w.heap.size ≤ r := by omega
  clear hE hr h hB0 q0
  go_enter Tryz.func17, Tryz.ntmps17
  go_upto_region 1 with fail
  rw [← HE.out, ← HR.out]
  go_upto_region 2 with (first | (go_at_call 34; refine A1.out.mono ?_; rintro e W1 ⟨inp, hinp, rfl, hs1, ho1⟩; have hin : 0 ≤ inp ∧ inp ≤ 2 := (by simp only [List.mem_cons, List.not_mem_nil, or_false] at hinp; omega); clear hinp) | fail)
  have HO1 := Lib.hid ho1
  clear ho1 A1
  go_cut [4] (fun s4 wx => ∃ s, s4 = .pointer (some ⟨s, 0, none⟩) ∧ ∃ (v1 v2 v3 : Value) (ts : List (List Int)) (ns : List NodeD) (os : List Int) (L1 L : List Value), DB g (m + 10010) w wx r s inp v1 v2 v3 ts ns os L1 L ∧ BtOk inp ts ns os ∧ ns.length ≤ 9 ∧ ts.length ≤ 2 ∧ os.length ≤ 2)
  case first =>
    have FIN : Hid (∀ (W4 W3 : World) (no : Nat) (x : PatchD) (v1 v2 v3 : Value) (L1 L : List Value), Off (· = g) W1 W3 → OwnP W3.heap.size W4 v1 v2 v3 x.tables x.nodes x.outputs L1 L → SrcAt W4 g (m + 10006) → Off (· = g) W3 W4 → x.inputs = inp → x.outputs.length = no → no ≤ 2 → 1 ≤ x.nodes.length → x.nodes.length ≤ 9 → x.tables.length ≤ 2 → (∀ t ∈ x.tables, t.length ≤ 8) → KOk x.nodes →
        ∃ (v1' v2' v3' : Value) (ts : List (List Int)) (ns : List NodeD) (os : List Int) (L1 L : List Value), DB g (m + 10010) w (W4.alloc (.cells #[.int .i64 x.inputs, v1, v2, v3] 28)) r W4.heap.size inp v1' v2' v3' ts ns os L1 L ∧ BtOk inp ts ns os ∧ ns.length ≤ 9 ∧ ts.length ≤ 2 ∧ os.length ≤ 2) := by
      intro W4 W3 no x v1 v2 v3 L1 L o3 own s4 o4 e1 e2 e3 n1 n2 n3 n4 n5
      have o14 := HO1.out.trans (o3.trans o4)
      have b4 : Below W4.heap.size W4 (W4.alloc (.cells #[.int .i64 x.inputs, v1, v2, v3] 28)) := (Below.refl _ _).alloc (Nat.le_refl _) _
      have hE1 : w.heap.size ≤ W3.heap.size := Nat.le_trans HB.out.size (Nat.le_trans HO1.out.size o3.size)
      have q4 := HQ.out.off o14 (by show ¬ r = g; omega)
      refine ⟨v1, v2, v3, x.tables, x.nodes, x.outputs, L1, L, ⟨(own.mono hE1).below b4, ?_, q4.below b4, ?_, (s4.below b4).mono (by omega), hrw, ?_, ?_, hg⟩, ⟨by omega, by omega, by omega, by omega, n4, fun nd hnd => (n5 nd hnd).1⟩, n2, n3, by omega⟩
      · have := Box.newAt W4 [.int .i64 x.inputs, v1, v2, v3] 28 rfl
        rw [e1] at this ⊢; exact this
      · exact ((Off.of_below (· = g) HB.out).trans o14).afterD (b4.mono (Nat.le_trans hE1 o4.size))
      · exact Nat.le_trans hE1 o4.size
      · have := q4.lt; omega
    have DW : Hid (∀ (W : World) (lin : Bool) (y : Int), SrcAt W g (m + 6) → 0 ≤ y → y < 2 → Calls Tryz.prog 35 #[.pointer (some ⟨g, 0, none⟩), .int .i64 inp, .int .i64 (1 + y), .int .i64 9, .bool lin] W (DrewQ g (m + 10006) inp (1 + y).toNat W)) := fun W lin y hs h1 h2 => by
      have := l07Draw_any (g := g) (m := m + 6) (no := (1 + y).toNat) (inp := inp) (most := 9) lin W hs (by omega) (by omega) (by omega) (by omega)
      rw [show (((1 + y).toNat : Nat) : Int) = 1 + y by omega] at this
      exact this
    have hrl := HQ.out.lt
    go_wp2_with (first | (go_at_call 36; refine (pick_any 2 W1 hs1 (by omega) (by omega)).mono ?_; rintro e W2 ⟨y, hy, rfl, hs2, ho2⟩; have hy2 := pickP_pos hy (by omega)) | (go_at_call 37; refine (one_any 3 W2 hs2 (by omega) (by omega)).mono ?_; rintro e W3 ⟨bo, rfl, hs3, ho3⟩; cases bo) | (go_at_call 35; refine (DW.out W3 _ y (hs3.mono (by omega)) hy2.1 hy2.2).mono ?_; rintro e W4 ⟨x, v1, v2, v3, L1, L, rfl, own, hs4, ho4, e1, e2, n1, n2, n3, n4, n5⟩; obtain ⟨p1, c1, rfl⟩ := own.o1.sl'; obtain ⟨p2, c2, rfl⟩ := own.o2.sl; obtain ⟨p3, c3, rfl, -⟩ := own.o3.rd; have E2 := Lib.hid e2; have N2 := Lib.hid n2; have N3 := Lib.hid n3; have N1 := Lib.hid n1; clear e2 n1 n2 n3; have E1 := Lib.hid e1; clear e1) | fail)
    all_goals
      go_meet
      exact ⟨_, rfl, FIN.out W4 W3 _ x _ _ _ L1 L (ho2.trans ho3) own hs4 ho4 E1.out E2.out (by omega) N1.out N2.out N3.out n4 n5⟩
  case rest =>
    obtain ⟨s, rfl, v1, v2, v3, ts, ns, os, L1, L, hD, hbt, b9, b2, b3⟩ := hcut
    clear HO1 HQ HB hs1
    obtain ⟨W0, rfl⟩ : ∃ W : World, W = wc := ⟨_, rfl⟩
    obtain ⟨p1, c1, rfl⟩ := hD.own.o1.sl'
    obtain ⟨p2, c2, rfl⟩ := hD.own.o2.sl
    obtain ⟨p3, c3, rfl, -⟩ := hD.own.o3.rd
    have bn := hbt.n
    have z2 := hD.out.cell 2 rfl
    have PK1 := Lib.hid (pick_any (ns.length : Int) W0 hD.src (by omega) (by omega))
    go_upto_region 3 with fail
    go_cut [5] (fun s5 wx => ∃ kn : Nat, s5 = .int .i64 (kn : Int) ∧ kn < ns.length ∧ DB g (m + 10012) w wx r s inp (.slice p1 L1.length c1) (.slice p2 ns.length c2) (.slice p3 os.length c3) ts ns os L1 L)
    case first =>
      go_wp2_with (first | (go_at_call 36; refine PK1.out.mono ?_; rintro e W1 ⟨k, hk, rfl, hs1, ho1⟩; have hk2 := pickP_pos hk (by omega); have hD1 := hD.step ho1 hs1) | fail)
      go_meet
      exact ⟨k.toNat, by rw [Int.toNat_of_nonneg hk2.1], by omega, hD1⟩
    case rest =>
    obtain ⟨kn, rfl, hkn, hD1⟩ := hcut
    obtain ⟨W1, rfl⟩ : ∃ W : World, W = wc := ⟨_, rfl⟩
    clear hD z2 PK1
    rename_i KK hKK
    refine hKK _ _ ?_
    clear hKK KK
    apply wp_seq_k
    intro _ _
    go_cut [] (fun wx => DBB g (m + 19000) w wx r s)
    case first =>
      have PK2 := Lib.hid (pick_any 24 W1 hD1.src (by omega) (by omega))
      go_upto_region 5 with (first | (go_at_call 36; refine PK2.out.mono ?_; rintro e W2 ⟨c, -, rfl, hs2, ho2⟩; have hD2 := hD1.step ho2 hs2) | fail)
      clear hs2 ho2 hD1 PK2
      go_upto_if 28 with fail
      obtain ⟨W0, rfl⟩ : ∃ W : World, W = W2 := ⟨_, rfl⟩
      by_cases hc0 : c = 0
      · subst hc0
        have A0 := Lib.hid (amongLit_any [-1, 0, 5, 4] W0 hD2.src (by simp) (by simp) (by omega))
        go_wp2_with (first | (go_at_call 34; refine A0.out.mono ?_; rintro e W3 ⟨i2, hi2, rfl, hs3, ho3⟩; have hD3 := hD2.step ho3 hs3; have c3 := hD3.out.cell 0 rfl; have f3 := hD3.out.frozen 0; have l3 := hD3.out.lt) | fail)
        go_meet
        refine ⟨i2, _, _, _, ts, ns, os, L1, L, (hD3.setInp i2).mono (by omega), ⟨?_, hbt.o, hbt.n, hbt.t, hbt.r, hbt.s⟩⟩
        simp only [List.mem_cons, List.not_mem_nil, or_false] at hi2
        omega
      by_cases hc1 : c = 1
      · subst hc1
        go_upto_region 8 with fail
        have hbd := belowDrewD W0
        have CK : Hid (∀ W, Off (· = g) W0 W → W.cell? ⟨s, 3, none⟩ = some (.slice p3 os.length c3) ∧ W.cell? ⟨s, 2, none⟩ = some (.slice p2 ns.length c2)) := fun W hW => ⟨(hD2.out.off hW (by have := hD2.hs; have := hD2.hg; show ¬ s = g; omega)).cell 3 rfl, (hD2.out.off hW (by have := hD2.hs; have := hD2.hg; show ¬ s = g; omega)).cell 2 rfl⟩
        have A1 := Lib.hid (amongLit_any [(ns.length : Int), -1, 0] W0.drew (hD2.src.below hbd) (by simp) (by simp) (by omega))
        have hol : os.length < 17592186044415 := by omega
        refine wp_region_plan (fun W => W.cell? ⟨s, 3, none⟩ = some (.slice p3 os.length c3) ∧ W.cell? ⟨s, 2, none⟩ = some (.slice p2 ns.length c2)) 11 [(0, 0), (1, 1), (2, 0), (3, 0), (4, 1), (5, 0), (6, 2), (7, 2), (8, 2), (9, 2), (10, 0), (11, 3)] (by kernel_rfl) (by kernel_rfl) (CK.out _ (Off.of_below _ hbd)) ?_
        repeat ((first | refine wpPlan_take (v := ?_) rfl (by rfl) (by (intro w hSw; clear hSw; go_simp; try with_reducible rfl)) (fun _ _ _ h => h) ?_ | refine wpPlan_load (v := ?_) rfl (by rfl) (by (intro w hSw; (try dsimp only at hSw); go_simp; try with_reducible rfl)) (fun _ _ _ h => h) ?_); try simp only [List.getElem_toArray, List.getElem_cons_succ, List.getElem_cons_zero, Act.put, List.setIfInBounds_toArray, List.set_cons_zero, List.set_cons_succ])
        refine wpPlan_call rfl (by rfl) (fun K hK => ?_)
        go_simp
        skip
        refine hK _ _ (CK.out _ (Off.of_below _ (hbd.alloc (Nat.le_refl _) _))) ?_
        clear hK K
        try simp only [Act.put, List.setIfInBounds_toArray, List.set_cons_zero, List.set_cons_succ]
        refine wpPlan_call rfl (by rfl) (fun K hK => ?_)
        go_simp
        refine A1.out.mono ?_; rintro e W8 ⟨y2, hy2, rfl, hs8, ho8⟩; have ho8' : Off (· = g) W0 W8 := (Off.of_below _ hbd).trans ho8; have D8 := hD2.step ho8' hs8
        refine hK _ _ (CK.out _ ho8') ?_
        clear hK K
        try simp only [Act.put, List.setIfInBounds_toArray, List.set_cons_zero, List.set_cons_succ]
        refine wpPlan_call rfl (by rfl) (fun K hK => ?_)
        go_simp
        skip
        refine hK _ _ (CK.out _ (ho8'.afterD ((Below.refl _ _).alloc ho8'.size _))) ?_
        clear hK K
        try simp only [Act.put, List.setIfInBounds_toArray, List.set_cons_zero, List.set_cons_succ]
        refine wpPlan_call rfl (by rfl) (fun K hK => ?_)
        refine oper_append_new _ _ rfl rfl D8.own.o3 rfl hol D8.off.size ?_; intro v6 W6 hu6 hf6 hk6 hn6; obtain ⟨vp, vc, rfl, -⟩ := hu6.rd; have GR := D8.growOut hu6 hf6 hk6 hn6; have c6 := GR.1.1; have f6 := GR.1.2; have l6 := D8.out.lt; have q6 := (D8.out.keep (hk6 _ l6 (fun e => (D8.own.neBox D8.out patchT).2.2 (blk_append.2 (.inr (blk_append.2 (.inr (Blk.one.2 e)))))))).cell 2 rfl; have l6' : s < W6.heap.size := Nat.lt_of_lt_of_le l6 hf6.2.2.2
        refine hK _ _ (⟨c6, q6⟩) ?_
        clear hK K
        try simp only [List.getElem_toArray, List.getElem_cons_succ, List.getElem_cons_zero, Act.put, List.setIfInBounds_toArray, List.set_cons_zero, List.set_cons_succ]
        have HG0 := GR.2
        simp only [List.length_append, List.length_singleton] at HG0
        have HG := Lib.hid HG0
        clear GR HG0
        repeat ((first | refine wpPlan_take (v := ?_) rfl (by rfl) (by (intro w hSw; clear hSw; go_simp; try with_reducible rfl)) (fun _ _ _ h => h) ?_ | refine wpPlan_load (v := ?_) rfl (by rfl) (by (intro w hSw; (try dsimp only at hSw); go_simp; try with_reducible rfl)) (fun _ _ _ h => h) ?_); try simp only [List.getElem_toArray, List.getElem_cons_succ, List.getElem_cons_zero, Act.put, List.setIfInBounds_toArray, List.set_cons_zero, List.set_cons_succ])
        refine wpPlan_store rfl (by rfl) (fun K hK => ?_)
        go_simp
        refine hK _ _ ?_
        clear hK K
        try simp only [Act.put, List.setIfInBounds_toArray, List.set_cons_zero, List.set_cons_succ]
        refine wpPlan_nil ?_
        go_wp2_with fail
        go_meet
        exact ⟨inp, _, _, _, ts, ns, os ++ [y2], L1, L, HG.out.mono (m' := m + 19000) (by omega), ⟨by omega, by (rw [List.length_append, List.length_singleton]; omega), hbt.n, hbt.t, hbt.r, hbt.s⟩⟩
      by_cases hc2 : c = 2
      · subst hc2
        go_upto_region 10 with fail
        have hbd := belowDrewD W0
        obtain ⟨g2, cap2, e2⟩ : ∃ g2 cap2, (Value.slice p2 ns.length c2) = .slice (some ⟨g2, 0, none⟩) ns.length cap2 := by
          rcases hD2.own.o2.cases with ⟨-, h0, -⟩ | ⟨g2, cap2, e, hB, hlt, _, hc⟩
          · exfalso; rw [h0] at hkn; simp at hkn
          · exact ⟨g2, cap2, e⟩
        obtain ⟨rfl, -, rfl⟩ := (Value.slice.injEq _ _ _ _ _ _).mp e2
        clear e2
        have CK : Hid (∀ W, Off (· = g) W0 W → W.cell? ⟨s, 2, none⟩ = some (.slice (some ⟨g2, 0, none⟩) ns.length c2)) := fun W hW => (hD2.out.off hW (by have := hD2.hs; have := hD2.hg; show ¬ s = g; omega)).cell 2 rfl
        have A1 := Lib.hid (l06Bent_any 1 W0.drew (hD2.src.below hbd) (by omega) (by omega))
        refine wp_region_plan (fun W => W.cell? ⟨s, 2, none⟩ = some (.slice (some ⟨g2, 0, none⟩) ns.length c2)) 6 [(0, 0), (1, 1), (2, 0), (3, 0), (4, 2), (5, 0), (6, 3)] (by kernel_rfl) (by kernel_rfl) (CK.out _ (Off.of_below _ hbd)) ?_
        repeat ((first | refine wpPlan_take (v := ?_) rfl (by rfl) (by (intro w hSw; clear hSw; go_simp; try with_reducible rfl)) (fun _ _ _ h => h) ?_ | refine wpPlan_load (v := ?_) rfl (by rfl) (by (intro w hSw; (try dsimp only at hSw); go_simp; try with_reducible rfl)) (fun _ _ _ h => h) ?_); try simp only [List.getElem_toArray, List.getElem_cons_succ, List.getElem_cons_zero, Act.put, List.setIfInBounds_toArray, List.set_cons_zero, List.set_cons_succ])
        refine wpPlan_call rfl (by rfl) (fun K hK => ?_)
        go_simp
        refine A1.out.mono ?_; rintro e W8 ⟨x, u, rfl, hx4, hou, hs8, ho8⟩; obtain ⟨qu, cu, rfl, -⟩ := hou.rd; have ho8' : Off (· = g) W0 W8 := (Off.of_below _ hbd).trans ho8; have D8 := hD2.step ho8' hs8
        refine hK _ _ (CK.out _ ho8') ?_
        clear hK K
        try simp only [Act.put, List.setIfInBounds_toArray, List.set_cons_zero, List.set_cons_succ]
        repeat ((first | refine wpPlan_take (v := ?_) rfl (by rfl) (by (intro w hSw; clear hSw; go_simp; try with_reducible rfl)) (fun _ _ _ h => h) ?_ | refine wpPlan_load (v := ?_) rfl (by rfl) (by (intro w hSw; (try dsimp only at hSw); go_simp; try with_reducible rfl)) (fun _ _ _ h => h) ?_); try simp only [List.getElem_toArray, List.getElem_cons_succ, List.getElem_cons_zero, Act.put, List.setIfInBounds_toArray, List.set_cons_zero, List.set_cons_succ])
        obtain ⟨-, hB8, hl8, ⟨z0, z1, z2', z3, c80, c81, c82, c83⟩, hf8, -⟩ := D8.own.o2.storing (k := kn) hkn
        have f80 := hf8 (kn * 4)
        have f81 := hf8 (kn * 4 + 1)
        have f82 := hf8 (kn * 4 + 2)
        have f83 := hf8 (kn * 4 + 3)
        refine wpPlan_store rfl (by rfl) (fun K hK => ?_)
        go_simp
        refine hK _ _ ?_
        clear hK K
        try simp only [Act.put, List.setIfInBounds_toArray, List.set_cons_zero, List.set_cons_succ]
        refine wpPlan_nil ?_
        have hsz : W0.heap.size ≤ W0.drew.heap.size := Nat.le_refl _
        have hou' : OwnI w.heap.size W8 (.slice qu x.src.length cu) x.src := hou.mono (Nat.le_trans hD2.off.size hsz)
        have own' := D8.own.setNodeD hkn x hou' (D8.freshAt hou (fun b hb => Nat.lt_of_lt_of_le (hD2.own.blk hb).2 hsz))
        have hgs : s ≠ g2 := fun e => (D8.own.neBox D8.out patchT).2.1 (by rw [e]; rfl)
        have DU := D8.upd (((((Off.set1 (S := fun q => q = s ∨ PBlk (.slice p1 L1.length c1) (.slice (some ⟨g2, 0, none⟩) ns.length c2) (.slice p3 os.length c3) L1 L q) (w := W8) (s := g2) (i := kn * 4) (.int .i64 x.kind) (.inr (.inr (.inl rfl)))).trans (Off.set1 (i := kn * 4 + 1) (.int .i64 x.a) (.inr (.inr (.inl rfl))))).trans (Off.set1 (i := kn * 4 + 2) (.int .i64 x.b) (.inr (.inr (.inl rfl))))).trans (Off.set1 (i := kn * 4 + 3) (.slice qu x.src.length cu) (.inr (.inr (.inl rfl)))))) own' ((((D8.out.other (a := ⟨g2, kn * 4, none⟩) hgs _).other (a := ⟨g2, kn * 4 + 1, none⟩) hgs _).other (a := ⟨g2, kn * 4 + 2, none⟩) hgs _).other (a := ⟨g2, kn * 4 + 3, none⟩) hgs _)
        have HDU := Lib.hid DU
        clear DU own'
        go_wp2_with fail
        go_meet
        refine ⟨inp, _, _, _, ts, _, os, L1, _, HDU.out.mono (by omega), ⟨by omega, hbt.o, by rw [List.length_set]; exact hbt.n, hbt.t, hbt.r, fun nd hnd => ?_⟩⟩
        rcases List.mem_or_eq_of_mem_set hnd with h | rfl
        · exact hbt.s nd h
        · exact hx4
      by_cases hc3 : c = 3
      · subst hc3
        have y2 := hD2.out.cell 2 rfl
        have b1 : Below W0.heap.size W0 (W0.alloc (.cells #[.int .i64 (ns.length : Int)] 2)) := (Below.refl _ _).alloc (Nat.le_refl _) _
        have hD3 := hD2.below b1
        have hlL : ns.length < 1099511627776 := by omega
        have hwz := hD3.off.size
        have hsl3 := hD3.out.lt
        have ou : OwnI W0.heap.size (W0.alloc (.cells #[.int .i64 (ns.length : Int)] 2)) (.slice (some ⟨W0.heap.size, 0, none⟩) 1 1) [(ns.length : Int)] := OwnI.lit W0 [(ns.length : Int)] (Nat.le_refl _) (by simp [maxLen])
        have hnew := hD3.freshAt ou (fun b hb => (hD2.own.blk hb).2)
        go_wp2_with (first | (at_builtin; refine wpList_append_node rfl _ _ rfl (⟨5, 2, 0, [(ns.length : Int)]⟩ : NodeD) rfl rfl rfl rfl hD3.own.o2 (by first | rfl | (rw [World.size_alloc]; rfl)) rfl hlL hwz ?_; intro v' W9 hv hg9 hk9; obtain ⟨vp, vc, rfl⟩ := hv.slS; have PN := hD3.node (y := ⟨5, 2, 0, [(ns.length : Int)]⟩) (ou.mono hD2.off.size) hnew hv hg9; have c2' := PN.1.1; have f2' := PN.1.2; have l9 : s < W9.heap.size := Nat.lt_of_lt_of_le hsl3 hg9.size) | fail)
        go_meet
        exact ⟨inp, _, _, _, ts, _, os, L1, _, PN.2.mono (by omega), ⟨by omega, hbt.o, by simp; omega, hbt.t, hbt.r, fun nd hnd => by
          rcases List.mem_append.1 hnd with h | h
          · exact hbt.s nd h
          · rw [List.mem_singleton] at h; subst h; simp⟩⟩
      by_cases hc4 : c = 4
      · subst hc4
        have y2 := hD2.out.cell 1 rfl
        have b1 : Below W0.heap.size W0 (W0.alloc (.cells #[.int .i64 1, .int .i64 2, .int .i64 3] 2)) := (Below.refl _ _).alloc (Nat.le_refl _) _
        have hD3 := hD2.below b1
        have hl2 : L1.length ≤ 2 := by have := hD2.own.s1.1; omega
        have hlL : L1.length < 1099511627776 := by omega
        have hwz := hD3.off.size
        have hsl3 := hD3.out.lt
        have ou : OwnI W0.heap.size (W0.alloc (.cells #[.int .i64 1, .int .i64 2, .int .i64 3] 2)) (.slice (some ⟨W0.heap.size, 0, none⟩) 3 3) [1, 2, 3] := OwnI.lit W0 [1, 2, 3] (Nat.le_refl _) (by simp [maxLen])
        have hnew := hD3.freshAt ou (fun b hb => (hD2.own.blk hb).2)
        go_wp2_with (first | (at_builtin; refine wpList_append_valD rfl _ _ rfl 24 (.slice none 0 0) Tryz.underlying24 infoII rfl (by omega) rfl hD3.own.o1 (by first | rfl | (rw [World.size_alloc]; rfl)) rfl hlL hwz ?_; intro v' W9 hv hg9; obtain ⟨vp, vc, rfl⟩ := hv.slS; have PN := hD3.table (y := [1, 2, 3]) (ou.mono hD2.off.size) hnew hv hg9; have c2' := PN.1.1; have f2' := PN.1.2; have l9 : s < W9.heap.size := Nat.lt_of_lt_of_le hsl3 hg9.size) | fail)
        go_meet
        exact ⟨inp, _, _, _, _, ns, os, _, L, PN.2.mono (by omega), ⟨by omega, hbt.o, hbt.n, by simp; omega, fun t ht => by
          rcases List.mem_append.1 ht with h | h
          · exact hbt.r t h
          · rw [List.mem_singleton] at h; subst h; simp, hbt.s⟩⟩
      by_cases hc5 : c = 5
      · subst hc5
        go_wp2_with fail
        go_loopw [] (fun wr => ∃ (ns' : List NodeD) (v2 : Value) (L' : List Value), DB g (m + 10014) w wr r s inp (.slice p1 L1.length c1) v2 (.slice p3 os.length c3) ts ns' os L1 L' ∧ 1 ≤ ns'.length ∧ ns'.length ≤ 24 ∧ ∀ nd ∈ ns', nd.src.length ≤ 4) (fun wr => 24 - nodesAt wr s)
        case atStart => exact ⟨ns, _, L, hD2, by omega, by omega, hbt.s⟩
        case round =>
          obtain ⟨ns', v2, L', hDk, hn1, hn24, hn4⟩ := hrel
          obtain ⟨Wk, rfl⟩ : ∃ W : World, W = wr := ⟨_, rfl⟩
          clear hD2
          obtain ⟨pk, ck, rfl⟩ := hDk.own.o2.sl
          have y2 := hDk.out.cell 2 rfl
          have hNA : nodesAt Wk s = ns'.length := by unfold nodesAt; rw [y2]
          by_cases hlt : ns'.length < 24
          · have b1 : Below Wk.heap.size Wk (Wk.alloc (.cells #[] 2)) := (Below.refl _ _).alloc (Nat.le_refl _) _
            have hD3 := hDk.below b1
            have hlL : ns'.length < 1099511627776 := by omega
            have hwz := hD3.off.size
            have hsl3 := hD3.out.lt
            have ou : OwnI Wk.heap.size (Wk.alloc (.cells #[] 2)) (.slice (some ⟨Wk.heap.size, 0, none⟩) 0 0) [] := by
              have := OwnI.lit Wk [] (Nat.le_refl Wk.heap.size) (by simp [maxLen])
              simpa using this
            have hnew := hD3.freshAt ou (fun b hb => (hDk.own.blk hb).2)
            go_wp2_with (first | (at_builtin; refine wpList_append_node rfl _ _ rfl (⟨2, 1, 0, []⟩ : NodeD) rfl rfl rfl rfl hD3.own.o2 (by first | rfl | (rw [World.size_alloc]; rfl)) rfl hlL hwz ?_; intro v' W9 hv hg9 hk9; obtain ⟨vp, vc, rfl⟩ := hv.slS; have PN := hD3.node (y := ⟨2, 1, 0, []⟩) (ou.mono hDk.off.size) hnew hv hg9; have c2' := PN.1.1; have f2' := PN.1.2; have l9 : s < W9.heap.size := Nat.lt_of_lt_of_le hsl3 hg9.size) | fail)
            have hNB : nodesAt (W9.setCell ⟨s, 2, none⟩ (.slice vp (ns'.length + 1) vc)) s = ns'.length + 1 := by
              have := PN.2.out.cell 2 rfl
              unfold nodesAt
              rw [this]
            have HPN := Lib.hid PN.2
            have HNB := Lib.hid hNB
            clear PN hNB
            go_roundw
            case rel =>
              refine ⟨_, _, _, _, _, _, _, _, _, _, _, ⟨_, _, _, HPN.out, by simp, by simp; omega, fun nd hnd => ?_⟩, rfl⟩
              rcases List.mem_append.1 hnd with h | h
              · exact hn4 nd h
              · rw [List.mem_singleton] at h; subst h; simp
            case measure => rw [HNB.out, hNA]; omega
          · have ON := Lib.hid (one_any 2 Wk hDk.src (by omega) (by omega))
            go_upto_region 19 with (first | (go_at_call 37; refine ON.out.mono ?_; rintro e W5 ⟨bo, rfl, hs5, ho5⟩; have hD5 := hDk.step ho5 hs5; cases bo) | fail)
            · go_meet
              exact ⟨inp, _, _, _, ts, ns', os, L1, L', hD5.mono (m' := m + 19000) (by omega), ⟨by omega, hbt.o, by omega, hbt.t, hbt.r, hn4⟩⟩
            · clear hDk y2 hNA
              have y2 := hD5.out.cell 2 rfl
              have b1 : Below W5.heap.size W5 (W5.alloc (.cells #[] 2)) := (Below.refl _ _).alloc (Nat.le_refl _) _
              have hD3 := hD5.below b1
              have hlL : ns'.length < 1099511627776 := by omega
              have hwz := hD3.off.size
              have hsl3 := hD3.out.lt
              have ou : OwnI W5.heap.size (W5.alloc (.cells #[] 2)) (.slice (some ⟨W5.heap.size, 0, none⟩) 0 0) [] := by
                have := OwnI.lit W5 [] (Nat.le_refl W5.heap.size) (by simp [maxLen])
                simpa using this
              have hnew := hD3.freshAt ou (fun b hb => (hD5.own.blk hb).2)
              go_wp2_with (first | (at_builtin; (refine wpList_append_node rfl _ _ rfl (⟨14, 5, 0, []⟩ : NodeD) rfl rfl rfl rfl hD3.own.o2 (by first | rfl | (rw [World.size_alloc]; rfl)) rfl hlL hwz ?_); intro v' W9 hv hg9 hk9; obtain ⟨vp, vc, rfl⟩ := hv.slS; have PN := hD3.node (y := ⟨14, 5, 0, []⟩) (ou.mono hD5.off.size) hnew hv hg9; have c2' := PN.1.1; have f2' := PN.1.2; have l9 : s < W9.heap.size := Nat.lt_of_lt_of_le hsl3 hg9.size) | fail)
              go_meet
              exact ⟨inp, _, _, _, ts, _, os, L1, _, PN.2.mono (m' := m + 19000) (by omega), ⟨by omega, hbt.o, by simp; omega, hbt.t, hbt.r, fun nd hnd => by
                rcases List.mem_append.1 hnd with h | h
                · exact hn4 nd h
                · rw [List.mem_singleton] at h; subst h; simp⟩⟩
      go_wp2_with fail
      go_meet
      exact ⟨inp, _, _, _, ts, ns, os, L1, L, hD2.mono (by omega), hbt⟩
    case rest =>
    obtain ⟨inp', v1, v2, v3, ts', ns', os', L1', L', hD', hbt'⟩ := hcut
    obtain ⟨Wo, rfl⟩ : ∃ W : World, W = wc := ⟨_, rfl⟩
    clear hD1 hbt
    obtain ⟨p1', c1', rfl⟩ := hD'.own.o1.sl'
    obtain ⟨p2', c2', rfl⟩ := hD'.own.o2.sl
    obtain ⟨p3', c3', rfl, -⟩ := hD'.own.o3.rd
    have u0 := hD'.res.cell 0 rfl
    have u1 := hD'.res.cell 1 rfl
    have u2 := hD'.res.cell 2 rfl
    have u3 := hD'.res.cell 3 rfl
    have f0 := hD'.res.frozen 0
    have f1 := hD'.res.frozen 1
    have f2 := hD'.res.frozen 2
    have f3 := hD'.res.frozen 3
    have x0 := hD'.out.cell 0 rfl
    have x1 := hD'.out.cell 1 rfl
    have x2 := hD'.out.cell 2 rfl
    have x3 := hD'.out.cell 3 rfl
    have hrw := hD'.hr
    have hrl := hD'.res.lt
    have b0 := hD'.res.set 0 (.int .i64 inp')
    have b1 := b0.set 1 (.slice p1' L1'.length c1')
    have b2 := b1.set 2 (.slice p2' ns'.length c2')
    have b3 := b2.set 3 (.slice p3' os'.length c3')
    have own4 := ((((hD'.own.setBox hD'.res patchT 0 (.int .i64 inp')).setBox b0 patchT 1 (.slice p1' L1'.length c1')).setBox b1 patchT 2 (.slice p2' ns'.length c2')).setBox b2 patchT 3 (.slice p3' os'.length c3'))
    have hof := (((hD'.off.setD (i := 0) hrw (.int .i64 inp')).setD (i := 1) hrw (.slice p1' L1'.length c1')).setD (i := 2) hrw (.slice p2' ns'.length c2')).setD (i := 3) hrw (.slice p3' os'.length c3')
    have hsr := hD'.src.stay (w' := (((Wo.setCell ⟨r, 0, none⟩ (.int .i64 inp')).setCell ⟨r, 1, none⟩ (.slice p1' L1'.length c1')).setCell ⟨r, 2, none⟩ (.slice p2' ns'.length c2')).setCell ⟨r, 3, none⟩ (.slice p3' os'.length c3')) (B := w.heap.size) hD'.hg fun q h1 _ => (Below.heap_setCell _ _ _ _ (show q ≠ r by omega)).trans ((Below.heap_setCell _ _ _ _ (show q ≠ r by omega)).trans ((Below.heap_setCell _ _ _ _ (show q ≠ r by omega)).trans (Below.heap_setCell _ _ _ _ (show q ≠ r by omega))))
    obtain ⟨W', hW'⟩ : ∃ W', W' = (((Wo.setCell ⟨r, 0, none⟩ (.int .i64 inp')).setCell ⟨r, 1, none⟩ (.slice p1' L1'.length c1')).setCell ⟨r, 2, none⟩ (.slice p2' ns'.length c2')).setCell ⟨r, 3, none⟩ (.slice p3' os'.length c3') := ⟨_, rfl⟩
    rw [← hW'] at b3 own4 hof hsr
    have k0' := b3.cell 0 rfl
    have k1' := b3.cell 1 rfl
    have k2' := b3.cell 2 rfl
    have k3' := b3.cell 3 rfl
    have FN : Hid (DrewB g (m + 20000) w (.returned (.agg #[.int .i64 inp', .slice p1' L1'.length c1', .slice p2' ns'.length c2', .slice p3' os'.length c3'])) W') :=
      ⟨⟨inp', ts', ns', os'⟩, _, _, _, L1', L', rfl, own4, hsr.mono (by omega), hof, hbt'⟩
    have HWW := Lib.hid hW'
    clear hW' b0 b1 b2 b3 own4 hof hsr hD'
    go_wp2_with fail
    rw [← HWW.out]
    refine bodyPost_ret (v := .agg #[.int .i64 inp', .slice p1' L1'.length c1', .slice p2' ns'.length c2', .slice p3' os'.length c3']) (by simp [results, Tryz.results17, go_sem, *]) rfl ?_
    exact FN.out
end Go.Proofs.YtaapkpjokmoekaaGreatDoor

namespace Go.Proofs.YtaapkpjokmoekaaGreatDoor
open Go.ChangeShapes Go.WideShapes Go.ChangeAt Go.RowKit Go.Sort
set_option linter.unusedVariables false
set_option linter.unusedSimpArgs false

theorem wrapIn_D {x : Int} (h1 : -9223372036854775808 ≤ x) (h2 : x < 9223372036854775808) : IntKind.i64.wrap x = x := by
  have : IntKind.i64.wrap x = (x + 9223372036854775808) % 18446744073709551616 - 9223372036854775808 := by
    simp [IntKind.wrap, IntKind.bits, IntKind.signed]; omega
  omega
/-- a patch in its box -/
def PBx (B : Nat) (W : World) (s : Nat) (x : PatchD) : Prop := ∃ (v1 v2 v3 : Value) (L1 L : List Value), Box W s [.int .i64 x.inputs, v1, v2, v3] 28 ∧ OwnP B W v1 v2 v3 x.tables x.nodes x.outputs L1 L
theorem PBx.lt {B : Nat} {W : World} {s : Nat} {x : PatchD} (h : PBx B W s x) : s < W.heap.size := by
  obtain ⟨_, _, _, _, _, h1, -⟩ := h
  exact h1.lt
theorem PBx.off {B : Nat} {W W' : World} {s g : Nat} {x : PatchD} (h : PBx B W s x) (ho : Off (· = g) W W') (hg : g < B) (hs : s ≠ g) : PBx B W' s x := by
  obtain ⟨v1, v2, v3, L1, L, h1, h2⟩ := h
  exact ⟨v1, v2, v3, L1, L, h1.off ho hs, h2.keep fun k hB hk _ => ho.block k hk (by show k ≠ g; omega)⟩
theorem PBx.below {B : Nat} {W W' : World} {s : Nat} {x : PatchD} (h : PBx B W s x) (hb : Below W.heap.size W W') : PBx B W' s x := by
  obtain ⟨v1, v2, v3, L1, L, h1, h2⟩ := h
  exact ⟨v1, v2, v3, L1, L, h1.below hb, h2.below hb⟩
theorem PBx.mono {B B' : Nat} {W : World} {s : Nat} {x : PatchD} (h : PBx B W s x) (hB : B' ≤ B) : PBx B' W s x := by
  obtain ⟨v1, v2, v3, L1, L, h1, h2⟩ := h
  exact ⟨v1, v2, v3, L1, L, h1, h2.mono hB⟩
/-- a store into another patch's box -/
theorem PBx.store {B : Nat} {W : World} {s t : Nat} {x : PatchD} {cs : List Value} (h : PBx B W s x) (hb : Box W t cs 28) (hne : s ≠ t) (i : Nat) (u : Value) : PBx B (W.setCell ⟨t, i, none⟩ u) s x := by
  obtain ⟨v1, v2, v3, L1, L, h1, h2⟩ := h
  exact ⟨v1, v2, v3, L1, L, h1.other (a := ⟨t, i, none⟩) hne u, h2.setBox hb patchT i u⟩
/-- four stores into another patch's box -/
theorem PBx.store4 {B : Nat} {W : World} {s t : Nat} {x : PatchD} {cs : List Value} (h : PBx B W s x) (hb : Box W t cs 28) (hne : s ≠ t) (a b c d : Value) : PBx B ((((W.setCell ⟨t, 0, none⟩ a).setCell ⟨t, 1, none⟩ b).setCell ⟨t, 2, none⟩ c).setCell ⟨t, 3, none⟩ d) s x :=
  (((h.store hb hne 0 a).store (hb.set 0 a) hne 1 b).store ((hb.set 0 a).set 1 b) hne 2 c).store (((hb.set 0 a).set 1 b).set 2 c) hne 3 d
/-- a patch is laid into a box -/
theorem PBx.put {B : Nat} {W : World} {t : Nat} {x : PatchD} {z0 z1 z2 z3 v1 v2 v3 : Value} {L1 L : List Value} (hb : Box W t [z0, z1, z2, z3] 28) (h : OwnP B W v1 v2 v3 x.tables x.nodes x.outputs L1 L) :
    PBx B ((((W.setCell ⟨t, 0, none⟩ (.int .i64 x.inputs)).setCell ⟨t, 1, none⟩ v1).setCell ⟨t, 2, none⟩ v2).setCell ⟨t, 3, none⟩ v3) t x := by
  have b0 := hb.set 0 (.int .i64 x.inputs)
  have b1 := b0.set 1 v1
  have b2 := b1.set 2 v2
  have b3 := b2.set 3 v3
  exact ⟨v1, v2, v3, L1, L, by simpa using b3, (((h.setBox hb patchT 0 _).setBox b0 patchT 1 _).setBox b1 patchT 2 _).setBox b2 patchT 3 _⟩
theorem PBx.new {B : Nat} {W : World} {x : PatchD} {v1 v2 v3 : Value} {L1 L : List Value} (h : OwnP B W v1 v2 v3 x.tables x.nodes x.outputs L1 L) :
    PBx B (W.alloc (.cells #[.int .i64 x.inputs, v1, v2, v3] 28)) W.heap.size x :=
  ⟨v1, v2, v3, L1, L, Box.newAt W [.int .i64 x.inputs, v1, v2, v3] _ rfl, h.below ((Below.refl _ _).alloc (Nat.le_refl _) _)⟩
/-- a patch in its box, the boxes of the results, the source -/
structure C1 (g m : Nat) (w : World) (r1 r2 B s5 : Nat) (x : PatchD) (W : World) : Prop where
  p : PBx B W s5 x
  b1 : Box W r1 zPatch 28
  b2 : Box W r2 zPatch 28
  src : SrcAt W g m
  bel : Below w.heap.size w W
  hg : g < B
  hs : B ≤ s5
  hr1 : r1 < g
  hr2 : r2 < g
  hw : w.heap.size ≤ r1
  h12 : r1 < r2
theorem C1.step {g m m' : Nat} {w : World} {r1 r2 B s5 : Nat} {x : PatchD} {W W' : World} (h : C1 g m w r1 r2 B s5 x W) (ho : Off (· = g) W W') (hs : SrcAt W' g m') : C1 g m' w r1 r2 B s5 x W' :=
  ⟨h.p.off ho h.hg (by have := h.hg; have := h.hs; omega), h.b1.off ho (by have := h.hr1; show ¬ r1 = g; omega), h.b2.off ho (by have := h.hr2; show ¬ r2 = g; omega), hs,
    h.bel.trans (ho.below (fun k hk => by have : k = g := hk; have := h.hw; have := h.hr1; omega) h.bel.size), h.hg, h.hs, h.hr1, h.hr2, h.hw, h.h12⟩
theorem C1.below {g m : Nat} {w : World} {r1 r2 B s5 : Nat} {x : PatchD} {W W' : World} (h : C1 g m w r1 r2 B s5 x W) (hb : Below W.heap.size W W') : C1 g m w r1 r2 B s5 x W' := h.step (Off.of_below _ hb) (h.src.below hb)
theorem C1.mono {g m m' : Nat} {w : World} {r1 r2 B s5 : Nat} {x : PatchD} {W : World} (h : C1 g m w r1 r2 B s5 x W) (hm : m ≤ m') : C1 g m' w r1 r2 B s5 x W := ⟨h.p, h.b1, h.b2, h.src.mono hm, h.bel, h.hg, h.hs, h.hr1, h.hr2, h.hw, h.h12⟩
/-- stores into the other patch's box -/
theorem C1.store4 {g m : Nat} {w : World} {r1 r2 B s5 t : Nat} {x : PatchD} {W : World} {cs : List Value} (h : C1 g m w r1 r2 B s5 x W) (hb : Box W t cs 28) (ht : B ≤ t) (hne : s5 ≠ t) (a b c d : Value) :
    C1 g m w r1 r2 B s5 x ((((W.setCell ⟨t, 0, none⟩ a).setCell ⟨t, 1, none⟩ b).setCell ⟨t, 2, none⟩ c).setCell ⟨t, 3, none⟩ d) := by
  have e1 : r1 ≠ t := by have := h.hg; have := h.hr1; omega
  have e2 : r2 ≠ t := by have := h.hg; have := h.hr2; omega
  have hwt : w.heap.size ≤ t := by have := h.hg; have := h.hr1; have := h.hw; omega
  refine ⟨h.p.store4 hb hne a b c d, ((((h.b1.other (a := ⟨t, 0, none⟩) e1 a).other (a := ⟨t, 1, none⟩) e1 b).other (a := ⟨t, 2, none⟩) e1 c).other (a := ⟨t, 3, none⟩) e1 d),
    ((((h.b2.other (a := ⟨t, 0, none⟩) e2 a).other (a := ⟨t, 1, none⟩) e2 b).other (a := ⟨t, 2, none⟩) e2 c).other (a := ⟨t, 3, none⟩) e2 d), ?_,
    ((((h.bel.setCell (p := ⟨t, 0, none⟩) hwt a).setCell (p := ⟨t, 1, none⟩) hwt b).setCell (p := ⟨t, 2, none⟩) hwt c).setCell (p := ⟨t, 3, none⟩) hwt d), h.hg, h.hs, h.hr1, h.hr2, h.hw, h.h12⟩
  exact h.src.stay (B := B) h.hg fun k h1 _ => (Below.heap_setCell _ _ _ _ (show k ≠ t by omega)).trans ((Below.heap_setCell _ _ _ _ (show k ≠ t by omega)).trans ((Below.heap_setCell _ _ _ _ (show k ≠ t by omega)).trans (Below.heap_setCell _ _ _ _ (show k ≠ t by omega))))
/-- two patches in their boxes -/
def C2 (g m : Nat) (w : World) (r1 r2 B s5 s6 : Nat) (x y : PatchD) (W : World) : Prop := C1 g m w r1 r2 B s5 x W ∧ PBx B W s6 y ∧ B ≤ s6 ∧ s5 ≠ s6
theorem C2.step {g m m' : Nat} {w : World} {r1 r2 B s5 s6 : Nat} {x y : PatchD} {W W' : World} (h : C2 g m w r1 r2 B s5 s6 x y W) (ho : Off (· = g) W W') (hs : SrcAt W' g m') : C2 g m' w r1 r2 B s5 s6 x y W' :=
  ⟨h.1.step ho hs, h.2.1.off ho h.1.hg (by have := h.1.hg; have := h.2.2.1; omega), h.2.2⟩
/-- the second patch is laid into the box that was made ahead of it, or into a new one -/
theorem C2.early {g m : Nat} {w : World} {r1 r2 B s5 t : Nat} {x y : PatchD} {W V : World} {z0 z1 z2 z3 v1 v2 v3 : Value} {L1 L : List Value} (h : C1 g m w r1 r2 B s5 x W) (hb : Box W t [z0, z1, z2, z3] 28) (ht : B ≤ t) (hne : s5 ≠ t) (hV : B ≤ V.heap.size) (ho : OwnP V.heap.size W v1 v2 v3 y.tables y.nodes y.outputs L1 L) :
    C2 g m w r1 r2 B s5 t x y ((((W.setCell ⟨t, 0, none⟩ (.int .i64 y.inputs)).setCell ⟨t, 1, none⟩ v1).setCell ⟨t, 2, none⟩ v2).setCell ⟨t, 3, none⟩ v3) :=
  ⟨h.store4 hb ht hne _ _ _ _, PBx.put hb (ho.mono hV), ht, hne⟩
theorem C2.late {g m : Nat} {w : World} {r1 r2 B s5 : Nat} {x y : PatchD} {W V : World} {v1 v2 v3 : Value} {L1 L : List Value} (h : C1 g m w r1 r2 B s5 x W) (hV : B ≤ V.heap.size) (ho : OwnP V.heap.size W v1 v2 v3 y.tables y.nodes y.outputs L1 L) (hW : B ≤ W.heap.size) :
    C2 g m w r1 r2 B s5 W.heap.size x y (W.alloc (.cells #[.int .i64 y.inputs, v1, v2, v3] 28)) :=
  ⟨h.below ((Below.refl _ _).alloc (Nat.le_refl _) _), PBx.new (ho.mono hV), hW, by have := h.p.lt; omega⟩
/-- drawn patches to be chained -/
def DrewC (w : World) (e : Ending) (w' : World) : Prop := ∃ (x y : PatchD) (vx vy : Value), e = .returned (.tuple #[vx, vy]) ∧ VPatch w' vx x ∧ VPatch w' vy y ∧ Below w.heap.size w w'
end Go.Proofs.YtaapkpjokmoekaaGreatDoor

namespace Go.Proofs.YtaapkpjokmoekaaGreatDoor
open Go.ChangeShapes Go.WideShapes Go.ChangeAt Go.RowKit Go.Sort
set_option linter.unusedVariables false
set_option linter.unusedSimpArgs false

theorem wrapIn_F {x : Int} (h1 : -9223372036854775808 ≤ x) (h2 : x < 9223372036854775808) : IntKind.i64.wrap x = x := by
  have : IntKind.i64.wrap x = (x + 9223372036854775808) % 18446744073709551616 - 9223372036854775808 := by
    simp [IntKind.wrap, IntKind.bits, IntKind.signed]; omega
  omega
theorem OwnI.offF {B g : Nat} {w w' : World} {v : Value} {xs : List Int} (h : OwnI B w v xs) (ho : Off (· = g) w w') (hg : g < B) : OwnI B w' v xs := h.keep fun b hb => ho.block b (h.lt hb).2 (by have := (h.lt hb).1; show b ≠ g; omega)
/-- a drawn list of its own -/
def DrewL (g m n : Nat) (w : World) (e : Ending) (w' : World) : Prop := ∃ v ys, e = .returned v ∧ ys.length ≤ n ∧ OwnI w.heap.size w' v ys ∧ SrcAt w' g m ∧ Off (· = g) w w'
set_option maxHeartbeats 4000000 in
set_option maxRecDepth 100000 in
theorem l03DrawN_any {g m : Nat} (most : Nat) (w : World) (h : SrcAt w g m) (hmo : most ≤ 20) (hm : m + 4000 ≤ 1099511627776) :
    Calls Tryz.prog 40 #[.pointer (some ⟨g, 0, none⟩), .int .i64 (most : Int)] w (DrewL g (m + 2000) most w) := by
  have hg := h.lt
  have h0 := OwnI.lit (B := w.heap.size) w [] (Nat.le_refl _) (by simp [maxLen])
  have hb := (Below.refl w.heap.size w).alloc (Nat.le_refl _) (.cells #[] 2)
  have hs := h.below hb
  go_enter Tryz.func40, Tryz.ntmps40
  go_wp2_with fail
  refine (pick_any ((most : Int) + 1) _ hs (by omega) (by omega)).mono ?_
  rintro e w1 ⟨k0, hk0, rfl, hs1, ho1⟩
  have hk0a := (pickP_pos hk0 (by omega)).1
  have hk0b := (pickP_pos hk0 (by omega)).2
  have hown1 := h0.offF ho1 hg
  have HO1 := Lib.hid ((Off.of_below (· = g) hb).trans ho1)
  have HS1 := Lib.hid hs1
  clear h h0 hb hs ho1 hk0 hs1
  go_wp2_with fail
  go_loopw [5, 6] (fun v k wr => ∃ (j : Int) (xs : List Int), k = .int .i64 j ∧ 0 ≤ j ∧ j ≤ k0 ∧ OwnI w.heap.size wr v xs ∧ ((xs.length : Int) = k0 - j) ∧ SrcAt wr g (m + 30 + 22 * xs.length) ∧ Off (· = g) w wr) (fun _ k _ => (intOf k).toNat)
  case atStart => exact ⟨k0, [], rfl, by omega, by omega, hown1, by simp, HS1.out.mono (by simp), HO1.out⟩
  case round =>
    obtain ⟨j, xs, rfl, hj1, hj2, hown, hlen, hs, ho⟩ := hrel
    have HO := Lib.hid ho
    have hB : w.heap.size ≤ wr.heap.size := ho.size
    clear hown1 HS1 HO1 ho
    obtain ⟨wi, rfl⟩ : ∃ wi : World, wi = wr := ⟨_, rfl⟩
    by_cases hj : 0 < j
    · have hxl : xs.length ≤ 20 := by omega
      go_upto_region 5 with fail
      go_wp2_with (first
        | (go_at_call 74; refine (l01Draw_any _ hs (by omega)).mono ?_; rintro e w6 ⟨y, hy, rfl, hs6, ho6⟩; have hown6 := hown.offF ho6 hg; have HO6 := HO.out.trans ho6; have hz6 := HO6.size; clear hs hown ho6 HO)
        | (at_builtin; refine wpList_append_one rfl _ _ rfl rfl hown6 rfl (Below.refl w.heap.size w6) (by omega) hz6 (Nat.le_refl _) ?_; intro v' w5 hown5 hb5 hz5 hk5; have hs5 := hs6.stay hg (fun k h1 _ => hb5.block k h1); have HO5 := Lib.hid (HO6.afterD hb5); clear hown6 hs6 HO6)
        | fail)
      go_roundw
      case rel => exact ⟨j - 1, xs ++ [y], by go_num, by omega, by omega, hown5, by simp; omega, hs5.mono (by simp; omega), HO5.out⟩
      case measure => simp [intOf] <;> omega
    · go_wp2_with fail
      go_ret
      exact ⟨_, _, rfl, by omega, hown, hs.mono (by omega), HO.out⟩
set_option maxHeartbeats 4000000 in
set_option maxRecDepth 100000 in
theorem l03BentN_any {g m : Nat} (w : World) (h : SrcAt w g m) (hm : m + 8000 ≤ 1099511627776) :
    Calls Tryz.prog 41 #[.pointer (some ⟨g, 0, none⟩)] w (DrewL g (m + 4000) 4001 w) := by
  have hg := h.lt
  go_enter Tryz.func41, Tryz.ntmps41
  go_wp2_with fail
  refine (l03DrawN_any 12 w h (by omega) (by omega)).mono ?_
  rintro e w1 ⟨v, xs, rfl, hx, hown1, hs1, ho1⟩
  have hz1 := ho1.size
  have HO1 := Lib.hid ho1
  clear h ho1
  go_wp2_with fail
  refine (pick_any 24 w1 hs1 (by omega) (by omega)).mono ?_
  rintro e w2 ⟨x, hk, rfl, hs2, ho2⟩
  have HO2 := Lib.hid (HO1.out.trans ho2)
  have hown2 := hown1.offF ho2 hg
  have hz2 := ho2.size
  clear hs1 ho2 hown1 HO1 hk
  by_cases x0 : x = 0
  · subst x0
    have A1 := Lib.hid (amongLit_any [2147483648, -2147483649, -9223372036854775808] w2 hs2 (by simp) (by simp) (by omega))
    go_wp2_with (first
      | (go_at_call 34; refine A1.out.mono ?_; rintro e w3 ⟨y, hy, rfl, hs3, ho3⟩; have hown3 := hown2.offF ho3 hg; have HO3 := HO2.out.trans ho3; have hz3 := HO3.size; clear hs2 hown2 ho3 HO2 hy)
      | (at_builtin; refine wpList_append_one rfl _ _ rfl rfl hown3 rfl (Below.refl w.heap.size w3) (by omega) hz3 (Nat.le_refl _) ?_; intro v' w5 hown5 hb5 hz5 hk5; have hs5 := hs3.stay hg (fun k h1 _ => hb5.block k h1); have HO5 := Lib.hid (HO3.afterD hb5); clear hown3 hs3 HO3)
      | fail)
    go_ret
    exact ⟨_, _, rfl, by simp; omega, hown5, hs5.mono (by omega), HO5.out⟩
  have q0 : (x == 0) = false := by rw [beq_eq_false_iff_ne]; exact x0
  by_cases x1 : x = 1
  · subst x1
    go_wp2_with fail
    refine (pick_any 3 w2 hs2 (by omega) (by omega)).mono ?_
    rintro e w3 ⟨y, hy, rfl, hs3, ho3⟩
    have hy1 := (pickP_pos hy (by omega)).1
    have hy2 := (pickP_pos hy (by omega)).2
    obtain ⟨k, rfl⟩ : ∃ k : Nat, y = k := ⟨y.toNat, by omega⟩
    have ZE : Hid (Calls Tryz.prog 75 #[.int .i64 (3999 + (k : Int))] w3 fun e w' => ∃ v, e = .returned v ∧ OwnI w3.heap.size w' v (List.replicate (3999 + k) 0) ∧ Below w3.heap.size w3 w') := by
      have := l03Zeros_any (3999 + (k : Int)) w3 (by omega) (by omega)
      rwa [show (3999 + (k : Int)).toNat = 3999 + k by omega] at this
    have HO3 := Lib.hid (HO2.out.trans ho3)
    have hz3 := HO3.out.size
    have hw : IntKind.i64.wrap (3999 + (k : Int)) = 3999 + (k : Int) := wrapIn_F (by omega) (by omega)
    clear hy hs2 ho3 HO2 hown2
    go_wp2_with (first | (go_at_call 75; refine ZE.out.mono ?_; rintro e w4 ⟨v4, rfl, ho4, hb4⟩) | fail)
    go_ret
    exact ⟨_, _, rfl, by rw [List.length_replicate]; omega, ho4.mono hz3, (hs3.below hb4).mono (by omega), HO3.out.afterD (hb4.mono hz3)⟩
  have q1 : (x == 1) = false := by rw [beq_eq_false_iff_ne]; exact x1
  go_wp2_with fail
  go_ret
  exact ⟨_, _, rfl, by omega, hown2, hs2.mono (by omega), HO2.out⟩
/-- a drawn list of lists of its own -/
def DrewLL (g m n r : Nat) (w : World) (e : Ending) (w' : World) : Prop := ∃ v xss L, e = .returned v ∧ xss.length ≤ n ∧ (∀ xs ∈ xss, xs.length ≤ r) ∧ OwnII w.heap.size w' v xss L ∧ SrcAt w' g m ∧ Off (· = g) w w'
theorem snoc_lenF {n : Nat} {xss : List (List Int)} {xs : List Int} (h : ∀ x ∈ xss, x.length ≤ n) (hx : xs.length ≤ n) : ∀ x ∈ xss ++ [xs], x.length ≤ n := fun x hm => by
  rcases List.mem_append.1 hm with h1 | h1
  · exact h x h1
  · rw [List.mem_singleton.1 h1]; exact hx
set_option maxHeartbeats 4000000 in
set_option maxRecDepth 100000 in
theorem l08DrawIn_any {g m gp : Nat} {inp : Int} {v1 v2 v3 : Value} (w : World) (h : SrcAt w g m) (hp : Box w gp [.int .i64 inp, v1, v2, v3] 28) (hi : -1 ≤ inp) (hm : m + 40000 ≤ 1099511627776) :
    Calls Tryz.prog 18 #[.pointer (some ⟨g, 0, none⟩), .pointer (some ⟨gp, 0, none⟩)] w (DrewLL g (m + 20000) 6 4001 w) := by
  have hg := h.lt
  have hgp := hp.lt
  have z0 := hp.cell 0 rfl
  have h0 := OwnII.empty (B := w.heap.size) w (Nat.le_refl _)
  have hb := (Below.refl w.heap.size w).alloc (Nat.le_refl _) (.cells #[] 26)
  have hs := h.below hb
  obtain ⟨k0, hk0⟩ : ∃ k, k = min inp 5 := ⟨_, rfl⟩
  have hk1 : -1 ≤ k0 := by omega
  have hk2 : k0 ≤ 5 := by omega
  have MN : Hid (∀ W, Calls Tryz.prog 39 #[.int .i64 inp, .int .i64 5] W fun e w' => e = .returned (.int .i64 k0) ∧ W = w') := fun W => by rw [hk0]; exact l00Min_any _ _ _
  have HO0 := Lib.hid (Off.of_below (· = g) hb)
  clear h hk0 hb
  go_enter Tryz.func18, Tryz.ntmps18
  go_upto_region 3 with (first | (go_at_call 39; refine (MN.out _).mono ?_; rintro e w' ⟨rfl, hw⟩; obtain rfl := hw) | fail)
  go_wp2_with fail
  go_loopw [5, 6] (fun v k wr => ∃ (j : Int) (xss : List (List Int)) (L : List Value), k = .int .i64 j ∧ -1 ≤ j ∧ (xss.length : Int) + j ≤ 5 ∧ xss.length ≤ 5 ∧ (∀ xs ∈ xss, xs.length ≤ 4001) ∧ OwnII w.heap.size wr v xss L ∧ SrcAt wr g (m + 10 + 2000 * xss.length) ∧ Off (· = g) w wr) (fun _ k _ => (intOf k).toNat)
  case atStart => exact ⟨k0, [], [], rfl, hk1, by simpa using hk2, by simp, by simp, h0, hs.mono (by simp), HO0.out⟩
  case round =>
    obtain ⟨j, xss, L, rfl, hj1, hj2, hx5, hxr, hown, hs', ho⟩ := hrel
    clear h0 hs HO0 z0 MN
    obtain ⟨wi, rfl⟩ : ∃ wi : World, wi = wr := ⟨_, rfl⟩
    have HO := Lib.hid ho
    have HXR := Lib.hid hxr
    have HXL := Lib.hid (And.intro hj2 hx5)
    have hsz : w.heap.size ≤ wi.heap.size := ho.size
    clear ho hxr
    by_cases hj : 0 < j
    · have LD := Lib.hid (l03DrawN_any 14 wi hs' (by omega) (by omega))
      have HJ := Lib.hid hj
      have hj5' : j ≤ 5 := by omega
      clear hj2 hx5
      go_upto_region 5 with fail
      go_wp2_with (first
        | (go_at_call 40; refine LD.out.mono ?_; rintro e w1 ⟨v1', ys, rfl, hyl, hrow, hs1, ho1⟩; obtain ⟨qv, cv, rfl, -⟩ := hrow.rd; have hown1 := hown.offD ho1 hg; have HO1 := Lib.hid (HO.out.trans ho1); have hz1 : w.heap.size ≤ w1.heap.size := HO1.out.size; have hone := hrow.oneCell; have hlen : L.length < 1099511627776 := (by have := hown.2.1.1; have := HXL.out; omega); have hnew : Hid (∀ b, (Value.slice qv ys.length cv).ownBlock = some b → ¬ Blk L b) := (fun b hb hbk => by (have h1 := (hrow.lt hb).1; have h2 := (hown.2.1.blk hbk).2.1; omega)); have HYL := Lib.hid hyl; clear hyl)
        | (at_builtin; refine wpList_append_val rfl _ _ rfl 24 (.slice none 0 0) Tryz.underlying24 infoII rfl (by omega) rfl hown1.1 rfl hone (Below.refl w.heap.size w1) hlen hz1 (Nat.le_refl _) ?_; intro v' w2 hown2 hbel2 _ hk2')
        | fail)
      have hfin := hown1.snoc (hrow.mono hsz) hnew.out hown2 hk2'
      have HF := Lib.hid hfin
      have HS := Lib.hid (hs1.stay hg (fun k h1 _ => hbel2.block k h1))
      have HO2 := Lib.hid (HO1.out.afterD hbel2)
      clear hfin hown2 hown1 hs1
      go_roundw
      case rel => exact ⟨j - 1, xss ++ [ys], _, by go_num, by have := HJ.out; omega, by have := HXL.out.1; simp; omega, by have := HXL.out.1; simp; omega, snoc_lenF HXR.out (by have := HYL.out; omega), HF.out, HS.out.mono (by simp; omega), HO2.out⟩
      case measure => have := HJ.out; simp [intOf] <;> omega
    · have PK := Lib.hid (pick_any 24 wi hs' (by omega) (by omega))
      go_upto_region 7 with (first | (go_at_call 36; refine PK.out.mono ?_; rintro e w1 ⟨c, -, rfl, hs1, ho1⟩) | fail)
      have hown1 := hown.offD ho1 hg
      have HO1 := Lib.hid (HO.out.trans ho1)
      have hz1 : w.heap.size ≤ w1.heap.size := HO1.out.size
      have hL : L.length = xss.length := hown1.2.1.1
      obtain ⟨pl, cl, hpl⟩ := hown1.1.sl'
      subst hpl
      have HLL := Lib.hid hL
      clear PK ho1 hown hL
      by_cases c0 : c = 0
      · subst c0
        have hba := (Below.refl w1.heap.size w1).alloc (Nat.le_refl _) (.cells #[] 2)
        have hrow : OwnI w1.heap.size (w1.alloc (.cells #[] 2)) (.slice (some ⟨w1.heap.size, 0, none⟩) 0 0) [] := OwnI.lit (B := w1.heap.size) w1 [] (Nat.le_refl _) (by simp [maxLen])
        have own1 := hown1.below hba
        have hnew : ∀ b, (Value.slice (some ⟨w1.heap.size, 0, none⟩) 0 0).ownBlock = some b → ¬ Blk L b := fun b hb hbk => by
          have h1 := (hrow.lt hb).1
          have h2 := (hown1.2.1.blk hbk).2.1
          omega
        have hlen : L.length < 1099511627776 := by have := HLL.out; omega
        have hzA : w.heap.size ≤ (w1.alloc (.cells #[] 2)).heap.size := Nat.le_trans hz1 hba.size
        have HSA := Lib.hid (hs1.below hba)
        have HOA := Lib.hid (HO1.out.afterD (hba.mono hz1))
        go_wp2_with (first
          | (at_builtin; refine wpList_append_val rfl _ _ rfl 24 (.slice none 0 0) Tryz.underlying24 infoII rfl (by omega) rfl own1.1 (by first | rfl | (rw [World.size_alloc]; rfl)) rfl (Below.refl w.heap.size (w1.alloc (.cells #[] 2))) hlen hzA (Nat.le_refl _) ?_; intro v' w2 hown2 hbel2 _ hk2')
          | fail)
        have hfin := own1.snoc (hrow.mono hz1) hnew hown2 hk2'
        go_ret
        exact ⟨_, xss ++ [[]], _, rfl, by (rw [List.length_append, List.length_singleton]; omega), snoc_lenF HXR.out (by simp), hfin, (HSA.out.stay hg (fun k h1 _ => hbel2.block k h1)).mono (by omega), HOA.out.afterD hbel2⟩
      have q0 : (c == 0) = false := by rw [beq_eq_false_iff_ne]; exact c0
      by_cases hc1 : c = 1
      · subst hc1
        by_cases hx0 : 0 < L.length
        · have LB := Lib.hid (l03BentN_any w1 hs1 (by omega))
          obtain ⟨b0, hpl0⟩ : ∃ b0, pl = some ⟨b0, 0, none⟩ := by
            rcases hown1.1.cases with ⟨h1, h2⟩ | ⟨g0, c0', h1, -, -, -, -⟩
            · rw [h2] at hx0; simp at hx0
            · exact ⟨g0, ((Value.slice.injEq _ _ _ _ _ _).mp h1).1⟩
          subst hpl0
          go_wp2_with (first
            | (go_at_call 41; refine LB.out.mono ?_; rintro e w3 ⟨v3', ys, rfl, hyl, hrow, hs3, ho3⟩; obtain ⟨qv, cv, rfl, -⟩ := hrow.rd; have hown3 := hown1.offD ho3 hg; have HO3 := Lib.hid (HO1.out.trans ho3); have hz3 : w1.heap.size ≤ w3.heap.size := ho3.size; obtain ⟨-, hB3, hl3, hc3, hf3, -⟩ := hown3.1.storing (k := 0) hx0; have HYL := Lib.hid hyl; clear hyl)
            | fail)
          have hne : ∀ b, (Value.slice qv ys.length cv).ownBlock = some b → b ≠ b0 := fun b hb e => (Typed.of hown3.1).ne (Typed.of hrow) (by decide) (k := b0) rfl (e ▸ hb)
          have hx0' : 0 < xss.length := by rw [← HLL.out]; exact hx0
          have fin : OwnII w.heap.size (w3.setCell ⟨b0, 0, none⟩ (.slice qv ys.length cv)) (.slice (some ⟨b0, 0, none⟩) L.length cl) (xss.set 0 ys) (L.set 0 (.slice qv ys.length cv)) := by
            refine ⟨(hown3.1.storing (k := 0) hx0).2.2.2.2.2 _, hown3.2.1.putAtD hx0' ((hrow.mono hz1).keep fun b hb => Below.heap_setCell _ _ _ _ (hne b hb)) fun i hi _ j hj => Below.heap_setCell _ _ _ _ fun e => ?_, Dis.setOneD hown3.2.2 0 fun b hb hbk => ?_⟩
            · have e' : j = b0 := e
              exact hown3.1.off (by decide) hown3.2.1 (k := b0) rfl ⟨L[i], List.getElem_mem hi, e' ▸ hj⟩
            · have h1 := (hrow.lt hb).1
              have h2 := (hown1.2.1.blk hbk).2.1
              omega
          go_ret
          exact ⟨_, _, _, rfl, by (rw [List.length_set]; omega), fun x hx => by
            rcases List.mem_or_eq_of_mem_set hx with h | rfl
            · exact HXR.out x h
            · exact HYL.out, fin, (hs3.stay hg (fun k h1 _ => Below.heap_setCell _ _ _ _ (show k ≠ b0 by omega))).mono (by omega), HO3.out.setD hB3 _⟩
        · go_wp2_with fail
          go_ret
          exact ⟨_, xss, L, rfl, by omega, HXR.out, hown1, hs1.mono (by omega), HO1.out⟩
      have q1 : (c == 1) = false := by rw [beq_eq_false_iff_ne]; exact hc1
      go_wp2_with fail
      go_ret
      exact ⟨_, xss, L, rfl, by omega, HXR.out, hown1, hs1.mono (by omega), HO1.out⟩
theorem l08DrawCount_any {g m : Nat} (w : World) (h : SrcAt w g m) (hm : m + 100 ≤ 1099511627776) :
    Calls Tryz.prog 19 #[.pointer (some ⟨g, 0, none⟩)] w fun e w' => ∃ n : Int, e = .returned (.int .i64 n) ∧ -1 ≤ n ∧ n ≤ 4001 ∧ SrcAt w' g (m + 10) ∧ Off (· = g) w w' := by
  have ON := Lib.hid (one_any 20 w h (by omega) (by omega))
  go_enter Tryz.func19, Tryz.ntmps19
  go_upto_region 2 with (first | (go_at_call 37; refine ON.out.mono ?_; rintro e w1 ⟨bo, rfl, hs1, ho1⟩; cases bo) | fail)
  · have PK := Lib.hid (pick_any 20 w1 hs1 (by omega) (by omega))
    go_wp2_with (first | (go_at_call 36; refine PK.out.mono ?_; rintro e w2 ⟨n, hn, rfl, hs2, ho2⟩; have hn2 := pickP_pos hn (by omega)) | fail)
    go_ret
    exact ⟨n, rfl, by omega, by omega, hs2.mono (by omega), ho1.trans ho2⟩
  · have A0 := Lib.hid (amongLit_any [-1, 4001, 0] w1 hs1 (by simp) (by simp) (by omega))
    go_wp2_with (first | (go_at_call 34; refine A0.out.mono ?_; rintro e w2 ⟨n, hn, rfl, hs2, ho2⟩) | fail)
    simp only [List.mem_cons, List.not_mem_nil, or_false] at hn
    go_ret
    exact ⟨n, rfl, by omega, by omega, hs2.mono (by omega), ho1.trans ho2⟩
end Go.Proofs.YtaapkpjokmoekaaGreatDoor

namespace Go.Proofs.YtaapkpjokmoekaaGreatDoor
open Go.ChangeShapes Go.WideShapes Go.ChangeAt Go.RowKit Go.Sort
set_option linter.unusedVariables false
set_option linter.unusedSimpArgs false

/-- a drawn patch, drawn inputs, a drawn number of samples -/
def DrewR (w : World) (e : Ending) (w' : World) : Prop := ∃ (x : PatchD) (vx : Value) (ins : List (List Int)) (q : Option Addr) (c : Nat) (n : Int), e = .returned (.tuple #[vx, .slice q ins.length c, .int .i64 n]) ∧ VPatch w' vx x ∧ RdII w' q ins ∧ ins.length ≤ 6 ∧ (∀ a ∈ ins, a.length ≤ 4001) ∧ -1 ≤ n ∧ n ≤ 4001 ∧ Below w.heap.size w w'
set_option maxHeartbeats 2000000 in
set_option maxRecDepth 100000 in
theorem drawRender_any {p : Option Addr} {c : Nat} {bs : List Int} (w : World) (hr : RdB w p bs) (hl : bs.length ≤ 1048576) :
    Calls Tryz.prog 5 #[.slice p bs.length c] w (DrewR w) := by
  obtain ⟨r2, hr2⟩ : ∃ r, r = w.heap.size := ⟨_, rfl⟩
  obtain ⟨E, hE⟩ : ∃ E, E = w.alloc (.cells zPatch.toArray 28) := ⟨_, rfl⟩
  have hB0 : Below w.heap.size w E := by rw [hE]; exact (Below.refl _ _).alloc (Nat.le_refl _) _
  have q2 : Box E r2 zPatch 28 := by rw [hE, hr2]; exact Box.newAt w zPatch _ rfl
  have LF := Lib.hid (l00From_any (c := c) E (hr.below hB0) hl)
  have HE := Lib.hid hE
  have HR2 := Lib.hid hr2
  have hw2 : w.heap.size ≤ r2 := by omega
  have h2E : r2 < E.heap.size := q2.lt
  have HB := Lib.hid hB0
  clear hE hr2 hr hB0
  go_enter Tryz.func5, Tryz.ntmps5
  go_upto_region 1 with fail
  rw [← HE.out, ← HR2.out]
  go_upto_region 2 with (first | (go_at_call 16; refine LF.out.mono ?_; rintro e W1 ⟨rfl, hs1, hb1⟩) | fail)
  obtain ⟨g, hg⟩ : ∃ g, g = E.heap.size := ⟨_, rfl⟩
  rw [← hg] at hs1 ⊢
  have h2g : r2 < g := by omega
  replace q2 := q2.below hb1
  have hB1 : Below w.heap.size w W1 := HB.out.trans (hb1.mono HB.out.size)
  have BT := Lib.hid (l07Bent_any W1 hs1 (by omega))
  obtain ⟨B, hB⟩ : ∃ B, B = W1.heap.size := ⟨_, rfl⟩
  have hgB : g < B := by have := hs1.lt; omega
  have HGE := Lib.hid hg
  clear hg hb1 hs1 LF
  go_upto_region 3 with (first | (go_at_call 17; refine BT.out.mono ?_; rintro e W2 ⟨x, v1, v2, v3, L1, L, rfl, ho2, hs2, ho, hbt⟩; obtain ⟨p1, c1, rfl⟩ := ho2.o1.sl'; obtain ⟨p2, c2, rfl⟩ := ho2.o2.sl; obtain ⟨p3, c3, rfl, -⟩ := ho2.o3.rd) | fail)
  obtain ⟨s6, hs6⟩ : ∃ s, s = W2.heap.size := ⟨_, rfl⟩
  obtain ⟨W3, hW3⟩ : ∃ W, W = W2.alloc (.cells #[.int .i64 x.inputs, .slice p1 L1.length c1, .slice p2 x.nodes.length c2, .slice p3 x.outputs.length c3] 28) := ⟨_, rfl⟩
  have hb3 : Below W2.heap.size W2 W3 := by rw [hW3]; exact (Below.refl _ _).alloc (Nat.le_refl _) _
  have b6 : Box W3 s6 [.int .i64 x.inputs, .slice p1 L1.length c1, .slice p2 x.nodes.length c2, .slice p3 x.outputs.length c3] 28 := by rw [hW3]; exact Box.newAt W2 [.int .i64 x.inputs, .slice p1 L1.length c1, .slice p2 x.nodes.length c2, .slice p3 x.outputs.length c3] _ hs6
  have hBs6 : B ≤ s6 := by rw [hB, hs6]; exact ho.size
  rw [← hW3, ← hs6]
  have o6 : OwnP B W3 (.slice p1 L1.length c1) (.slice p2 x.nodes.length c2) (.slice p3 x.outputs.length c3) x.tables x.nodes x.outputs L1 L := by rw [hB]; exact ho2.below hb3
  have q23 := (q2.off ho (by show ¬ r2 = g; omega)).below hb3
  have hs3 := (hs2.below hb3).mono (m' := 20000) (by omega)
  have hB3 : Below w.heap.size w W3 := (hB1.trans (ho.below (fun k hk => by have : k = g := hk; omega) hB1.size)).trans (hb3.mono (Nat.le_trans hB1.size ho.size))
  have hi1 := hbt.i.1
  clear hW3 hs6 hb3 ho2 hs2 ho q2 hB1 hB BT
  have DI := Lib.hid (l08DrawIn_any W3 hs3 b6 hi1 (by omega))
  go_upto_region 4 with (first | (go_at_call 18; refine DI.out.mono ?_; rintro e W4 ⟨vi, ins, Li, rfl, hi6, hir, oi, hs4, ho4⟩; obtain ⟨qi, ci, rfl, -⟩ := oi.rd) | fail)
  have hgs6 : s6 ≠ g := by omega
  have b64 := b6.off ho4 (by show ¬ s6 = g; omega)
  have o64 := o6.keep (w' := W4) fun k hB hk _ => ho4.block k hk (by show k ≠ g; omega)
  have q24 := q23.off ho4 (by show ¬ r2 = g; omega)
  have hB4 := hB3.trans (ho4.below (fun k hk => by have : k = g := hk; omega) hB3.size)
  have hz34 : W3.heap.size ≤ W4.heap.size := ho4.size
  have h23 : r2 < W3.heap.size := q23.lt
  have hg3 : g < W3.heap.size := hs3.lt
  clear DI b6 o6 q23 hs3 hB3 ho4
  have hbd := belowDrewD W4
  have DC := Lib.hid (l08DrawCount_any W4.drew (hs4.below hbd) (by omega))
  have CK : Hid (∀ W, Off (· = g) W4 W → W.cell? ⟨s6, 0, none⟩ = some (.int .i64 x.inputs) ∧ W.cell? ⟨s6, 1, none⟩ = some (.slice p1 L1.length c1) ∧ W.cell? ⟨s6, 2, none⟩ = some (.slice p2 x.nodes.length c2) ∧ W.cell? ⟨s6, 3, none⟩ = some (.slice p3 x.outputs.length c3)) := fun W hW => by
    have b := b64.off hW (by show ¬ s6 = g; omega)
    exact ⟨b.cell 0 rfl, b.cell 1 rfl, b.cell 2 rfl, b.cell 3 rfl⟩
  refine wp_region_plan (fun W => W.cell? ⟨s6, 0, none⟩ = some (.int .i64 x.inputs) ∧ W.cell? ⟨s6, 1, none⟩ = some (.slice p1 L1.length c1) ∧ W.cell? ⟨s6, 2, none⟩ = some (.slice p2 x.nodes.length c2) ∧ W.cell? ⟨s6, 3, none⟩ = some (.slice p3 x.outputs.length c3)) 4 [(0, 1), (1, 0), (2, 0), (3, 2), (4, 3), (5, 3), (6, 3)] (by kernel_rfl) (by kernel_rfl) (CK.out _ (Off.of_below _ hbd)) ?_
  repeat ((first | refine wpPlan_take (v := ?_) rfl (by rfl) (by (intro w hSw; clear hSw; go_simp; try with_reducible rfl)) (fun _ _ _ h => h) ?_ | refine wpPlan_load (v := ?_) rfl (by rfl) (by (intro w hSw; (try dsimp only at hSw); go_simp; try with_reducible rfl)) (fun _ _ _ h => h) ?_); try simp only [List.getElem_toArray, List.getElem_cons_succ, List.getElem_cons_zero, Act.put, List.setIfInBounds_toArray, List.set_cons_zero, List.set_cons_succ])
  refine wpPlan_call rfl (by rfl) (fun K hK => ?_)
  go_simp
  refine DC.out.mono ?_; rintro e W5 ⟨n, rfl, hn1, hn2, hs5, ho5⟩; have ho5' : Off (· = g) W4 W5 := (Off.of_below _ hbd).trans ho5
  refine hK _ _ (CK.out _ ho5') ?_
  clear hK K
  try simp only [Act.put, List.setIfInBounds_toArray, List.set_cons_zero, List.set_cons_succ]
  repeat ((first | refine wpPlan_take (v := ?_) rfl (by rfl) (by (intro w hSw; clear hSw; go_simp; try with_reducible rfl)) (fun _ _ _ h => h) ?_ | refine wpPlan_load (v := ?_) rfl (by rfl) (by (intro w hSw; (try dsimp only at hSw); go_simp; try with_reducible rfl)) (fun _ _ _ h => h) ?_); try simp only [List.getElem_toArray, List.getElem_cons_succ, List.getElem_cons_zero, Act.put, List.setIfInBounds_toArray, List.set_cons_zero, List.set_cons_succ])
  have b65 := b64.off ho5' (by show ¬ s6 = g; omega)
  have o65 := o64.keep (w' := W5) fun k hB hk _ => ho5'.block k hk (by show k ≠ g; omega)
  have q25 := q24.off ho5' (by show ¬ r2 = g; omega)
  have oi5 := oi.offD ho5' hg3
  have hB5 := hB4.trans (ho5'.below (fun k hk => by have : k = g := hk; omega) hB4.size)
  have t0 := q25.cell 0 rfl
  have t1 := q25.cell 1 rfl
  have t2 := q25.cell 2 rfl
  have t3 := q25.cell 3 rfl
  have f0 := q25.frozen 0
  have f1 := q25.frozen 1
  have f2 := q25.frozen 2
  have f3 := q25.frozen 3
  have l5 := q25.lt
  have k0 := q25.set 0 (.int .i64 x.inputs)
  have k1 := k0.set 1 (.slice p1 L1.length c1)
  have k2 := k1.set 2 (.slice p2 x.nodes.length c2)
  have k3 := k2.set 3 (.slice p3 x.outputs.length c3)
  have V5 := (((((o65.setBox q25 patchT 0 (.int .i64 x.inputs)).setBox k0 patchT 1 (.slice p1 L1.length c1)).setBox k1 patchT 2 (.slice p2 x.nodes.length c2)).setBox k2 patchT 3 (.slice p3 x.outputs.length c3)).patch x.inputs).1.rd
  have oi6 := oi5.keeps (w' := (((W5.setCell ⟨r2, 0, none⟩ (.int .i64 x.inputs)).setCell ⟨r2, 1, none⟩ (.slice p1 L1.length c1)).setCell ⟨r2, 2, none⟩ (.slice p2 x.nodes.length c2)).setCell ⟨r2, 3, none⟩ (.slice p3 x.outputs.length c3)) fun k h1 _ => (Below.heap_setCell _ _ _ _ (show k ≠ r2 by omega)).trans ((Below.heap_setCell _ _ _ _ (show k ≠ r2 by omega)).trans ((Below.heap_setCell _ _ _ _ (show k ≠ r2 by omega)).trans (Below.heap_setCell _ _ _ _ (show k ≠ r2 by omega))))
  have HBW := (((hB5.setCell (p := ⟨r2, 0, none⟩) hw2 (.int .i64 x.inputs)).setCell (p := ⟨r2, 1, none⟩) hw2 (.slice p1 L1.length c1)).setCell (p := ⟨r2, 2, none⟩) hw2 (.slice p2 x.nodes.length c2)).setCell (p := ⟨r2, 3, none⟩) hw2 (.slice p3 x.outputs.length c3)
  obtain ⟨W', hW'⟩ : ∃ W', W' = (((W5.setCell ⟨r2, 0, none⟩ (.int .i64 x.inputs)).setCell ⟨r2, 1, none⟩ (.slice p1 L1.length c1)).setCell ⟨r2, 2, none⟩ (.slice p2 x.nodes.length c2)).setCell ⟨r2, 3, none⟩ (.slice p3 x.outputs.length c3) := ⟨_, rfl⟩
  rw [← hW'] at k3 V5 oi6 HBW
  have c20 := k3.cell 0 rfl
  have c21 := k3.cell 1 rfl
  have c22 := k3.cell 2 rfl
  have c23 := k3.cell 3 rfl
  have FN : Hid (DrewR w (.returned (.tuple #[.agg #[.int .i64 x.inputs, .slice p1 L1.length c1, .slice p2 x.nodes.length c2, .slice p3 x.outputs.length c3], .slice qi ins.length ci, .int .i64 n])) W') := by
    obtain ⟨p', c', e', hr'⟩ := oi6.rd
    obtain ⟨rfl, -, rfl⟩ := (Value.slice.injEq _ _ _ _ _ _).mp e'
    exact ⟨x, _, ins, qi, ci, n, rfl, V5, hr', hi6, hir, hn1, hn2, HBW⟩
  have HWW := Lib.hid hW'
  clear hW' k0 k1 k2 k3 V5 oi6 HBW oi5 oi b65 o65 q25 b64 o64 q24
  refine wpPlan_store rfl (by rfl) (fun K hK => ?_)
  go_simp
  refine hK _ _ ?_
  clear hK K
  try simp only [Act.put, List.setIfInBounds_toArray, List.set_cons_zero, List.set_cons_succ]
  rw [← HWW.out]
  refine wpPlan_store rfl (by rfl) (fun K hK => ?_)
  go_simp
  refine hK _ _ ?_
  clear hK K
  try simp only [Act.put, List.setIfInBounds_toArray, List.set_cons_zero, List.set_cons_succ]
  refine wpPlan_store rfl (by rfl) (fun K hK => ?_)
  go_simp
  refine hK _ _ ?_
  clear hK K
  try simp only [Act.put, List.setIfInBounds_toArray, List.set_cons_zero, List.set_cons_succ]
  refine wpPlan_nil ?_
  go_wp2_with fail
  refine bodyPost_ret (v := .tuple #[.agg #[.int .i64 x.inputs, .slice p1 L1.length c1, .slice p2 x.nodes.length c2, .slice p3 x.outputs.length c3], .slice qi ins.length ci, .int .i64 n]) (by simp [results, Tryz.results5, go_sem, *]) rfl ?_
  exact FN.out
end Go.Proofs.YtaapkpjokmoekaaGreatDoor

namespace Go.Proofs.YtaapkpjokmoekaaGreatDoor
open Go.ChangeShapes Go.WideShapes Go.ChangeAt Go.RowKit Go.Sort
set_option linter.unusedVariables false
set_option linter.unusedSimpArgs false

set_option maxHeartbeats 1600000 in
theorem l08Render_any {gp n : Nat} {x : PatchD} {ins : List (List Int)} {pi : Option Addr} {ci : Nat} (w : World) (h : PPatch w gp x) (hok : okB x = true) (hin : RdII w pi ins) (hi : InsOk x ins) (hn : n ≤ 4000) :
    Calls Tryz.prog 32 #[.pointer (some ⟨gp, 0, none⟩), .slice pi ins.length ci, .int .i64 (n : Int)] w fun e w' => ∃ u L, e = .returned u ∧ OwnII w.heap.size w' u (renL x ins n) L ∧ Below w.heap.size w w' := by
  have hf := (okR_len hok).1
  have ST := Lib.hid (l08Start_any w h (fun nd hnd => by
    have h1 := (formed_iff.1 hf).2.2.2.2.1 _ hnd
    unfold ndB at h1
    simp only [Bool.and_eq_true] at h1
    exact startOk_of h1.1.1) (okR_len hok).2.2)
  have HP := Lib.hid h
  have HOK := Lib.hid hok
  have HI := Lib.hid hi
  have HIN := Lib.hid hin
  clear h hok hi hin hf
  go_enter Tryz.func32, Tryz.ntmps32
  go_wp2_with fail
  refine ST.out.mono ?_
  rintro e w1 ⟨u, L, rfl, ⟨u0, L0, rfl, rfl, o⟩, hb1⟩
  obtain ⟨up, uc, rfl, -⟩ := o.rd
  have hl : (x.nodes.map startL).length = x.nodes.length := by simp
  have o : OwnII w.heap.size w1 (.slice up x.nodes.length uc) (x.nodes.map startL) L0 := by rw [← hl]; exact o
  rw [hl]
  clear hl
  obtain ⟨F, hF⟩ : ∃ F, F = w1.alloc (.cells #[.slice up x.nodes.length uc] 97) := ⟨_, rfl⟩
  obtain ⟨g, hg⟩ : ∃ g, g = w1.heap.size := ⟨_, rfl⟩
  have hbF : Below w1.heap.size w1 F := by rw [hF]; exact (Below.refl _ _).alloc (Nat.le_refl _) _
  have bs : Box F g [.slice up x.nodes.length uc] 97 := by rw [hF]; exact Box.newAt w1 _ _ hg
  have o2 := o.below hbF
  have BK : Hid (Calls Tryz.prog 67 #[.pointer (some ⟨gp, 0, none⟩), .pointer (some ⟨g, 0, none⟩), .slice pi ins.length ci, .int .i64 0, .int .i64 (n : Int)] F fun e w' => ∃ u L, e = .returned u ∧ OwnII F.heap.size w' u (renL x ins n) L ∧ Below w1.heap.size w1 w') :=
    l08Block_any (Bs := w.heap.size) hbF (by omega) (HP.out.below hb1) HOK.out (HIN.out.below hb1) HI.out bs o2 hn
  have HF := Lib.hid hF
  have HG := Lib.hid hg
  have hz := hb1.size
  have hz2 := hbF.size
  clear hF hg o o2 bs
  go_upto_region 2 with fail
  rw [← HF.out, ← HG.out]
  go_wp2_with fail
  refine BK.out.mono ?_
  rintro e w2 ⟨u2, L2, rfl, ho, hb2⟩
  obtain ⟨q, c, rfl, -⟩ := ho.rd
  go_wp2_with fail
  go_ret
  exact ⟨_, L2, rfl, ho.mono (by omega), hb1.trans (hb2.mono hz)⟩
/-! ### spec.Render -/
def sigsB (x : PatchD) (ins : List (List Int)) : Bool := ins.all (fun a => decide (a.length ≤ 4000) && a.all isSmp) && decide ((ins.length : Int) = x.inputs)
def renCode (x : PatchD) (ins : List (List Int)) (n : Int) : Int := if okB x then (if sigsB x ins && inB n 0 4000 then 0 else 2) else 1
def renRes (x : PatchD) (ins : List (List Int)) (n : Int) : List (List Int) := if renCode x ins n = 0 then renL x ins n.toNat else []
theorem sigsB_ok {x : PatchD} {ins : List (List Int)} (h : sigsB x ins = true) : InsOk x ins := by
  unfold sigsB at h
  simp only [Bool.and_eq_true, List.all_eq_true, decide_eq_true_eq] at h
  exact ⟨h.2, fun a ha => List.all_eq_true.2 (h.1 a ha).2⟩
theorem renCode_ok {x : PatchD} {ins : List (List Int)} {n : Int} (h : renCode x ins n = 0) : okB x = true ∧ sigsB x ins = true ∧ 0 ≤ n ∧ n ≤ 4000 := by
  unfold renCode at h
  split at h
  · rename_i h1
    split at h
    · rename_i h2
      rw [Bool.and_eq_true, inB_iff] at h2
      exact ⟨h1, h2.1, h2.2⟩
    · omega
  · omega
set_option maxHeartbeats 1600000 in
theorem l08Signals_any {gp : Nat} {x : PatchD} {ins : List (List Int)} {pi : Option Addr} {ci : Nat} (w : World) (h : PPatch w gp x) (hin : RdII w pi ins) :
    Calls Tryz.prog 30 #[.pointer (some ⟨gp, 0, none⟩), .slice pi ins.length ci] w fun e w' => e = .returned (.bool (sigsB x ins)) ∧ Below w.heap.size w w' := by
  obtain ⟨p1, c1, p2, c2, p3, c3, bx, -, -, -⟩ := h
  have hil := hin.len
  unfold maxLen at hil
  have HS : Hid (∀ k, k ≤ ins.length → (∀ j, j < k → ∀ a, ins[j]? = some a → (decide (a.length ≤ 4000) && a.all isSmp) = true) → ∀ b, (∀ a, ins[k]? = some a → (decide (a.length ≤ 4000) && a.all isSmp) = b) → (k < ins.length → b = false → sigsB x ins = false) ∧ (k = ins.length → sigsB x ins = decide ((ins.length : Int) = x.inputs))) := fun k hk hall b hb => by
    refine ⟨fun hlt hbf => ?_, fun he => ?_⟩
    · unfold sigsB
      rw [Bool.and_eq_false_iff]
      left
      rw [List.all_eq_false]
      refine ⟨ins[k], List.getElem_mem hlt, ?_⟩
      rw [hb _ (List.getElem?_eq_getElem hlt), hbf]; simp
    · unfold sigsB
      have : ins.all (fun a => decide (a.length ≤ 4000) && a.all isSmp) = true := List.all_eq_true.2 fun a ha => by
        obtain ⟨j, hj, rfl⟩ := List.mem_iff_getElem.1 ha
        exact hall j (by omega) _ (List.getElem?_eq_getElem hj)
      rw [this, Bool.true_and]
  generalize sigsB x ins = R at HS ⊢
  go_enter Tryz.func30, Tryz.ntmps30
  go_wp2_with fail
  go_loopw [5] (fun i wr => ∃ k : Nat, k ≤ ins.length ∧ i = .int .i64 (k : Int) ∧ Hid (∀ j, j < k → ∀ a, ins[j]? = some a → (decide (a.length ≤ 4000) && a.all isSmp) = true) ∧ Below w.heap.size w wr) (fun i _ => ins.length - (intOf i).toNat)
  case atStart => exact ⟨0, Nat.zero_le _, rfl, fun j hj => by omega, Below.refl _ _⟩
  case round =>
    obtain ⟨k, hk, rfl, HA, hbel⟩ := hrel
    obtain ⟨wi, rfl⟩ : ∃ W : World, W = wr := ⟨_, rfl⟩
    have hsz := hbel.size
    have z0 := (bx.below hbel).cell 0 rfl
    by_cases hlt : k < ins.length
    · obtain ⟨b, o, q, c, rfl, hb, hrow, hrr⟩ := (hin.below hbel).at0 hlt
      have hg : ins.getD k [] = ins[k] := by rw [List.getD_eq_getElem?_getD, List.getElem?_eq_getElem hlt]; rfl
      have hg2 : ins[k]? = some (ins.getD k []) := by rw [hg]; exact List.getElem?_eq_getElem hlt
      have LX := Lib.hid (l03Ok_any (c := c) wi hrr)
      have HS1 := Lib.hid (fun b' (hb' : (decide ((ins.getD k []).length ≤ 4000) && (ins.getD k []).all isSmp) = b') => (HS.out k hk HA.out b' (fun a ha => by rw [hg2] at ha; obtain rfl := Option.some.inj ha; exact hb')).1 hlt)
      have HA2 : Hid ((decide ((ins.getD k []).length ≤ 4000) && (ins.getD k []).all isSmp) = true → ∀ j, j < k + 1 → ∀ a, ins[j]? = some a → (decide (a.length ≤ 4000) && a.all isSmp) = true) := fun ht j hj a ha => by
        by_cases hjk : j = k
        · subst hjk
          rw [hg2] at ha
          obtain rfl := Option.some.inj ha
          exact ht
        · exact HA.out j (by omega) a ha
      clear hg hg2
      generalize ins.getD k [] = row at hrow hrr LX HS1 HA2
      generalize (decide (row.length ≤ 4000) && row.all isSmp) = bb at LX HS1 HA2
      cases bb
      · obtain rfl : R = false := HS1.out false rfl rfl
        go_wp2_with (first | (go_at_call 65; refine LX.out.mono ?_; rintro e w2 ⟨rfl, hd⟩) | fail)
        have hd2 : Below wi.heap.size wi w2 := by first | exact hd | exact hd.below _ | (obtain rfl := hd; exact Below.refl _ _)
        go_ret
        exact ⟨rfl, hbel.trans (hd2.mono hsz)⟩
      · have HA3 := Lib.hid (HA2.out rfl)
        go_wp2_with (first | (go_at_call 65; refine LX.out.mono ?_; rintro e w2 ⟨rfl, hd⟩) | fail)
        have hd2 : Below wi.heap.size wi w2 := by first | exact hd | exact hd.below _ | (obtain rfl := hd; exact Below.refl _ _)
        go_roundw
        case rel => exact ⟨k + 1, by omega, by go_num, HA3, hbel.trans (hd2.mono hsz)⟩
        case measure => simp [intOf] <;> omega
    · obtain rfl : k = ins.length := by omega
      have hR := (HS.out _ (Nat.le_refl _) HA.out false (fun a ha => by rw [List.getElem?_eq_none (Nat.le_refl _)] at ha; cases ha)).2 rfl
      have HRR := Lib.hid hR
      clear hR
      go_wp2_with fail
      go_ret
      have hq : ((ins.length : Int) == x.inputs) = decide ((ins.length : Int) = x.inputs) := by rw [Bool.eq_iff_iff, beq_iff_eq, decide_eq_true_iff]
      exact ⟨by rw [HRR.out, ← hq]; rfl, hbel⟩
/-- lists of lists and a code, as results -/
def RetII (w : World) (xss : List (List Int)) (code : Int) (e : Ending) (w' : World) : Prop := ∃ u L, e = .returned (.tuple #[u, .int .i64 code]) ∧ OwnII w.heap.size w' u xss L ∧ Below w.heap.size w w'
set_option maxHeartbeats 1600000 in
theorem specRender_any {v : Value} {x : PatchD} {ins : List (List Int)} {pi : Option Addr} {ci : Nat} (n : Int) (w : World) (h : VPatch w v x) (hin : RdII w pi ins) :
    Calls Tryz.prog 14 #[v, .slice pi ins.length ci, .int .i64 n] w (RetII w (renRes x ins n) (renCode x ins n)) := by
  obtain ⟨p1, c1, p2, c2, p3, c3, rfl, hp⟩ := PPatch.of h
  obtain ⟨g, hg⟩ : ∃ g, g = w.heap.size := ⟨_, rfl⟩
  obtain ⟨E, hE⟩ : ∃ E, E = w.alloc (.cells #[.int .i64 x.inputs, .slice p1 x.tables.length c1, .slice p2 x.nodes.length c2, .slice p3 x.outputs.length c3] 28) := ⟨_, rfl⟩
  have hB : Below w.heap.size w E := by rw [hE]; exact (Below.refl _ _).alloc (Nat.le_refl _) _
  have hpE : PPatch E g x := by rw [hg, hE]; exact hp
  have OK := Lib.hid (l07Ok_any E hpE)
  have SG := Lib.hid (fun W (hW : Below E.heap.size E W) => l08Signals_any (ci := ci) W (hpE.below hW) ((hin.below hB).below hW))
  have IN := Lib.hid (fun W => l00In_any n 0 4000 W)
  have RD : Hid (renCode x ins n = 0 → ∀ W, Below E.heap.size E W → Calls Tryz.prog 32 #[.pointer (some ⟨g, 0, none⟩), .slice pi ins.length ci, .int .i64 n] W fun e w' => ∃ u L, e = .returned u ∧ OwnII W.heap.size w' u (renL x ins n.toNat) L ∧ Below W.heap.size W w') := fun hc W hW => by
    obtain ⟨k1, k2, k3, k4⟩ := renCode_ok hc
    have := l08Render_any (ci := ci) (n := n.toNat) W (hpE.below hW) k1 ((hin.below hB).below hW) (sigsB_ok k2) (by omega)
    rwa [show ((n.toNat : Nat) : Int) = n by omega] at this
  have HC : Hid (∀ b1 b2 b3, okB x = b1 → sigsB x ins = b2 → inB n 0 4000 = b3 → renCode x ins n = if b1 then (if b2 && b3 then 0 else 2) else 1) := fun b1 b2 b3 e1 e2 e3 => by unfold renCode; rw [e1, e2, e3]
  have HRS : Hid (renRes x ins n = if renCode x ins n = 0 then renL x ins n.toNat else []) := rfl
  generalize renRes x ins n = R at HRS ⊢
  generalize renCode x ins n = C at HRS HC RD ⊢
  generalize renL x ins n.toNat = RL at HRS RD
  have HE := Lib.hid hE
  have HG := Lib.hid hg
  clear hE hg h hp hpE
  generalize okB x = b1 at OK HC
  generalize sigsB x ins = b2 at SG HC
  generalize inB n 0 4000 = b3 at IN HC
  have HC1 := Lib.hid (HC.out b1 b2 b3 rfl rfl rfl)
  clear HC
  go_enter Tryz.func14, Tryz.ntmps14
  go_upto_region 1 with fail
  rw [← HE.out, ← HG.out]
  go_wp2_with fail
  refine OK.out.mono ?_
  rintro e W1 ⟨rfl, hb1⟩
  cases b1
  · obtain rfl : C = 1 := HC1.out
    obtain rfl : R = [] := by rw [HRS.out, if_neg (by omega)]
    clear HC1 HRS RD
    go_wp2_with fail
    refine bodyPost_ret (v := .tuple #[.slice none 0 0, .int .i64 1]) (by simp [results, Tryz.results14, go_sem, *]) rfl ?_
    exact ⟨_, [], rfl, OwnII.nil0 _ _, hB.trans (hb1.mono hB.size)⟩
  go_wp2_with fail
  refine (SG.out W1 hb1).mono ?_
  rintro e W2 ⟨rfl, hb2⟩
  have hb12 := hb1.trans (hb2.mono hb1.size)
  cases b2
  · obtain rfl : C = 2 := HC1.out
    obtain rfl : R = [] := by rw [HRS.out, if_neg (by omega)]
    clear HC1 HRS RD
    go_wp2_with fail
    refine bodyPost_ret (v := .tuple #[.slice none 0 0, .int .i64 2]) (by simp [results, Tryz.results14, go_sem, *]) rfl ?_
    exact ⟨_, [], rfl, OwnII.nil0 _ _, hB.trans (hb12.mono hB.size)⟩
  cases b3
  · obtain rfl : C = 2 := HC1.out
    obtain rfl : R = [] := by rw [HRS.out, if_neg (by omega)]
    clear HC1 HRS RD
    go_wp2_with (first | (go_at_call 31; refine (IN.out _).mono ?_; rintro e w' ⟨rfl, rfl⟩) | fail)
    refine bodyPost_ret (v := .tuple #[.slice none 0 0, .int .i64 2]) (by simp [results, Tryz.results14, go_sem, *]) rfl ?_
    exact ⟨_, [], rfl, OwnII.nil0 _ _, hB.trans (hb12.mono hB.size)⟩
  · obtain rfl : C = 0 := HC1.out
    obtain rfl : R = RL := by rw [HRS.out, if_pos rfl]
    have RD1 := Lib.hid (RD.out rfl)
    clear HC1 HRS RD
    go_wp2_with (first | (go_at_call 31; refine (IN.out _).mono ?_; rintro e w' ⟨rfl, rfl⟩) | fail)
    refine (RD1.out W2 hb12).mono ?_
    rintro e W3 ⟨u, L, rfl, ho, hb3⟩
    obtain ⟨q, c, rfl, -⟩ := ho.rd
    go_wp2_with fail
    refine bodyPost_ret (v := .tuple #[.slice q R.length c, .int .i64 0]) (by simp [results, Tryz.results14, go_sem, *]) rfl ?_
    exact ⟨_, L, rfl, ho.mono (Nat.le_trans hB.size hb12.size), hB.trans ((hb12.trans (hb3.mono hb12.size)).mono hB.size)⟩
end Go.Proofs.YtaapkpjokmoekaaGreatDoor

namespace Go.Proofs.YtaapkpjokmoekaaGreatDoor
open Go.ChangeShapes Go.WideShapes Go.ChangeAt Go.RowKit Go.Sort
set_option linter.unusedVariables false
set_option linter.unusedSimpArgs false

theorem b10Long_any (p : Option Addr) (n c : Nat) (w : World) (hn : n ≤ maxLen) :
    Calls Tryz.prog 4 #[.slice p n c] w fun e w' => e = .returned (.bool (decide (1048576 < (n : Int)))) ∧ w' = w := by
  unfold maxLen at hn
  go_enter Tryz.func4, Tryz.ntmps4
  go_wp2
  go_ret
  exact ⟨rfl, rfl⟩
set_option maxHeartbeats 2000000 in
theorem b10Nums_true {p q : Option Addr} {c d : Nat} {xs : List Int} (w : World) (h : RdI w p xs) (h' : RdI w q xs) (hl : xs.length ≤ 1048576) :
    Calls Tryz.prog 33 #[.slice p xs.length c, .slice q xs.length d] w fun e w' => e = .returned (.bool true) ∧ Below w.heap.size w w' := by
  go_enter Tryz.func33, Tryz.ntmps33
  go_wp2_with fail
  go_loopw [5] (fun i wr => ∃ k : Nat, k ≤ xs.length ∧ i = .int .i64 (k : Int) ∧ Drawn w wr) (fun i _ => xs.length - (intOf i).toNat)
  case atStart => exact ⟨0, Nat.zero_le _, rfl, Drawn.refl _⟩
  case round =>
    obtain ⟨k, hk, rfl, hdr⟩ := hrel
    by_cases hlt : k < xs.length
    · obtain ⟨b, o, rfl, hb, hc⟩ := (hdr.rdI h).pos hlt
      obtain ⟨b', o', rfl, hb', hc'⟩ := (hdr.rdI h').pos hlt
      have z1 := hc k hlt
      have z2 := hc' k hlt
      generalize xs[k] = x at z1 z2
      clear hc hc'
      go_wp2_with fail
      go_quiet (fail)
      go_wp2_with fail
      go_roundw
      case rel => exact ⟨k + 1, by omega, by go_num, hdr.on _⟩
      case measure => simp [intOf] <;> omega
    · obtain rfl : k = xs.length := by omega
      go_wp2_with fail
      go_ret
      obtain ⟨m, rfl⟩ := hdr
      exact ⟨rfl, below_drewN (Below.refl _ _) m⟩
set_option maxHeartbeats 2000000 in
theorem b10Lists_true {p q : Option Addr} {c d : Nat} {xss : List (List Int)} (w : World) (h : RdII w p xss) (h' : RdII w q xss) (hl : xss.length ≤ 1048576) (hr : ∀ a ∈ xss, a.length ≤ 1048576) :
    Calls Tryz.prog 15 #[.slice p xss.length c, .slice q xss.length d] w fun e w' => e = .returned (.bool true) ∧ Below w.heap.size w w' := by
  go_enter Tryz.func15, Tryz.ntmps15
  go_wp2_with fail
  go_loopw [5] (fun i wr => ∃ k : Nat, k ≤ xss.length ∧ i = .int .i64 (k : Int) ∧ Below w.heap.size w wr) (fun i _ => xss.length - (intOf i).toNat)
  case atStart => exact ⟨0, Nat.zero_le _, rfl, Below.refl _ _⟩
  case round =>
    obtain ⟨k, hk, rfl, hbel⟩ := hrel
    obtain ⟨wi, rfl⟩ : ∃ W : World, W = wr := ⟨_, rfl⟩
    have hsz := hbel.size
    by_cases hlt : k < xss.length
    · obtain ⟨b, o, q1, c1, rfl, hb, hrow, hrr⟩ := (h.below hbel).at0 hlt
      obtain ⟨b', o', q2, c2, rfl, hb', hrow', hrr'⟩ := (h'.below hbel).at0 hlt
      have hg : xss.getD k [] = xss[k] := by rw [List.getD_eq_getElem?_getD, List.getElem?_eq_getElem hlt]; rfl
      have hra : (xss.getD k []).length ≤ 1048576 := by rw [hg]; exact hr _ (List.getElem_mem hlt)
      clear hg
      generalize xss.getD k [] = row at hrow hrow' hrr hrr' hra
      have KN : Hid (∀ W, Below wi.heap.size wi W → Calls Tryz.prog 33 #[.slice q1 row.length c1, .slice q2 row.length c2] W fun e w' => e = .returned (.bool true) ∧ Below W.heap.size W w') := fun W hW => b10Nums_true W (hrr.below hW) (hrr'.below hW) hra
      have CK : Hid (∀ W, Below wi.heap.size wi W → W.cell? ⟨b, o + k, none⟩ = some (.slice q1 row.length c1) ∧ W.cell? ⟨b', o' + k, none⟩ = some (.slice q2 row.length c2)) := fun W hW => ⟨(hW.cell (p := ⟨b, o + k, none⟩) hb).trans hrow, (hW.cell (p := ⟨b', o' + k, none⟩) hb').trans hrow'⟩
      have hcur := belowDrew wi
      clear hrr hrr' hra
      go_wp2_with fail
      go_region_held3 (fun W => W.cell? ⟨b, o + k, none⟩ = some (.slice q1 row.length c1) ∧ W.cell? ⟨b', o' + k, none⟩ = some (.slice q2 row.length c2)) (first | go_keep | exact CK.out _ (by (repeat (first | exact Below.refl _ _ | assumption | refine Below.setCell ?_ (by first | exact Nat.le_refl _ | omega | (simp; done) | (simp; omega)) _ | refine Below.alloc ?_ (by first | exact Nat.le_refl _ | omega | (simp; done) | (simp; omega)) _ | refine below_drewN ?_ _)))) ((first | (go_at_call 33; refine (KN.out _ hcur).mono ?_; rintro e W2 ⟨rfl, hb9⟩; have hcur := hcur.trans (hb9.mono hcur.size)) | fail))
      all_goals
        go_wp2_with fail
        go_roundw
        case rel => exact ⟨k + 1, by omega, by go_num, hbel.trans (hcur.mono hsz)⟩
        case measure => simp [intOf] <;> omega
    · obtain rfl : k = xss.length := by omega
      go_wp2_with fail
      go_ret
      exact ⟨rfl, hbel⟩
end Go.Proofs.YtaapkpjokmoekaaGreatDoor

namespace Go.Proofs.YtaapkpjokmoekaaGreatDoor
set_option linter.unusedVariables false

theorem kAr_le3 : ∀ i, i < 17 → kAr i ≤ 3 := by decide
theorem src_le3 {x : NodeD} {t : Int} (h : nodeB x t = true) : x.src.length ≤ 3 := by
  unfold nodeB at h
  simp only [Bool.and_eq_true, decide_eq_true_eq] at h
  obtain ⟨i, hi, he⟩ := kind_of_in h.1.1.1.1
  have h1 := h.1.2
  rw [he, show ((i : Int) + 1 - 1).toNat = i by omega] at h1
  have := kAr_le3 i hi
  omega
theorem waits_le3 {x : NodeD} {t : Int} (h : nodeB x t = true) : (waits x).length ≤ 3 := by
  have := src_le3 h
  unfold waits
  split
  · simp
  · exact this
/-- what a node has in From -/
def srcs (nodes : List NodeD) (i : Int) : List Int := (nodes.getD i.toNat ⟨0, 0, 0, []⟩).src
/-- marks are set, a queue is worked off -/
def qrun (nodes : List NodeD) : Nat → List Bool → List Int → List Bool
  | 0, m, _ => m
  | _ + 1, m, [] => m
  | f + 1, m, i :: t => if m.getD i.toNat false then qrun nodes f m t else qrun nodes f (m.set i.toNat true) (t ++ srcs nodes i)
/-- how many marks are not set -/
def unm : List Bool → Nat
  | [] => 0
  | b :: m => (if b then 0 else 1) + unm m
theorem unm_set : ∀ (m : List Bool) (k : Nat), k < m.length → m.getD k false = false → unm (m.set k true) + 1 = unm m
  | [], k, h, _ => by simp at h
  | b :: m, 0, _, h => by
    simp only [List.getD_cons_zero] at h
    subst h
    simp only [List.set_cons_zero, unm, if_true, Bool.false_eq_true, if_false]
    omega
  | b :: m, k + 1, h, hk => by
    simp only [List.getD_cons_succ] at hk
    have := unm_set m k (by simpa using h) hk
    simp only [List.set_cons_succ, unm]
    omega
theorem unm_false : ∀ n, unm (List.replicate n false) = n
  | 0 => rfl
  | n + 1 => by rw [List.replicate_succ, unm, unm_false n]; simp; omega
theorem getD_set_self {m : List Bool} {k : Nat} (h : k < m.length) : (m.set k true).getD k false = true := by
  rw [List.getD_eq_getElem?_getD, List.getElem?_set_self h]; rfl
theorem getD_set_ne {m : List Bool} {k j : Nat} (h : k ≠ j) : (m.set k true).getD j false = m.getD j false := by
  rw [List.getD_eq_getElem?_getD, List.getElem?_set_ne h, ← List.getD_eq_getElem?_getD]
theorem getD_lt {m : List Bool} {k : Nat} (h : m.getD k false = true) : k < m.length := by
  rcases Nat.lt_or_ge k m.length with h1 | h1
  · exact h1
  · rw [List.getD_eq_getElem?_getD, List.getElem?_eq_none h1] at h; cases h

/-- the sources of all nodes lie in the patch, three at most each -/
structure SrcOk (nodes : List NodeD) : Prop where
  rng : ∀ x ∈ nodes, ∀ s ∈ x.src, 0 ≤ s ∧ s < (nodes.length : Int)
  len : ∀ x ∈ nodes, x.src.length ≤ 3
theorem srcs_rng {nodes : List NodeD} (h : SrcOk nodes) {i s : Int} (hs : s ∈ srcs nodes i) : 0 ≤ s ∧ s < (nodes.length : Int) := by
  unfold srcs at hs
  rcases Nat.lt_or_ge i.toNat nodes.length with h1 | h1
  · rw [List.getD_eq_getElem?_getD, List.getElem?_eq_getElem h1] at hs
    exact h.rng _ (List.getElem_mem h1) s hs
  · rw [List.getD_eq_getElem?_getD, List.getElem?_eq_none h1] at hs
    simp at hs
theorem srcs_len {nodes : List NodeD} (h : SrcOk nodes) (i : Int) : (srcs nodes i).length ≤ 3 := by
  unfold srcs
  rcases Nat.lt_or_ge i.toNat nodes.length with h1 | h1
  · rw [List.getD_eq_getElem?_getD, List.getElem?_eq_getElem h1]
    exact h.len _ (List.getElem_mem h1)
  · rw [List.getD_eq_getElem?_getD, List.getElem?_eq_none h1]
    simp
/-- a set of nodes with all that they have in From -/
def Shut (nodes : List NodeD) (S : Int → Prop) : Prop := ∀ i, 0 ≤ i → i < (nodes.length : Int) → S i → ∀ s ∈ srcs nodes i, S s
def mk (m : List Bool) (i : Int) : Prop := m.getD i.toNat false = true
structure QEnd (nodes : List NodeD) (m : List Bool) (t : List Int) (R : List Bool) : Prop where
  len : R.length = nodes.length
  old : ∀ i, mk m i → mk R i
  todo : ∀ i ∈ t, mk R i
  shut : Shut nodes (mk R)
  least : ∀ S : Int → Prop, Shut nodes S → (∀ i, 0 ≤ i → i < (nodes.length : Int) → mk m i → S i) → (∀ i ∈ t, S i) → ∀ i, 0 ≤ i → i < (nodes.length : Int) → mk R i → S i
theorem qrun_end {nodes : List NodeD} (ok : SrcOk nodes) : ∀ (f : Nat) (m : List Bool) (t : List Int), m.length = nodes.length → (∀ i ∈ t, 0 ≤ i ∧ i < (nodes.length : Int)) → 4 * unm m + t.length ≤ f →
    (∀ i, 0 ≤ i → i < (nodes.length : Int) → mk m i → ∀ s ∈ srcs nodes i, mk m s ∨ s ∈ t) → QEnd nodes m t (qrun nodes f m t)
  | 0, m, t, hl, ht, hf, hc => by
    obtain rfl : t = [] := List.eq_nil_of_length_eq_zero (by omega)
    exact ⟨hl, fun _ h => h, by simp, fun i h0 h1 h2 s hs => (hc i h0 h1 h2 s hs).elim id (fun h => by simp at h), fun S _ h _ i h0 h1 h2 => h i h0 h1 h2⟩
  | f + 1, m, [], hl, ht, hf, hc =>
    ⟨hl, fun _ h => h, by simp, fun i h0 h1 h2 s hs => (hc i h0 h1 h2 s hs).elim id (fun h => by simp at h), fun S _ h _ i h0 h1 h2 => h i h0 h1 h2⟩
  | f + 1, m, i :: t, hl, ht, hf, hc => by
    obtain ⟨hi0, hi1⟩ := ht i (List.mem_cons_self ..)
    have ht' : ∀ j ∈ t, 0 ≤ j ∧ j < (nodes.length : Int) := fun j hj => ht j (List.mem_cons_of_mem _ hj)
    simp only [List.length_cons] at hf
    unfold qrun
    split
    · rename_i hm
      have E := qrun_end ok f m t hl ht' (by omega) (fun j h0 h1 h2 s hs => (hc j h0 h1 h2 s hs).elim .inl fun h => by
        rcases List.mem_cons.1 h with rfl | h
        · exact .inl hm
        · exact .inr h)
      exact ⟨E.len, E.old, fun j hj => by
        rcases List.mem_cons.1 hj with rfl | hj
        · exact E.old _ hm
        · exact E.todo j hj, E.shut, fun S hS h1 h2 => E.least S hS h1 fun j hj => h2 j (List.mem_cons_of_mem _ hj)⟩
    · rename_i hm
      have hmf : m.getD i.toNat false = false := by simpa using hm
      have hk : i.toNat < m.length := by omega
      have hu := unm_set m i.toNat hk hmf
      have hs3 := srcs_len ok i
      have hmi : mk (m.set i.toNat true) i := getD_set_self hk
      have hmo : ∀ j, mk m j → mk (m.set i.toNat true) j := fun j hj => by
        unfold mk
        by_cases e : i.toNat = j.toNat
        · rw [e]; exact getD_set_self (by rw [← e]; exact hk)
        · rw [getD_set_ne e]; exact hj
      have hmn : ∀ j, 0 ≤ j → mk (m.set i.toNat true) j → j = i ∨ mk m j := fun j h0 hj => by
        unfold mk at hj
        by_cases e : i.toNat = j.toNat
        · left; omega
        · rw [getD_set_ne e] at hj; exact .inr hj
      have E := qrun_end ok f (m.set i.toNat true) (t ++ srcs nodes i) (by rw [List.length_set, hl])
        (fun j hj => by
          rcases List.mem_append.1 hj with hj | hj
          · exact ht' j hj
          · exact srcs_rng ok hj)
        (by rw [List.length_append]; omega)
        (fun j h0 h1 h2 s hs => by
          rcases hmn j h0 h2 with rfl | h2
          · exact .inr (List.mem_append_right _ hs)
          · rcases hc j h0 h1 h2 s hs with h | h
            · exact .inl (hmo s h)
            · rcases List.mem_cons.1 h with rfl | h
              · exact .inl hmi
              · exact .inr (List.mem_append_left _ h))
      refine ⟨E.len, fun j hj => E.old j (hmo j hj), fun j hj => ?_, E.shut, fun S hS h1 h2 => E.least S hS (fun j h0 hj1 hj => ?_) fun j hj => ?_⟩
      · rcases List.mem_cons.1 hj with rfl | hj
        · exact E.old _ hmi
        · exact E.todo j (List.mem_append_left _ hj)
      · rcases hmn j h0 hj with rfl | hj
        · exact h2 _ (List.mem_cons_self ..)
        · exact h1 j h0 hj1 hj
      · rcases List.mem_append.1 hj with hj | hj
        · exact h2 j (List.mem_cons_of_mem _ hj)
        · exact hS i hi0 hi1 (h2 i (List.mem_cons_self ..)) j hj
def marksL (nodes : List NodeD) (outs : List Int) : List Bool := qrun nodes (4 * nodes.length + outs.length) (List.replicate nodes.length false) outs
theorem mk_none (n : Nat) (i : Int) : ¬ mk (List.replicate n false) i := by
  unfold mk
  rw [List.getD_eq_getElem?_getD, List.getElem?_replicate]
  split <;> simp
theorem marksL_end {nodes : List NodeD} (ok : SrcOk nodes) {outs : List Int} (ho : ∀ i ∈ outs, 0 ≤ i ∧ i < (nodes.length : Int)) : QEnd nodes (List.replicate nodes.length false) outs (marksL nodes outs) :=
  qrun_end ok _ _ _ (by simp) ho (by rw [unm_false]; omega) fun i _ _ h => absurd h (mk_none _ _)
/-- the first k marks, as places -/
def ups (m : List Bool) (k : Nat) : List Int := ((List.range k).filter fun i => m.getD i false).map fun i => ((i : Nat) : Int)
theorem ups_succ (m : List Bool) (k : Nat) {b : Bool} (hb : m.getD k false = b) : ups m (k + 1) = ups m k ++ (if b then [(k : Int)] else []) := by
  unfold ups
  rw [List.range_succ, List.filter_append, List.map_append]
  congr 1
  cases b
  · have e : List.filter (fun i => m.getD i false) [k] = [] := by rw [List.filter_cons_of_neg (by rw [hb]; simp)]; rfl
    rw [e]; rfl
  · have e : List.filter (fun i => m.getD i false) [k] = [k] := by rw [List.filter_cons_of_pos (p := fun i => m.getD i false) hb]; rfl
    rw [e]; rfl
theorem ups_length (m : List Bool) (k : Nat) : (ups m k).length ≤ k := by
  unfold ups
  rw [List.length_map]
  have := List.length_filter_le (fun i => m.getD i false) (List.range k)
  rwa [List.length_range] at this
theorem mem_ups {m : List Bool} {k : Nat} {i : Int} : i ∈ ups m k ↔ 0 ≤ i ∧ i < (k : Int) ∧ mk m i := by
  unfold ups mk
  simp only [List.mem_map, List.mem_filter, List.mem_range]
  constructor
  · rintro ⟨a, ⟨h1, h2⟩, rfl⟩
    exact ⟨by omega, by omega, by simpa using h2⟩
  · rintro ⟨h1, h2, h3⟩
    exact ⟨i.toNat, ⟨by omega, h3⟩, by omega⟩
def Rising (xs : List Int) : Prop := xs.Pairwise (· < ·)
theorem ups_rising (m : List Bool) (k : Nat) : Rising (ups m k) := by
  unfold Rising ups
  rw [List.pairwise_map]
  exact ((List.pairwise_lt_range (n := k)).filter _).imp fun h => by omega
theorem rising_ext : ∀ {xs ys : List Int}, Rising xs → Rising ys → (∀ i, i ∈ xs ↔ i ∈ ys) → xs = ys
  | [], [], _, _, _ => rfl
  | [], y :: ys, _, _, h => by have := (h y).2 (List.mem_cons_self ..); simp at this
  | x :: xs, [], _, _, h => by have := (h x).1 (List.mem_cons_self ..); simp at this
  | x :: xs, y :: ys, hx, hy, h => by
    have hx' := List.pairwise_cons.1 hx
    have hy' := List.pairwise_cons.1 hy
    have e : x = y := by
      have h1 := List.mem_cons.1 ((h x).1 (List.mem_cons_self ..))
      have h2 := List.mem_cons.1 ((h y).2 (List.mem_cons_self ..))
      rcases h1 with h1 | h1
      · exact h1
      · rcases h2 with h2 | h2
        · exact h2.symm
        · have a := hx'.1 y h2
          have b := hy'.1 x h1
          omega
    subst e
    refine congrArg _ (rising_ext hx'.2 hy'.2 fun i => ?_)
    have hi := h i
    simp only [List.mem_cons] at hi
    constructor
    · intro hm
      rcases hi.1 (.inr hm) with rfl | h1
      · have := hx'.1 _ hm; omega
      · exact h1
    · intro hm
      rcases hi.2 (.inr hm) with rfl | h1
      · have := hy'.1 _ hm; omega
      · exact h1
theorem rising_len : ∀ {xs : List Int} {a : Int} {n : Nat}, Rising xs → (∀ i ∈ xs, a ≤ i ∧ i < a + n) → xs.length ≤ n
  | [], _, _, _, _ => Nat.zero_le _
  | x :: xs, a, n, hx, h => by
    have hx' := List.pairwise_cons.1 hx
    have h0 := h x (List.mem_cons_self ..)
    obtain ⟨m, rfl⟩ : ∃ m, n = m + 1 := ⟨n - 1, by omega⟩
    have := rising_len (xs := xs) (a := x + 1) (n := m) hx'.2 fun i hi => by
      have h1 := hx'.1 i hi
      have h2 := h i (List.mem_cons_of_mem _ hi)
      omega
    simp only [List.length_cons]
    omega
/-- the nodes that outputs need -/
def need (x : PatchD) : List Int := ups (marksL x.nodes x.outputs) x.nodes.length
/-! ### the reference's way -/
def putR : List Int → Int → List Int
  | [], n => [n]
  | y :: ys, n => if n ≤ y then (if n < y then n :: y :: ys else y :: ys) else y :: putR ys n
theorem mem_putR {n i : Int} : ∀ {l : List Int}, i ∈ putR l n ↔ i = n ∨ i ∈ l
  | [] => by simp [putR]
  | y :: ys => by
    unfold putR
    split
    · split
      · simp
      · obtain rfl : n = y := by omega
        simp
    · simp only [List.mem_cons, mem_putR (l := ys)]
      constructor
      · rintro (h | h | h)
        · exact .inr (.inl h)
        · exact .inl h
        · exact .inr (.inr h)
      · rintro (h | h | h)
        · exact .inr (.inl h)
        · exact .inl h
        · exact .inr (.inr h)
theorem putR_rising {n : Int} : ∀ {l : List Int}, Rising l → Rising (putR l n)
  | [], _ => by simp [putR, Rising]
  | y :: ys, h => by
    have h' := List.pairwise_cons.1 h
    unfold putR
    split
    · split
      · refine List.pairwise_cons.2 ⟨fun i hi => ?_, h⟩
        rcases List.mem_cons.1 hi with rfl | hi
        · assumption
        · have := h'.1 i hi; omega
      · exact h
    · refine List.pairwise_cons.2 ⟨fun i hi => ?_, putR_rising h'.2⟩
      rcases mem_putR.1 hi with rfl | hi
      · omega
      · exact h'.1 i hi
theorem putR_or {n : Int} : ∀ (l : List Int), putR l n = l ∨ (putR l n).length = l.length + 1
  | [] => .inr rfl
  | y :: ys => by
    unfold putR
    split
    · split
      · exact .inr rfl
      · exact .inl rfl
    · rcases putR_or (n := n) ys with h | h
      · exact .inl (by rw [h])
      · exact .inr (by simp [h])
def putAll (out : List Int) (l : List Int) : List Int := l.foldl putR out
def rndL (nodes : List NodeD) : List Int → List Int → List Int
  | out, [] => out
  | out, i :: is => rndL nodes (putAll out (srcs nodes i)) is
def sat (nodes : List NodeD) : Nat → List Int → List Int
  | 0, out => out
  | f + 1, out => if (rndL nodes out out).length > out.length then sat nodes f (rndL nodes out out) else rndL nodes out out
theorem putAll_mem {i : Int} : ∀ {l out : List Int}, i ∈ putAll out l ↔ i ∈ out ∨ i ∈ l
  | [], out => by simp [putAll]
  | y :: ys, out => by
    show i ∈ putAll (putR out y) ys ↔ _
    rw [putAll_mem, mem_putR, List.mem_cons]
    constructor
    · rintro ((h | h) | h)
      · exact .inr (.inl h)
      · exact .inl h
      · exact .inr (.inr h)
    · rintro (h | h | h)
      · exact .inl (.inr h)
      · exact .inl (.inl h)
      · exact .inr h
theorem putAll_rising : ∀ {l out : List Int}, Rising out → Rising (putAll out l)
  | [], out, h => h
  | y :: ys, out, h => putAll_rising (l := ys) (putR_rising h)
theorem putAll_or : ∀ (l out : List Int), putAll out l = out ∨ out.length < (putAll out l).length
  | [], out => .inl rfl
  | y :: ys, out => by
    show putAll (putR out y) ys = out ∨ out.length < (putAll (putR out y) ys).length
    rcases putR_or (n := y) out with h | h
    · rw [h]; exact putAll_or ys out
    · rcases putAll_or ys (putR out y) with h' | h'
      · rw [h']; right; omega
      · right; omega
theorem rndL_mem {nodes : List NodeD} {i : Int} : ∀ {is out : List Int}, i ∈ rndL nodes out is ↔ i ∈ out ∨ ∃ j ∈ is, i ∈ srcs nodes j
  | [], out => by simp [rndL]
  | j :: is, out => by
    rw [rndL, rndL_mem, putAll_mem]
    simp only [List.mem_cons, exists_eq_or_imp]
    constructor
    · rintro ((h | h) | h)
      · exact .inl h
      · exact .inr (.inl h)
      · exact .inr (.inr h)
    · rintro (h | h | h)
      · exact .inl (.inl h)
      · exact .inl (.inr h)
      · exact .inr h
theorem rndL_rising {nodes : List NodeD} : ∀ {is out : List Int}, Rising out → Rising (rndL nodes out is)
  | [], out, h => h
  | j :: is, out, h => rndL_rising (is := is) (putAll_rising h)
theorem rndL_or {nodes : List NodeD} : ∀ (is out : List Int), rndL nodes out is = out ∨ out.length < (rndL nodes out is).length
  | [], out => .inl rfl
  | j :: is, out => by
    rw [rndL]
    rcases putAll_or (srcs nodes j) out with h | h
    · rw [h]; exact rndL_or is out
    · rcases rndL_or (nodes := nodes) is (putAll out (srcs nodes j)) with h' | h'
      · rw [h']; right; exact h
      · right; omega
structure SEnd (nodes : List NodeD) (out L : List Int) : Prop where
  rising : Rising L
  rng : ∀ i ∈ L, 0 ≤ i ∧ i < (nodes.length : Int)
  old : ∀ i ∈ out, i ∈ L
  shut : ∀ i ∈ L, ∀ s ∈ srcs nodes i, s ∈ L
  least : ∀ S : Int → Prop, Shut nodes S → (∀ i ∈ out, S i) → ∀ i ∈ L, S i
theorem rndL_rng {nodes : List NodeD} (ok : SrcOk nodes) {out is : List Int} (h : ∀ i ∈ out, 0 ≤ i ∧ i < (nodes.length : Int)) : ∀ i ∈ rndL nodes out is, 0 ≤ i ∧ i < (nodes.length : Int) := fun i hi => by
  rcases rndL_mem.1 hi with hi | ⟨j, _, hi⟩
  · exact h i hi
  · exact srcs_rng ok hi
theorem sat_end {nodes : List NodeD} (ok : SrcOk nodes) : ∀ (f : Nat) (out : List Int), Rising out → (∀ i ∈ out, 0 ≤ i ∧ i < (nodes.length : Int)) → nodes.length < f + out.length → SEnd nodes out (sat nodes f out)
  | 0, out, hr, hg, hf => by
    have := rising_len (a := 0) (n := nodes.length) hr fun i hi => by have := hg i hi; omega
    omega
  | f + 1, out, hr, hg, hf => by
    unfold sat
    have hg' := rndL_rng ok (is := out) hg
    split
    · have E := sat_end ok f (rndL nodes out out) (rndL_rising hr) hg' (by omega)
      refine ⟨E.rising, E.rng, fun i hi => E.old i (rndL_mem.2 (.inl hi)), E.shut, fun S hS h => E.least S hS fun i hi => ?_⟩
      rcases rndL_mem.1 hi with hi | ⟨j, hj, hi⟩
      · exact h i hi
      · exact hS j (hg j hj).1 (hg j hj).2 (h j hj) i hi
    · rcases rndL_or (nodes := nodes) out out with h | h
      · rw [h]
        refine ⟨hr, hg, fun i hi => hi, fun i hi s hs => ?_, fun S _ h => h⟩
        have : s ∈ rndL nodes out out := rndL_mem.2 (.inr ⟨i, hi, hs⟩)
        rwa [h] at this
      · omega
def needL (nodes : List NodeD) (outs : List Int) : List Int := sat nodes (nodes.length + 1) (putAll [] outs)
theorem needL_eq {x : PatchD} (ok : SrcOk x.nodes) (ho : ∀ i ∈ x.outputs, 0 ≤ i ∧ i < (x.nodes.length : Int)) : needL x.nodes x.outputs = need x := by
  have E := sat_end ok (x.nodes.length + 1) (putAll [] x.outputs) (putAll_rising (by simp [Rising])) (fun i hi => by
    rcases putAll_mem.1 hi with h | h
    · simp at h
    · exact ho i h) (by omega)
  have M := marksL_end ok ho
  refine rising_ext E.rising (ups_rising _ _) fun i => ?_
  refine Iff.trans ?_ mem_ups.symm
  constructor
  · intro hi
    have hr := E.rng i hi
    refine ⟨hr.1, hr.2, E.least (mk (marksL x.nodes x.outputs)) M.shut (fun j hj => ?_) i hi⟩
    rcases putAll_mem.1 hj with h | h
    · simp at h
    · exact M.todo j h
  · rintro ⟨h0, h1, h2⟩
    exact M.least (· ∈ needL x.nodes x.outputs) (fun j _ _ hj s hs => E.shut j hj s hs) (fun j _ _ h => absurd h (mk_none _ _)) (fun j hj => E.old j (putAll_mem.2 (.inr hj))) i h0 h1 h2
theorem need_rng {x : PatchD} : ∀ i ∈ need x, 0 ≤ i ∧ i < (x.nodes.length : Int) := fun i hi => ⟨(mem_ups.1 hi).1, (mem_ups.1 hi).2.1⟩
theorem need_length (x : PatchD) : (need x).length ≤ x.nodes.length := ups_length _ _
def okCode (x : PatchD) : Int := if okB x then 0 else 1
theorem okB_n24 {x : PatchD} (h : okB x = true) : x.nodes.length ≤ 24 := by
  unfold okB at h
  rw [Bool.and_eq_true] at h
  exact (formed_iff.1 h.1).2.2.1
theorem formed_src {x : PatchD} (h : formedB x = true) : SrcOk x.nodes := by
  have hf := (formed_iff.1 h).2.2.2.2.1
  refine ⟨fun y hy s hs => ndB_src (hf y hy) s hs, fun y hy => ?_⟩
  have h1 := hf y hy
  unfold ndB at h1
  simp only [Bool.and_eq_true] at h1
  exact src_le3 h1.1.1
theorem formed_outs {x : PatchD} (h : formedB x = true) : ∀ i ∈ x.outputs, 0 ≤ i ∧ i < (x.nodes.length : Int) := (formed_iff.1 h).2.2.2.2.2
end Go.Proofs.YtaapkpjokmoekaaGreatDoor

namespace Go.Proofs.YtaapkpjokmoekaaGreatDoor
set_option linter.unusedVariables false

def putBy : List Int → Nat → List Int → List Int
  | b, _, [] => b
  | b, j, i :: r => putBy (b.set i.toNat (j : Int)) (j + 1) r
theorem putBy_length : ∀ (b : List Int) (j : Nat) (r : List Int), (putBy b j r).length = b.length
  | b, _, [] => rfl
  | b, j, i :: r => by rw [putBy, putBy_length, List.length_set]
theorem putBy_drop {b : List Int} {keep : List Int} {k m : Nat} (h : k < keep.length) (hm : keep[k] = (m : Int)) : putBy b k (keep.drop k) = putBy (b.set m (k : Int)) (k + 1) (keep.drop (k + 1)) := by
  rw [List.drop_eq_getElem_cons h, putBy, hm, Int.toNat_natCast]
def byL (n : Nat) (keep : List Int) : List Int := putBy (List.replicate n 0) 0 keep
theorem byL_length (n : Nat) (keep : List Int) : (byL n keep).length = n := by unfold byL; rw [putBy_length, List.length_replicate]
/-- what lies in by are places of keep -/
theorem putBy_rng : ∀ (b : List Int) (j : Nat) (r : List Int) (N : Int), (∀ x ∈ b, 0 ≤ x ∧ x < N) → (j : Int) + r.length ≤ N → ∀ x ∈ putBy b j r, 0 ≤ x ∧ x < N
  | b, _, [], N, h, _ => h
  | b, j, i :: r, N, h, hN => by
    simp only [List.length_cons] at hN
    refine putBy_rng _ (j + 1) r N (fun x hx => ?_) (by omega)
    rcases List.mem_or_eq_of_mem_set hx with hx | rfl
    · exact h x hx
    · omega
theorem byL_rng {n : Nat} {keep : List Int} {N : Nat} (h : keep.length ≤ N) (h0 : 0 < N) : ∀ x ∈ byL n keep, 0 ≤ x ∧ x < (N : Int) := by
  refine putBy_rng _ 0 keep N (fun x hx => ?_) (by omega)
  rw [(List.mem_replicate.1 hx).2]; omega
theorem mapL_rng {by_ xs : List Int} {N : Nat} (h : ∀ x ∈ by_, 0 ≤ x ∧ x < (N : Int)) (h0 : 0 < N) : ∀ x ∈ mapL by_ xs, 0 ≤ x ∧ x < (N : Int) := by
  intro x hx
  unfold mapL at hx
  obtain ⟨i, _, rfl⟩ := List.mem_map.1 hx
  rcases Nat.lt_or_ge i.toNat by_.length with h1 | h1
  · rw [List.getD_eq_getElem?_getD, List.getElem?_eq_getElem h1]; exact h _ (List.getElem_mem h1)
  · rw [List.getD_eq_getElem?_getD, List.getElem?_eq_none h1]; simp; omega
def nodeAt (nodes : List NodeD) (i : Int) : NodeD := nodes.getD i.toNat ⟨0, 0, 0, []⟩
def keepN (nodes : List NodeD) (by_ : List Int) (i : Int) : NodeD := { nodeAt nodes i with src := mapL by_ (nodeAt nodes i).src }
def keepP (x : PatchD) (keep : List Int) : PatchD :=
  ⟨x.inputs, x.tables, keep.map (keepN x.nodes (byL x.nodes.length keep)), mapL (byL x.nodes.length keep) x.outputs⟩
theorem keepN_succ {nodes : List NodeD} {by_ keep : List Int} {k : Nat} (h : k < keep.length) : (keep.take (k + 1)).map (keepN nodes by_) = (keep.take k).map (keepN nodes by_) ++ [keepN nodes by_ keep[k]] := by
  rw [List.take_succ_eq_append_getElem h, List.map_append]; rfl
def trimP (x : PatchD) : PatchD := keepP x (need x)
end Go.Proofs.YtaapkpjokmoekaaGreatDoor
