/-
  Several texts in one: ApP, ApF, ApR, ApS, ApT, ApU.
-/
import Derived.Test.YtonkdndpfnapjaaGreatTrim
import Derived.Test.YtonkdndpfnapjaaGreatApX
import Derived.Test.YtonkdndpfnapjaaGreatApD
import Derived.Test.YtonkdndpfnapjaaGreatApE
import Derived.Test.YtonkdndpfnapjaaGreatRwY
namespace Go.Proofs.YtonkdndpfnapjaaGreat
open Go.ChangeShapes Go.WideShapes Go.ChangeAt Go.RowKit
set_option linter.unusedVariables false

/-- a patch and a code, as results -/
def RetPC (w : World) (x : PatchD) (code : Int) (e : Ending) (w' : World) : Prop := ∃ u L, e = .returned (.tuple #[u, .int .i64 code]) ∧ OwnPatch w.heap.size w' u x L ∧ Dis L ∧ Below w.heap.size w w'
theorem RetPC.mk {w w' : World} {x : PatchD} {code : Int} {v1 v2 v3 : Value} {L1 L : List Value} {B : Nat} {inp : Int} (hi : inp = x.inputs) (h : OwnP B w' v1 v2 v3 x.tables x.nodes x.outputs L1 L) (hB : w.heap.size ≤ B) (hb : Below w.heap.size w w') :
    RetPC w x code (.returned (.tuple #[.agg #[.int .i64 inp, v1, v2, v3], .int .i64 code])) w' := by
  subst hi
  have hp := (h.mono hB).patch x.inputs
  exact ⟨_, _, rfl, hp.1, hp.2, hb⟩
def noPatch : PatchD := ⟨0, [], [], []⟩
theorem OwnP.none0 (B : Nat) (w : World) : OwnP B w (.slice none 0 0) (.slice none 0 0) (.slice none 0 0) [] [] [] [] [] := OwnP.nil w (OwnI.nil B w)
theorem lens_rows : ∀ (ts : List (List Int)) (m : Nat), (∀ t ∈ ts, t.length ≤ m) → lens ts ≤ m * ts.length
  | [], m, _ => by simp [lens]
  | t :: ts, m, h => by
    have h1 := h t (List.mem_cons_self ..)
    have h2 := lens_rows ts m fun u hu => h u (List.mem_cons_of_mem _ hu)
    rw [lens_cons, List.length_cons, Nat.mul_add]
    omega
theorem cntPatch_small {x : PatchD} (sm : Small x) : cntPatch x ≤ 6291456 := by
  have h1 := lens_rows x.tables 1000 sm.rows
  have h2 := lens_rows (x.nodes.map NodeD.src) 1000 fun t ht => by
    obtain ⟨n, hn, rfl⟩ := List.mem_map.1 ht
    exact sm.srcs n hn
  have h3 := sm.tables
  have h4 := sm.nodes
  have h5 := sm.outs
  rw [List.length_map] at h2
  unfold cntPatch cntII cntNodeS cntI
  omega
theorem trimP_small {x : PatchD} (h : okB x = true) : Small (trimP x) := by
  have sm := formed_small (okB_len h).1
  have hk : (trimP x).nodes.length ≤ 24 := by
    have h24 := okB_n24 h
    have hl := need_length x
    show ((need x).map _).length ≤ 24
    rw [List.length_map]; omega
  refine ⟨sm.tables, sm.rows, by omega, fun n hn => ?_, ?_⟩
  · obtain ⟨i, hi, rfl⟩ := List.mem_map.1 hn
    show (mapL _ _).length ≤ 1000
    rw [mapL_length]
    obtain ⟨m, rfl⟩ : ∃ m : Nat, i = m := ⟨i.toNat, by have := need_rng i hi; omega⟩
    have hm : m < x.nodes.length := by have := need_rng _ hi; omega
    rw [nodeAt_eq hm]
    exact sm.srcs _ (List.getElem_mem hm)
  · show (mapL _ _).length ≤ 1000
    rw [mapL_length]; exact sm.outs
end Go.Proofs.YtonkdndpfnapjaaGreat

namespace Go.Proofs.YtonkdndpfnapjaaGreat
open Go.ChangeShapes Go.WideShapes Go.ChangeAt Go.RowKit Go.Sort
set_option linter.unusedVariables false

theorem two_src {x : PatchD} (hf : formedB x = true) {i : Int} (h0 : 0 ≤ i) (h1 : i < (x.nodes.length : Int)) (hk : (nodeAt x.nodes i).kind = 9) : (nodeAt x.nodes i).src = [inp x i 0, inp x i 1] := by
  have h := (nodeB_ar (nodeAt_ok hf h0 h1)).2
  have hl : (nodeAt x.nodes i).src.length = 2 := by
    rw [hk] at h
    have : kAr (9 - 1 : Int).toNat = 2 := rfl
    omega
  unfold inp
  generalize (nodeAt x.nodes i).src = l at hl
  match l, hl with
  | [y, z], _ => rfl
theorem l10Apply_x {x : PatchD} {gp i : Nat} (w : World) (h : PPatch w gp x) (hok : okB x = true) (hi : i < x.nodes.length) (hr : ruleP x (i : Int) ≠ 0) :
    Calls Tryz.prog 41 #[.pointer (some ⟨gp, 0, none⟩), .int .i64 (ruleP x (i : Int)), .int .i64 (i : Int)] w (RetP0 w (afterP x (i : Int) (ruleP x (i : Int)))) := by
  have hf := okB_formed hok
  obtain ⟨hn, hc⟩ := rule_cases hr
  obtain ⟨h0, h1⟩ := need_rng _ hn
  rcases hc with ⟨e, hc⟩ | ⟨e, hc⟩ | ⟨e, hc⟩ | ⟨e, hc⟩ | ⟨e, hc⟩ | ⟨e, hc⟩ | ⟨e, hc⟩ <;> rw [e]
  · exact l10Apply_const w h hok hi hc
  · exact l10Apply_zero w h hok hi
  · exact l10Apply_same w h hok hi
  · rw [show afterP x (i : Int) 4 = setN x (i : Int) (factN x (i : Int)) from rfl]
    unfold factB at hc
    rw [Bool.and_eq_true, beq_iff_eq] at hc
    have hs := two_src hf h0 h1 hc.1
    have r0 := nodeAt_src hf h0 h1 (inp x (i : Int) 0) (by rw [hs]; simp)
    have r1 := nodeAt_src hf h0 h1 (inp x (i : Int) 1) (by rw [hs]; simp)
    have eF : factN x (i : Int) = if isC (nodeAt x.nodes (inp x (i : Int) 0)) then ⟨5, (nodeAt x.nodes (inp x (i : Int) 0)).a, 0, [inp x (i : Int) 1]⟩ else ⟨5, (nodeAt x.nodes (inp x (i : Int) 1)).a, 0, [inp x (i : Int) 0]⟩ := rfl
    rw [eF]
    obtain ⟨j0, hj0⟩ := Int.eq_ofNat_of_zero_le r0.1
    obtain ⟨j1, hj1⟩ := Int.eq_ofNat_of_zero_le r1.1
    rw [hj0] at r0 hs ⊢
    rw [hj1] at r1 hs ⊢
    unfold isC
    cases hk : ((nodeAt x.nodes (j0 : Int)).kind == 2)
    · rw [if_neg (by decide)]
      exact l10Apply_fact1 w h hok hi hs (by omega) (by omega) hk
    · rw [if_pos rfl]
      exact l10Apply_fact0 w h hok hi hs (by omega) (by omega) hk
  · rw [show afterP x (i : Int) 5 = setN x (i : Int) (joinN x (i : Int) 5) from rfl]
    unfold joinOk joinB at hc
    simp only [Bool.and_eq_true, beq_iff_eq] at hc
    obtain ⟨⟨⟨k1, k2⟩, -⟩, -⟩ := hc
    have hs := one_src hf h0 h1 (.inl k1)
    have r0 := nodeAt_src hf h0 h1 (inp x (i : Int) 0) (by rw [hs]; simp)
    have eN : joinN x (i : Int) 5 = ⟨5, smp ((nodeAt x.nodes (i : Int)).a * (nodeAt x.nodes (inp x (i : Int) 0)).a), 0, (nodeAt x.nodes (inp x (i : Int) 0)).src⟩ := rfl
    rw [eN]
    obtain ⟨j, hj⟩ := Int.eq_ofNat_of_zero_le r0.1
    rw [hj] at r0 hs ⊢
    exact l10Apply_join5 w h hok hi hs (by omega)
  · rw [show afterP x (i : Int) 6 = setN x (i : Int) (joinN x (i : Int) 6) from rfl]
    unfold joinOk joinB at hc
    simp only [Bool.and_eq_true, beq_iff_eq] at hc
    obtain ⟨⟨⟨k1, k2⟩, -⟩, -⟩ := hc
    have hs := one_src hf h0 h1 (.inr k1)
    have r0 := nodeAt_src hf h0 h1 (inp x (i : Int) 0) (by rw [hs]; simp)
    have eN : joinN x (i : Int) 6 = ⟨6, (nodeAt x.nodes (i : Int)).a + (nodeAt x.nodes (inp x (i : Int) 0)).a, 0, (nodeAt x.nodes (inp x (i : Int) 0)).src⟩ := rfl
    rw [eN]
    have da : ∀ j, 0 ≤ j → j < (x.nodes.length : Int) → (nodeAt x.nodes j).kind = 6 → 1 ≤ (nodeAt x.nodes j).a ∧ (nodeAt x.nodes j).a ≤ 16 := fun j j0 j1 hk => by
      have hq := nodeAt_ok hf j0 j1
      rw [nodeB_split] at hq
      simp only [Bool.and_eq_true] at hq
      have h2 := hq.2.1
      rw [hk] at h2
      have : inB (nodeAt x.nodes j).a 1 16 = true := h2
      rwa [inB_iff] at this
    have a1 := da _ h0 h1 k1
    have a2 := da _ r0.1 r0.2 k2
    obtain ⟨j, hj⟩ := Int.eq_ofNat_of_zero_le r0.1
    rw [hj] at r0 hs a2 ⊢
    exact l10Apply_join6 w h hok hi hs (by omega) a1 a2
  · exact l10Apply_twin w h hok hi
end Go.Proofs.YtonkdndpfnapjaaGreat

namespace Go.Proofs.YtonkdndpfnapjaaGreat
open Go.ChangeShapes Go.WideShapes Go.ChangeAt Go.RowKit Go.Sort
set_option linter.unusedVariables false

/-! ### runs -/
/-- from patch x the rewrites rs lead to y, where no rule applies -/
inductive Runs : PatchD → PatchD → List (Int × Int) → Prop
  | done {x : PatchD} (h : nxB x = false) : Runs x x []
  | step {x y : PatchD} {rs : List (Int × Int)} (h : nxB x = true) (r : Runs (nxP x) y rs) : Runs x y ((nxR x, nxN x) :: rs)
theorem nx_step {x : PatchD} (h : nxB x = true) : ruleP x (nxN x) ≠ 0 ∧ nxR x = ruleP x (nxN x) ∧ nxP x = afterP x (nxN x) (ruleP x (nxN x)) := by
  rcases e : fstI x with _ | i
  · rw [(fst_novals e).2.2.1] at h; cases h
  · obtain ⟨e1, e2, e3, e4⟩ := fst_vals e
    unfold fstI at e
    have := List.find?_some e
    rw [e2]
    exact ⟨by simpa using this, e1, e4⟩
theorem runs_some : ∀ (N : Nat) {x : PatchD}, okB x = true → Fuel x N → ∃ y rs, Runs x y rs := by
  intro N
  induction N using Nat.strongRecOn with
  | _ N ih =>
    intro x h hN
    cases hb : nxB x
    · exact ⟨_, _, .done hb⟩
    · obtain ⟨h1, h2, h3⟩ := nx_step hb
      obtain ⟨hok, M, hM, hF⟩ := rewrite_step h h1 hN
      rw [← h3] at hok hF
      obtain ⟨y, rs, hr⟩ := ih M hM hok hF
      exact ⟨_, _, .step hb hr⟩
theorem nx_ok {x : PatchD} (h : okB x = true) (hb : nxB x = true) : okB (nxP x) = true := by
  obtain ⟨N, hN⟩ := fuel_some h
  obtain ⟨h1, h2, h3⟩ := nx_step hb
  rw [h3]; exact (rewrite_step h h1 hN).1
theorem runs_ok {x y : PatchD} {rs : List (Int × Int)} (h : Runs x y rs) : okB x = true → okB y = true := by
  induction h with
  | done _ => exact id
  | step hb _ ih => exact fun h => ih (nx_ok h hb)
theorem runs_len {x y : PatchD} {rs : List (Int × Int)} (h : Runs x y rs) : okB x = true → ∀ N, Fuel x N → rs.length ≤ N := by
  induction h with
  | done _ => exact fun _ _ _ => Nat.zero_le _
  | step hb _ ih =>
    intro hx N hN
    obtain ⟨h1, h2, h3⟩ := nx_step hb
    obtain ⟨hok, M, hM, hF⟩ := rewrite_step hx h1 hN
    rw [← h3] at hok hF
    have := ih hok M hF
    rw [List.length_cons]; omega
theorem cost_le {ρ : Int → Nat} (h : ∀ j, ρ j ≤ 24) {n : NodeD} (ha : n.kind = 6 → 1 ≤ n.a) : cost ρ n ≤ 30 := by
  unfold cost
  have := h (n.src.getD 0 0)
  repeat' split
  all_goals first | omega | (have := ha (by assumption); omega)
theorem sumN_bound {f : Nat → Nat} {c : Nat} : ∀ n : Nat, (∀ j, j < n → f j ≤ c) → sumN f n ≤ c * n
  | 0, _ => Nat.zero_le _
  | n + 1, h => by
    have e1 := sumN_bound n fun j hj => h j (by omega)
    have e2 := h n (by omega)
    rw [sumN, Nat.mul_succ]; omega
theorem fuel_720 {x : PatchD} (h : okB x = true) : Fuel x 720 := by
  obtain ⟨ρ, h1, h2⟩ := okB_ranked h
  have hf := okB_formed h
  have hn24 := (formed_iff.1 hf).2.2.1
  refine ⟨ρ, h1, h2, ?_⟩
  unfold mass
  refine Nat.le_trans (sumN_bound (c := 30) _ fun j hj => ?_) (Nat.mul_le_mul_left 30 hn24)
  split
  · refine cost_le h2 fun hk => ?_
    have hq := nodeAt_ok hf (i := (j : Int)) (by omega) (by omega)
    rw [nodeB_split] at hq
    simp only [Bool.and_eq_true] at hq
    have h2 := hq.2.1
    rw [hk] at h2
    have : inB (nodeAt x.nodes (j : Int)).a 1 16 = true := h2
    rw [inB_iff] at this
    omega
  · omega
noncomputable def allP (x : PatchD) : PatchD := open Classical in if h : ∃ y rs, Runs x y rs then Classical.choose h else x
noncomputable def allR (x : PatchD) : List (Int × Int) := open Classical in if h : ∃ rs, Runs x (allP x) rs then Classical.choose h else []
theorem runs_all {x : PatchD} (h : okB x = true) : Runs x (allP x) (allR x) := by
  obtain ⟨N, hN⟩ := fuel_some h
  have h1 := runs_some N h hN
  have h2 : ∃ rs, Runs x (allP x) rs := by
    unfold allP; rw [dif_pos h1]; exact Classical.choose_spec h1
  unfold allR
  rw [dif_pos h2]
  exact Classical.choose_spec h2

/-! ### own lists of rewrites -/
def rwCells (rs : List (Int × Int)) : List Value := rs.flatMap fun r => [.int .i64 r.1, .int .i64 r.2]
def OwnR (B : Nat) (w : World) (v : Value) (rs : List (Int × Int)) : Prop := w.ownsRow B 40 2 v rs.length (rwCells rs)
theorem OwnR.lt {B : Nat} {w : World} {v : Value} {rs : List (Int × Int)} (h : OwnR B w v rs) {k : Nat} (hk : v.ownBlock = some k) : B ≤ k ∧ k < w.heap.size := World.ownsRow.lt h k hk
theorem OwnR.keep {B : Nat} {w w' : World} {v : Value} {rs : List (Int × Int)} (h : OwnR B w v rs) (hk : ∀ k, v.ownBlock = some k → w'.heap[k]? = w.heap[k]?) : OwnR B w' v rs := by
  refine ⟨h.1, ?_⟩
  rcases h.2 with hn | ⟨g, cap, cur, rfl, hb, hgg, rest⟩
  · exact .inl hn
  · exact .inr ⟨g, cap, cur, rfl, hb, (hk g rfl).trans hgg, rest⟩
theorem OwnR.mono {B B' : Nat} {w : World} {v : Value} {rs : List (Int × Int)} (h : OwnR B w v rs) (hB : B' ≤ B) : OwnR B' w v rs := by
  refine ⟨h.1, ?_⟩
  rcases h.2 with hn | ⟨g, cap, cur, e, hb, rest⟩
  · exact .inl hn
  · exact .inr ⟨g, cap, cur, e, Nat.le_trans hB hb, rest⟩
theorem OwnR.below {B : Nat} {w w' : World} {v : Value} {rs : List (Int × Int)} (h : OwnR B w v rs) (hb : Below w.heap.size w w') : OwnR B w' v rs := h.keep fun k hk => hb.block k (h.lt hk).2
theorem OwnR.lit0 {B : Nat} (w : World) (hB : B ≤ w.heap.size) : OwnR B (w.alloc (.cells #[] 40)) (.slice (some ⟨w.heap.size, 0, none⟩) 0 0) [] := by
  have h := World.ownsRow_lit (base := B) (e := 40) (size := 2) w #[] 0 hB (by simp [maxLen]) (by simp)
  simpa [OwnR, rwCells] using h
theorem OwnR.sl {B : Nat} {w : World} {v : Value} {rs : List (Int × Int)} (h : OwnR B w v rs) : ∃ q c, v = .slice q rs.length c := by
  rcases h.2 with ⟨h1, h2⟩ | ⟨g, cap, cur, hv, -⟩
  · exact ⟨none, 0, by rw [h1, h2]⟩
  · exact ⟨_, _, hv⟩
theorem OwnR.typed {B : Nat} {w : World} {v : Value} {rs : List (Int × Int)} (h : OwnR B w v rs) {k : Nat} (hk : v.ownBlock = some k) : ∃ cur, w.heap[k]? = some (.cells cur 40 (0, 0)) := by
  rcases h.2 with ⟨h1, h2⟩ | ⟨g, cap, cur, hv, hB, hg, -⟩
  · rw [h1] at hk; cases hk
  · rw [hv] at hk
    simp only [Value.ownBlock, Option.some.injEq] at hk
    subst hk
    exact ⟨cur, hg⟩
theorem infoRw : (Tryz.prog.info? 40).map (fun i => (i.zero, i.size, i.bytes)) = some (some (.agg #[.int .i64 0, .int .i64 0]), 2, 16) := by kernel_rfl
theorem run_append_rw (w : World) (ty : TypeId) {B : Nat} {v : Value} {rs : List (Int × Int)} (r n : Int) (hown : OwnR B w v rs) (hlen : rs.length < 1099511627776) (hB : B ≤ w.heap.size) :
    ∃ v' w', (Builtin.append_ #[44, 44] ty #[v, .slice (some ⟨w.heap.size, 0, none⟩) 1 1]).run Tryz.prog (w.alloc (.cells #[.int .i64 r, .int .i64 n] 40)) = .ok v' w' ∧ OwnR B w' v' (rs ++ [(r, n)]) ∧
      (w.alloc (.cells #[.int .i64 r, .int .i64 n] 40)).grownBy w' v.ownBlock := by
  obtain ⟨i0, hi, hz0, hz1, hz2⟩ := info_parts infoRw
  have hown' : OwnR B (w.alloc (.cells #[.int .i64 r, .int .i64 n] 40)) v rs := hown.keep fun k hk => Below.heap_alloc _ _ _ (hown.lt hk).2
  obtain ⟨v', w', h1, h2, h3, _⟩ := run_append_own (P := Tryz.prog) (w.alloc (.cells #[.int .i64 r, .int .i64 n] 40)) B 44 ty 40 i0 _ 2 16 Tryz.underlying44 hi hz0 hz1 hz2 (by rfl) (by decide) v rs.length (rwCells rs) hown'
    ⟨w.heap.size, 0, none⟩ 1 1 [.int .i64 r, .int .i64 n] rfl
    (by
      intro j x hx
      rw [Addr.add_lit, World.cell?_alloc_at _ _ _ _ rfl]
      simp only [Nat.zero_add]
      rw [List.getElem?_toArray.symm] at hx
      exact hx)
    (by intro x hx; simp only [List.mem_cons, List.not_mem_nil, or_false] at hx; rcases hx with rfl | rfl <;> rfl) (by simp only [maxLen]; omega) (by omega) (by simp; omega)
  refine ⟨v', w', h1, ?_, h3⟩
  unfold OwnR rwCells
  simpa [rwCells] using h2
theorem wpList_append_rw {ops : Array Oper} {rest : List Oper} {o : Oper} {a : Act} {Q : Exit → Act → World → Prop} {w : World} (hgd : o.guard = none) (s x : Operand)
    (ho : o.op = .call { callee := .builtin .append, args := #[s, x], argTypes := #[44, 44] })
    {B : Nat} {v : Value} {rs : List (Int × Int)} (r n : Int) (hs : a.eval s = v) (hown : OwnR B w v rs) (hx : a.eval x = .slice (some ⟨w.heap.size, 0, none⟩) 1 1) (hlen : rs.length < 1099511627776) (hB : B ≤ w.heap.size)
    (h : ∀ v' w', OwnR B w' v' (rs ++ [(r, n)]) → w.grownBy w' v.ownBlock → (∀ k, k < w.heap.size → v.ownBlock ≠ some k → w'.heap[k]? = w.heap[k]?) → wpList Tryz.prog ops Q rest (a.put o.dst v') w') : wpList Tryz.prog ops Q (o :: rest) a (w.alloc (.cells #[.int .i64 r, .int .i64 n] 40)) := by
  refine wpList_plain hgd fun K hK => ?_
  obtain ⟨v', w', e1, e2, e3⟩ := run_append_rw w o.type r n hown hlen hB
  unfold Oper.wp execOp
  simp only [ho, resolve, invoke, builtin, Sem.run_bind, Sem.run_pure, Result.andThen_ok, List.map_toArray, List.map_cons, List.map_nil, hs, hx, e1]
  have hk : ∀ k, k < w.heap.size → v.ownBlock ≠ some k → w'.heap[k]? = w.heap[k]? := fun k hk hne => (e3.block k (by simp; omega) (fun e => hne e.symm)).trans (Below.heap_alloc _ _ _ hk)
  exact hK _ _ (h v' w' e2 ⟨e3.os, e3.tape, e3.output, by have := e3.size; simp at this; omega, fun k h1 h2 => hk k h1 (fun e => h2 e.symm)⟩ hk)
end Go.Proofs.YtonkdndpfnapjaaGreat

namespace Go.Proofs.YtonkdndpfnapjaaGreat
open Go.ChangeShapes Go.WideShapes Go.ChangeAt Go.RowKit Go.Sort
set_option linter.unusedVariables false

def lenV : Value → Nat
  | .slice _ n _ => n
  | _ => 0
def RetA (w : World) (y : PatchD) (rs : List (Int × Int)) (e : Ending) (w' : World) : Prop :=
  ∃ v1 v2 v3 L1 L u, e = .returned (.tuple #[.agg #[.int .i64 y.inputs, v1, v2, v3], u]) ∧ OwnP w.heap.size w' v1 v2 v3 y.tables y.nodes y.outputs L1 L ∧ OwnR w.heap.size w' u rs ∧ Below w.heap.size w w'
theorem OwnP.ppatch {B : Nat} {w : World} {g : Nat} {x : PatchD} {v1 v2 v3 : Value} {L1 L : List Value} (bx : Box w g [.int .i64 x.inputs, v1, v2, v3] 32) (h : OwnP B w v1 v2 v3 x.tables x.nodes x.outputs L1 L) : PPatch w g x := by
  obtain ⟨p1, c1, p2, c2, p3, c3, e, r1, r2, r3⟩ := (h.patch x.inputs).1.rd
  simp only [Value.agg.injEq, Array.mk.injEq, List.cons.injEq, and_true, true_and] at e
  obtain ⟨rfl, rfl, rfl⟩ := e
  exact ⟨p1, c1, p2, c2, p3, c3, bx, r1, r2, r3⟩
theorem OwnR.setBox {B : Nat} {w : World} {v u : Value} {rs : List (Int × Int)} {s i : Nat} {cs : List Value} {T : TypeId} (h : OwnR B w v rs) (hb : Box w s cs T) (hT : T ≠ 40) : OwnR B (w.setCell ⟨s, i, none⟩ u) v rs :=
  h.keep fun k hk => Below.heap_setCell _ _ _ _ (by
    rintro rfl
    obtain ⟨cur, hg⟩ := h.typed hk
    unfold Box at hb
    rw [hg] at hb
    simp only [Option.some.injEq, Obj.cells.injEq] at hb
    exact hT hb.2.1.symm)
theorem put_patchR {B B' : Nat} {w W : World} {g : Nat} {inp : Int} {l0 l1 l2 l3 v1 v2 v3 u : Value} {ts : List (List Int)} {ns : List NodeD} {os : List Int} {L1 L : List Value} {rs : List (Int × Int)} (br : Box W g [l0, l1, l2, l3] 32)
    (h : OwnP B W v1 v2 v3 ts ns os L1 L) (hr : OwnR B' W u rs) (hb : Below w.heap.size w W) (hg : w.heap.size ≤ g) :
    ∃ W', W' = ((((W.setCell ⟨g, 0, none⟩ (.int .i64 inp)).setCell ⟨g, 1, none⟩ v1).setCell ⟨g, 2, none⟩ v2).setCell ⟨g, 3, none⟩ v3) ∧ Box W' g [.int .i64 inp, v1, v2, v3] 32 ∧ OwnP B W' v1 v2 v3 ts ns os L1 L ∧ Below w.heap.size w W' ∧ OwnR B' W' u rs ∧ ∀ k, k ≠ g → ∀ cs T, Box W k cs T → Box W' k cs T := by
  have b0 := br.set 0 (.int .i64 inp)
  have b1 := b0.set 1 v1
  have b2 := b1.set 2 v2
  exact ⟨_, rfl, br.put4, (((h.setBox br patchT 0 _).setBox b0 patchT 1 _).setBox b1 patchT 2 _).setBox b2 patchT 3 _, below_put4 _ _ _ _ hb hg, (((hr.setBox br (by decide)).setBox b0 (by decide)).setBox b1 (by decide)).setBox b2 (by decide),
    fun k hk cs T hB => (((hB.other (by exact hk) _).other (by exact hk) _).other (by exact hk) _).other (by exact hk) _⟩
theorem OwnR.slS {B : Nat} {w : World} {v : Value} {rs : List (Int × Int)} {r : Int × Int} (h : OwnR B w v (rs ++ [r])) : ∃ q c, v = .slice q (rs.length + 1) c := by
  obtain ⟨q, c, e⟩ := h.sl
  exact ⟨q, c, by rw [e, List.length_append, List.length_singleton]⟩
/-- what a grown list of rewrites leaves alone -/
theorem OwnP.offR {B B' : Nat} {w w' : World} {v v1 v2 v3 : Value} {rs : List (Int × Int)} {ts : List (List Int)} {ns : List NodeD} {os : List Int} {L1 L : List Value} (h : OwnP B w v1 v2 v3 ts ns os L1 L) (hr : OwnR B' w v rs) (hk : ∀ k, k < w.heap.size → v.ownBlock ≠ some k → w'.heap[k]? = w.heap[k]?) : OwnP B w' v1 v2 v3 ts ns os L1 L :=
  h.keep fun k _ hlt hkk => hk k hlt fun e => by
    obtain ⟨cur, hg⟩ := hr.typed e
    obtain ⟨cur', T, hg', hT⟩ := h.typed hkk
    rw [hg] at hg'
    simp only [Option.some.injEq, Obj.cells.injEq] at hg'
    obtain ⟨-, rfl, -⟩ := hg'
    revert hT; decide
theorem Box.offR {B' : Nat} {w w' : World} {v : Value} {rs : List (Int × Int)} {s : Nat} {cs : List Value} {T : TypeId} (h : Box w s cs T) (hT : T ≠ 40) (hr : OwnR B' w v rs) (hk : ∀ k, k < w.heap.size → v.ownBlock ≠ some k → w'.heap[k]? = w.heap[k]?) : Box w' s cs T := by
  have hne : v.ownBlock ≠ some s := fun e => by
    obtain ⟨cur, hg⟩ := hr.typed e
    have h' := h
    unfold Box at h'
    rw [hg] at h'
    simp only [Option.some.injEq, Obj.cells.injEq] at h'
    exact hT h'.2.1.symm
  have := hk s h.lt hne
  unfold Box at h ⊢
  rw [this]; exact h
theorem Box.grown {w w' : World} {v : Value} {s : Nat} {cs : List Value} {T : TypeId} (h : Box w s cs T) (hne : v.ownBlock ≠ some s) (hk : ∀ k, k < w.heap.size → v.ownBlock ≠ some k → w'.heap[k]? = w.heap[k]?) : Box w' s cs T := by
  have := hk s h.lt hne
  unfold Box at h ⊢
  rw [this]; exact h
theorem below_grown {w0 w w' : World} {v : Value} {rs : List (Int × Int)} (h : Below w0.heap.size w0 w) (hown : OwnR w0.heap.size w v rs) (hg : w.grownBy w' v.ownBlock) : Below w0.heap.size w0 w' :=
  ⟨hg.os.trans h.os, hg.tape.trans h.tape, hg.output.trans h.output, Nat.le_trans h.size hg.size, fun k hkk => (hg.block k (Nat.lt_of_lt_of_le hkk h.size) fun e => by have := (hown.lt e.symm).1; omega).trans (h.block k hkk)⟩
set_option maxHeartbeats 8000000 in
set_option maxRecDepth 100000 in
theorem l10All_x {x y : PatchD} {rs : List (Int × Int)} {gp : Nat} (w : World) (h : PPatch w gp x) (hok : okB x = true) (hr : Runs x y rs) :
    Calls Tryz.prog 50 #[.pointer (some ⟨gp, 0, none⟩)] w (RetA w y rs) := by
  have sm := formed_small (okB_formed hok)
  have hrl := runs_len hr hok 720 (fuel_720 hok)
  obtain ⟨g, hg⟩ : ∃ g, g = w.heap.size := ⟨_, rfl⟩
  obtain ⟨E, hE⟩ : ∃ E, E = (w.alloc (.cells #[.int .i64 0, .slice none 0 0, .slice none 0 0, .slice none 0 0] 32)).alloc (.cells #[] 40) := ⟨_, rfl⟩
  have hB0 : Below w.heap.size w E := by rw [hE]; exact ((Below.refl _ _).alloc (Nat.le_refl _) _).alloc (by simp) _
  have br : Box E g zPatch 32 := by rw [hE, hg]; exact (Box.newAt w _ _ rfl).alloc _
  have hl0 : OwnR w.heap.size E (.slice (some ⟨g + 1, 0, none⟩) 0 0) [] := by
    rw [hE, hg]
    have h0 := OwnR.lit0 (B := w.heap.size) (w.alloc (.cells #[.int .i64 0, .slice none 0 0, .slice none 0 0, .slice none 0 0] 32)) (by simp)
    rw [World.size_alloc] at h0
    exact h0
  have hgw : w.heap.size ≤ g := by omega
  have OWN := Lib.hid (l07Own_any E (h.below hB0) sm)
  have HE := Lib.hid hE
  have HG := Lib.hid hg
  clear hE hg h
  go_enter Tryz.func50, Tryz.ntmps50
  go_upto_region 2 with fail
  rw [← HE.out, ← HG.out]
  go_wp2_with fail
  refine OWN.out.mono ?_
  rintro e W1 ⟨w1, w2, w3, L1, L, rfl, ho, hb1⟩
  obtain ⟨qa, da, ea⟩ := ho.o1.sl'
  obtain ⟨qb, db, eb, -⟩ := ho.o3.rd
  obtain ⟨qc, dc, ec⟩ := ho.o2.sl
  subst ea eb ec
  obtain ⟨V, hV⟩ : ∃ V, V = W1.alloc (.cells #[.int .i64 x.inputs, .slice qa L1.length da, .slice qc x.nodes.length dc, .slice qb x.outputs.length db] 32) := ⟨_, rfl⟩
  have d2 : Below W1.heap.size W1 V := by rw [hV]; exact (Below.refl _ _).alloc (Nat.le_refl _) _
  have bo : Box V W1.heap.size [.int .i64 x.inputs, .slice qa L1.length da, .slice qc x.nodes.length dc, .slice qb x.outputs.length db] 32 := by rw [hV]; exact Box.newAt W1 _ _ rfl
  obtain ⟨so, hso⟩ : ∃ so, so = W1.heap.size := ⟨_, rfl⟩
  rw [← hso] at bo
  have eV : Below E.heap.size E V := hb1.trans (d2.mono hb1.size)
  have hoV := (ho.below d2).mono hB0.size
  have hlV := hl0.below eV
  have hso2 : E.heap.size ≤ so := by rw [hso]; exact hb1.size
  have HV := Lib.hid hV
  have HSO := Lib.hid hso
  clear hV hso d2 ho hl0
  go_upto_region 3 with fail
  rw [← HV.out, ← HSO.out]
  go_loopw [4] (fun lv wr => ∃ (z : PatchD) (l r : List (Int × Int)) (q1 : Option Addr) (n1 e1 : Nat) (q2 : Option Addr) (e2 : Nat) (q3 : Option Addr) (e3 : Nat) (M1 M : List Value) (q4 : Option Addr) (e4 : Nat), n1 = M1.length ∧ l ++ r = rs ∧ Runs z y r ∧ okB z = true ∧ lv = .slice q4 l.length e4 ∧ OwnR w.heap.size wr (.slice q4 l.length e4) l ∧
      Box wr so [.int .i64 z.inputs, .slice q1 n1 e1, .slice q2 z.nodes.length e2, .slice q3 z.outputs.length e3] 32 ∧ OwnP w.heap.size wr (.slice q1 n1 e1) (.slice q2 z.nodes.length e2) (.slice q3 z.outputs.length e3) z.tables z.nodes z.outputs M1 M ∧ Box wr g zPatch 32 ∧ Below w.heap.size w wr) (fun lv _ => rs.length - lenV lv)
  case atStart => exact ⟨x, [], rs, _, _, _, _, _, _, _, L1, L, _, _, rfl, rfl, hr, hok, rfl, hlV, bo, hoV, br.below eV, hB0.trans (eV.mono hB0.size)⟩
  case round =>
    obtain ⟨z, l, r, q1, n1, e1, q2, e2, q3, e3, M1, M, q4, e4, hn1, hlr, hrz, hoz, rfl, hlz, bz, hpz, bri, hbz⟩ := hrel
    obtain ⟨wi, rfl⟩ : ∃ wi : World, wi = wr := ⟨_, rfl⟩
    subst hn1
    clear hok sm hr hlV bo hoV eV
    have pz := hpz.ppatch bz
    have FI := Lib.hid (l10First_x wi pz hoz)
    have hll : l.length ≤ 720 := by have := congrArg List.length hlr; rw [List.length_append] at this; omega
    cases hb : nxB z
    case false =>
      rw [hb] at FI
      obtain ⟨rfl, rfl⟩ : y = z ∧ r = [] := by cases hrz with
        | done _ => exact ⟨rfl, rfl⟩
        | step hb' _ => rw [hb] at hb'; cases hb'
      rw [List.append_nil] at hlr
      subst hlr
      go_wp2_with fail
      refine FI.out.mono ?_
      rintro e W2 ⟨rfl, hb2⟩
      obtain ⟨V2, hV2⟩ : ∃ V, V = W2.alloc (.cells #[.int .i64 (nxR y), .int .i64 (nxN y)] 40) := ⟨_, rfl⟩
      have x2 : Below W2.heap.size W2 V2 := by rw [hV2]; exact (Below.refl _ _).alloc (Nat.le_refl _) _
      have bz2 := (bz.below hb2).below x2
      have br2 := (bri.below hb2).below x2
      have hl2 := (hlz.below hb2).below x2
      have hp2 := (hpz.below hb2).below x2
      have k2 := (hbz.trans (hb2.mono hbz.size)).trans (x2.mono (hbz.trans (hb2.mono hbz.size)).size)
      have HV2 := Lib.hid hV2
      clear hV2 x2 bz bri hlz hpz pz FI
      go_upto_region 5 with fail
      rw [← HV2.out]
      have y0 := bz2.cell 0 rfl
      have y1 := bz2.cell 1 rfl
      have y2 := bz2.cell 2 rfl
      have y3 := bz2.cell 3 rfl
      have j0 := br2.frozen 0
      have j1 := br2.frozen 1
      have j2 := br2.frozen 2
      have j3 := br2.frozen 3
      have i0 := br2.cell 0 rfl
      have i1 := br2.cell 1 rfl
      have i2 := br2.cell 2 rfl
      have i3 := br2.cell 3 rfl
      obtain ⟨W9, hW9, b9, o9, l9, r9, -⟩ := put_patchR (inp := y.inputs) br2 hp2 hl2 k2 hgw
      have q0 := b9.cell 0 rfl
      have q1' := b9.cell 1 rfl
      have q2' := b9.cell 2 rfl
      have q3' := b9.cell 3 rfl
      have O9 := Lib.hid o9
      have L9 := Lib.hid l9
      have R9 := Lib.hid r9
      have H9 := Lib.hid hW9
      clear hW9 o9 l9 b9 r9 hp2 hl2 k2
      go_wp2_with fail
      rw [← H9.out]
      refine bodyPost_ret (v := .tuple #[.agg #[.int .i64 y.inputs, .slice q1 M1.length e1, .slice q2 y.nodes.length e2, .slice q3 y.outputs.length e3], .slice q4 l.length e4]) (by simp [results, Tryz.results50, go_sem, *]) rfl ?_
      exact ⟨_, _, _, _, _, _, rfl, O9.out, R9.out, L9.out⟩
    case true =>
      rw [hb] at FI
      obtain ⟨hne, hR, hP⟩ := nx_step hb
      obtain ⟨m0, m1⟩ := need_rng _ (ruleP_need hne)
      obtain ⟨m, hm⟩ := Int.eq_ofNat_of_zero_le m0
      have hoz' := nx_ok hoz hb
      have AP : Hid (∀ W, PPatch W so z → Calls Tryz.prog 41 #[.pointer (some ⟨so, 0, none⟩), .int .i64 (nxR z), .int .i64 (nxN z)] W (RetP0 W (nxP z))) := fun W hW => by
        rw [hP, hR, hm]
        rw [hm] at m1 hne
        exact l10Apply_x W hW hoz (by omega) hne
      obtain ⟨r', rfl, hr'⟩ : ∃ r', r = (nxR z, nxN z) :: r' ∧ Runs (nxP z) y r' := by cases hrz with
        | done hb' => rw [hb] at hb'; cases hb'
        | step _ hr' => exact ⟨_, rfl, hr'⟩
      have hlr' : (l ++ [(nxR z, nxN z)]) ++ r' = rs := by rw [List.append_assoc]; exact hlr
      clear hlr hrz hne hR hP m0 m1 hm hb
      generalize nxR z = ra at *
      generalize nxN z = rn at *
      generalize nxP z = Z at *
      go_wp2_with fail
      refine FI.out.mono ?_
      rintro e W2 ⟨rfl, hb2⟩
      obtain ⟨V2, hV2⟩ : ∃ V, V = W2.alloc (.cells #[.int .i64 ra, .int .i64 rn] 40) := ⟨_, rfl⟩
      obtain ⟨si, hsi⟩ : ∃ si, si = W2.heap.size := ⟨_, rfl⟩
      have x2 : Below W2.heap.size W2 V2 := by rw [hV2]; exact (Below.refl _ _).alloc (Nat.le_refl _) _
      have bw2 : Box V2 si [.int .i64 ra, .int .i64 rn] 40 := by rw [hV2, hsi]; exact Box.newAt W2 [.int .i64 ra, .int .i64 rn] _ rfl
      have bz2 := (bz.below hb2).below x2
      have br2 := (bri.below hb2).below x2
      have hl2' := hlz.below hb2
      have hl2 := hl2'.below x2
      have hp2 := (hpz.below hb2).below x2
      have k2 := (hbz.trans (hb2.mono hbz.size)).trans (x2.mono (hbz.trans (hb2.mono hbz.size)).size)
      have hsil : (Value.slice q4 l.length e4).ownBlock ≠ some si := fun e => by have := (hl2'.lt e).2; omega
      have HV2 := Lib.hid hV2
      have HSI := Lib.hid hsi
      clear hV2 x2 bz bri hlz hpz pz FI hl2' hsi
      go_upto_region 6 with fail
      rw [← HV2.out, ← HSI.out]
      have y0 := bw2.cell 0 rfl
      have y1 := bw2.cell 1 rfl
      have hlen : l.length < 1099511627776 := by omega
      have hBV := k2.size
      go_wp2_with (first | (at_builtin; refine wpList_append_rw rfl _ _ rfl ra rn rfl hl2 rfl hlen hBV ?_; intro v' w1 ho1 hg1 hk1; have bw1 := bw2.grown hsil hk1; have y0 := bw1.cell 0 rfl; have y1 := bw1.cell 1 rfl) | fail)
      have bz1 := bz2.offR (by decide) hl2 hk1
      have br1 := br2.offR (by decide) hl2 hk1
      have hp1 := hp2.offR hl2 hk1
      have k1 := below_grown k2 hl2 hg1
      obtain ⟨q5, e5, rfl⟩ := ho1.slS
      have AP1 := Lib.hid (AP.out w1 (hp1.ppatch bz1))
      clear bz2 br2 hl2 hp2 k2 hsil hg1 hk1 bw2 bw1 y0 y1 AP hBV hp1
      refine AP1.out.mono ?_
      rintro e W4 ⟨v1, v2, v3, N1, N, rfl, ho4, hb4⟩
      obtain ⟨qa', da', ea'⟩ := ho4.o1.sl'
      obtain ⟨qb', db', eb', -⟩ := ho4.o3.rd
      obtain ⟨qc', dc', ec'⟩ := ho4.o2.sl
      subst ea' eb' ec'
      have bz4 := bz1.below hb4
      have br4 := br1.below hb4
      have k4 := k1.trans (hb4.mono k1.size)
      have hl4 := ho1.below hb4
      have hp4 := ho4.mono k1.size
      obtain ⟨W9, hW9, b9, o9, l9, r9, x9⟩ := put_patchR (inp := Z.inputs) bz4 hp4 hl4 k4 (Nat.le_trans hB0.size hso2)
      have br9 := x9 g (by have := br.lt; omega) _ _ br4
      have y0 := bz4.cell 0 rfl
      have y1 := bz4.cell 1 rfl
      have y2 := bz4.cell 2 rfl
      have y3 := bz4.cell 3 rfl
      have j0 := bz4.frozen 0
      have j1 := bz4.frozen 1
      have j2 := bz4.frozen 2
      have j3 := bz4.frozen 3
      have HH := Lib.hid (And.intro r9 (And.intro b9 (And.intro o9 (And.intro br9 l9))))
      have H9 := Lib.hid hW9
      clear hW9 b9 o9 l9 r9 x9 br9 bz4 br4 k4 hl4 hp4 ho4 ho1 bz1 br1 k1 AP1
      go_wp2_with fail
      rw [← H9.out]
      go_roundw
      case rel => exact ⟨Z, l ++ [(ra, rn)], r', _, _, _, _, _, _, _, N1, N, q5, e5, rfl, hlr', hr', hoz', by rw [List.length_append]; rfl, by have := HH.out.1; rwa [List.length_append] at *, HH.out.2.1, HH.out.2.2.1, HH.out.2.2.2.1, HH.out.2.2.2.2⟩
      case measure =>
        have := congrArg List.length hlr'
        simp only [List.length_append, List.length_singleton] at this
        simp [lenV]
        omega
end Go.Proofs.YtonkdndpfnapjaaGreat

namespace Go.Proofs.YtonkdndpfnapjaaGreat
open Go.ChangeShapes Go.WideShapes Go.ChangeAt Go.RowKit Go.Sort
set_option linter.unusedVariables false

set_option maxHeartbeats 8000000 in
set_option maxRecDepth 100000 in
theorem optimize_x {x y : PatchD} {rs : List (Int × Int)} {v : Value} (w : World) (h : VPatch w v x) (hok : okB x = true) (hr : Runs x y rs) :
    Calls Tryz.prog 33 #[v] w (RetA w (trimP y) rs) := by
  have hrl := runs_len hr hok 720 (fuel_720 hok)
  have hv := h
  obtain ⟨p1, c1, p2, c2, p3, c3, rfl, -, -, -⟩ := h
  obtain ⟨g, hg⟩ : ∃ g, g = w.heap.size := ⟨_, rfl⟩
  obtain ⟨E, hE⟩ : ∃ E, E = ((w.alloc (.cells #[.int .i64 x.inputs, .slice p1 x.tables.length c1, .slice p2 x.nodes.length c2, .slice p3 x.outputs.length c3] 32)).alloc (.cells #[.int .i64 0, .slice none 0 0, .slice none 0 0, .slice none 0 0] 32)).alloc (.cells #[] 40) := ⟨_, rfl⟩
  have hB0 : Below w.heap.size w E := by rw [hE]; exact (((Below.refl _ _).alloc (Nat.le_refl _) _).alloc (by simp) _).alloc (by simp; omega) _
  have bx : Box E g [.int .i64 x.inputs, .slice p1 x.tables.length c1, .slice p2 x.nodes.length c2, .slice p3 x.outputs.length c3] 32 := by rw [hE, hg]; exact ((Box.newAt w _ _ rfl).alloc _).alloc _
  have br : Box E (g + 1) zPatch 32 := by rw [hE, hg]; exact (Box.newAt (w.alloc _) _ _ (by simp)).alloc _
  have hl0 : OwnR w.heap.size E (.slice (some ⟨g + 1 + 1, 0, none⟩) 0 0) [] := by
    rw [hE, hg]
    have h0 := OwnR.lit0 (B := w.heap.size) ((w.alloc (.cells #[.int .i64 x.inputs, .slice p1 x.tables.length c1, .slice p2 x.nodes.length c2, .slice p3 x.outputs.length c3] 32)).alloc (.cells #[.int .i64 0, .slice none 0 0, .slice none 0 0, .slice none 0 0] 32)) (by simp; omega)
    rw [World.size_alloc, World.size_alloc] at h0
    exact h0
  have hgw : w.heap.size ≤ g := by omega
  have HE := Lib.hid hE
  have HG := Lib.hid hg
  clear hE hg
  go_enter Tryz.func33, Tryz.ntmps33
  go_upto_region 2 with fail
  rw [← HE.out, ← HG.out]
  go_loopw [4] (fun lv wr => ∃ (z : PatchD) (l r : List (Int × Int)) (q1 : Option Addr) (e1 : Nat) (q2 : Option Addr) (e2 : Nat) (q3 : Option Addr) (e3 : Nat) (q4 : Option Addr) (e4 : Nat), l ++ r = rs ∧ Runs z y r ∧ okB z = true ∧ lv = .slice q4 l.length e4 ∧ OwnR w.heap.size wr (.slice q4 l.length e4) l ∧
      Box wr g [.int .i64 z.inputs, .slice q1 z.tables.length e1, .slice q2 z.nodes.length e2, .slice q3 z.outputs.length e3] 32 ∧ (VPatch w (.agg #[.int .i64 z.inputs, .slice q1 z.tables.length e1, .slice q2 z.nodes.length e2, .slice q3 z.outputs.length e3]) z ∨ ∃ M1 M, OwnP w.heap.size wr (.slice q1 z.tables.length e1) (.slice q2 z.nodes.length e2) (.slice q3 z.outputs.length e3) z.tables z.nodes z.outputs M1 M) ∧ Box wr (g + 1) zPatch 32 ∧ Below w.heap.size w wr) (fun lv _ => rs.length - lenV lv)
  case atStart => exact ⟨x, [], rs, _, _, _, _, _, _, _, _, rfl, hr, hok, rfl, hl0, bx, .inl hv, br, hB0⟩
  case round =>
    obtain ⟨z, l, r, q1, e1, q2, e2, q3, e3, q4, e4, hlr, hrz, hoz, rfl, hlz, bz, hvz, bri, hbz⟩ := hrel
    obtain ⟨wi, rfl⟩ : ∃ wi : World, wi = wr := ⟨_, rfl⟩
    clear hok hr hl0 bx hv br
    have vz : VPatch wi (.agg #[.int .i64 z.inputs, .slice q1 z.tables.length e1, .slice q2 z.nodes.length e2, .slice q3 z.outputs.length e3]) z := by
      rcases hvz with h | ⟨M1, M, ho⟩
      · exact h.below hbz
      · exact (ho.patch z.inputs).1.rd
    clear hvz
    have NX := Lib.hid (next_x wi vz (okB_formed hoz))
    unfold RetX at NX
    have hll : l.length ≤ 720 := by have := congrArg List.length hlr; rw [List.length_append] at this; omega
    have z0 := bz.cell 0 rfl
    have z1 := bz.cell 1 rfl
    have z2 := bz.cell 2 rfl
    have z3 := bz.cell 3 rfl
    have BZ := Lib.hid bz
    clear bz
    cases hb : nxB z
    case false =>
      rw [hb] at NX
      obtain ⟨rfl, rfl⟩ : y = z ∧ r = [] := by cases hrz with
        | done _ => exact ⟨rfl, rfl⟩
        | step hb' _ => rw [hb] at hb'; cases hb'
      rw [List.append_nil] at hlr
      subst hlr
      have TR := Lib.hid (fun W (hW : Below wi.heap.size wi W) => trimmed_v W (vz.below hW) (okB_formed hoz))
      clear vz
      go_wp2_with fail
      refine NX.out.mono ?_
      rintro e W2 ⟨v', rfl, hvp, hb2, -⟩
      obtain ⟨s1, d1, s2, d2, s3, d3, rfl, -, -, -⟩ := hvp
      obtain ⟨V1, hV1⟩ : ∃ V, V = W2.alloc (.cells #[.int .i64 (nxR y), .int .i64 (nxN y)] 40) := ⟨_, rfl⟩
      have x1 : Below W2.heap.size W2 V1 := by rw [hV1]; exact (Below.refl _ _).alloc (Nat.le_refl _) _
      obtain ⟨V2, hV2⟩ : ∃ V, V = V1.alloc (.cells #[.int .i64 (nxP y).inputs, .slice s1 (nxP y).tables.length d1, .slice s2 (nxP y).nodes.length d2, .slice s3 (nxP y).outputs.length d3] 32) := ⟨_, rfl⟩
      have x2 : Below V1.heap.size V1 V2 := by rw [hV2]; exact (Below.refl _ _).alloc (Nat.le_refl _) _
      have eV : Below wi.heap.size wi V2 := hb2.trans ((x1.trans (x2.mono x1.size)).mono hb2.size)
      have bz2 := BZ.out.below eV
      have br2 := bri.below eV
      have hl2 := hlz.below eV
      have TT := Lib.hid (TR.out V2 eV)
      have k2 := hbz.trans (eV.mono hbz.size)
      have HV1 := Lib.hid hV1
      have HV2 := Lib.hid hV2
      clear hV1 hV2 x1 x2 z0 z1 z2 z3 BZ bri hlz NX TR
      have z0 := bz2.cell 0 rfl
      have z1 := bz2.cell 1 rfl
      have z2 := bz2.cell 2 rfl
      have z3 := bz2.cell 3 rfl
      go_upto_region 4 with fail
      rw [← HV1.out, ← HV2.out]
      go_wp2_with fail
      refine TT.out.mono ?_
      rintro e W3 ⟨v1, v2, v3, L1, L, rfl, ho, hb3⟩
      obtain ⟨qa, da, ea⟩ := ho.o1.sl'
      obtain ⟨qb, db, eb, -⟩ := ho.o3.rd
      obtain ⟨qc, dc, ec⟩ := ho.o2.sl
      subst ea eb ec
      have br3 := br2.below hb3
      have hl3 := hl2.below hb3
      have k3 := k2.trans (hb3.mono k2.size)
      have ho3 := ho.mono k2.size
      clear z0 z1 z2 z3 bz2 br2 hl2 TT ho
      obtain ⟨Y, hY⟩ : ∃ Y, Y = trimP y := ⟨_, rfl⟩
      rw [← hY] at ho3 ⊢
      have HY := Lib.hid hY
      clear hY
      have j0 := br3.frozen 0
      have j1 := br3.frozen 1
      have j2 := br3.frozen 2
      have j3 := br3.frozen 3
      have i0 := br3.cell 0 rfl
      have i1 := br3.cell 1 rfl
      have i2 := br3.cell 2 rfl
      have i3 := br3.cell 3 rfl
      obtain ⟨W9, hW9, b9, o9, l9, r9, -⟩ := put_patchR (inp := Y.inputs) br3 ho3 hl3 k3 (by omega)
      have q0 := b9.cell 0 rfl
      have q1' := b9.cell 1 rfl
      have q2' := b9.cell 2 rfl
      have q3' := b9.cell 3 rfl
      have O9 := Lib.hid o9
      have L9 := Lib.hid l9
      have R9 := Lib.hid r9
      have H9 := Lib.hid hW9
      clear hW9 o9 l9 b9 r9 ho3 hl3 k3
      go_wp2_with fail
      rw [← H9.out]
      refine bodyPost_ret (v := .tuple #[.agg #[.int .i64 Y.inputs, .slice qa L1.length da, .slice qc Y.nodes.length dc, .slice qb Y.outputs.length db], .slice q4 l.length e4]) (by simp [results, Tryz.results33, go_sem, *]) rfl ?_
      obtain rfl := HY.out
      exact ⟨_, _, _, _, _, _, rfl, O9.out, R9.out, L9.out⟩
    case true =>
      rw [hb] at NX
      have hoz' := nx_ok hoz hb
      obtain ⟨r', rfl, hr'⟩ : ∃ r', r = (nxR z, nxN z) :: r' ∧ Runs (nxP z) y r' := by cases hrz with
        | done hb' => rw [hb] at hb'; cases hb'
        | step _ hr' => exact ⟨_, rfl, hr'⟩
      have hlr' : (l ++ [(nxR z, nxN z)]) ++ r' = rs := by rw [List.append_assoc]; exact hlr
      clear hlr hrz hb vz
      generalize nxR z = ra at *
      generalize nxN z = rn at *
      generalize nxP z = Z at *
      go_wp2_with fail
      refine NX.out.mono ?_
      rintro e W2 ⟨v', rfl, hvp, hb2, hown⟩
      obtain ⟨v1, v2, v3, M1, M, ev, ho2⟩ := hown (by first | trivial | rfl)
      obtain ⟨s1, d1, s2, d2, s3, d3, ev2, -, -, -⟩ := hvp
      rw [ev] at ev2
      simp only [Value.agg.injEq, Array.mk.injEq, List.cons.injEq, and_true, true_and] at ev2
      obtain ⟨rfl, rfl, rfl⟩ := ev2
      subst ev
      obtain ⟨V1, hV1⟩ : ∃ V, V = W2.alloc (.cells #[.int .i64 ra, .int .i64 rn] 40) := ⟨_, rfl⟩
      have x1 : Below W2.heap.size W2 V1 := by rw [hV1]; exact (Below.refl _ _).alloc (Nat.le_refl _) _
      have bo : Box V1 W2.heap.size [.int .i64 ra, .int .i64 rn] 40 := by rw [hV1]; exact Box.newAt W2 [.int .i64 ra, .int .i64 rn] _ rfl
      obtain ⟨V2, hV2⟩ : ∃ V, V = V1.alloc (.cells #[.int .i64 Z.inputs, .slice s1 Z.tables.length d1, .slice s2 Z.nodes.length d2, .slice s3 Z.outputs.length d3] 32) := ⟨_, rfl⟩
      have x2 : Below V1.heap.size V1 V2 := by rw [hV2]; exact (Below.refl _ _).alloc (Nat.le_refl _) _
      have bp2 : Box V2 V1.heap.size [.int .i64 Z.inputs, .slice s1 Z.tables.length d1, .slice s2 Z.nodes.length d2, .slice s3 Z.outputs.length d3] 32 := by rw [hV2]; exact Box.newAt V1 _ _ rfl
      obtain ⟨si, hsi⟩ : ∃ si, si = W2.heap.size := ⟨_, rfl⟩
      have hsj : V1.heap.size = si + 1 := by rw [hV1, hsi]; simp
      rw [hsj] at bp2
      rw [← hsi] at bo
      have bw2 := bo.below x2
      have eV : Below wi.heap.size wi V2 := hb2.trans ((x1.trans (x2.mono x1.size)).mono hb2.size)
      have bz2 := BZ.out.below eV
      have br2 := bri.below eV
      have hl2 := hlz.below eV
      have hsil : (Value.slice q4 l.length e4).ownBlock ≠ some si := fun e => by have := (hlz.lt e).2; have := hb2.size; omega
      have k2 := hbz.trans (eV.mono hbz.size)
      have hp2 := (((ho2.below x1).below x2).mono hbz.size)
      have HV1 := Lib.hid hV1
      have HV2 := Lib.hid hV2
      have HSI := Lib.hid hsi
      clear hV1 hV2 x1 x2 z0 z1 z2 z3 BZ bri hlz NX ho2 hown hsi bo eV
      go_upto_region 5 with fail
      rw [← HV1.out, ← HV2.out, ← HSI.out]
      have y0 := bw2.cell 0 rfl
      have y1 := bw2.cell 1 rfl
      have hlen : l.length < 1099511627776 := by omega
      have hBV := k2.size
      go_wp2_with (first | (at_builtin; refine wpList_append_rw rfl _ _ rfl ra rn rfl hl2 rfl hlen hBV ?_; intro v' w1 ho1 hg1 hk1; have bp1 := bp2.offR (by decide) hl2 hk1; have bz1 := bz2.offR (by decide) hl2 hk1; have m0 := bp1.cell 0 rfl; have m1 := bp1.cell 1 rfl; have m2 := bp1.cell 2 rfl; have m3 := bp1.cell 3 rfl; have j0 := bz1.frozen 0; have j1 := bz1.frozen 1; have j2 := bz1.frozen 2; have j3 := bz1.frozen 3; have i0 := bz1.cell 0 rfl; have i1 := bz1.cell 1 rfl; have i2 := bz1.cell 2 rfl; have i3 := bz1.cell 3 rfl) | fail)
      have br1 := br2.offR (by decide) hl2 hk1
      have hp1 := hp2.offR hl2 hk1
      have k1 := below_grown k2 hl2 hg1
      obtain ⟨q5, e5, rfl⟩ := ho1.slS
      obtain ⟨W9, hW9, b9, o9, l9, r9, x9⟩ := put_patchR (inp := Z.inputs) bz1 hp1 ho1 k1 hgw
      have br9 := x9 (g + 1) (by omega) _ _ br1
      rw [← hW9]
      go_roundw
      case rel => exact ⟨Z, l ++ [(ra, rn)], r', _, _, _, _, _, _, q5, e5, hlr', hr', hoz', by rw [List.length_append]; rfl, by rwa [List.length_append] at *, b9, .inr ⟨M1, M, o9⟩, br9, l9⟩
      case measure =>
        have := congrArg List.length hlr'
        simp only [List.length_append, List.length_singleton] at this
        simp [lenV]
        omega
end Go.Proofs.YtonkdndpfnapjaaGreat

namespace Go.Proofs.YtonkdndpfnapjaaGreat
open Go.ChangeShapes Go.WideShapes Go.ChangeAt Go.RowKit Go.Sort
set_option linter.unusedVariables false

noncomputable def optRes (x : PatchD) : PatchD := if okB x then trimP (allP x) else noPatch
noncomputable def savRes (x : PatchD) : Int := if okB x then (x.nodes.length : Int) - ((trimP (allP x)).nodes.length : Int) else 0
theorem all_ok {x : PatchD} (h : okB x = true) : okB (allP x) = true := runs_ok (runs_all h) h
theorem optRes_small (x : PatchD) : cntPatch (optRes x) ≤ 6291456 := by
  unfold optRes
  split
  · rename_i h
    exact cntPatch_small (trimP_small (all_ok h))
  · exact cntPatch_small ⟨by simp [noPatch], by simp [noPatch], by simp [noPatch], by simp [noPatch], by simp [noPatch]⟩
set_option maxHeartbeats 8000000 in
set_option maxRecDepth 100000 in
theorem l10Optimize_x {x : PatchD} {gp : Nat} (w : World) (h : PPatch w gp x) (hok : okB x = true) :
    Calls Tryz.prog 28 #[.pointer (some ⟨gp, 0, none⟩)] w (RetP0 w (trimP (allP x))) := by
  have hr := runs_all hok
  have hoy := runs_ok hr hok
  generalize allP x = y at *
  generalize allR x = rs at *
  have hf := okB_formed hoy
  obtain ⟨g, hg⟩ : ∃ g, g = w.heap.size := ⟨_, rfl⟩
  obtain ⟨E, hE⟩ : ∃ E, E = w.alloc (.cells #[.int .i64 0, .slice none 0 0, .slice none 0 0, .slice none 0 0] 32) := ⟨_, rfl⟩
  have hB0 : Below w.heap.size w E := by rw [hE]; exact (Below.refl _ _).alloc (Nat.le_refl _) _
  have br : Box E g zPatch 32 := by rw [hE, hg]; exact Box.newAt w _ _ rfl
  have hgw : w.heap.size ≤ g := by omega
  have ALL := Lib.hid (l10All_x E (h.below hB0) hok hr)
  have HE := Lib.hid hE
  have HG := Lib.hid hg
  clear hE hg h hr
  have KP : Hid (∀ (W : World) (q : Nat) p c, PPatch W q y → RdI W p (need y) → Calls Tryz.prog 55 #[.pointer (some ⟨q, 0, none⟩), .slice p (need y).length c] W (RetP0 W (trimP y))) := fun W q p c hp hr =>
    l07Keep_any W hp hr (by have := need_length y; have := (formed_iff.1 hf).2.2.1; omega) need_rng (formed_small hf) (formed_src hf) (formed_outs hf)
  go_enter Tryz.func28, Tryz.ntmps28
  go_upto_region 1 with fail
  rw [← HE.out, ← HG.out]
  go_wp2_with fail
  refine ALL.out.mono ?_
  rintro e W1 ⟨w1, w2, w3, L1, L, u, rfl, ho, hro, hb1⟩
  obtain ⟨qa, da, ea⟩ := ho.o1.sl'
  obtain ⟨qb, db, eb, -⟩ := ho.o3.rd
  obtain ⟨qc, dc, ec⟩ := ho.o2.sl
  obtain ⟨qd, dd, ed⟩ := hro.sl
  subst ea eb ec ed
  obtain ⟨V, hV⟩ : ∃ V, V = W1.alloc (.cells #[.int .i64 y.inputs, .slice qa L1.length da, .slice qc y.nodes.length dc, .slice qb y.outputs.length db] 32) := ⟨_, rfl⟩
  have d2 : Below W1.heap.size W1 V := by rw [hV]; exact (Below.refl _ _).alloc (Nat.le_refl _) _
  have bo : Box V W1.heap.size [.int .i64 y.inputs, .slice qa L1.length da, .slice qc y.nodes.length dc, .slice qb y.outputs.length db] 32 := by rw [hV]; exact Box.newAt W1 _ _ rfl
  obtain ⟨so, hso⟩ : ∃ so, so = W1.heap.size := ⟨_, rfl⟩
  rw [← hso] at bo
  have eV : Below E.heap.size E V := hb1.trans (d2.mono hb1.size)
  have hoV := ho.below d2
  have pV := hoV.ppatch bo
  have ND := Lib.hid (l07Needed_any V pV hf)
  have HV := Lib.hid hV
  have HSO := Lib.hid hso
  clear hV hso d2 ho hro hoV
  go_upto_region 2 with fail
  rw [← HV.out, ← HSO.out]
  go_wp2_with fail
  refine ND.out.mono ?_
  rintro e W2 ⟨u, rfl, hu, hb2⟩
  obtain ⟨pu, cu, rfl, hru⟩ := hu.rd
  have KK := Lib.hid (KP.out W2 so pu cu (pV.below hb2) hru)
  have e2 := eV.trans (hb2.mono eV.size)
  clear hu hru
  go_wp2_with fail
  refine KK.out.mono ?_
  rintro e W3 ⟨v1, v2, v3, N1, N, rfl, ho3, hb3⟩
  obtain ⟨qa', da', ea'⟩ := ho3.o1.sl'
  obtain ⟨qb', db', eb', -⟩ := ho3.o3.rd
  obtain ⟨qc', dc', ec'⟩ := ho3.o2.sl
  subst ea' eb' ec'
  have e3 := e2.trans (hb3.mono e2.size)
  have r3 := br.below e3
  have k3 := hB0.trans (e3.mono hB0.size)
  have ho4 := ho3.mono (hB0.trans (e2.mono hB0.size)).size
  clear KK ND KP ho3
  obtain ⟨Y, hY⟩ : ∃ Y, Y = trimP y := ⟨_, rfl⟩
  rw [← hY] at ho4 ⊢
  have HY := Lib.hid hY
  clear hY
  have j0 := r3.frozen 0
  have j1 := r3.frozen 1
  have j2 := r3.frozen 2
  have j3 := r3.frozen 3
  have i0 := r3.cell 0 rfl
  have i1 := r3.cell 1 rfl
  have i2 := r3.cell 2 rfl
  have i3 := r3.cell 3 rfl
  obtain ⟨W9, hW9, b9, o9, l9⟩ := put_patch (inp := Y.inputs) r3 ho4 k3 hgw
  have q0 := b9.cell 0 rfl
  have q1 := b9.cell 1 rfl
  have q2 := b9.cell 2 rfl
  have q3 := b9.cell 3 rfl
  have O9 := Lib.hid o9
  have L9 := Lib.hid l9
  have H9 := Lib.hid hW9
  clear hW9 o9 l9 b9 ho4 k3
  go_wp2_with fail
  rw [← H9.out]
  refine bodyPost_ret (v := .agg #[.int .i64 Y.inputs, .slice qa' N1.length da', .slice qc' Y.nodes.length dc', .slice qb' Y.outputs.length db']) (by simp [results, Tryz.results28, go_sem, *]) rfl ?_
  obtain rfl := HY.out
  exact ⟨_, _, _, _, _, rfl, O9.out, L9.out⟩
set_option maxHeartbeats 1600000 in
set_option maxRecDepth 100000 in
theorem specOptimizePatch_v {v : Value} {x : PatchD} (w : World) (h : VPatch w v x) :
    Calls Tryz.prog 22 #[v] w (RetPC w (optRes x) (okCode x)) := by
  obtain ⟨p1, c1, p2, c2, p3, c3, rfl, hp⟩ := PPatch.of h
  have hBa : Below w.heap.size w (w.alloc (.cells #[.int .i64 x.inputs, .slice p1 x.tables.length c1, .slice p2 x.nodes.length c2, .slice p3 x.outputs.length c3] 32)) := (Below.refl _ _).alloc (Nat.le_refl _) _
  obtain ⟨g, hg⟩ : ∃ g, g = w.heap.size := ⟨_, rfl⟩
  obtain ⟨E0, hE⟩ : ∃ E, E = (w.alloc (.cells #[.int .i64 x.inputs, .slice p1 x.tables.length c1, .slice p2 x.nodes.length c2, .slice p3 x.outputs.length c3] 32)).alloc (.cells #[.int .i64 0, .slice none 0 0, .slice none 0 0, .slice none 0 0] 32) := ⟨_, rfl⟩
  have hB0 : Below w.heap.size w E0 := by rw [hE]; exact hBa.alloc (by simp) _
  have hp0 : PPatch E0 g x := by rw [hE, hg]; exact hp.below ((Below.refl _ _).alloc (Nat.le_refl _) _)
  have br : Box E0 (g + 1) zPatch 32 := by rw [hE, hg]; exact Box.newAt (w.alloc _) zPatch _ (by simp)
  have HE := Lib.hid hE
  have HG := Lib.hid hg
  have i0 : w.heap.size ≤ g + 1 := by omega
  clear hE hg hBa h hp
  have OK := Lib.hid (l07Ok_any _ hp0)
  have fin : ∀ (W : World) (v1 v2 v3 : Value) (y : PatchD) (L1 L : List Value) (B : Nat) (code : Int), w.heap.size ≤ B → Below E0.heap.size E0 W → OwnP B W v1 v2 v3 y.tables y.nodes y.outputs L1 L →
      (Box ((((W.setCell ⟨g + 1, 0, none⟩ (.int .i64 y.inputs)).setCell ⟨g + 1, 1, none⟩ v1).setCell ⟨g + 1, 2, none⟩ v2).setCell ⟨g + 1, 3, none⟩ v3) (g + 1) [.int .i64 y.inputs, v1, v2, v3] 32) ∧
      RetPC w y code (.returned (.tuple #[.agg #[.int .i64 y.inputs, v1, v2, v3], .int .i64 code])) ((((W.setCell ⟨g + 1, 0, none⟩ (.int .i64 y.inputs)).setCell ⟨g + 1, 1, none⟩ v1).setCell ⟨g + 1, 2, none⟩ v2).setCell ⟨g + 1, 3, none⟩ v3) := fun W v1 v2 v3 y L1 L B code hB hW hop => by
    have hd := OwnP.done (w := w) (inp := y.inputs) hop (br.below hW) (hB0.trans (hW.mono hB0.size)) i0 hB
    exact ⟨hd.1, RetPC.mk rfl hd.2.1 (Nat.le_refl _) hd.2.2⟩
  have FIN := Lib.hid fin
  clear fin
  cases hF : okB x
  case false =>
    rw [hF] at OK
    rw [show optRes x = noPatch from by unfold optRes; rw [hF]; rfl, show okCode x = 1 from by unfold okCode; rw [hF]; rfl]
    go_enter Tryz.func22, Tryz.ntmps22
    go_upto_region 1 with fail
    rw [← HE.out, ← HG.out]
    go_wp2_with fail
    refine OK.out.mono ?_
    rintro e W1 ⟨rfl, hb1⟩
    have bri := br.below hb1
    obtain ⟨bW, hret⟩ := FIN.out W1 _ _ _ noPatch [] [] w.heap.size 1 (Nat.le_refl _) hb1 (OwnP.none0 _ _)
    simp only [noPatch] at bW
    have k0 := bri.cell 0 rfl
    have k1 := bri.cell 1 rfl
    have k2 := bri.cell 2 rfl
    have k3 := bri.cell 3 rfl
    have g0 := bri.frozen 0
    have g1 := bri.frozen 1
    have g2 := bri.frozen 2
    have g3 := bri.frozen 3
    have m0 := bW.cell 0 rfl
    have m1 := bW.cell 1 rfl
    have m2 := bW.cell 2 rfl
    have m3 := bW.cell 3 rfl
    have HRET := Lib.hid hret
    clear hret bW bri
    go_wp2_with fail
    refine bodyPost_ret (v := .tuple #[.agg #[.int .i64 0, .slice none 0 0, .slice none 0 0, .slice none 0 0], .int .i64 1]) (by simp [results, Tryz.results22, go_sem, *]) rfl ?_
    exact HRET.out
  rw [hF] at OK
  rw [show optRes x = trimP (allP x) from by unfold optRes; rw [hF]; rfl, show okCode x = 0 from by unfold okCode; rw [hF]; rfl]
  have K2 := Lib.hid (fun W (hW : Below E0.heap.size E0 W) => l10Optimize_x W (hp0.below hW) hF)
  generalize trimP (allP x) = KP at K2 ⊢
  go_enter Tryz.func22, Tryz.ntmps22
  go_upto_region 1 with fail
  rw [← HE.out, ← HG.out]
  go_wp2_with fail
  refine OK.out.mono ?_
  rintro e W1 ⟨rfl, hb1⟩
  have K3 := Lib.hid (K2.out W1 hb1)
  clear K2
  go_wp2_with fail
  refine K3.out.mono ?_
  rintro e W3 ⟨v1, v2, v3, L1, L, rfl, hop, hb3⟩
  have hb13 := Below.via hb1 hb3
  obtain ⟨q1, d1, e1⟩ := hop.o1.sl'
  obtain ⟨q2, d2, e2⟩ := hop.o2.sl
  obtain ⟨q3, d3, e3, -⟩ := hop.o3.rd
  subst e1 e2 e3
  have bri := br.below hb13
  obtain ⟨bW, hret⟩ := FIN.out W3 _ _ _ KP L1 L W1.heap.size 0 (Nat.le_trans hB0.size hb1.size) hb13 hop
  have k0 := bri.cell 0 rfl
  have k1 := bri.cell 1 rfl
  have k2 := bri.cell 2 rfl
  have k3 := bri.cell 3 rfl
  have g0 := bri.frozen 0
  have g1 := bri.frozen 1
  have g2 := bri.frozen 2
  have g3 := bri.frozen 3
  have m0 := bW.cell 0 rfl
  have m1 := bW.cell 1 rfl
  have m2 := bW.cell 2 rfl
  have m3 := bW.cell 3 rfl
  have HRET := Lib.hid hret
  clear hret bW bri hop
  go_wp2_with fail
  refine bodyPost_ret (v := .tuple #[.agg #[.int .i64 KP.inputs, .slice q1 L1.length d1, .slice q2 KP.nodes.length d2, .slice q3 KP.outputs.length d3], .int .i64 0]) (by simp [results, Tryz.results22, go_sem, *]) rfl ?_
  exact HRET.out
set_option maxHeartbeats 1600000 in
set_option maxRecDepth 100000 in
theorem implOptimizePatch_v {v : Value} {x : PatchD} (w : World) (h : VPatch w v x) :
    Calls Tryz.prog 23 #[v] w (RetPC w (optRes x) (okCode x)) := by
  have hv := h
  obtain ⟨p1, c1, p2, c2, p3, c3, rfl, r1, r2, r3⟩ := h
  clear r1 r2 r3
  obtain ⟨g, hg⟩ : ∃ g, g = w.heap.size := ⟨_, rfl⟩
  obtain ⟨E0, hE⟩ : ∃ E, E = (w.alloc (.cells #[.int .i64 x.inputs, .slice p1 x.tables.length c1, .slice p2 x.nodes.length c2, .slice p3 x.outputs.length c3] 32)).alloc (.cells #[.int .i64 0, .slice none 0 0, .slice none 0 0, .slice none 0 0] 32) := ⟨_, rfl⟩
  have hB0 : Below w.heap.size w E0 := by rw [hE]; exact ((Below.refl _ _).alloc (Nat.le_refl _) _).alloc (by simp) _
  have bx : Box E0 g [.int .i64 x.inputs, .slice p1 x.tables.length c1, .slice p2 x.nodes.length c2, .slice p3 x.outputs.length c3] 32 := by rw [hE, hg]; exact (Box.newAt w _ _ rfl).alloc _
  have br : Box E0 (g + 1) zPatch 32 := by rw [hE, hg]; exact Box.newAt (w.alloc _) zPatch _ (by simp)
  have HE := Lib.hid hE
  have HG := Lib.hid hg
  have i0 : w.heap.size ≤ g + 1 := by omega
  clear hE hg
  have OK := Lib.hid (isPatch_v _ (hv.below hB0))
  have fin : ∀ (W : World) (v1 v2 v3 : Value) (y : PatchD) (L1 L : List Value) (B : Nat) (code : Int), w.heap.size ≤ B → Below E0.heap.size E0 W → OwnP B W v1 v2 v3 y.tables y.nodes y.outputs L1 L →
      (Box ((((W.setCell ⟨g + 1, 0, none⟩ (.int .i64 y.inputs)).setCell ⟨g + 1, 1, none⟩ v1).setCell ⟨g + 1, 2, none⟩ v2).setCell ⟨g + 1, 3, none⟩ v3) (g + 1) [.int .i64 y.inputs, v1, v2, v3] 32) ∧
      RetPC w y code (.returned (.tuple #[.agg #[.int .i64 y.inputs, v1, v2, v3], .int .i64 code])) ((((W.setCell ⟨g + 1, 0, none⟩ (.int .i64 y.inputs)).setCell ⟨g + 1, 1, none⟩ v1).setCell ⟨g + 1, 2, none⟩ v2).setCell ⟨g + 1, 3, none⟩ v3) := fun W v1 v2 v3 y L1 L B code hB hW hop => by
    have hd := OwnP.done (w := w) (inp := y.inputs) hop (br.below hW) (hB0.trans (hW.mono hB0.size)) i0 hB
    exact ⟨hd.1, RetPC.mk rfl hd.2.1 (Nat.le_refl _) hd.2.2⟩
  have FIN := Lib.hid fin
  clear fin
  have z0 := bx.cell 0 rfl
  have z1 := bx.cell 1 rfl
  have z2 := bx.cell 2 rfl
  have z3 := bx.cell 3 rfl
  cases hF : okB x
  case false =>
    rw [hF] at OK
    rw [show optRes x = noPatch from by unfold optRes; rw [hF]; rfl, show okCode x = 1 from by unfold okCode; rw [hF]; rfl]
    go_enter Tryz.func23, Tryz.ntmps23
    go_upto_region 1 with fail
    rw [← HE.out, ← HG.out]
    go_wp2_with fail
    refine OK.out.mono ?_
    rintro e W1 ⟨rfl, hb1⟩
    clear z0 z1 z2 z3
    have bri := br.below hb1
    obtain ⟨bW, hret⟩ := FIN.out W1 _ _ _ noPatch [] [] w.heap.size 1 (Nat.le_refl _) hb1 (OwnP.none0 _ _)
    simp only [noPatch] at bW
    have k0 := bri.cell 0 rfl
    have k1 := bri.cell 1 rfl
    have k2 := bri.cell 2 rfl
    have k3 := bri.cell 3 rfl
    have g0 := bri.frozen 0
    have g1 := bri.frozen 1
    have g2 := bri.frozen 2
    have g3 := bri.frozen 3
    have m0 := bW.cell 0 rfl
    have m1 := bW.cell 1 rfl
    have m2 := bW.cell 2 rfl
    have m3 := bW.cell 3 rfl
    have HRET := Lib.hid hret
    clear hret bW bri
    go_wp2_with fail
    refine bodyPost_ret (v := .tuple #[.agg #[.int .i64 0, .slice none 0 0, .slice none 0 0, .slice none 0 0], .int .i64 1]) (by simp [results, Tryz.results23, go_sem, *]) rfl ?_
    exact HRET.out
  rw [hF] at OK
  rw [show optRes x = trimP (allP x) from by unfold optRes; rw [hF]; rfl, show okCode x = 0 from by unfold okCode; rw [hF]; rfl]
  have K1 : Hid (∀ W, Below E0.heap.size E0 W → Calls Tryz.prog 33 #[.agg #[.int .i64 x.inputs, .slice p1 x.tables.length c1, .slice p2 x.nodes.length c2, .slice p3 x.outputs.length c3]] W (RetA W (trimP (allP x)) (allR x))) := fun W hW => optimize_x W (hv.below (hB0.trans (hW.mono hB0.size))) hF (runs_all hF)
  generalize trimP (allP x) = KP at K1 ⊢
  generalize allR x = rs at K1
  clear hv
  go_enter Tryz.func23, Tryz.ntmps23
  go_upto_region 1 with fail
  rw [← HE.out, ← HG.out]
  go_wp2_with fail
  refine OK.out.mono ?_
  rintro e W1 ⟨rfl, hb1⟩
  have bx1 := bx.below hb1
  clear z0 z1 z2 z3
  have z0 := bx1.cell 0 rfl
  have z1 := bx1.cell 1 rfl
  have z2 := bx1.cell 2 rfl
  have z3 := bx1.cell 3 rfl
  go_wp2_with fail
  refine (K1.out W1 hb1).mono ?_
  rintro e W2 ⟨v1, v2, v3, L1, L, u, rfl, hop2, hro, hb2⟩
  obtain ⟨q1, d1, e1⟩ := hop2.o1.sl'
  obtain ⟨q2, d2, e2⟩ := hop2.o2.sl
  obtain ⟨q3, d3, e3, -⟩ := hop2.o3.rd
  obtain ⟨q4, d4, e4⟩ := hro.sl
  subst e1 e2 e3 e4
  obtain ⟨W3, hW3⟩ : ∃ V, V = W2.alloc (.cells #[.int .i64 KP.inputs, .slice q1 L1.length d1, .slice q2 KP.nodes.length d2, .slice q3 KP.outputs.length d3] 32) := ⟨_, rfl⟩
  have x3 : Below W2.heap.size W2 W3 := by rw [hW3]; exact (Below.refl _ _).alloc (Nat.le_refl _) _
  have bo : Box W3 W2.heap.size [.int .i64 KP.inputs, .slice q1 L1.length d1, .slice q2 KP.nodes.length d2, .slice q3 KP.outputs.length d3] 32 := by rw [hW3]; exact Box.newAt W2 _ _ rfl
  have hb3 := hb2.trans (x3.mono hb2.size)
  have hop := hop2.below x3
  have hb13 := Below.via hb1 hb3
  have bri := br.below hb13
  obtain ⟨bW, hret⟩ := FIN.out W3 _ _ _ KP L1 L W1.heap.size 0 (Nat.le_trans hB0.size hb1.size) hb13 hop
  have HW3 := Lib.hid hW3
  clear z0 z1 z2 z3 hW3 hop2 hro x3
  have z0 := bo.cell 0 rfl
  have z1 := bo.cell 1 rfl
  have z2 := bo.cell 2 rfl
  have z3 := bo.cell 3 rfl
  go_upto_region 4 with fail
  rw [← HW3.out]
  have k0 := bri.cell 0 rfl
  have k1 := bri.cell 1 rfl
  have k2 := bri.cell 2 rfl
  have k3 := bri.cell 3 rfl
  have g0 := bri.frozen 0
  have g1 := bri.frozen 1
  have g2 := bri.frozen 2
  have g3 := bri.frozen 3
  have m0 := bW.cell 0 rfl
  have m1 := bW.cell 1 rfl
  have m2 := bW.cell 2 rfl
  have m3 := bW.cell 3 rfl
  have HRET := Lib.hid hret
  clear hret bW bri hop
  go_wp2_with fail
  refine bodyPost_ret (v := .tuple #[.agg #[.int .i64 KP.inputs, .slice q1 L1.length d1, .slice q2 KP.nodes.length d2, .slice q3 KP.outputs.length d3], .int .i64 0]) (by simp [results, Tryz.results23, go_sem, *]) rfl ?_
  exact HRET.out
end Go.Proofs.YtonkdndpfnapjaaGreat
