/-
  Several texts in one: ApY, ApV, ApZ, RwZ, RwI.
-/
import Derived.Test.YtcfhcmgmkhfjjaaGreatPk6
import Derived.Test.YtcfhcmgmkhfjjaaGreatPk10
import Derived.Test.YtcfhcmgmkhfjjaaGreatPk1
namespace Go.Proofs.YtcfhcmgmkhfjjaaGreat
open Go.ChangeShapes Go.WideShapes Go.ChangeAt Go.RowKit
set_option linter.unusedVariables false

/-- a patch and a code, as results -/
def RetPC (w : World) (x : PatchD) (code : Int) (e : Ending) (w' : World) : Prop := ∃ u L, e = .returned (.tuple #[u, .int .i64 code]) ∧ OwnPatch w.heap.size w' u x L ∧ Dis L ∧ Below w.heap.size w w'
theorem RetPC.mk {w w' : World} {x : PatchD} {code : Int} {v1 v2 v3 : Value} {L1 L : List Value} {B : Nat} {inp : Int} (hi : inp = x.inputs) (h : OwnP B w' v1 v2 v3 x.tables x.nodes x.outputs L1 L) (hB : w.heap.size ≤ B) (hb : Below w.heap.size w w') :
    RetPC w x code (.returned (.tuple #[.agg #[.int .i64 inp, v1, v2, v3], .int .i64 code])) w' := by
  subst hi
  have hp := (h.mono hB).patch x.inputs
  exact ⟨_, _, rfl, hp.1, hp.2, hb⟩
def noPatch : PatchD := ⟨0, [], [], []⟩
theorem OwnP.none0 (B : Nat) (w : World) : OwnP B w (.slice none 0 0) (.slice none 0 0) (.slice none 0 0) [] [] [] [] [] := OwnP.nil w (OwnI.nil B w)
theorem lens_rows : ∀ (ts : List (List Int)) (m : Nat), (∀ t ∈ ts, t.length ≤ m) → lens ts ≤ m * ts.length
  | [], m, _ => by simp [lens]
  | t :: ts, m, h => by
    have h1 := h t (List.mem_cons_self ..)
    have h2 := lens_rows ts m fun u hu => h u (List.mem_cons_of_mem _ hu)
    rw [lens_cons, List.length_cons, Nat.mul_add]
    omega
theorem cntPatch_small {x : PatchD} (sm : Small x) : cntPatch x ≤ 6291456 := by
  have h1 := lens_rows x.tables 1000 sm.rows
  have h2 := lens_rows (x.nodes.map NodeD.src) 1000 fun t ht => by
    obtain ⟨n, hn, rfl⟩ := List.mem_map.1 ht
    exact sm.srcs n hn
  have h3 := sm.tables
  have h4 := sm.nodes
  have h5 := sm.outs
  rw [List.length_map] at h2
  unfold cntPatch cntII cntNodeS cntI
  omega
theorem trimP_small {x : PatchD} (h : okB x = true) : Small (trimP x) := by
  have sm := formed_small (okB_len h).1
  have hk : (trimP x).nodes.length ≤ 24 := by
    have h24 := okB_n24 h
    have hl := need_length x
    show ((need x).map _).length ≤ 24
    rw [List.length_map]; omega
  refine ⟨sm.tables, sm.rows, by omega, fun n hn => ?_, ?_⟩
  · obtain ⟨i, hi, rfl⟩ := List.mem_map.1 hn
    show (mapL _ _).length ≤ 1000
    rw [mapL_length]
    obtain ⟨m, rfl⟩ : ∃ m : Nat, i = m := ⟨i.toNat, by have := need_rng i hi; omega⟩
    have hm : m < x.nodes.length := by have := need_rng _ hi; omega
    rw [nodeAt_eq hm]
    exact sm.srcs _ (List.getElem_mem hm)
  · show (mapL _ _).length ≤ 1000
    rw [mapL_length]; exact sm.outs
end Go.Proofs.YtcfhcmgmkhfjjaaGreat

namespace Go.Proofs.YtcfhcmgmkhfjjaaGreat
open Go.ChangeShapes Go.WideShapes Go.ChangeAt Go.RowKit Go.Sort
set_option linter.unusedVariables false

theorem two_src {x : PatchD} (hf : formedB x = true) {i : Int} (h0 : 0 ≤ i) (h1 : i < (x.nodes.length : Int)) (hk : (nodeAt x.nodes i).kind = 9) : (nodeAt x.nodes i).src = [inp x i 0, inp x i 1] := by
  have h := (nodeB_ar (nodeAt_ok hf h0 h1)).2
  have hl : (nodeAt x.nodes i).src.length = 2 := by
    rw [hk] at h
    have : kAr (9 - 1 : Int).toNat = 2 := rfl
    omega
  unfold inp
  generalize (nodeAt x.nodes i).src = l at hl
  match l, hl with
  | [y, z], _ => rfl
end Go.Proofs.YtcfhcmgmkhfjjaaGreat

namespace Go.Proofs.YtcfhcmgmkhfjjaaGreat
open Go.ChangeShapes Go.WideShapes Go.ChangeAt Go.RowKit Go.Sort
set_option linter.unusedVariables false

/-! ### runs -/
/-- from patch x the rewrites rs lead to y, where no rule applies -/
inductive Runs : PatchD → PatchD → List (Int × Int) → Prop
  | done {x : PatchD} (h : nxB x = false) : Runs x x []
  | step {x y : PatchD} {rs : List (Int × Int)} (h : nxB x = true) (r : Runs (nxP x) y rs) : Runs x y ((nxR x, nxN x) :: rs)
theorem nx_step {x : PatchD} (h : nxB x = true) : ruleP x (nxN x) ≠ 0 ∧ nxR x = ruleP x (nxN x) ∧ nxP x = afterP x (nxN x) (ruleP x (nxN x)) := by
  rcases e : fstI x with _ | i
  · rw [(fst_novals e).2.2.1] at h; cases h
  · obtain ⟨e1, e2, e3, e4⟩ := fst_vals e
    unfold fstI at e
    have := List.find?_some e
    rw [e2]
    exact ⟨by simpa using this, e1, e4⟩
theorem runs_some : ∀ (N : Nat) {x : PatchD}, okB x = true → Fuel x N → ∃ y rs, Runs x y rs := by
  intro N
  induction N using Nat.strongRecOn with
  | _ N ih =>
    intro x h hN
    cases hb : nxB x
    · exact ⟨_, _, .done hb⟩
    · obtain ⟨h1, h2, h3⟩ := nx_step hb
      obtain ⟨hok, M, hM, hF⟩ := rewrite_step h h1 hN
      rw [← h3] at hok hF
      obtain ⟨y, rs, hr⟩ := ih M hM hok hF
      exact ⟨_, _, .step hb hr⟩
theorem nx_ok {x : PatchD} (h : okB x = true) (hb : nxB x = true) : okB (nxP x) = true := by
  obtain ⟨N, hN⟩ := fuel_some h
  obtain ⟨h1, h2, h3⟩ := nx_step hb
  rw [h3]; exact (rewrite_step h h1 hN).1
theorem runs_ok {x y : PatchD} {rs : List (Int × Int)} (h : Runs x y rs) : okB x = true → okB y = true := by
  induction h with
  | done _ => exact id
  | step hb _ ih => exact fun h => ih (nx_ok h hb)
theorem runs_len {x y : PatchD} {rs : List (Int × Int)} (h : Runs x y rs) : okB x = true → ∀ N, Fuel x N → rs.length ≤ N := by
  induction h with
  | done _ => exact fun _ _ _ => Nat.zero_le _
  | step hb _ ih =>
    intro hx N hN
    obtain ⟨h1, h2, h3⟩ := nx_step hb
    obtain ⟨hok, M, hM, hF⟩ := rewrite_step hx h1 hN
    rw [← h3] at hok hF
    have := ih hok M hF
    rw [List.length_cons]; omega
theorem cost_le {ρ : Int → Nat} (h : ∀ j, ρ j ≤ 24) {n : NodeD} (ha : n.kind = 6 → 1 ≤ n.a) : cost ρ n ≤ 30 := by
  unfold cost
  have := h (n.src.getD 0 0)
  repeat' split
  all_goals first | omega | (have := ha (by assumption); omega)
theorem sumN_bound {f : Nat → Nat} {c : Nat} : ∀ n : Nat, (∀ j, j < n → f j ≤ c) → sumN f n ≤ c * n
  | 0, _ => Nat.zero_le _
  | n + 1, h => by
    have e1 := sumN_bound n fun j hj => h j (by omega)
    have e2 := h n (by omega)
    rw [sumN, Nat.mul_succ]; omega
theorem fuel_720 {x : PatchD} (h : okB x = true) : Fuel x 720 := by
  obtain ⟨ρ, h1, h2⟩ := okB_ranked h
  have hf := okB_formed h
  have hn24 := (formed_iff.1 hf).2.2.1
  refine ⟨ρ, h1, h2, ?_⟩
  unfold mass
  refine Nat.le_trans (sumN_bound (c := 30) _ fun j hj => ?_) (Nat.mul_le_mul_left 30 hn24)
  split
  · refine cost_le h2 fun hk => ?_
    have hq := nodeAt_ok hf (i := (j : Int)) (by omega) (by omega)
    rw [nodeB_split] at hq
    simp only [Bool.and_eq_true] at hq
    have h2 := hq.2.1
    rw [hk] at h2
    have : inB (nodeAt x.nodes (j : Int)).a 1 16 = true := h2
    rw [inB_iff] at this
    omega
  · omega
noncomputable def allP (x : PatchD) : PatchD := open Classical in if h : ∃ y rs, Runs x y rs then Classical.choose h else x
noncomputable def allR (x : PatchD) : List (Int × Int) := open Classical in if h : ∃ rs, Runs x (allP x) rs then Classical.choose h else []
theorem runs_all {x : PatchD} (h : okB x = true) : Runs x (allP x) (allR x) := by
  obtain ⟨N, hN⟩ := fuel_some h
  have h1 := runs_some N h hN
  have h2 : ∃ rs, Runs x (allP x) rs := by
    unfold allP; rw [dif_pos h1]; exact Classical.choose_spec h1
  unfold allR
  rw [dif_pos h2]
  exact Classical.choose_spec h2

/-! ### own lists of rewrites -/
def rwCells (rs : List (Int × Int)) : List Value := rs.flatMap fun r => [.int .i64 r.1, .int .i64 r.2]
def OwnR (B : Nat) (w : World) (v : Value) (rs : List (Int × Int)) : Prop := w.ownsRow B 40 2 v rs.length (rwCells rs)
theorem OwnR.lt {B : Nat} {w : World} {v : Value} {rs : List (Int × Int)} (h : OwnR B w v rs) {k : Nat} (hk : v.ownBlock = some k) : B ≤ k ∧ k < w.heap.size := World.ownsRow.lt h k hk
theorem OwnR.keep {B : Nat} {w w' : World} {v : Value} {rs : List (Int × Int)} (h : OwnR B w v rs) (hk : ∀ k, v.ownBlock = some k → w'.heap[k]? = w.heap[k]?) : OwnR B w' v rs := by
  refine ⟨h.1, ?_⟩
  rcases h.2 with hn | ⟨g, cap, cur, rfl, hb, hgg, rest⟩
  · exact .inl hn
  · exact .inr ⟨g, cap, cur, rfl, hb, (hk g rfl).trans hgg, rest⟩
theorem OwnR.mono {B B' : Nat} {w : World} {v : Value} {rs : List (Int × Int)} (h : OwnR B w v rs) (hB : B' ≤ B) : OwnR B' w v rs := by
  refine ⟨h.1, ?_⟩
  rcases h.2 with hn | ⟨g, cap, cur, e, hb, rest⟩
  · exact .inl hn
  · exact .inr ⟨g, cap, cur, e, Nat.le_trans hB hb, rest⟩
theorem OwnR.below {B : Nat} {w w' : World} {v : Value} {rs : List (Int × Int)} (h : OwnR B w v rs) (hb : Below w.heap.size w w') : OwnR B w' v rs := h.keep fun k hk => hb.block k (h.lt hk).2
theorem OwnR.lit0 {B : Nat} (w : World) (hB : B ≤ w.heap.size) : OwnR B (w.alloc (.cells #[] 40)) (.slice (some ⟨w.heap.size, 0, none⟩) 0 0) [] := by
  have h := World.ownsRow_lit (base := B) (e := 40) (size := 2) w #[] 0 hB (by simp [maxLen]) (by simp)
  simpa [OwnR, rwCells] using h
theorem OwnR.sl {B : Nat} {w : World} {v : Value} {rs : List (Int × Int)} (h : OwnR B w v rs) : ∃ q c, v = .slice q rs.length c := by
  rcases h.2 with ⟨h1, h2⟩ | ⟨g, cap, cur, hv, -⟩
  · exact ⟨none, 0, by rw [h1, h2]⟩
  · exact ⟨_, _, hv⟩
theorem OwnR.typed {B : Nat} {w : World} {v : Value} {rs : List (Int × Int)} (h : OwnR B w v rs) {k : Nat} (hk : v.ownBlock = some k) : ∃ cur, w.heap[k]? = some (.cells cur 40 (0, 0)) := by
  rcases h.2 with ⟨h1, h2⟩ | ⟨g, cap, cur, hv, hB, hg, -⟩
  · rw [h1] at hk; cases hk
  · rw [hv] at hk
    simp only [Value.ownBlock, Option.some.injEq] at hk
    subst hk
    exact ⟨cur, hg⟩
theorem infoRw : (Tryz.prog.info? 40).map (fun i => (i.zero, i.size, i.bytes)) = some (some (.agg #[.int .i64 0, .int .i64 0]), 2, 16) := by kernel_rfl
theorem run_append_rw (w : World) (ty : TypeId) {B : Nat} {v : Value} {rs : List (Int × Int)} (r n : Int) (hown : OwnR B w v rs) (hlen : rs.length < 1099511627776) (hB : B ≤ w.heap.size) :
    ∃ v' w', (Builtin.append_ #[48, 48] ty #[v, .slice (some ⟨w.heap.size, 0, none⟩) 1 1]).run Tryz.prog (w.alloc (.cells #[.int .i64 r, .int .i64 n] 40)) = .ok v' w' ∧ OwnR B w' v' (rs ++ [(r, n)]) ∧
      (w.alloc (.cells #[.int .i64 r, .int .i64 n] 40)).grownBy w' v.ownBlock := by
  obtain ⟨i0, hi, hz0, hz1, hz2⟩ := info_parts infoRw
  have hown' : OwnR B (w.alloc (.cells #[.int .i64 r, .int .i64 n] 40)) v rs := hown.keep fun k hk => Below.heap_alloc _ _ _ (hown.lt hk).2
  obtain ⟨v', w', h1, h2, h3, _⟩ := run_append_own (P := Tryz.prog) (w.alloc (.cells #[.int .i64 r, .int .i64 n] 40)) B 48 ty 40 i0 _ 2 16 Tryz.underlying48 hi hz0 hz1 hz2 (by rfl) (by decide) v rs.length (rwCells rs) hown'
    ⟨w.heap.size, 0, none⟩ 1 1 [.int .i64 r, .int .i64 n] rfl
    (by
      intro j x hx
      rw [Addr.add_lit, World.cell?_alloc_at _ _ _ _ rfl]
      simp only [Nat.zero_add]
      rw [List.getElem?_toArray.symm] at hx
      exact hx)
    (by intro x hx; simp only [List.mem_cons, List.not_mem_nil, or_false] at hx; rcases hx with rfl | rfl <;> rfl) (by simp only [maxLen]; omega) (by omega) (by simp; omega)
  refine ⟨v', w', h1, ?_, h3⟩
  unfold OwnR rwCells
  simpa [rwCells] using h2
theorem wpList_append_rw {ops : Array Oper} {rest : List Oper} {o : Oper} {a : Act} {Q : Exit → Act → World → Prop} {w : World} (hgd : o.guard = none) (s x : Operand)
    (ho : o.op = .call { callee := .builtin .append, args := #[s, x], argTypes := #[48, 48] })
    {B : Nat} {v : Value} {rs : List (Int × Int)} (r n : Int) (hs : a.eval s = v) (hown : OwnR B w v rs) (hx : a.eval x = .slice (some ⟨w.heap.size, 0, none⟩) 1 1) (hlen : rs.length < 1099511627776) (hB : B ≤ w.heap.size)
    (h : ∀ v' w', OwnR B w' v' (rs ++ [(r, n)]) → w.grownBy w' v.ownBlock → (∀ k, k < w.heap.size → v.ownBlock ≠ some k → w'.heap[k]? = w.heap[k]?) → wpList Tryz.prog ops Q rest (a.put o.dst v') w') : wpList Tryz.prog ops Q (o :: rest) a (w.alloc (.cells #[.int .i64 r, .int .i64 n] 40)) := by
  refine wpList_plain hgd fun K hK => ?_
  obtain ⟨v', w', e1, e2, e3⟩ := run_append_rw w o.type r n hown hlen hB
  unfold Oper.wp execOp
  simp only [ho, resolve, invoke, builtin, Sem.run_bind, Sem.run_pure, Result.andThen_ok, List.map_toArray, List.map_cons, List.map_nil, hs, hx, e1]
  have hk : ∀ k, k < w.heap.size → v.ownBlock ≠ some k → w'.heap[k]? = w.heap[k]? := fun k hk hne => (e3.block k (by simp; omega) (fun e => hne e.symm)).trans (Below.heap_alloc _ _ _ hk)
  exact hK _ _ (h v' w' e2 ⟨e3.os, e3.tape, e3.output, by have := e3.size; simp at this; omega, fun k h1 h2 => hk k h1 (fun e => h2 e.symm)⟩ hk)
end Go.Proofs.YtcfhcmgmkhfjjaaGreat

namespace Go.Proofs.YtcfhcmgmkhfjjaaGreat
open Go.ChangeShapes Go.WideShapes Go.ChangeAt Go.RowKit Go.Sort
set_option linter.unusedVariables false

def lenV : Value → Nat
  | .slice _ n _ => n
  | _ => 0
def RetA (w : World) (y : PatchD) (rs : List (Int × Int)) (e : Ending) (w' : World) : Prop :=
  ∃ v1 v2 v3 L1 L u, e = .returned (.tuple #[.agg #[.int .i64 y.inputs, v1, v2, v3], u]) ∧ OwnP w.heap.size w' v1 v2 v3 y.tables y.nodes y.outputs L1 L ∧ OwnR w.heap.size w' u rs ∧ Below w.heap.size w w'
theorem OwnP.ppatch {B : Nat} {w : World} {g : Nat} {x : PatchD} {v1 v2 v3 : Value} {L1 L : List Value} (bx : Box w g [.int .i64 x.inputs, v1, v2, v3] 28) (h : OwnP B w v1 v2 v3 x.tables x.nodes x.outputs L1 L) : PPatch w g x := by
  obtain ⟨p1, c1, p2, c2, p3, c3, e, r1, r2, r3⟩ := (h.patch x.inputs).1.rd
  simp only [Value.agg.injEq, Array.mk.injEq, List.cons.injEq, and_true, true_and] at e
  obtain ⟨rfl, rfl, rfl⟩ := e
  exact ⟨p1, c1, p2, c2, p3, c3, bx, r1, r2, r3⟩
theorem OwnR.setBox {B : Nat} {w : World} {v u : Value} {rs : List (Int × Int)} {s i : Nat} {cs : List Value} {T : TypeId} (h : OwnR B w v rs) (hb : Box w s cs T) (hT : T ≠ 40) : OwnR B (w.setCell ⟨s, i, none⟩ u) v rs :=
  h.keep fun k hk => Below.heap_setCell _ _ _ _ (by
    rintro rfl
    obtain ⟨cur, hg⟩ := h.typed hk
    unfold Box at hb
    rw [hg] at hb
    simp only [Option.some.injEq, Obj.cells.injEq] at hb
    exact hT hb.2.1.symm)
theorem put_patchR {B B' : Nat} {w W : World} {g : Nat} {inp : Int} {l0 l1 l2 l3 v1 v2 v3 u : Value} {ts : List (List Int)} {ns : List NodeD} {os : List Int} {L1 L : List Value} {rs : List (Int × Int)} (br : Box W g [l0, l1, l2, l3] 28)
    (h : OwnP B W v1 v2 v3 ts ns os L1 L) (hr : OwnR B' W u rs) (hb : Below w.heap.size w W) (hg : w.heap.size ≤ g) :
    ∃ W', W' = ((((W.setCell ⟨g, 0, none⟩ (.int .i64 inp)).setCell ⟨g, 1, none⟩ v1).setCell ⟨g, 2, none⟩ v2).setCell ⟨g, 3, none⟩ v3) ∧ Box W' g [.int .i64 inp, v1, v2, v3] 28 ∧ OwnP B W' v1 v2 v3 ts ns os L1 L ∧ Below w.heap.size w W' ∧ OwnR B' W' u rs ∧ ∀ k, k ≠ g → ∀ cs T, Box W k cs T → Box W' k cs T := by
  have b0 := br.set 0 (.int .i64 inp)
  have b1 := b0.set 1 v1
  have b2 := b1.set 2 v2
  exact ⟨_, rfl, br.put4, (((h.setBox br patchT 0 _).setBox b0 patchT 1 _).setBox b1 patchT 2 _).setBox b2 patchT 3 _, below_put4 _ _ _ _ hb hg, (((hr.setBox br (by decide)).setBox b0 (by decide)).setBox b1 (by decide)).setBox b2 (by decide),
    fun k hk cs T hB => (((hB.other (by exact hk) _).other (by exact hk) _).other (by exact hk) _).other (by exact hk) _⟩
theorem OwnR.slS {B : Nat} {w : World} {v : Value} {rs : List (Int × Int)} {r : Int × Int} (h : OwnR B w v (rs ++ [r])) : ∃ q c, v = .slice q (rs.length + 1) c := by
  obtain ⟨q, c, e⟩ := h.sl
  exact ⟨q, c, by rw [e, List.length_append, List.length_singleton]⟩
/-- what a grown list of rewrites leaves alone -/
theorem OwnP.offR {B B' : Nat} {w w' : World} {v v1 v2 v3 : Value} {rs : List (Int × Int)} {ts : List (List Int)} {ns : List NodeD} {os : List Int} {L1 L : List Value} (h : OwnP B w v1 v2 v3 ts ns os L1 L) (hr : OwnR B' w v rs) (hk : ∀ k, k < w.heap.size → v.ownBlock ≠ some k → w'.heap[k]? = w.heap[k]?) : OwnP B w' v1 v2 v3 ts ns os L1 L :=
  h.keep fun k _ hlt hkk => hk k hlt fun e => by
    obtain ⟨cur, hg⟩ := hr.typed e
    obtain ⟨cur', T, hg', hT⟩ := h.typed hkk
    rw [hg] at hg'
    simp only [Option.some.injEq, Obj.cells.injEq] at hg'
    obtain ⟨-, rfl, -⟩ := hg'
    revert hT; decide
theorem Box.offR {B' : Nat} {w w' : World} {v : Value} {rs : List (Int × Int)} {s : Nat} {cs : List Value} {T : TypeId} (h : Box w s cs T) (hT : T ≠ 40) (hr : OwnR B' w v rs) (hk : ∀ k, k < w.heap.size → v.ownBlock ≠ some k → w'.heap[k]? = w.heap[k]?) : Box w' s cs T := by
  have hne : v.ownBlock ≠ some s := fun e => by
    obtain ⟨cur, hg⟩ := hr.typed e
    have h' := h
    unfold Box at h'
    rw [hg] at h'
    simp only [Option.some.injEq, Obj.cells.injEq] at h'
    exact hT h'.2.1.symm
  have := hk s h.lt hne
  unfold Box at h ⊢
  rw [this]; exact h
theorem Box.grown {w w' : World} {v : Value} {s : Nat} {cs : List Value} {T : TypeId} (h : Box w s cs T) (hne : v.ownBlock ≠ some s) (hk : ∀ k, k < w.heap.size → v.ownBlock ≠ some k → w'.heap[k]? = w.heap[k]?) : Box w' s cs T := by
  have := hk s h.lt hne
  unfold Box at h ⊢
  rw [this]; exact h
theorem below_grown {w0 w w' : World} {v : Value} {rs : List (Int × Int)} (h : Below w0.heap.size w0 w) (hown : OwnR w0.heap.size w v rs) (hg : w.grownBy w' v.ownBlock) : Below w0.heap.size w0 w' :=
  ⟨hg.os.trans h.os, hg.tape.trans h.tape, hg.output.trans h.output, Nat.le_trans h.size hg.size, fun k hkk => (hg.block k (Nat.lt_of_lt_of_le hkk h.size) fun e => by have := (hown.lt e.symm).1; omega).trans (h.block k hkk)⟩
end Go.Proofs.YtcfhcmgmkhfjjaaGreat

namespace Go.Proofs.YtcfhcmgmkhfjjaaGreat
open Go.ChangeShapes Go.WideShapes Go.ChangeAt Go.RowKit Go.Sort
set_option linter.unusedVariables false

set_option maxHeartbeats 8000000 in
set_option maxRecDepth 100000 in
theorem optimize_x {x y : PatchD} {rs : List (Int × Int)} {v : Value} (w : World) (h : VPatch w v x) (hok : okB x = true) (hr : Runs x y rs) :
    Calls Tryz.prog 19 #[v] w (RetA w (trimP y) rs) := by
  have hrl := runs_len hr hok 720 (fuel_720 hok)
  have hv := h
  obtain ⟨p1, c1, p2, c2, p3, c3, rfl, -, -, -⟩ := h
  obtain ⟨g, hg⟩ : ∃ g, g = w.heap.size := ⟨_, rfl⟩
  obtain ⟨E, hE⟩ : ∃ E, E = ((w.alloc (.cells #[.int .i64 x.inputs, .slice p1 x.tables.length c1, .slice p2 x.nodes.length c2, .slice p3 x.outputs.length c3] 28)).alloc (.cells #[.int .i64 0, .slice none 0 0, .slice none 0 0, .slice none 0 0] 28)).alloc (.cells #[] 40) := ⟨_, rfl⟩
  have hB0 : Below w.heap.size w E := by rw [hE]; exact (((Below.refl _ _).alloc (Nat.le_refl _) _).alloc (by simp) _).alloc (by simp; omega) _
  have bx : Box E g [.int .i64 x.inputs, .slice p1 x.tables.length c1, .slice p2 x.nodes.length c2, .slice p3 x.outputs.length c3] 28 := by rw [hE, hg]; exact ((Box.newAt w _ _ rfl).alloc _).alloc _
  have br : Box E (g + 1) zPatch 28 := by rw [hE, hg]; exact (Box.newAt (w.alloc _) _ _ (by simp)).alloc _
  have hl0 : OwnR w.heap.size E (.slice (some ⟨g + 1 + 1, 0, none⟩) 0 0) [] := by
    rw [hE, hg]
    have h0 := OwnR.lit0 (B := w.heap.size) ((w.alloc (.cells #[.int .i64 x.inputs, .slice p1 x.tables.length c1, .slice p2 x.nodes.length c2, .slice p3 x.outputs.length c3] 28)).alloc (.cells #[.int .i64 0, .slice none 0 0, .slice none 0 0, .slice none 0 0] 28)) (by simp; omega)
    rw [World.size_alloc, World.size_alloc] at h0
    exact h0
  have hgw : w.heap.size ≤ g := by omega
  have HE := Lib.hid hE
  have HG := Lib.hid hg
  clear hE hg
  go_enter Tryz.func19, Tryz.ntmps19
  go_upto_region 2 with fail
  rw [← HE.out, ← HG.out]
  go_loopw [4] (fun lv wr => ∃ (z : PatchD) (l r : List (Int × Int)) (q1 : Option Addr) (e1 : Nat) (q2 : Option Addr) (e2 : Nat) (q3 : Option Addr) (e3 : Nat) (q4 : Option Addr) (e4 : Nat), l ++ r = rs ∧ Runs z y r ∧ okB z = true ∧ lv = .slice q4 l.length e4 ∧ OwnR w.heap.size wr (.slice q4 l.length e4) l ∧
      Box wr g [.int .i64 z.inputs, .slice q1 z.tables.length e1, .slice q2 z.nodes.length e2, .slice q3 z.outputs.length e3] 28 ∧ (VPatch w (.agg #[.int .i64 z.inputs, .slice q1 z.tables.length e1, .slice q2 z.nodes.length e2, .slice q3 z.outputs.length e3]) z ∨ ∃ M1 M, OwnP w.heap.size wr (.slice q1 z.tables.length e1) (.slice q2 z.nodes.length e2) (.slice q3 z.outputs.length e3) z.tables z.nodes z.outputs M1 M) ∧ Box wr (g + 1) zPatch 28 ∧ Below w.heap.size w wr) (fun lv _ => rs.length - lenV lv)
  case atStart => exact ⟨x, [], rs, _, _, _, _, _, _, _, _, rfl, hr, hok, rfl, hl0, bx, .inl hv, br, hB0⟩
  case round =>
    obtain ⟨z, l, r, q1, e1, q2, e2, q3, e3, q4, e4, hlr, hrz, hoz, rfl, hlz, bz, hvz, bri, hbz⟩ := hrel
    obtain ⟨wi, rfl⟩ : ∃ wi : World, wi = wr := ⟨_, rfl⟩
    clear hok hr hl0 bx hv br
    have vz : VPatch wi (.agg #[.int .i64 z.inputs, .slice q1 z.tables.length e1, .slice q2 z.nodes.length e2, .slice q3 z.outputs.length e3]) z := by
      rcases hvz with h | ⟨M1, M, ho⟩
      · exact h.below hbz
      · exact (ho.patch z.inputs).1.rd
    clear hvz
    have NX := Lib.hid (next_x wi vz (okB_formed hoz))
    unfold RetX at NX
    have hll : l.length ≤ 720 := by have := congrArg List.length hlr; rw [List.length_append] at this; omega
    have z0 := bz.cell 0 rfl
    have z1 := bz.cell 1 rfl
    have z2 := bz.cell 2 rfl
    have z3 := bz.cell 3 rfl
    have BZ := Lib.hid bz
    clear bz
    cases hb : nxB z
    case false =>
      rw [hb] at NX
      obtain ⟨rfl, rfl⟩ : y = z ∧ r = [] := by cases hrz with
        | done _ => exact ⟨rfl, rfl⟩
        | step hb' _ => rw [hb] at hb'; cases hb'
      rw [List.append_nil] at hlr
      subst hlr
      have TR := Lib.hid (fun W (hW : Below wi.heap.size wi W) => trimmed_v W (vz.below hW) (okB_formed hoz))
      clear vz
      go_wp2_with fail
      refine NX.out.mono ?_
      rintro e W2 ⟨v', rfl, hvp, hb2, -⟩
      obtain ⟨s1, d1, s2, d2, s3, d3, rfl, -, -, -⟩ := hvp
      obtain ⟨V1, hV1⟩ : ∃ V, V = W2.alloc (.cells #[.int .i64 (nxR y), .int .i64 (nxN y)] 40) := ⟨_, rfl⟩
      have x1 : Below W2.heap.size W2 V1 := by rw [hV1]; exact (Below.refl _ _).alloc (Nat.le_refl _) _
      obtain ⟨V2, hV2⟩ : ∃ V, V = V1.alloc (.cells #[.int .i64 (nxP y).inputs, .slice s1 (nxP y).tables.length d1, .slice s2 (nxP y).nodes.length d2, .slice s3 (nxP y).outputs.length d3] 28) := ⟨_, rfl⟩
      have x2 : Below V1.heap.size V1 V2 := by rw [hV2]; exact (Below.refl _ _).alloc (Nat.le_refl _) _
      have eV : Below wi.heap.size wi V2 := hb2.trans ((x1.trans (x2.mono x1.size)).mono hb2.size)
      have bz2 := BZ.out.below eV
      have br2 := bri.below eV
      have hl2 := hlz.below eV
      have TT := Lib.hid (TR.out V2 eV)
      have k2 := hbz.trans (eV.mono hbz.size)
      have HV1 := Lib.hid hV1
      have HV2 := Lib.hid hV2
      clear hV1 hV2 x1 x2 z0 z1 z2 z3 BZ bri hlz NX TR
      have z0 := bz2.cell 0 rfl
      have z1 := bz2.cell 1 rfl
      have z2 := bz2.cell 2 rfl
      have z3 := bz2.cell 3 rfl
      go_upto_region 4 with fail
      rw [← HV1.out, ← HV2.out]
      go_wp2_with fail
      refine TT.out.mono ?_
      rintro e W3 ⟨v1, v2, v3, L1, L, rfl, ho, hb3⟩
      obtain ⟨qa, da, ea⟩ := ho.o1.sl'
      obtain ⟨qb, db, eb, -⟩ := ho.o3.rd
      obtain ⟨qc, dc, ec⟩ := ho.o2.sl
      subst ea eb ec
      have br3 := br2.below hb3
      have hl3 := hl2.below hb3
      have k3 := k2.trans (hb3.mono k2.size)
      have ho3 := ho.mono k2.size
      clear z0 z1 z2 z3 bz2 br2 hl2 TT ho
      obtain ⟨Y, hY⟩ : ∃ Y, Y = trimP y := ⟨_, rfl⟩
      rw [← hY] at ho3 ⊢
      have HY := Lib.hid hY
      clear hY
      have j0 := br3.frozen 0
      have j1 := br3.frozen 1
      have j2 := br3.frozen 2
      have j3 := br3.frozen 3
      have i0 := br3.cell 0 rfl
      have i1 := br3.cell 1 rfl
      have i2 := br3.cell 2 rfl
      have i3 := br3.cell 3 rfl
      obtain ⟨W9, hW9, b9, o9, l9, r9, -⟩ := put_patchR (inp := Y.inputs) br3 ho3 hl3 k3 (by omega)
      have q0 := b9.cell 0 rfl
      have q1' := b9.cell 1 rfl
      have q2' := b9.cell 2 rfl
      have q3' := b9.cell 3 rfl
      have O9 := Lib.hid o9
      have L9 := Lib.hid l9
      have R9 := Lib.hid r9
      have H9 := Lib.hid hW9
      clear hW9 o9 l9 b9 r9 ho3 hl3 k3
      go_wp2_with fail
      rw [← H9.out]
      refine bodyPost_ret (v := .tuple #[.agg #[.int .i64 Y.inputs, .slice qa L1.length da, .slice qc Y.nodes.length dc, .slice qb Y.outputs.length db], .slice q4 l.length e4]) (by simp [results, Tryz.results19, go_sem, *]) rfl ?_
      obtain rfl := HY.out
      exact ⟨_, _, _, _, _, _, rfl, O9.out, R9.out, L9.out⟩
    case true =>
      rw [hb] at NX
      have hoz' := nx_ok hoz hb
      obtain ⟨r', rfl, hr'⟩ : ∃ r', r = (nxR z, nxN z) :: r' ∧ Runs (nxP z) y r' := by cases hrz with
        | done hb' => rw [hb] at hb'; cases hb'
        | step _ hr' => exact ⟨_, rfl, hr'⟩
      have hlr' : (l ++ [(nxR z, nxN z)]) ++ r' = rs := by rw [List.append_assoc]; exact hlr
      clear hlr hrz hb vz
      generalize nxR z = ra at *
      generalize nxN z = rn at *
      generalize nxP z = Z at *
      go_wp2_with fail
      refine NX.out.mono ?_
      rintro e W2 ⟨v', rfl, hvp, hb2, hown⟩
      obtain ⟨v1, v2, v3, M1, M, ev, ho2⟩ := hown (by first | trivial | rfl)
      obtain ⟨s1, d1, s2, d2, s3, d3, ev2, -, -, -⟩ := hvp
      rw [ev] at ev2
      simp only [Value.agg.injEq, Array.mk.injEq, List.cons.injEq, and_true, true_and] at ev2
      obtain ⟨rfl, rfl, rfl⟩ := ev2
      subst ev
      obtain ⟨V1, hV1⟩ : ∃ V, V = W2.alloc (.cells #[.int .i64 ra, .int .i64 rn] 40) := ⟨_, rfl⟩
      have x1 : Below W2.heap.size W2 V1 := by rw [hV1]; exact (Below.refl _ _).alloc (Nat.le_refl _) _
      have bo : Box V1 W2.heap.size [.int .i64 ra, .int .i64 rn] 40 := by rw [hV1]; exact Box.newAt W2 [.int .i64 ra, .int .i64 rn] _ rfl
      obtain ⟨V2, hV2⟩ : ∃ V, V = V1.alloc (.cells #[.int .i64 Z.inputs, .slice s1 Z.tables.length d1, .slice s2 Z.nodes.length d2, .slice s3 Z.outputs.length d3] 28) := ⟨_, rfl⟩
      have x2 : Below V1.heap.size V1 V2 := by rw [hV2]; exact (Below.refl _ _).alloc (Nat.le_refl _) _
      have bp2 : Box V2 V1.heap.size [.int .i64 Z.inputs, .slice s1 Z.tables.length d1, .slice s2 Z.nodes.length d2, .slice s3 Z.outputs.length d3] 28 := by rw [hV2]; exact Box.newAt V1 _ _ rfl
      obtain ⟨si, hsi⟩ : ∃ si, si = W2.heap.size := ⟨_, rfl⟩
      have hsj : V1.heap.size = si + 1 := by rw [hV1, hsi]; simp
      rw [hsj] at bp2
      rw [← hsi] at bo
      have bw2 := bo.below x2
      have eV : Below wi.heap.size wi V2 := hb2.trans ((x1.trans (x2.mono x1.size)).mono hb2.size)
      have bz2 := BZ.out.below eV
      have br2 := bri.below eV
      have hl2 := hlz.below eV
      have hsil : (Value.slice q4 l.length e4).ownBlock ≠ some si := fun e => by have := (hlz.lt e).2; have := hb2.size; omega
      have k2 := hbz.trans (eV.mono hbz.size)
      have hp2 := (((ho2.below x1).below x2).mono hbz.size)
      have HV1 := Lib.hid hV1
      have HV2 := Lib.hid hV2
      have HSI := Lib.hid hsi
      clear hV1 hV2 x1 x2 z0 z1 z2 z3 BZ bri hlz NX ho2 hown hsi bo eV
      go_upto_region 5 with fail
      rw [← HV1.out, ← HV2.out, ← HSI.out]
      have y0 := bw2.cell 0 rfl
      have y1 := bw2.cell 1 rfl
      have hlen : l.length < 1099511627776 := by omega
      have hBV := k2.size
      go_wp2_with (first | (at_builtin; refine wpList_append_rw rfl _ _ rfl ra rn rfl hl2 rfl hlen hBV ?_; intro v' w1 ho1 hg1 hk1; have bp1 := bp2.offR (by decide) hl2 hk1; have bz1 := bz2.offR (by decide) hl2 hk1; have m0 := bp1.cell 0 rfl; have m1 := bp1.cell 1 rfl; have m2 := bp1.cell 2 rfl; have m3 := bp1.cell 3 rfl; have j0 := bz1.frozen 0; have j1 := bz1.frozen 1; have j2 := bz1.frozen 2; have j3 := bz1.frozen 3; have i0 := bz1.cell 0 rfl; have i1 := bz1.cell 1 rfl; have i2 := bz1.cell 2 rfl; have i3 := bz1.cell 3 rfl) | fail)
      have br1 := br2.offR (by decide) hl2 hk1
      have hp1 := hp2.offR hl2 hk1
      have k1 := below_grown k2 hl2 hg1
      obtain ⟨q5, e5, rfl⟩ := ho1.slS
      obtain ⟨W9, hW9, b9, o9, l9, r9, x9⟩ := put_patchR (inp := Z.inputs) bz1 hp1 ho1 k1 hgw
      have br9 := x9 (g + 1) (by omega) _ _ br1
      rw [← hW9]
      go_roundw
      case rel => exact ⟨Z, l ++ [(ra, rn)], r', _, _, _, _, _, _, q5, e5, hlr', hr', hoz', by rw [List.length_append]; rfl, by rwa [List.length_append] at *, b9, .inr ⟨M1, M, o9⟩, br9, l9⟩
      case measure =>
        have := congrArg List.length hlr'
        simp only [List.length_append, List.length_singleton] at this
        simp [lenV]
        omega
end Go.Proofs.YtcfhcmgmkhfjjaaGreat

namespace Go.Proofs.YtcfhcmgmkhfjjaaGreat
open Go.ChangeShapes Go.WideShapes Go.ChangeAt Go.RowKit Go.Sort
set_option linter.unusedVariables false

noncomputable def optRes (x : PatchD) : PatchD := if okB x then trimP (allP x) else noPatch
noncomputable def savRes (x : PatchD) : Int := if okB x then (x.nodes.length : Int) - ((trimP (allP x)).nodes.length : Int) else 0
theorem all_ok {x : PatchD} (h : okB x = true) : okB (allP x) = true := runs_ok (runs_all h) h
theorem optRes_small (x : PatchD) : cntPatch (optRes x) ≤ 6291456 := by
  unfold optRes
  split
  · rename_i h
    exact cntPatch_small (trimP_small (all_ok h))
  · exact cntPatch_small ⟨by simp [noPatch], by simp [noPatch], by simp [noPatch], by simp [noPatch], by simp [noPatch]⟩
set_option maxHeartbeats 1600000 in
set_option maxRecDepth 100000 in
theorem implOptimizePatch_v {v : Value} {x : PatchD} (w : World) (h : VPatch w v x) :
    Calls Tryz.prog 6 #[v] w (RetPC w (optRes x) (okCode x)) := by
  have hv := h
  obtain ⟨p1, c1, p2, c2, p3, c3, rfl, r1, r2, r3⟩ := h
  clear r1 r2 r3
  obtain ⟨g, hg⟩ : ∃ g, g = w.heap.size := ⟨_, rfl⟩
  obtain ⟨E0, hE⟩ : ∃ E, E = (w.alloc (.cells #[.int .i64 x.inputs, .slice p1 x.tables.length c1, .slice p2 x.nodes.length c2, .slice p3 x.outputs.length c3] 28)).alloc (.cells #[.int .i64 0, .slice none 0 0, .slice none 0 0, .slice none 0 0] 28) := ⟨_, rfl⟩
  have hB0 : Below w.heap.size w E0 := by rw [hE]; exact ((Below.refl _ _).alloc (Nat.le_refl _) _).alloc (by simp) _
  have bx : Box E0 g [.int .i64 x.inputs, .slice p1 x.tables.length c1, .slice p2 x.nodes.length c2, .slice p3 x.outputs.length c3] 28 := by rw [hE, hg]; exact (Box.newAt w _ _ rfl).alloc _
  have br : Box E0 (g + 1) zPatch 28 := by rw [hE, hg]; exact Box.newAt (w.alloc _) zPatch _ (by simp)
  have HE := Lib.hid hE
  have HG := Lib.hid hg
  have i0 : w.heap.size ≤ g + 1 := by omega
  clear hE hg
  have OK := Lib.hid (isPatch_v _ (hv.below hB0))
  have fin : ∀ (W : World) (v1 v2 v3 : Value) (y : PatchD) (L1 L : List Value) (B : Nat) (code : Int), w.heap.size ≤ B → Below E0.heap.size E0 W → OwnP B W v1 v2 v3 y.tables y.nodes y.outputs L1 L →
      (Box ((((W.setCell ⟨g + 1, 0, none⟩ (.int .i64 y.inputs)).setCell ⟨g + 1, 1, none⟩ v1).setCell ⟨g + 1, 2, none⟩ v2).setCell ⟨g + 1, 3, none⟩ v3) (g + 1) [.int .i64 y.inputs, v1, v2, v3] 28) ∧
      RetPC w y code (.returned (.tuple #[.agg #[.int .i64 y.inputs, v1, v2, v3], .int .i64 code])) ((((W.setCell ⟨g + 1, 0, none⟩ (.int .i64 y.inputs)).setCell ⟨g + 1, 1, none⟩ v1).setCell ⟨g + 1, 2, none⟩ v2).setCell ⟨g + 1, 3, none⟩ v3) := fun W v1 v2 v3 y L1 L B code hB hW hop => by
    have hd := OwnP.done (w := w) (inp := y.inputs) hop (br.below hW) (hB0.trans (hW.mono hB0.size)) i0 hB
    exact ⟨hd.1, RetPC.mk rfl hd.2.1 (Nat.le_refl _) hd.2.2⟩
  have FIN := Lib.hid fin
  clear fin
  have z0 := bx.cell 0 rfl
  have z1 := bx.cell 1 rfl
  have z2 := bx.cell 2 rfl
  have z3 := bx.cell 3 rfl
  cases hF : okB x
  case false =>
    rw [hF] at OK
    rw [show optRes x = noPatch from by unfold optRes; rw [hF]; rfl, show okCode x = 1 from by unfold okCode; rw [hF]; rfl]
    go_enter Tryz.func6, Tryz.ntmps6
    go_upto_region 1 with fail
    rw [← HE.out, ← HG.out]
    go_wp2_with fail
    refine OK.out.mono ?_
    rintro e W1 ⟨rfl, hb1⟩
    clear z0 z1 z2 z3
    have bri := br.below hb1
    obtain ⟨bW, hret⟩ := FIN.out W1 _ _ _ noPatch [] [] w.heap.size 1 (Nat.le_refl _) hb1 (OwnP.none0 _ _)
    simp only [noPatch] at bW
    have k0 := bri.cell 0 rfl
    have k1 := bri.cell 1 rfl
    have k2 := bri.cell 2 rfl
    have k3 := bri.cell 3 rfl
    have g0 := bri.frozen 0
    have g1 := bri.frozen 1
    have g2 := bri.frozen 2
    have g3 := bri.frozen 3
    have m0 := bW.cell 0 rfl
    have m1 := bW.cell 1 rfl
    have m2 := bW.cell 2 rfl
    have m3 := bW.cell 3 rfl
    have HRET := Lib.hid hret
    clear hret bW bri
    go_wp2_with fail
    refine bodyPost_ret (v := .tuple #[.agg #[.int .i64 0, .slice none 0 0, .slice none 0 0, .slice none 0 0], .int .i64 1]) (by simp [results, Tryz.results6, go_sem, *]) rfl ?_
    exact HRET.out
  rw [hF] at OK
  rw [show optRes x = trimP (allP x) from by unfold optRes; rw [hF]; rfl, show okCode x = 0 from by unfold okCode; rw [hF]; rfl]
  have K1 : Hid (∀ W, Below E0.heap.size E0 W → Calls Tryz.prog 19 #[.agg #[.int .i64 x.inputs, .slice p1 x.tables.length c1, .slice p2 x.nodes.length c2, .slice p3 x.outputs.length c3]] W (RetA W (trimP (allP x)) (allR x))) := fun W hW => optimize_x W (hv.below (hB0.trans (hW.mono hB0.size))) hF (runs_all hF)
  generalize trimP (allP x) = KP at K1 ⊢
  generalize allR x = rs at K1
  clear hv
  go_enter Tryz.func6, Tryz.ntmps6
  go_upto_region 1 with fail
  rw [← HE.out, ← HG.out]
  go_wp2_with fail
  refine OK.out.mono ?_
  rintro e W1 ⟨rfl, hb1⟩
  have bx1 := bx.below hb1
  clear z0 z1 z2 z3
  have z0 := bx1.cell 0 rfl
  have z1 := bx1.cell 1 rfl
  have z2 := bx1.cell 2 rfl
  have z3 := bx1.cell 3 rfl
  go_wp2_with fail
  refine (K1.out W1 hb1).mono ?_
  rintro e W2 ⟨v1, v2, v3, L1, L, u, rfl, hop2, hro, hb2⟩
  obtain ⟨q1, d1, e1⟩ := hop2.o1.sl'
  obtain ⟨q2, d2, e2⟩ := hop2.o2.sl
  obtain ⟨q3, d3, e3, -⟩ := hop2.o3.rd
  obtain ⟨q4, d4, e4⟩ := hro.sl
  subst e1 e2 e3 e4
  obtain ⟨W3, hW3⟩ : ∃ V, V = W2.alloc (.cells #[.int .i64 KP.inputs, .slice q1 L1.length d1, .slice q2 KP.nodes.length d2, .slice q3 KP.outputs.length d3] 28) := ⟨_, rfl⟩
  have x3 : Below W2.heap.size W2 W3 := by rw [hW3]; exact (Below.refl _ _).alloc (Nat.le_refl _) _
  have bo : Box W3 W2.heap.size [.int .i64 KP.inputs, .slice q1 L1.length d1, .slice q2 KP.nodes.length d2, .slice q3 KP.outputs.length d3] 28 := by rw [hW3]; exact Box.newAt W2 _ _ rfl
  have hb3 := hb2.trans (x3.mono hb2.size)
  have hop := hop2.below x3
  have hb13 := Below.via hb1 hb3
  have bri := br.below hb13
  obtain ⟨bW, hret⟩ := FIN.out W3 _ _ _ KP L1 L W1.heap.size 0 (Nat.le_trans hB0.size hb1.size) hb13 hop
  have HW3 := Lib.hid hW3
  clear z0 z1 z2 z3 hW3 hop2 hro x3
  have z0 := bo.cell 0 rfl
  have z1 := bo.cell 1 rfl
  have z2 := bo.cell 2 rfl
  have z3 := bo.cell 3 rfl
  go_upto_region 4 with fail
  rw [← HW3.out]
  have k0 := bri.cell 0 rfl
  have k1 := bri.cell 1 rfl
  have k2 := bri.cell 2 rfl
  have k3 := bri.cell 3 rfl
  have g0 := bri.frozen 0
  have g1 := bri.frozen 1
  have g2 := bri.frozen 2
  have g3 := bri.frozen 3
  have m0 := bW.cell 0 rfl
  have m1 := bW.cell 1 rfl
  have m2 := bW.cell 2 rfl
  have m3 := bW.cell 3 rfl
  have HRET := Lib.hid hret
  clear hret bW bri hop
  go_wp2_with fail
  refine bodyPost_ret (v := .tuple #[.agg #[.int .i64 KP.inputs, .slice q1 L1.length d1, .slice q2 KP.nodes.length d2, .slice q3 KP.outputs.length d3], .int .i64 0]) (by simp [results, Tryz.results6, go_sem, *]) rfl ?_
  exact HRET.out
end Go.Proofs.YtcfhcmgmkhfjjaaGreat

namespace Go.Proofs.YtcfhcmgmkhfjjaaGreat
open Go.ChangeShapes Go.WideShapes Go.ChangeAt Go.RowKit Go.Sort
set_option linter.unusedVariables false

set_option maxHeartbeats 8000000 in
set_option maxRecDepth 100000 in
theorem implSavedNodes_v {v : Value} {x : PatchD} (w : World) (h : VPatch w v x) :
    Calls Tryz.prog 8 #[v] w fun e w' => e = .returned (.tuple #[.int .i64 (savRes x), .int .i64 (okCode x)]) ∧ Below w.heap.size w w' := by
  have hv := h
  obtain ⟨p1, c1, p2, c2, p3, c3, rfl, -, r2, -⟩ := h
  have hml := r2.len
  clear r2
  obtain ⟨g, hg⟩ : ∃ g, g = w.heap.size := ⟨_, rfl⟩
  obtain ⟨E, hE⟩ : ∃ E, E = w.alloc (.cells #[.int .i64 x.inputs, .slice p1 x.tables.length c1, .slice p2 x.nodes.length c2, .slice p3 x.outputs.length c3] 28) := ⟨_, rfl⟩
  have hB0 : Below w.heap.size w E := by rw [hE]; exact (Below.refl _ _).alloc (Nat.le_refl _) _
  have bx : Box E g [.int .i64 x.inputs, .slice p1 x.tables.length c1, .slice p2 x.nodes.length c2, .slice p3 x.outputs.length c3] 28 := by rw [hE, hg]; exact Box.newAt w _ _ rfl
  have HE := Lib.hid hE
  have HG := Lib.hid hg
  clear hE hg
  have OK := Lib.hid (isPatch_v _ (hv.below hB0))
  have z0 := bx.cell 0 rfl
  have z1 := bx.cell 1 rfl
  have z2 := bx.cell 2 rfl
  have z3 := bx.cell 3 rfl
  cases hF : okB x
  case false =>
    rw [hF] at OK
    rw [show savRes x = 0 from by unfold savRes; rw [hF]; rfl, show okCode x = 1 from by unfold okCode; rw [hF]; rfl]
    go_enter Tryz.func8, Tryz.ntmps8
    go_upto_region 1 with fail
    rw [← HE.out, ← HG.out]
    go_wp2_with fail
    refine OK.out.mono ?_
    rintro e W1 ⟨rfl, hb1⟩
    clear z0 z1 z2 z3
    go_wp2_with fail
    refine bodyPost_ret (v := .tuple #[.int .i64 0, .int .i64 1]) (by simp [results, Tryz.results8, go_sem, *]) rfl ?_
    exact ⟨rfl, hB0.trans (hb1.mono hB0.size)⟩
  rw [hF] at OK
  rw [show savRes x = (x.nodes.length : Int) - ((trimP (allP x)).nodes.length : Int) from by unfold savRes; rw [hF]; rfl, show okCode x = 0 from by unfold okCode; rw [hF]; rfl]
  have K1 : Hid (∀ W, Below E.heap.size E W → Calls Tryz.prog 19 #[.agg #[.int .i64 x.inputs, .slice p1 x.tables.length c1, .slice p2 x.nodes.length c2, .slice p3 x.outputs.length c3]] W (RetA W (trimP (allP x)) (allR x))) := fun W hW => optimize_x W (hv.below (hB0.trans (hW.mono hB0.size))) hF (runs_all hF)
  have h24 := (okB_len hF).2.2
  have hk24 : (trimP (allP x)).nodes.length ≤ 24 := by
    have h1 := (formed_iff.1 (okB_formed (all_ok hF))).2.2.1
    have h2 := need_length (allP x)
    show ((need (allP x)).map _).length ≤ 24
    rw [List.length_map]; omega
  generalize trimP (allP x) = KP at K1 hk24 ⊢
  generalize allR x = rs at K1
  have hw : IntKind.i64.wrap ((x.nodes.length : Int) - (KP.nodes.length : Int)) = (x.nodes.length : Int) - (KP.nodes.length : Int) := IntWalk.i64_in _ (by omega)
  have hkl : KP.nodes.length ≤ maxLen := by unfold maxLen; omega
  clear hv hF
  go_enter Tryz.func8, Tryz.ntmps8
  go_upto_region 1 with fail
  rw [← HE.out, ← HG.out]
  go_wp2_with fail
  refine OK.out.mono ?_
  rintro e W1 ⟨rfl, hb1⟩
  have bx1 := bx.below hb1
  clear z0 z1 z2 z3
  have z0 := bx1.cell 0 rfl
  have z1 := bx1.cell 1 rfl
  have z2 := bx1.cell 2 rfl
  have z3 := bx1.cell 3 rfl
  go_wp2_with fail
  refine (K1.out W1 hb1).mono ?_
  rintro e W2 ⟨v1, v2, v3, L1, L, u, rfl, hop, hro, hb2⟩
  obtain ⟨q1, d1, e1⟩ := hop.o1.sl'
  obtain ⟨q2, d2, e2⟩ := hop.o2.sl
  obtain ⟨q3, d3, e3, -⟩ := hop.o3.rd
  obtain ⟨q4, d4, e4⟩ := hro.sl
  subst e1 e2 e3 e4
  obtain ⟨W3, hW3⟩ : ∃ V, V = W2.alloc (.cells #[.int .i64 KP.inputs, .slice q1 L1.length d1, .slice q2 KP.nodes.length d2, .slice q3 KP.outputs.length d3] 28) := ⟨_, rfl⟩
  have x3 : Below W2.heap.size W2 W3 := by rw [hW3]; exact (Below.refl _ _).alloc (Nat.le_refl _) _
  have bo : Box W3 W2.heap.size [.int .i64 KP.inputs, .slice q1 L1.length d1, .slice q2 KP.nodes.length d2, .slice q3 KP.outputs.length d3] 28 := by rw [hW3]; exact Box.newAt W2 _ _ rfl
  obtain ⟨so, hso⟩ : ∃ so, so = W2.heap.size := ⟨_, rfl⟩
  rw [← hso] at bo
  have e3 := (hb1.trans (hb2.mono hb1.size)).trans (x3.mono (hb1.trans (hb2.mono hb1.size)).size)
  have bx3 := bx.below e3
  have k3 := hB0.trans (e3.mono hB0.size)
  have HW3 := Lib.hid hW3
  have HSO := Lib.hid hso
  have SZ1 : Hid (∀ W, Calls Tryz.prog 21 #[.slice p2 x.nodes.length c2] W fun e w' => e = .returned (.int .i64 (x.nodes.length : Int)) ∧ W = w') := fun W => sizeN_any p2 x.nodes.length c2 W hml
  have SZ2 : Hid (∀ W, Calls Tryz.prog 21 #[.slice q2 KP.nodes.length d2] W fun e w' => e = .returned (.int .i64 (KP.nodes.length : Int)) ∧ W = w') := fun W => sizeN_any q2 KP.nodes.length d2 W hkl
  clear hW3 x3 hop hro hso z0 z1 z2 z3
  have t2 := bx3.cell 2 rfl
  have o2 := bo.cell 2 rfl
  have J1 : Hid (∀ W, Calls Tryz.prog 21 #[.slice p2 x.nodes.length c2] W fun e w' => e = .returned (.int .i64 (x.nodes.length : Int)) ∧ Below W.heap.size W w') := fun W => (SZ1.out W).mono fun e w' ⟨h1, h2⟩ => ⟨h1, h2 ▸ Below.refl _ _⟩
  have J2 : Hid (∀ W, Calls Tryz.prog 21 #[.slice q2 KP.nodes.length d2] W fun e w' => e = .returned (.int .i64 (KP.nodes.length : Int)) ∧ Below W.heap.size W w') := fun W => (SZ2.out W).mono fun e w' ⟨h1, h2⟩ => ⟨h1, h2 ▸ Below.refl _ _⟩
  have N1 := Lib.hid (fun n os => Calls.regrown_of (w := W3) (d := n) (os := os) (J1.out _))
  have N2 := Lib.hid (fun n os => Calls.regrown_of (w := W3) (d := n) (os := os) (J2.out _))
  have s2 := cell_regrown t2
  have u2 := cell_regrown o2
  clear J1 J2 SZ1 SZ2 t2 o2
  go_upto_region 4 with fail
  rw [← HW3.out, ← HSO.out]
  refine wp_region_quiet_below (by kernel_rfl) (by kernel_rfl) ?_
  repeat (first | go_big_quiet_step ((go_at_call 21; first | exact N1.out _ _ | exact N2.out _ _)) | quiet_step ((go_at_call 21; first | exact N1.out _ _ | exact N2.out _ _)))
  refine wpQuiet_nil ?_
  intro _ hw'
  obtain ⟨⟨dq, osq⟩, hw''⟩ := hw'
  subst hw''
  have hq := below_regrown W3 dq osq
  go_wp2_with fail
  refine bodyPost_ret (v := .tuple #[.int .i64 ((x.nodes.length : Int) - (KP.nodes.length : Int)), .int .i64 0]) (by simp [results, Tryz.results8, go_sem, *]) rfl ?_
  exact ⟨rfl, k3.trans (hq.mono k3.size)⟩
end Go.Proofs.YtcfhcmgmkhfjjaaGreat

namespace Go.Proofs.YtcfhcmgmkhfjjaaGreat
open Go.ChangeShapes Go.WideShapes Go.ChangeAt Go.RowKit
set_option linter.unusedVariables false

structure RewriteD where
  rule : Int
  node : Int
def VRewrite (w : World) (v : Value) (x : RewriteD) : Prop := v = .agg #[.int .i64 x.rule, .int .i64 x.node]
end Go.Proofs.YtcfhcmgmkhfjjaaGreat

namespace Go.Proofs.YtcfhcmgmkhfjjaaGreat
open Go.ChangeShapes Go.WideShapes Go.ChangeAt Go.RowKit Go.Sort
set_option linter.unusedVariables false

def apOk (x : PatchD) (r n : Int) : Bool := inB n 0 ((x.nodes.length : Int) - 1) && (!(r == 0) && ruleP x n == r)
def apRes (x : PatchD) (r n : Int) : PatchD := if okB x then (if apOk x r n then afterP x n r else noPatch) else noPatch
def apCode (x : PatchD) (r n : Int) : Int := if okB x then (if apOk x r n then 0 else 3) else 1
theorem ap_bad {x : PatchD} {r n : Int} (h : okB x = false) : apRes x r n = noPatch ∧ apCode x r n = 1 := by
  unfold apRes apCode; rw [h]; exact ⟨rfl, rfl⟩
theorem ap_not {x : PatchD} {r n : Int} (h : okB x = true) (h' : apOk x r n = false) : apRes x r n = noPatch ∧ apCode x r n = 3 := by
  unfold apRes apCode; rw [h, h']; exact ⟨rfl, rfl⟩
theorem ap_yes {x : PatchD} {r n : Int} (h : okB x = true) (h' : apOk x r n = true) : apRes x r n = afterP x n r ∧ apCode x r n = 0 := by
  unfold apRes apCode; rw [h, h']; exact ⟨rfl, rfl⟩
theorem apRes_small (x : PatchD) (r n : Int) : cntPatch (apRes x r n) ≤ 6291456 := by
  have h0 : cntPatch noPatch ≤ 6291456 := cntPatch_small ⟨by simp [noPatch], by simp [noPatch], by simp [noPatch], by simp [noPatch], by simp [noPatch]⟩
  cases h : okB x
  · rw [(ap_bad h).1]; exact h0
  · cases h' : apOk x r n
    · rw [(ap_not h h').1]; exact h0
    · rw [(ap_yes h h').1]
      unfold apOk at h'
      simp only [Bool.and_eq_true, Bool.not_eq_true', beq_iff_eq, beq_eq_false_iff_ne] at h'
      obtain ⟨-, hr, he⟩ := h'
      obtain ⟨N, hN⟩ := fuel_some h
      have := (rewrite_step h (by rw [he]; exact hr) hN).1
      rw [he] at this
      exact cntPatch_small (formed_small (okB_formed this))
set_option maxHeartbeats 8000000 in
set_option maxRecDepth 100000 in
theorem implApplyRewrite_v {v : Value} {x : PatchD} {r n : Int} (w : World) (h : VPatch w v x) :
    Calls Tryz.prog 15 #[v, .agg #[.int .i64 r, .int .i64 n]] w (RetPC w (apRes x r n) (apCode x r n)) := by
  have hv := h
  obtain ⟨p1, c1, p2, c2, p3, c3, rfl, -, r2, -⟩ := h
  have hml := r2.len
  clear r2
  obtain ⟨g, hg⟩ : ∃ g, g = w.heap.size := ⟨_, rfl⟩
  obtain ⟨E, hE⟩ : ∃ E, E = ((w.alloc (.cells #[.int .i64 x.inputs, .slice p1 x.tables.length c1, .slice p2 x.nodes.length c2, .slice p3 x.outputs.length c3] 28)).alloc (.cells #[.int .i64 r, .int .i64 n] 40)).alloc (.cells #[.int .i64 0, .slice none 0 0, .slice none 0 0, .slice none 0 0] 28) := ⟨_, rfl⟩
  have hB0 : Below w.heap.size w E := by rw [hE]; exact (((Below.refl _ _).alloc (Nat.le_refl _) _).alloc (by simp) _).alloc (by simp; omega) _
  have bx : Box E g [.int .i64 x.inputs, .slice p1 x.tables.length c1, .slice p2 x.nodes.length c2, .slice p3 x.outputs.length c3] 28 := by rw [hE, hg]; exact ((Box.newAt w _ _ rfl).alloc _).alloc _
  have bw : Box E (g + 1) [.int .i64 r, .int .i64 n] 40 := by rw [hE, hg]; exact (Box.newAt (w.alloc _) [.int .i64 r, .int .i64 n] _ (by simp)).alloc _
  have br : Box E (g + 1 + 1) zPatch 28 := by rw [hE, hg]; exact Box.newAt ((w.alloc _).alloc _) _ _ (by simp)
  have HE := Lib.hid hE
  have HG := Lib.hid hg
  have i0 : w.heap.size ≤ g + 1 + 1 := by omega
  clear hE hg
  have fin : ∀ (W : World) (v1 v2 v3 : Value) (y : PatchD) (L1 L : List Value) (B : Nat) (code : Int), w.heap.size ≤ B → Below E.heap.size E W → OwnP B W v1 v2 v3 y.tables y.nodes y.outputs L1 L →
      (Box ((((W.setCell ⟨g + 1 + 1, 0, none⟩ (.int .i64 y.inputs)).setCell ⟨g + 1 + 1, 1, none⟩ v1).setCell ⟨g + 1 + 1, 2, none⟩ v2).setCell ⟨g + 1 + 1, 3, none⟩ v3) (g + 1 + 1) [.int .i64 y.inputs, v1, v2, v3] 28) ∧
      RetPC w y code (.returned (.tuple #[.agg #[.int .i64 y.inputs, v1, v2, v3], .int .i64 code])) ((((W.setCell ⟨g + 1 + 1, 0, none⟩ (.int .i64 y.inputs)).setCell ⟨g + 1 + 1, 1, none⟩ v1).setCell ⟨g + 1 + 1, 2, none⟩ v2).setCell ⟨g + 1 + 1, 3, none⟩ v3) := fun W v1 v2 v3 y L1 L B code hB hW hop => by
    have hd := OwnP.done (w := w) (inp := y.inputs) hop (br.below hW) (hB0.trans (hW.mono hB0.size)) i0 hB
    exact ⟨hd.1, RetPC.mk rfl hd.2.1 (Nat.le_refl _) hd.2.2⟩
  have FIN := Lib.hid fin
  clear fin
  have OK := Lib.hid (isPatch_v E (hv.below hB0))
  cases hF : okB x
  case false =>
    rw [hF] at OK
    rw [(ap_bad hF).1, (ap_bad hF).2]
    have z0 := bx.cell 0 rfl
    have z1 := bx.cell 1 rfl
    have z2 := bx.cell 2 rfl
    have z3 := bx.cell 3 rfl
    clear hF bx bw
    go_enter Tryz.func15, Tryz.ntmps15
    go_upto_region 1 with fail
    rw [← HE.out, ← HG.out]
    go_wp2_with fail
    refine OK.out.mono ?_
    rintro e W1 ⟨rfl, hb1⟩
    clear z0 z1 z2 z3
    have bri := br.below hb1
    obtain ⟨bW, hret⟩ := FIN.out W1 _ _ _ noPatch [] [] w.heap.size 1 (Nat.le_refl _) hb1 (OwnP.none0 _ _)
    simp only [noPatch] at bW
    have k0 := bri.cell 0 rfl
    have k1 := bri.cell 1 rfl
    have k2 := bri.cell 2 rfl
    have k3 := bri.cell 3 rfl
    have g0 := bri.frozen 0
    have g1 := bri.frozen 1
    have g2 := bri.frozen 2
    have g3 := bri.frozen 3
    have m0 := bW.cell 0 rfl
    have m1 := bW.cell 1 rfl
    have m2 := bW.cell 2 rfl
    have m3 := bW.cell 3 rfl
    have HRET := Lib.hid hret
    clear hret bW bri
    go_wp2_with fail
    refine bodyPost_ret (v := .tuple #[.agg #[.int .i64 0, .slice none 0 0, .slice none 0 0, .slice none 0 0], .int .i64 1]) (by simp [results, Tryz.results15, go_sem, *]) rfl ?_
    exact HRET.out
  rw [hF] at OK
  have hf := okB_formed hF
  have hn24 := (formed_iff.1 hf).2.2.1
  have hwl : IntKind.i64.wrap ((x.nodes.length : Int) - 1) = (x.nodes.length : Int) - 1 := IntWalk.i64_in _ (by omega)
  have HSZ : Hid (∀ W, Calls Tryz.prog 21 #[.slice p2 x.nodes.length c2] W fun e w' => e = .returned (.int .i64 (x.nodes.length : Int)) ∧ Below W.heap.size W w') := fun W => (sizeN_any p2 x.nodes.length c2 W hml).mono fun e w' ⟨h1, h2⟩ => ⟨h1, h2 ▸ Below.refl _ _⟩
  have HIN : Hid (∀ W, Calls Tryz.prog 30 #[.int .i64 n, .int .i64 0, .int .i64 ((x.nodes.length : Int) - 1)] W fun e w' => e = .returned (.bool (inB n 0 ((x.nodes.length : Int) - 1))) ∧ Below W.heap.size W w') := fun W => (within_any _ _ _ W).mono fun e w' ⟨h1, h2⟩ => ⟨h1, h2 ▸ Below.refl _ _⟩
  have HNO := Lib.hid (fun h' => ap_not (x := x) (r := r) (n := n) hF h')
  have HYES := Lib.hid (fun h' => ap_yes (x := x) (r := r) (n := n) hF h')
  have HAP : Hid (∀ b, inB n 0 ((x.nodes.length : Int) - 1) = b → apOk x r n = (b && (!(r == 0) && ruleP x n == r))) := fun b hb => by unfold apOk; rw [hb]
  obtain ⟨R, hR⟩ : ∃ R, R = apRes x r n := ⟨_, rfl⟩
  obtain ⟨C, hC⟩ : ∃ C, C = apCode x r n := ⟨_, rfl⟩
  rw [← hR, ← hC]
  rw [← hR, ← hC] at HNO HYES
  clear hR hC
  have z0 := bx.cell 0 rfl
  have z1 := bx.cell 1 rfl
  have z2 := bx.cell 2 rfl
  have z3 := bx.cell 3 rfl
  cases hin : inB n 0 ((x.nodes.length : Int) - 1)
  case false =>
    rw [hin] at HIN
    obtain ⟨e1, e2⟩ := HNO.out (by rw [HAP.out _ hin]; rfl)
    subst e1 e2
    clear HNO HYES HAP hin
    go_enter Tryz.func15, Tryz.ntmps15
    go_upto_region 1 with fail
    rw [← HE.out, ← HG.out]
    go_wp2_with fail
    refine OK.out.mono ?_
    rintro e W1 ⟨rfl, hb1⟩
    clear z0 z1 z2 z3
    have N1 := Lib.hid (fun n os => Calls.regrown_of (w := W1) (d := n) (os := os) (HSZ.out _))
    have N2 := Lib.hid (fun n os => Calls.regrown_of (w := W1) (d := n) (os := os) (HIN.out _))
    have s2 := cell_regrown ((bx.below hb1).cell 2 rfl)
    have t1 := cell_regrown ((bw.below hb1).cell 1 rfl)
    clear HSZ HIN bx bw
    go_upto_region 3 with fail
    refine wp_region_quiet_below (by kernel_rfl) (by kernel_rfl) ?_
    repeat (first | go_big_quiet_step ((first | (go_at_call 21; exact N1.out _ _) | (go_at_call 30; exact N2.out _ _))) | quiet_step ((first | (go_at_call 21; exact N1.out _ _) | (go_at_call 30; exact N2.out _ _))))
    refine wpQuiet_nil ?_
    intro _ hw'
    obtain ⟨⟨dq, osq⟩, hw''⟩ := hw'
    subst hw''
    have hq := hb1.trans ((below_regrown W1 dq osq).mono hb1.size)
    have bri := br.below hq
    obtain ⟨bW, hret⟩ := FIN.out _ _ _ _ noPatch [] [] w.heap.size 3 (Nat.le_refl _) hq (OwnP.none0 _ _)
    simp only [noPatch] at bW
    have k0 := bri.cell 0 rfl
    have k1 := bri.cell 1 rfl
    have k2 := bri.cell 2 rfl
    have k3 := bri.cell 3 rfl
    have g0 := bri.frozen 0
    have g1 := bri.frozen 1
    have g2 := bri.frozen 2
    have g3 := bri.frozen 3
    have m0 := bW.cell 0 rfl
    have m1 := bW.cell 1 rfl
    have m2 := bW.cell 2 rfl
    have m3 := bW.cell 3 rfl
    have HRET := Lib.hid hret
    clear hret bW bri
    go_wp2_with fail
    refine bodyPost_ret (v := .tuple #[.agg #[.int .i64 0, .slice none 0 0, .slice none 0 0, .slice none 0 0], .int .i64 3]) (by simp [results, Tryz.results15, go_sem, *]) rfl ?_
    exact HRET.out
  rw [hin] at HIN
  obtain ⟨i, rfl, hi⟩ : ∃ i : Nat, n = (i : Int) ∧ i < x.nodes.length := by
    rw [inB_iff] at hin
    obtain ⟨i, hi⟩ := Int.eq_ofNat_of_zero_le hin.1
    exact ⟨i, hi, by omega⟩
  have HAP2 : Hid (∀ b1 b2, (r == 0) = b1 → (ruleP x (i : Int) == r) = b2 → apOk x r (i : Int) = (!b1 && b2)) := fun b1 b2 h1 h2 => by rw [HAP.out _ hin, h1, h2]; rfl
  have RW : Hid (∀ W, Below E.heap.size E W → Calls Tryz.prog 31 #[.agg #[.int .i64 x.inputs, .slice p1 x.tables.length c1, .slice p2 x.nodes.length c2, .slice p3 x.outputs.length c3], .int .i64 (i : Int)] W (RetW W (ruleP x (i : Int)) (afterP x (i : Int) (ruleP x (i : Int))))) := fun W hW => rewrite_x W (hv.below (hB0.trans (hW.mono hB0.size))) hf hi
  unfold RetW at RW
  clear HAP hin hF hf hv
  generalize ruleP x (i : Int) = R0 at *
  have WALK : True := trivial
  by_cases hz : R0 = 0
  case pos =>
    have q0 : (R0 == 0) = true := by rw [beq_iff_eq]; exact hz
    obtain ⟨e1, e2⟩ := HNO.out (by
      rw [HAP2.out _ _ rfl rfl, hz]
      by_cases h : r = 0
      · rw [h]; rfl
      · rw [show ((0 : Int) == r) = false from by rw [beq_eq_false_iff_ne]; exact fun e => h e.symm, Bool.and_false])
    subst e1 e2
    clear HNO HYES HAP2 hz
    go_enter Tryz.func15, Tryz.ntmps15
    go_upto_region 1 with fail
    rw [← HE.out, ← HG.out]
    go_wp2_with fail
    refine OK.out.mono ?_
    rintro e W1 ⟨rfl, hb1⟩
    clear z0 z1 z2 z3
    have N1 := Lib.hid (fun n os => Calls.regrown_of (w := W1) (d := n) (os := os) (HSZ.out _))
    have N2 := Lib.hid (fun n os => Calls.regrown_of (w := W1) (d := n) (os := os) (HIN.out _))
    have s0 := cell_regrown ((bx.below hb1).cell 0 rfl)
    have s1' := cell_regrown ((bx.below hb1).cell 1 rfl)
    have s2' := cell_regrown ((bx.below hb1).cell 2 rfl)
    have s3' := cell_regrown ((bx.below hb1).cell 3 rfl)
    have t1 := cell_regrown ((bw.below hb1).cell 1 rfl)
    clear HSZ HIN
    go_upto_region 3 with fail
    refine wp_region_quiet_below (by kernel_rfl) (by kernel_rfl) ?_
    repeat (first | go_big_quiet_step ((first | (go_at_call 21; exact N1.out _ _) | (go_at_call 30; exact N2.out _ _))) | quiet_step ((first | (go_at_call 21; exact N1.out _ _) | (go_at_call 30; exact N2.out _ _))))
    refine wpQuiet_nil ?_
    intro _ hw'
    obtain ⟨⟨dq, osq⟩, hw''⟩ := hw'
    subst hw''
    have hWq := hb1.trans ((below_regrown W1 dq osq).mono hb1.size)
    have RW1 := Lib.hid (RW.out _ hWq)
    clear RW
    go_wp2_with fail
    refine RW1.out.mono ?_
    rintro e W2 ⟨v', rfl, hvp, hown', hb2⟩
    have hown := Lib.hid hown'
    obtain ⟨s1, d1, s2, d2, s3, d3, rfl, -, -, -⟩ := hvp
    obtain ⟨V2, hV2⟩ : ∃ V, V = W2.alloc (.cells #[.int .i64 (afterP x (i : Int) R0).inputs, .slice s1 (afterP x (i : Int) R0).tables.length d1, .slice s2 (afterP x (i : Int) R0).nodes.length d2, .slice s3 (afterP x (i : Int) R0).outputs.length d3] 28) := ⟨_, rfl⟩
    have x2 : Below W2.heap.size W2 V2 := by rw [hV2]; exact (Below.refl _ _).alloc (Nat.le_refl _) _
    have bo : Box V2 W2.heap.size [.int .i64 (afterP x (i : Int) R0).inputs, .slice s1 (afterP x (i : Int) R0).tables.length d1, .slice s2 (afterP x (i : Int) R0).nodes.length d2, .slice s3 (afterP x (i : Int) R0).outputs.length d3] 28 := by rw [hV2]; exact Box.newAt W2 _ _ rfl
    have hV : Below E.heap.size E V2 := (hWq.trans (hb2.mono hWq.size)).trans (x2.mono (hWq.trans (hb2.mono hWq.size)).size)
    obtain ⟨so, hso⟩ : ∃ so, so = W2.heap.size := ⟨_, rfl⟩
    rw [← hso] at bo
    have HV2 := Lib.hid hV2
    have HSO := Lib.hid hso
    clear hV2 hso RW1 hown' s0 s1' s2' s3' t1
    have t0 := (bw.below hV).cell 0 rfl
    go_upto_region 6 with fail
    rw [← HV2.out, ← HSO.out]
    have bri := br.below hV
    obtain ⟨bW, hret⟩ := FIN.out V2 _ _ _ noPatch [] [] w.heap.size 3 (Nat.le_refl _) hV (OwnP.none0 _ _)
    simp only [noPatch] at bW
    have k0 := bri.cell 0 rfl
    have k1 := bri.cell 1 rfl
    have k2 := bri.cell 2 rfl
    have k3 := bri.cell 3 rfl
    have g0 := bri.frozen 0
    have g1 := bri.frozen 1
    have g2 := bri.frozen 2
    have g3 := bri.frozen 3
    have m0 := bW.cell 0 rfl
    have m1 := bW.cell 1 rfl
    have m2 := bW.cell 2 rfl
    have m3 := bW.cell 3 rfl
    have HRET := Lib.hid hret
    clear hret bW bri
    go_wp2_with fail
    refine bodyPost_ret (v := .tuple #[.agg #[.int .i64 0, .slice none 0 0, .slice none 0 0, .slice none 0 0], .int .i64 3]) (by simp [results, Tryz.results15, go_sem, *]) rfl ?_
    exact HRET.out
  have q0 : (R0 == 0) = false := by rw [beq_eq_false_iff_ne]; exact hz
  by_cases hr : R0 = r
  case neg =>
    have q1 : (R0 != r) = true := by rw [bne_iff_ne]; exact hr
    obtain ⟨e1, e2⟩ := HNO.out (by rw [HAP2.out _ _ rfl rfl, show (R0 == r) = false from by rw [beq_eq_false_iff_ne]; exact hr, Bool.and_false])
    subst e1 e2
    clear HNO HYES HAP2 hz hr
    go_enter Tryz.func15, Tryz.ntmps15
    go_upto_region 1 with fail
    rw [← HE.out, ← HG.out]
    go_wp2_with fail
    refine OK.out.mono ?_
    rintro e W1 ⟨rfl, hb1⟩
    clear z0 z1 z2 z3
    have N1 := Lib.hid (fun n os => Calls.regrown_of (w := W1) (d := n) (os := os) (HSZ.out _))
    have N2 := Lib.hid (fun n os => Calls.regrown_of (w := W1) (d := n) (os := os) (HIN.out _))
    have s0 := cell_regrown ((bx.below hb1).cell 0 rfl)
    have s1' := cell_regrown ((bx.below hb1).cell 1 rfl)
    have s2' := cell_regrown ((bx.below hb1).cell 2 rfl)
    have s3' := cell_regrown ((bx.below hb1).cell 3 rfl)
    have t1 := cell_regrown ((bw.below hb1).cell 1 rfl)
    clear HSZ HIN
    go_upto_region 3 with fail
    refine wp_region_quiet_below (by kernel_rfl) (by kernel_rfl) ?_
    repeat (first | go_big_quiet_step ((first | (go_at_call 21; exact N1.out _ _) | (go_at_call 30; exact N2.out _ _))) | quiet_step ((first | (go_at_call 21; exact N1.out _ _) | (go_at_call 30; exact N2.out _ _))))
    refine wpQuiet_nil ?_
    intro _ hw'
    obtain ⟨⟨dq, osq⟩, hw''⟩ := hw'
    subst hw''
    have hWq := hb1.trans ((below_regrown W1 dq osq).mono hb1.size)
    have RW1 := Lib.hid (RW.out _ hWq)
    clear RW
    go_wp2_with fail
    refine RW1.out.mono ?_
    rintro e W2 ⟨v', rfl, hvp, hown', hb2⟩
    have hown := Lib.hid hown'
    obtain ⟨s1, d1, s2, d2, s3, d3, rfl, -, -, -⟩ := hvp
    obtain ⟨V2, hV2⟩ : ∃ V, V = W2.alloc (.cells #[.int .i64 (afterP x (i : Int) R0).inputs, .slice s1 (afterP x (i : Int) R0).tables.length d1, .slice s2 (afterP x (i : Int) R0).nodes.length d2, .slice s3 (afterP x (i : Int) R0).outputs.length d3] 28) := ⟨_, rfl⟩
    have x2 : Below W2.heap.size W2 V2 := by rw [hV2]; exact (Below.refl _ _).alloc (Nat.le_refl _) _
    have bo : Box V2 W2.heap.size [.int .i64 (afterP x (i : Int) R0).inputs, .slice s1 (afterP x (i : Int) R0).tables.length d1, .slice s2 (afterP x (i : Int) R0).nodes.length d2, .slice s3 (afterP x (i : Int) R0).outputs.length d3] 28 := by rw [hV2]; exact Box.newAt W2 _ _ rfl
    have hV : Below E.heap.size E V2 := (hWq.trans (hb2.mono hWq.size)).trans (x2.mono (hWq.trans (hb2.mono hWq.size)).size)
    obtain ⟨so, hso⟩ : ∃ so, so = W2.heap.size := ⟨_, rfl⟩
    rw [← hso] at bo
    have HV2 := Lib.hid hV2
    have HSO := Lib.hid hso
    clear hV2 hso RW1 hown' s0 s1' s2' s3' t1
    have t0 := (bw.below hV).cell 0 rfl
    go_upto_region 6 with fail
    rw [← HV2.out, ← HSO.out]
    have bri := br.below hV
    obtain ⟨bW, hret⟩ := FIN.out V2 _ _ _ noPatch [] [] w.heap.size 3 (Nat.le_refl _) hV (OwnP.none0 _ _)
    simp only [noPatch] at bW
    have k0 := bri.cell 0 rfl
    have k1 := bri.cell 1 rfl
    have k2 := bri.cell 2 rfl
    have k3 := bri.cell 3 rfl
    have g0 := bri.frozen 0
    have g1 := bri.frozen 1
    have g2 := bri.frozen 2
    have g3 := bri.frozen 3
    have m0 := bW.cell 0 rfl
    have m1 := bW.cell 1 rfl
    have m2 := bW.cell 2 rfl
    have m3 := bW.cell 3 rfl
    have HRET := Lib.hid hret
    clear hret bW bri
    go_wp2_with fail
    refine bodyPost_ret (v := .tuple #[.agg #[.int .i64 0, .slice none 0 0, .slice none 0 0, .slice none 0 0], .int .i64 3]) (by simp [results, Tryz.results15, go_sem, *]) rfl ?_
    exact HRET.out
  case pos =>
    subst hr
    have q1 : (R0 != R0) = false := by simp
    obtain ⟨e1, e2⟩ := HYES.out (by rw [HAP2.out false true q0 (by simp)]; rfl)
    subst e1 e2
    have HZ := Lib.hid hz
    clear HNO HYES HAP2 hz
    generalize afterP x (i : Int) R0 = KP at RW ⊢
    go_enter Tryz.func15, Tryz.ntmps15
    go_upto_region 1 with fail
    rw [← HE.out, ← HG.out]
    go_wp2_with fail
    refine OK.out.mono ?_
    rintro e W1 ⟨rfl, hb1⟩
    clear z0 z1 z2 z3
    have N1 := Lib.hid (fun n os => Calls.regrown_of (w := W1) (d := n) (os := os) (HSZ.out _))
    have N2 := Lib.hid (fun n os => Calls.regrown_of (w := W1) (d := n) (os := os) (HIN.out _))
    have s0 := cell_regrown ((bx.below hb1).cell 0 rfl)
    have s1' := cell_regrown ((bx.below hb1).cell 1 rfl)
    have s2' := cell_regrown ((bx.below hb1).cell 2 rfl)
    have s3' := cell_regrown ((bx.below hb1).cell 3 rfl)
    have t1 := cell_regrown ((bw.below hb1).cell 1 rfl)
    clear HSZ HIN
    go_upto_region 3 with fail
    refine wp_region_quiet_below (by kernel_rfl) (by kernel_rfl) ?_
    repeat (first | go_big_quiet_step ((first | (go_at_call 21; exact N1.out _ _) | (go_at_call 30; exact N2.out _ _))) | quiet_step ((first | (go_at_call 21; exact N1.out _ _) | (go_at_call 30; exact N2.out _ _))))
    refine wpQuiet_nil ?_
    intro _ hw'
    obtain ⟨⟨dq, osq⟩, hw''⟩ := hw'
    subst hw''
    have hWq := hb1.trans ((below_regrown W1 dq osq).mono hb1.size)
    have RW1 := Lib.hid (RW.out _ hWq)
    clear RW
    go_wp2_with fail
    refine RW1.out.mono ?_
    rintro e W2 ⟨v', rfl, hvp, hown', hb2⟩
    have hown := Lib.hid hown'
    obtain ⟨s1, d1, s2, d2, s3, d3, rfl, -, -, -⟩ := hvp
    obtain ⟨V2, hV2⟩ : ∃ V, V = W2.alloc (.cells #[.int .i64 (KP).inputs, .slice s1 (KP).tables.length d1, .slice s2 (KP).nodes.length d2, .slice s3 (KP).outputs.length d3] 28) := ⟨_, rfl⟩
    have x2 : Below W2.heap.size W2 V2 := by rw [hV2]; exact (Below.refl _ _).alloc (Nat.le_refl _) _
    have bo : Box V2 W2.heap.size [.int .i64 (KP).inputs, .slice s1 (KP).tables.length d1, .slice s2 (KP).nodes.length d2, .slice s3 (KP).outputs.length d3] 28 := by rw [hV2]; exact Box.newAt W2 _ _ rfl
    have hV : Below E.heap.size E V2 := (hWq.trans (hb2.mono hWq.size)).trans (x2.mono (hWq.trans (hb2.mono hWq.size)).size)
    obtain ⟨so, hso⟩ : ∃ so, so = W2.heap.size := ⟨_, rfl⟩
    rw [← hso] at bo
    have HV2 := Lib.hid hV2
    have HSO := Lib.hid hso
    clear hV2 hso RW1 hown' s0 s1' s2' s3' t1
    have t0 := (bw.below hV).cell 0 rfl
    go_upto_region 6 with fail
    rw [← HV2.out, ← HSO.out]
    obtain ⟨v1, v2, v3, L1, L, ev, ho2⟩ := hown.out HZ.out
    simp only [Value.agg.injEq, Array.mk.injEq, List.cons.injEq, and_true, true_and] at ev
    obtain ⟨rfl, rfl, rfl⟩ := ev
    have hop := ho2.below x2
    have bri := br.below hV
    obtain ⟨bW, hret⟩ := FIN.out V2 _ _ _ KP L1 L _ 0 (Nat.le_trans hB0.size hWq.size) hV hop
    clear t0
    have y0 := bo.cell 0 rfl
    have y1 := bo.cell 1 rfl
    have y2 := bo.cell 2 rfl
    have y3 := bo.cell 3 rfl
    have k0 := bri.cell 0 rfl
    have k1 := bri.cell 1 rfl
    have k2 := bri.cell 2 rfl
    have k3 := bri.cell 3 rfl
    have g0 := bri.frozen 0
    have g1 := bri.frozen 1
    have g2 := bri.frozen 2
    have g3 := bri.frozen 3
    have m0 := bW.cell 0 rfl
    have m1 := bW.cell 1 rfl
    have m2 := bW.cell 2 rfl
    have m3 := bW.cell 3 rfl
    have HRET := Lib.hid hret
    have t0 := (bw.below hV).cell 0 rfl
    clear hret bW bri hop ho2 hown
    go_wp2_with fail
    refine bodyPost_ret (v := .tuple #[.agg #[.int .i64 KP.inputs, .slice s1 KP.tables.length d1, .slice s2 KP.nodes.length d2, .slice s3 KP.outputs.length d3], .int .i64 0]) (by simp [results, Tryz.results15, go_sem, *]) rfl ?_
    exact HRET.out
end Go.Proofs.YtcfhcmgmkhfjjaaGreat

namespace Go.Proofs.YtcfhcmgmkhfjjaaGreat
open Go.ChangeShapes Go.WideShapes Go.ChangeAt Go.RowKit
set_option linter.unusedVariables false

/-- a patch x, owned, that stands in box s; nothing older is touched -/
def HeldP (E w : World) (s : Nat) (x : PatchD) (v1 v2 v3 : Value) (L : List Value) : Prop :=
  Box w s [.int .i64 x.inputs, v1, v2, v3] 28 ∧ OwnPatch E.heap.size w (.agg #[.int .i64 x.inputs, v1, v2, v3]) x L ∧ Dis L ∧ Below E.heap.size E w
theorem HeldP.new {E F : World} {x : PatchD} {v1 v2 v3 : Value} {L : List Value} {B : Nat} (h : OwnPatch B F (.agg #[.int .i64 x.inputs, v1, v2, v3]) x L) (hd : Dis L) (hc : Below E.heap.size E F) (hB : E.heap.size ≤ B) :
    HeldP E (F.alloc (.cells #[.int .i64 x.inputs, v1, v2, v3] 28)) F.heap.size x v1 v2 v3 L :=
  ⟨Box.newAt _ [.int .i64 x.inputs, v1, v2, v3] _ rfl, (h.mono hB).below ((Below.refl _ _).alloc (Nat.le_refl _) _), hd, hc.alloc hc.size _⟩
theorem HeldP.box {E F : World} {x : PatchD} {v1 v2 v3 : Value} {L : List Value} {B s : Nat} (h : OwnPatch B F (.agg #[.int .i64 x.inputs, v1, v2, v3]) x L) (hd : Dis L) (hc : Below E.heap.size E F) (bq : Box F s zPatch 28) (hs : E.heap.size ≤ s) (hs2 : s < B) :
    HeldP E ((((F.setCell ⟨s, 0, none⟩ (.int .i64 x.inputs)).setCell ⟨s, 1, none⟩ v1).setCell ⟨s, 2, none⟩ v2).setCell ⟨s, 3, none⟩ v3) s x v1 v2 v3 L := by
  have b0 := bq.set 0 (.int .i64 x.inputs)
  have b1 := b0.set 1 v1
  have b2 := b1.set 2 v2
  have b3 := b2.set 3 v3
  refine ⟨by simpa [zPatch] using b3, OwnPatch.mono ?_ (Nat.le_trans hs (Nat.le_of_lt hs2)), hd, (((hc.setCell hs _).setCell hs _).setCell hs _).setCell hs _⟩
  have hne : ∀ k, B ≤ k → k ≠ s := fun k hk e => by omega
  exact (((h.keeps (w' := F.setCell ⟨s, 0, none⟩ (.int .i64 x.inputs)) fun k hk _ => Below.heap_setCell _ _ _ _ (hne k hk)).keeps (w' := (F.setCell ⟨s, 0, none⟩ (.int .i64 x.inputs)).setCell ⟨s, 1, none⟩ v1) fun k hk _ => Below.heap_setCell _ _ _ _ (hne k hk)).keeps (w' := ((F.setCell ⟨s, 0, none⟩ (.int .i64 x.inputs)).setCell ⟨s, 1, none⟩ v1).setCell ⟨s, 2, none⟩ v2) fun k hk _ => Below.heap_setCell _ _ _ _ (hne k hk)).keeps fun k hk _ => Below.heap_setCell _ _ _ _ (hne k hk)
end Go.Proofs.YtcfhcmgmkhfjjaaGreat

namespace Go.Proofs.YtcfhcmgmkhfjjaaGreat
open Go.ChangeShapes Go.WideShapes Go.ChangeAt Go.RowKit Go.Sort
set_option linter.unusedVariables false

def nrR (x : PatchD) : Int := if okB x then nxR x else 0
def nrN (x : PatchD) : Int := if okB x then nxN x else 0
def nrCode (x : PatchD) : Int := if okB x then (if nxB x then 0 else 3) else 1
def optB (x : PatchD) : Bool := okB x && (decide ((need x).length = x.nodes.length) && !nxB x)
theorem nx_zero {x : PatchD} (h : nxB x = false) : nxR x = 0 ∧ nxN x = 0 := by
  rcases e : fstI x with _ | i
  · exact ⟨(fst_novals e).1, (fst_novals e).2.1⟩
  · rw [(fst_vals e).2.2.1] at h; cases h
/-- a rewrite and a code -/
def RetR (w : World) (r n code : Int) (e : Ending) (w' : World) : Prop := e = .returned (.tuple #[.agg #[.int .i64 r, .int .i64 n], .int .i64 code]) ∧ Below w.heap.size w w'
set_option maxHeartbeats 8000000 in
set_option maxRecDepth 100000 in
theorem implNextRewrite_v {v : Value} {x : PatchD} (w : World) (h : VPatch w v x) :
    Calls Tryz.prog 13 #[v] w (RetR w (nrR x) (nrN x) (nrCode x)) := by
  have hv := h
  obtain ⟨p1, c1, p2, c2, p3, c3, rfl, -, -, -⟩ := h
  obtain ⟨g, hg⟩ : ∃ g, g = w.heap.size := ⟨_, rfl⟩
  obtain ⟨E, hE⟩ : ∃ E, E = (w.alloc (.cells #[.int .i64 x.inputs, .slice p1 x.tables.length c1, .slice p2 x.nodes.length c2, .slice p3 x.outputs.length c3] 28)).alloc (.cells #[.int .i64 0, .int .i64 0] 40) := ⟨_, rfl⟩
  have hB0 : Below w.heap.size w E := by rw [hE]; exact ((Below.refl _ _).alloc (Nat.le_refl _) _).alloc (by simp) _
  have bx : Box E g [.int .i64 x.inputs, .slice p1 x.tables.length c1, .slice p2 x.nodes.length c2, .slice p3 x.outputs.length c3] 28 := by rw [hE, hg]; exact (Box.newAt w _ _ rfl).alloc _
  have br : Box E (g + 1) [.int .i64 0, .int .i64 0] 40 := by rw [hE, hg]; exact Box.newAt (w.alloc _) [.int .i64 0, .int .i64 0] _ (by simp)
  have hg1 : w.heap.size ≤ g + 1 := by omega
  have HE := Lib.hid hE
  have HG := Lib.hid hg
  have AS := Lib.hid (isPatch_v E (hv.below hB0))
  have HV : Hid (∀ b, okB x = b → nrR x = (if b then nxR x else 0) ∧ nrN x = (if b then nxN x else 0) ∧ nrCode x = if b then (if nxB x then 0 else 3) else 1) := fun b hb => by
    unfold nrR nrN nrCode; rw [hb]; exact ⟨rfl, rfl, rfl⟩
  clear hE hg
  generalize hr1 : nrR x = R at HV ⊢
  generalize hr2 : nrN x = N at HV ⊢
  generalize hr3 : nrCode x = C at HV ⊢
  clear hr1 hr2 hr3
  have z0 := bx.cell 0 rfl
  have z1 := bx.cell 1 rfl
  have z2 := bx.cell 2 rfl
  have z3 := bx.cell 3 rfl
  cases hok : okB x
  case false =>
    rw [hok] at AS
    obtain ⟨e1, e2, e3⟩ := HV.out _ hok
    have e1' : R = 0 := e1
    have e2' : N = 0 := e2
    have e3' : C = 1 := e3
    clear e1 e2 e3
    subst e1' e2' e3'
    clear HV hok hv
    go_enter Tryz.func13, Tryz.ntmps13
    go_upto_region 1 with fail
    rw [← HE.out, ← HG.out]
    go_wp2_with fail
    refine AS.out.mono ?_
    rintro e W1 ⟨rfl, hb1⟩
    have br1 := br.below hb1
    have k1 := hB0.trans (hb1.mono hB0.size)
    clear z0 z1 z2 z3
    have j0 := br1.frozen 0
    have j1 := br1.frozen 1
    have i0 := br1.cell 0 rfl
    have i1 := br1.cell 1 rfl
    have b9 := br1.put2 (a := .int .i64 0) (b := .int .i64 0)
    have L9 := Lib.hid (below_put2 (.int .i64 0) (.int .i64 0) k1 hg1)
    have q0 := b9.cell 0 rfl
    have q1 := b9.cell 1 rfl
    clear b9
    go_wp2_with fail
    refine bodyPost_ret (v := .tuple #[.agg #[.int .i64 0, .int .i64 0], .int .i64 1]) (by simp [results, Tryz.results13, go_sem, *]) rfl ?_
    exact ⟨rfl, L9.out⟩
  rw [hok] at AS
  obtain ⟨e1, e2, e3⟩ := HV.out _ hok
  have e1' : R = nxR x := e1
  have e2' : N = nxN x := e2
  have e3' : C = if nxB x then 0 else 3 := e3
  have HF := Lib.hid (okB_formed hok)
  clear HV hok e1 e2 e3
  have HC := Lib.hid e3'
  clear e3'
  have NZ := Lib.hid (nx_zero (x := x))
  go_enter Tryz.func13, Tryz.ntmps13
  go_upto_region 1 with fail
  rw [← HE.out, ← HG.out]
  go_wp2_with fail
  refine AS.out.mono ?_
  rintro e W1 ⟨rfl, hb1⟩
  have br1 := br.below hb1
  have bx1 := bx.below hb1
  have k1 := hB0.trans (hb1.mono hB0.size)
  have FI := Lib.hid (next_x W1 (hv.below k1) HF.out)
  unfold RetX at FI
  rw [← e1', ← e2'] at FI
  rw [← e1', ← e2'] at NZ
  clear e1' e2' z0 z1 z2 z3
  have z0 := bx1.cell 0 rfl
  have z1 := bx1.cell 1 rfl
  have z2 := bx1.cell 2 rfl
  have z3 := bx1.cell 3 rfl
  generalize nxB x = t at FI HC NZ
  go_wp2_with fail
  refine FI.out.mono ?_
  rintro e W2 ⟨v', rfl, hvp, hb2, -⟩
  obtain ⟨s1, d1, s2, d2, s3, d3, rfl, -, -, -⟩ := hvp
  have br2 := br1.below hb2
  have k2 := k1.trans (hb2.mono k1.size)
  obtain ⟨V1, hV1⟩ : ∃ V, V = W2.alloc (.cells #[.int .i64 R, .int .i64 N] 40) := ⟨_, rfl⟩
  have x1 : Below W2.heap.size W2 V1 := by rw [hV1]; exact (Below.refl _ _).alloc (Nat.le_refl _) _
  have bo : Box V1 W2.heap.size [.int .i64 R, .int .i64 N] 40 := by rw [hV1]; exact Box.newAt W2 [.int .i64 R, .int .i64 N] _ rfl
  obtain ⟨V, hV⟩ : ∃ V, V = V1.alloc (.cells #[.int .i64 (nxP x).inputs, .slice s1 (nxP x).tables.length d1, .slice s2 (nxP x).nodes.length d2, .slice s3 (nxP x).outputs.length d3] 28) := ⟨_, rfl⟩
  have x2 : Below V1.heap.size V1 V := by rw [hV]; exact (Below.refl _ _).alloc (Nat.le_refl _) _
  have boV := bo.below x2
  have brV := (br2.below x1).below x2
  have kV := (k2.trans (x1.mono k2.size)).trans (x2.mono (k2.trans (x1.mono k2.size)).size)
  have HV1 := Lib.hid hV1
  have HV := Lib.hid hV
  clear hV hV1 x1 x2 z0 z1 z2 z3
  have o0 := boV.cell 0 rfl
  have o1 := boV.cell 1 rfl
  have j0 := brV.frozen 0
  have j1 := brV.frozen 1
  have i0 := brV.cell 0 rfl
  have i1 := brV.cell 1 rfl
  go_upto_region 4 with fail
  rw [← HV1.out, ← HV.out]
  cases t
  case false =>
    obtain ⟨e1, e2⟩ := NZ.out rfl
    have e3 : C = 3 := HC.out
    subst e1 e2 e3
    have b9 := brV.put2 (a := .int .i64 0) (b := .int .i64 0)
    have L9 := Lib.hid (below_put2 (.int .i64 0) (.int .i64 0) kV hg1)
    have q0 := b9.cell 0 rfl
    have q1 := b9.cell 1 rfl
    clear b9
    go_wp2_with fail
    refine bodyPost_ret (v := .tuple #[.agg #[.int .i64 0, .int .i64 0], .int .i64 3]) (by simp [results, Tryz.results13, go_sem, *]) rfl ?_
    exact ⟨rfl, L9.out⟩
  case true =>
    have e3 : C = 0 := HC.out
    subst e3
    have b9 := brV.put2 (a := .int .i64 R) (b := .int .i64 N)
    have L9 := Lib.hid (below_put2 (.int .i64 R) (.int .i64 N) kV hg1)
    have q0 := b9.cell 0 rfl
    have q1 := b9.cell 1 rfl
    clear b9
    go_wp2_with fail
    refine bodyPost_ret (v := .tuple #[.agg #[.int .i64 R, .int .i64 N], .int .i64 0]) (by simp [results, Tryz.results13, go_sem, *]) rfl ?_
    exact ⟨rfl, L9.out⟩
end Go.Proofs.YtcfhcmgmkhfjjaaGreat

namespace Go.Proofs.YtcfhcmgmkhfjjaaGreat
open Go.ChangeShapes Go.WideShapes Go.ChangeAt Go.RowKit Go.Sort
set_option linter.unusedVariables false

set_option maxHeartbeats 8000000 in
set_option maxRecDepth 100000 in
theorem specIsOptimal_v {v : Value} {x : PatchD} (w : World) (h : VPatch w v x) :
    Calls Tryz.prog 14 #[v] w fun e w' => e = .returned (.bool (optB x)) ∧ Below w.heap.size w w' := by
  obtain ⟨p1, c1, p2, c2, p3, c3, rfl, hp⟩ := PPatch.of h
  obtain ⟨g, hg⟩ : ∃ g, g = w.heap.size := ⟨_, rfl⟩
  obtain ⟨E, hE⟩ : ∃ E, E = w.alloc (.cells #[.int .i64 x.inputs, .slice p1 x.tables.length c1, .slice p2 x.nodes.length c2, .slice p3 x.outputs.length c3] 28) := ⟨_, rfl⟩
  rw [← hE, ← hg] at hp
  have hB0 : Below w.heap.size w E := by rw [hE]; exact (Below.refl _ _).alloc (Nat.le_refl _) _
  have bx : Box E g [.int .i64 x.inputs, .slice p1 x.tables.length c1, .slice p2 x.nodes.length c2, .slice p3 x.outputs.length c3] 28 := by rw [hE, hg]; exact Box.newAt w _ _ rfl
  have HE := Lib.hid hE
  have HG := Lib.hid hg
  clear hE hg h
  have z2 := bx.cell 2 rfl
  have hgl := bx.lt
  have OK : Hid (∀ b, okB x = b → ∀ W, Below E.heap.size E W → Calls Tryz.prog 20 #[.pointer (some ⟨g, 0, none⟩)] W fun e w' => e = .returned (.bool b) ∧ Below W.heap.size W w') := fun b hb W hW => by
    rw [← hb]; exact l07Ok_any W (hp.below hW)
  have NE : Hid (okB x = true → ∀ W, Below E.heap.size E W → Calls Tryz.prog 28 #[.pointer (some ⟨g, 0, none⟩)] W fun e w' => ∃ p c, e = .returned (.slice p (need x).length c) ∧ Below W.heap.size W w') := fun hb W hW =>
    (l07Needed_any W (hp.below hW) (okB_formed hb)).mono fun e w' ⟨u, he, ho, hbl⟩ => by
      obtain ⟨p, c, rfl, -⟩ := ho.rd
      exact ⟨p, c, he, hbl⟩
  have FI : Hid (okB x = true → ∀ W, Below E.heap.size E W → Calls Tryz.prog 29 #[.pointer (some ⟨g, 0, none⟩)] W fun e w' => e = .returned (.tuple #[.agg #[.int .i64 (nxR x), .int .i64 (nxN x)], .bool (nxB x)]) ∧ Below W.heap.size W w') := fun hb W hW =>
    l10First_x W (hp.below hW) hb
  have HR : Hid (∀ b, okB x = b → optB x = (b && (decide ((need x).length = x.nodes.length) && !nxB x))) := fun b hb => by unfold optB; rw [hb]
  generalize optB x = R at HR ⊢
  clear hp bx
  have hcur := belowDrew E
  cases hF : okB x
  case false =>
    have k3 := Lib.hid (OK.out _ hF)
    obtain rfl := HR.out _ hF
    have K := Lib.hid (fun n os => Calls.regrown_of (k3.out _ (below_regrown E n os)))
    have s2 := cell_regrown z2
    clear OK NE FI HR hF k3 z2 hcur
    go_enter Tryz.func14, Tryz.ntmps14
    go_upto_region 1 with fail
    rw [← HE.out, ← HG.out]
    refine wp_region_quiet_below (by kernel_rfl) (by kernel_rfl) ?_
    repeat (first | go_big_quiet_step ((go_at_call 20; exact K.out _ _)) | quiet_step ((go_at_call 20; exact K.out _ _)))
    refine wpQuiet_nil ?_
    intro _ hw'
    obtain ⟨⟨dq, osq⟩, hw''⟩ := hw'
    subst hw''
    have hq := below_regrown E dq osq
    go_wp2_with fail
    go_ret
    exact ⟨rfl, hB0.trans (hq.mono hB0.size)⟩
  have k3 := Lib.hid (OK.out _ hF)
  have k4 := Lib.hid (NE.out hF)
  have k5 := Lib.hid (FI.out hF)
  obtain rfl := HR.out _ hF
  clear OK NE FI HR hF
  generalize (need x).length = m at k4 ⊢
  generalize nxB x = t at k5 ⊢
  generalize nxR x = r at k5
  generalize nxN x = n at k5
  cases hq : ((m : Int) != (x.nodes.length : Int))
  case true =>
    have hd : decide (m = x.nodes.length) = false := by
      rw [bne_iff_ne] at hq
      rw [decide_eq_false_iff_not]
      omega
    have hR : (true && (decide (m = x.nodes.length) && !t)) = false := by rw [hd]; rfl
    generalize (true && (decide (m = x.nodes.length) && !t)) = R at hR ⊢
    subst hR
    clear hd
    go_enter Tryz.func14, Tryz.ntmps14
    go_upto_region 1 with fail
    rw [← HE.out, ← HG.out]
    go_region_held3 (fun W => W.cell? ⟨g, 2, none⟩ = some (.slice p2 x.nodes.length c2)) (first | go_keep | exact (hcur.cell (p := ⟨g, 2, none⟩) hgl).trans z2) (first | (go_at_call 20; refine (k3.out _ hcur).mono ?_; rintro e F ⟨rfl, hb⟩; have hcur := hcur.trans (hb.mono hcur.size)) | (go_at_call 28; refine (k4.out _ hcur).mono ?_; rintro e F ⟨op, oc, rfl, hb⟩; have hcur := hcur.trans (hb.mono hcur.size)))
    all_goals (go_wp2_with fail; go_ret; exact ⟨rfl, hB0.trans (hcur.mono hB0.size)⟩)
  case false =>
    have hd : decide (m = x.nodes.length) = true := by
      rw [bne_eq_false_iff_eq] at hq
      rw [decide_eq_true_iff]
      omega
    have hR : (true && (decide (m = x.nodes.length) && !t)) = !t := by rw [hd]; rfl
    generalize (true && (decide (m = x.nodes.length) && !t)) = R at hR ⊢
    subst hR
    clear hd
    cases t
    all_goals
      go_enter Tryz.func14, Tryz.ntmps14
      go_upto_region 1 with fail
      rw [← HE.out, ← HG.out]
      go_region_held3 (fun W => W.cell? ⟨g, 2, none⟩ = some (.slice p2 x.nodes.length c2)) (first | go_keep | exact (hcur.cell (p := ⟨g, 2, none⟩) hgl).trans z2) (first | (go_at_call 20; refine (k3.out _ hcur).mono ?_; rintro e F ⟨rfl, hb⟩; have hcur := hcur.trans (hb.mono hcur.size)) | (go_at_call 28; refine (k4.out _ hcur).mono ?_; rintro e F ⟨op, oc, rfl, hb⟩; have hcur := hcur.trans (hb.mono hcur.size)))
      all_goals
        (go_wp2_with ((go_at_call 29; refine (k5.out _ hcur).mono ?_; rintro e F ⟨rfl, hb⟩; have hcur := (hcur.trans (hb.mono hcur.size)).alloc (Nat.le_trans hcur.size hb.size) (.cells #[.int .i64 r, .int .i64 n] 40)))
         go_ret
         exact ⟨rfl, hB0.trans (hcur.mono hB0.size)⟩)
set_option maxHeartbeats 8000000 in
set_option maxRecDepth 100000 in
theorem implIsOptimal_v {v : Value} {x : PatchD} (w : World) (h : VPatch w v x) :
    Calls Tryz.prog 9 #[v] w fun e w' => e = .returned (.bool (optB x)) ∧ Below w.heap.size w w' := by
  have hv := h
  obtain ⟨p1, c1, p2, c2, p3, c3, rfl, -, -, -⟩ := h
  obtain ⟨g, hg⟩ : ∃ g, g = w.heap.size := ⟨_, rfl⟩
  obtain ⟨E, hE⟩ : ∃ E, E = w.alloc (.cells #[.int .i64 x.inputs, .slice p1 x.tables.length c1, .slice p2 x.nodes.length c2, .slice p3 x.outputs.length c3] 28) := ⟨_, rfl⟩
  have hB0 : Below w.heap.size w E := by rw [hE]; exact (Below.refl _ _).alloc (Nat.le_refl _) _
  have bx : Box E g [.int .i64 x.inputs, .slice p1 x.tables.length c1, .slice p2 x.nodes.length c2, .slice p3 x.outputs.length c3] 28 := by rw [hE, hg]; exact Box.newAt w _ _ rfl
  have HE := Lib.hid hE
  have HG := Lib.hid hg
  clear hE hg
  have AS := Lib.hid (isPatch_v E (hv.below hB0))
  have HR : Hid (∀ b, okB x = b → optB x = (b && (decide ((need x).length = x.nodes.length) && !nxB x))) := fun b hb => by unfold optB; rw [hb]
  generalize optB x = R at HR ⊢
  have z0 := bx.cell 0 rfl
  have z1 := bx.cell 1 rfl
  have z2 := bx.cell 2 rfl
  have z3 := bx.cell 3 rfl
  cases hok : okB x
  case false =>
    rw [hok] at AS
    obtain rfl := HR.out _ hok
    clear HR hok hv
    go_enter Tryz.func9, Tryz.ntmps9
    go_upto_region 1 with fail
    rw [← HE.out, ← HG.out]
    go_wp2_with fail
    refine AS.out.mono ?_
    rintro e W1 ⟨rfl, hb1⟩
    have k1 := hB0.trans (hb1.mono hB0.size)
    go_wp2_with fail
    go_ret
    exact ⟨rfl, k1⟩
  rw [hok] at AS
  have HF := Lib.hid (okB_formed hok)
  have HT : Hid (nxB x = true → R = false) := fun e => by rw [HR.out _ hok, e]; simp
  have HQ : Hid (∀ b, (((need x).length : Int) == (x.nodes.length : Int)) = b → nxB x = false → R = b) := fun b hb e => by
    rw [HR.out _ hok, e, ← hb, Bool.eq_iff_iff]
    simp only [Bool.true_and, Bool.not_false, Bool.and_true, decide_eq_true_iff, beq_iff_eq]
    omega
  have FI : Hid (∀ W, Below E.heap.size E W → Calls Tryz.prog 22 #[.agg #[.int .i64 x.inputs, .slice p1 x.tables.length c1, .slice p2 x.nodes.length c2, .slice p3 x.outputs.length c3]] W fun e w' => ∃ Q : PatchD, ∃ s1 d1 s2 d2 s3 d3, e = .returned (.tuple #[.agg #[.int .i64 (nxR x), .int .i64 (nxN x)], .agg #[.int .i64 Q.inputs, .slice s1 Q.tables.length d1, .slice s2 Q.nodes.length d2, .slice s3 Q.outputs.length d3], .bool (nxB x)]) ∧ Below W.heap.size W w') := fun W hW =>
    (next_x W (hv.below (hB0.trans (hW.mono hB0.size))) HF.out).mono fun e w' ⟨v', he, hvp, hbl, _⟩ => by
      obtain ⟨s1, d1, s2, d2, s3, d3, rfl, -, -, -⟩ := hvp
      exact ⟨nxP x, s1, d1, s2, d2, s3, d3, he, hbl⟩
  have NE : Hid (∀ W, Below E.heap.size E W → Calls Tryz.prog 23 #[.agg #[.int .i64 x.inputs, .slice p1 x.tables.length c1, .slice p2 x.nodes.length c2, .slice p3 x.outputs.length c3]] W fun e w' => ∃ p c, e = .returned (.slice p (need x).length c) ∧ Below W.heap.size W w') := fun W hW =>
    (needed_v W (hv.below (hB0.trans (hW.mono hB0.size))) HF.out).mono fun e w' ⟨u, he, ho, hbl⟩ => by
      obtain ⟨p, c, rfl, -⟩ := ho.rd
      exact ⟨p, c, he, hbl⟩
  clear HR hok hv HF
  generalize nxR x = r at FI
  generalize nxN x = n at FI
  generalize nxB x = t at FI HT HQ
  generalize (need x).length = m at NE HQ
  go_enter Tryz.func9, Tryz.ntmps9
  go_upto_region 1 with fail
  rw [← HE.out, ← HG.out]
  go_wp2_with fail
  refine AS.out.mono ?_
  rintro e W1 ⟨rfl, hb1⟩
  have bx1 := bx.below hb1
  have k1 := hB0.trans (hb1.mono hB0.size)
  have F1 := Lib.hid (FI.out W1 hb1)
  clear z0 z1 z2 z3
  have z0 := bx1.cell 0 rfl
  have z1 := bx1.cell 1 rfl
  have z2 := bx1.cell 2 rfl
  have z3 := bx1.cell 3 rfl
  go_wp2_with fail
  refine F1.out.mono ?_
  rintro e W2 ⟨Q, s1, d1, s2, d2, s3, d3, rfl, hb2⟩
  have k2 := k1.trans (hb2.mono k1.size)
  obtain ⟨V1, hV1⟩ : ∃ V, V = W2.alloc (.cells #[.int .i64 r, .int .i64 n] 40) := ⟨_, rfl⟩
  have x1 : Below W2.heap.size W2 V1 := by rw [hV1]; exact (Below.refl _ _).alloc (Nat.le_refl _) _
  obtain ⟨V, hV⟩ : ∃ V, V = V1.alloc (.cells #[.int .i64 Q.inputs, .slice s1 Q.tables.length d1, .slice s2 Q.nodes.length d2, .slice s3 Q.outputs.length d3] 28) := ⟨_, rfl⟩
  have x2 : Below V1.heap.size V1 V := by rw [hV]; exact (Below.refl _ _).alloc (Nat.le_refl _) _
  have eV := (hb1.trans ((hb2.trans ((x1.mono hb2.size).trans (x2.mono (Nat.le_trans hb2.size x1.size)))).mono hb1.size))
  have kV := hB0.trans (eV.mono hB0.size)
  have bV := bx.below eV
  have HV1 := Lib.hid hV1
  have HV := Lib.hid hV
  clear hV hV1 x1 x2 z0 z1 z2 z3 FI F1 bx1 bx AS
  have z0 := bV.cell 0 rfl
  have z1 := bV.cell 1 rfl
  have z2 := bV.cell 2 rfl
  have z3 := bV.cell 3 rfl
  have hgl := bV.lt
  have hcur := belowDrew V
  go_upto_region 4 with fail
  rw [← HV1.out, ← HV.out]
  cases t
  case true =>
    obtain rfl := HT.out rfl
    have s0 := cell_regrown z0
    have s1' := cell_regrown z1
    have s2' := cell_regrown z2
    have s3' := cell_regrown z3
    clear NE hcur
    refine wp_region_quiet_below (by kernel_rfl) (by kernel_rfl) ?_
    repeat (first | go_big_quiet_step (fail) | quiet_step (fail))
    refine wpQuiet_nil ?_
    intro _ hw'
    obtain ⟨⟨dq, osq⟩, hw''⟩ := hw'
    subst hw''
    have hq := below_regrown V dq osq
    go_wp2_with fail
    go_ret
    exact ⟨rfl, kV.trans (hq.mono kV.size)⟩
  case false =>
    have k4 : Hid (∀ W, Below V.heap.size V W → Calls Tryz.prog 23 #[.agg #[.int .i64 x.inputs, .slice p1 x.tables.length c1, .slice p2 x.nodes.length c2, .slice p3 x.outputs.length c3]] W fun e w' => ∃ p c, e = .returned (.slice p m c) ∧ Below W.heap.size W w') := fun W hW => NE.out W (eV.trans (hW.mono eV.size))
    cases hq : ((m : Int) == (x.nodes.length : Int))
    all_goals
      obtain rfl := HQ.out _ hq rfl
      go_region_held3 (fun W => W.cell? ⟨g, 0, none⟩ = some (.int .i64 x.inputs) ∧ W.cell? ⟨g, 1, none⟩ = some (.slice p1 x.tables.length c1) ∧ W.cell? ⟨g, 2, none⟩ = some (.slice p2 x.nodes.length c2) ∧ W.cell? ⟨g, 3, none⟩ = some (.slice p3 x.outputs.length c3)) (first | go_keep | exact ⟨(hcur.cell (p := ⟨g, 0, none⟩) hgl).trans z0, (hcur.cell (p := ⟨g, 1, none⟩) hgl).trans z1, (hcur.cell (p := ⟨g, 2, none⟩) hgl).trans z2, (hcur.cell (p := ⟨g, 3, none⟩) hgl).trans z3⟩) (first | (go_at_call 23; refine (k4.out _ hcur).mono ?_; rintro e F ⟨op, oc, rfl, hb⟩; have hcur := hcur.trans (hb.mono hcur.size)))
      all_goals (go_wp2_with fail; go_ret; exact ⟨by first | rfl | exact ret_bool hq | exact ret_bool hq.symm, kV.trans (hcur.mono kV.size)⟩)
end Go.Proofs.YtcfhcmgmkhfjjaaGreat
