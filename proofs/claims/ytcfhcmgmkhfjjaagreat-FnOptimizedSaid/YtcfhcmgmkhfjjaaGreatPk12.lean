/-
  Several texts in one: TyState, PatSt, FrameM, RnM, RnF, PatS2, FrameS, PatT, PatT2, RnS, RnB, RnW.
-/
import Derived.Test.YtcfhcmgmkhfjjaaGreatPk1
import Derived.Test.YtcfhcmgmkhfjjaaGreatPk6
import Derived.Test.YtcfhcmgmkhfjjaaGreatPk4
import Derived.Test.YtcfhcmgmkhfjjaaGreatPk5
import Derived.Deep.RegionLaw
import Derived.Test.YtcfhcmgmkhfjjaaGreatPk3
namespace Go.Proofs.YtcfhcmgmkhfjjaaGreat
open Go.ChangeShapes Go.WideShapes Go.ChangeAt Go.RowKit
set_option linter.unusedVariables false

structure StateD where
  rows : List (List Int)

/-- the value v is a State that reads x -/
def VState (w : World) (v : Value) (x : StateD) : Prop := ∃ p0 c0, v = .agg #[.slice p0 x.rows.length c0] ∧ RdII w p0 x.rows
theorem VState.below {w w' : World} {v : Value} {x : StateD} (h : VState w v x) (hb : Below w.heap.size w w') : VState w' v x := by
  obtain ⟨p0, c0, rfl, r0⟩ := h
  exact ⟨p0, c0, rfl, r0.below hb⟩
/-- a State of the call's own; L: its slices of integers -/
def OwnState (B : Nat) (w : World) (v : Value) (x : StateD) (L : List Value) : Prop := ∃ u0 L0, v = .agg #[u0] ∧ L0 = L ∧ OwnII B w u0 x.rows L0
theorem OwnState.rd {B : Nat} {w : World} {v : Value} {x : StateD} {L : List Value} (h : OwnState B w v x L) : VState w v x := by
  obtain ⟨u0, L0, rfl, rfl, o0⟩ := h
  obtain ⟨p0, c0, rfl, r0⟩ := OwnII.rdv o0
  exact ⟨p0, c0, rfl, r0⟩
theorem OwnState.mono {B B' : Nat} {w : World} {v : Value} {x : StateD} {L : List Value} (h : OwnState B w v x L) (hB : B' ≤ B) : OwnState B' w v x L := by
  obtain ⟨u0, L0, rfl, rfl, o0⟩ := h
  exact ⟨u0, L0, rfl, rfl, o0.mono hB⟩
theorem OwnState.keeps {B : Nat} {w w' : World} {v : Value} {x : StateD} {L : List Value} (h : OwnState B w v x L) (hk : ∀ k, B ≤ k → k < w.heap.size → w'.heap[k]? = w.heap[k]?) : OwnState B w' v x L := by
  obtain ⟨u0, L0, rfl, rfl, o0⟩ := h
  exact ⟨u0, L0, rfl, rfl, o0.keeps hk⟩
theorem OwnState.below {B : Nat} {w w' : World} {v : Value} {x : StateD} {L : List Value} (h : OwnState B w v x L) (hb : Below w.heap.size w w') : OwnState B w' v x L := h.keeps fun k _ hk => hb.block k hk
theorem OwnState.blk {B : Nat} {w : World} {v : Value} {x : StateD} {L : List Value} (h : OwnState B w v x L) {b : Nat} (hb : Blk L b) : B ≤ b ∧ b < w.heap.size := by
  obtain ⟨u0, L0, rfl, rfl, o0⟩ := h
  obtain ⟨u, hu, hb⟩ := hb
  exact o0.blk ⟨u, hu, hb⟩
theorem OwnState.ints {B : Nat} {w : World} {v : Value} {x : StateD} {L : List Value} (h : OwnState B w v x L) : IntBlks w L := by
  obtain ⟨u0, L0, rfl, rfl, o0⟩ := h
  exact o0.ints
def wtState (x : StateD) : Nat := wtII x.rows
def cntState (x : StateD) : Nat := cntII x.rows
theorem cntState_le (x : StateD) : cntState x ≤ wtState x := by
  have e0 := cntII_le x.rows
  unfold cntState wtState; omega
def markState (m : Int) (x : StateD) : StateD := { x with rows := markII (m) x.rows }
end Go.Proofs.YtcfhcmgmkhfjjaaGreat

namespace Go.Proofs.YtcfhcmgmkhfjjaaGreat
open Go.ChangeShapes Go.WideShapes Go.ChangeAt Go.RowKit Go.Sort
set_option linter.unusedVariables false

/-- is a state valid for nodes? -/
def stB (ns : List NodeD) (rs : List (List Int)) : Bool := decide (rs.length = ns.length) && (ns.zip rs).all fun p => decide (p.2.length = (startL p.1).length) && p.2.all isSmp
def vsB (x : PatchD) (s : StateD) : Bool := okB x && stB x.nodes s.rows
theorem stB_head {ns : List NodeD} {rs : List (List Int)} (h : rs.length ≠ ns.length) : stB ns rs = false := by
  unfold stB; rw [decide_eq_false h]; rfl
theorem stB_bad {ns : List NodeD} {rs : List (List Int)} {k : Nat} (h1 : k < ns.length) (h2 : k < rs.length) (h : (decide ((rs[k]).length = (startL ns[k]).length) && (rs[k]).all isSmp) = false) : stB ns rs = false := by
  unfold stB
  have hz : k < (ns.zip rs).length := by rw [List.length_zip]; omega
  rw [all_false hz (by rw [List.getElem_zip]; exact h), Bool.and_false]
theorem stB_step {ns : List NodeD} {rs : List (List Int)} {k : Nat} (h1 : k < ns.length) (h2 : k < rs.length) (hp : ((ns.zip rs).take k).all (fun p => decide (p.2.length = (startL p.1).length) && p.2.all isSmp) = true) (h : (decide ((rs[k]).length = (startL ns[k]).length) && (rs[k]).all isSmp) = true) :
    ((ns.zip rs).take (k + 1)).all (fun p => decide (p.2.length = (startL p.1).length) && p.2.all isSmp) = true := by
  have hz : k < (ns.zip rs).length := by rw [List.length_zip]; omega
  exact all_step hz hp (by rw [List.getElem_zip]; exact h)
theorem stB_done {ns : List NodeD} {rs : List (List Int)} (hl : rs.length = ns.length) (hp : ((ns.zip rs).take ns.length).all (fun p => decide (p.2.length = (startL p.1).length) && p.2.all isSmp) = true) : stB ns rs = true := by
  unfold stB
  rw [List.take_of_length_le (by rw [List.length_zip]; omega)] at hp
  rw [decide_eq_true hl, hp]; rfl
end Go.Proofs.YtcfhcmgmkhfjjaaGreat

namespace Go.Proofs.YtcfhcmgmkhfjjaaGreat
open Go.ChangeShapes Go.WideShapes Go.ChangeAt Go.RowKit Go.Sort
set_option linter.unusedVariables false

/-! ### the order has each node once -/
theorem ord_nodup {nodes : List NodeD} : ∀ (f : Nat) (out : List Int), out.Nodup → (ord nodes f out).Nodup
  | 0, out, h => h
  | f + 1, out, h => by
    rw [ord]
    split
    · exact h
    · rename_i i hi
      refine ord_nodup f _ ?_
      have h1 := rdy_free (nxt_some hi).2.2
      rw [List.nodup_append]
      refine ⟨h, by simp, fun a ha b hb e => ?_⟩
      rw [List.mem_singleton] at hb
      subst hb e
      rw [List.contains_eq_mem, decide_eq_false_iff_not] at h1
      exact h1 ha
theorem orderL_nodup (nodes : List NodeD) : (orderL nodes).Nodup := ord_nodup _ _ List.nodup_nil

theorem getD_at2 {xs : List Int} {k : Nat} (h : k < xs.length) : xs.getD k 0 = xs[k] := by
  rw [List.getD_eq_getElem?_getD, List.getElem?_eq_getElem h]; rfl
theorem OwnI.rd_at2 {B : Nat} {w : World} {p : Option Addr} {n c : Nat} {xs : List Int} (h : OwnI B w (.slice p n c) xs) : n = xs.length ∧ RdI w p xs := by
  obtain ⟨q, d, e, hr⟩ := h.rd
  simp only [Value.slice.injEq] at e
  obtain ⟨rfl, rfl, -⟩ := e
  exact ⟨rfl, hr⟩
/-! ### samples -/
theorem smps_getD {xs : List Int} (h : xs.all isSmp = true) (i : Nat) : isSmp (xs.getD i 0) = true := by
  rw [List.all_eq_true] at h
  by_cases hi : i < xs.length
  · rw [List.getD_eq_getElem?_getD, List.getElem?_eq_getElem hi]; exact h _ (List.getElem_mem hi)
  · rw [List.getD_eq_getElem?_getD, List.getElem?_eq_none (by omega)]; rfl
theorem smps_set {xs : List Int} (h : xs.all isSmp = true) (i : Nat) {y : Int} (hy : isSmp y = true) : (xs.set i y).all isSmp = true := by
  rw [List.all_eq_true] at h ⊢
  intro z hz
  rcases List.mem_or_eq_of_mem_set hz with hz | rfl
  · exact h z hz
  · exact hy
theorem smps_map {xs ys : List Int} (h : xs.all isSmp = true) : (mapL xs ys).all isSmp = true := by
  unfold mapL
  rw [List.all_map, List.all_eq_true]
  exact fun i _ => smps_getD h _
theorem isSmp_smp (x : Int) : isSmp (smp x) = true := by unfold isSmp; rw [inB_iff]; exact smp_bounds x
theorem outP_smp {x : NodeD} {tb : List (List Int)} {xs ss : List Int} (ok : OutOk x tb xs ss) (hv : nodeB x tb.length = true) (ht : tablesB tb = true) (hx : xs.all isSmp = true) (hs : ss.all isSmp = true) : isSmp (outP x tb xs ss) = true := by
  obtain ⟨k, A, B, src⟩ := x
  rw [nodeB_split] at hv
  simp only [Bool.and_eq_true] at hv
  obtain ⟨hk, ha, -⟩ := hv
  have x0 := smps_getD hx 0
  have x1 := smps_getD hx 1
  have x2 := smps_getD hx 2
  have s0 := smps_getD hs 0
  rcases kinds_of hk with rfl | rfl | rfl | rfl | rfl | rfl | rfl | rfl | rfl | rfl | rfl | rfl | rfl | rfl | rfl | rfl | rfl
  · exact x0
  · exact ha
  · exact isSmp_smp _
  · exact isSmp_smp _
  · exact isSmp_smp _
  · exact s0
  · exact isSmp_smp _
  · exact isSmp_smp _
  · exact isSmp_smp _
  · show isSmp (xs.getD 0 0 / 2 ^ A.toNat) = true
    have ha' : inB A 0 31 = true := ha
    rw [inB_iff] at ha'
    have hp : (0 : Int) < 2 ^ A.toNat := Int.pow_pos (by omega)
    generalize (2 : Int) ^ A.toNat = p at hp
    generalize xs.getD 0 0 = v at x0
    unfold isSmp at x0 ⊢
    rw [inB_iff] at x0 ⊢
    constructor
    · rw [Int.le_ediv_iff_mul_le hp]
      have h3 : (-2147483648 : Int) * p ≤ -2147483648 * 1 := Int.mul_le_mul_of_nonpos_left (by omega) (by omega)
      omega
    · have h4 : v / p < 2147483648 := Int.ediv_lt_of_lt_mul hp (by
        have h3 : (2147483648 : Int) * 1 ≤ 2147483648 * p := Int.mul_le_mul_of_nonneg_left (by omega) (by omega)
        omega)
      omega
  · show isSmp (max (-A) (min (xs.getD 0 0) A)) = true
    have ha' : inB A 0 2147483647 = true := ha
    unfold isSmp at x0 ⊢
    rw [inB_iff] at x0 ha' ⊢
    omega
  · exact s0
  · show isSmp (lookP (tb.getD A.toNat []) (xs.getD 0 0)) = true
    unfold lookP
    refine smps_getD ?_ _
    unfold tablesB at ht
    simp only [Bool.and_eq_true, List.all_eq_true] at ht
    by_cases hi : A.toNat < tb.length
    · have h1 := ht.1 tb[A.toNat] (List.getElem_mem hi)
      unfold tblB at h1
      rw [Bool.and_eq_true] at h1
      rw [List.getD_eq_getElem?_getD, List.getElem?_eq_getElem hi]
      exact h1.2
    · rw [List.getD_eq_getElem?_getD, List.getElem?_eq_none (by omega)]; rfl
  · exact s0
  · show isSmp (if 0 ≤ xs.getD 0 0 then xs.getD 1 0 else xs.getD 2 0) = true
    split
    · exact x1
    · exact x2
  · show isSmp (if 0 < xs.getD 1 0 then xs.getD 0 0 else ss.getD 0 0) = true
    split
    · exact x0
    · exact s0
  · exact isSmp_smp _

/-! ### one frame -/
/-- the samples that a node gets in a frame -/
def inF (x : NodeD) (fr vs : List Int) : List Int := if x.kind = 1 then [fr.getD x.a.toNat 0] else mapL vs x.src
/-- the value of node k is put in its place -/
def valS (x : PatchD) (st : List (List Int)) (fr vs : List Int) (k : Int) : List Int :=
  vs.set k.toNat (outP (x.nodes.getD k.toNat ⟨0, 0, 0, []⟩) x.tables (inF (x.nodes.getD k.toNat ⟨0, 0, 0, []⟩) fr vs) (st.getD k.toNat []))
def valsF (x : PatchD) (st : List (List Int)) (fr : List Int) (os : List Int) : List Int := os.foldl (valS x st fr) (List.replicate x.nodes.length 0)
theorem valsF_snoc (x : PatchD) (st : List (List Int)) (fr : List Int) (os : List Int) (k : Int) : valsF x st fr (os ++ [k]) = valS x st fr (valsF x st fr os) k := by unfold valsF; rw [List.foldl_append]; rfl
theorem valsF_take {x : PatchD} {st : List (List Int)} {fr os : List Int} {j : Nat} (h : j < os.length) : valsF x st fr (os.take (j + 1)) = valS x st fr (valsF x st fr (os.take j)) os[j] := by
  rw [List.take_succ_eq_append_getElem h, valsF_snoc]
theorem foldl_valS_length (x : PatchD) (st : List (List Int)) (fr : List Int) : ∀ (os vs : List Int), (os.foldl (valS x st fr) vs).length = vs.length
  | [], vs => rfl
  | o :: os, vs => by rw [List.foldl_cons, foldl_valS_length x st fr os, valS, List.length_set]
theorem valsF_length (x : PatchD) (st : List (List Int)) (fr os : List Int) : (valsF x st fr os).length = x.nodes.length := by unfold valsF; rw [foldl_valS_length, List.length_replicate]
/-- what a frame asks of patch, state and input -/
structure FrOk (x : PatchD) (st : List (List Int)) (fr : List Int) : Prop where
  f : formedB x = true
  sl : st.length = x.nodes.length
  s : ∀ k, (h : k < x.nodes.length) → (st.getD k []).length = (startL x.nodes[k]).length ∧ (st.getD k []).all isSmp = true
  il : (fr.length : Int) = x.inputs
  i : fr.all isSmp = true
theorem FrOk.of {x : PatchD} {st : List (List Int)} {fr : List Int} (h : formedB x = true) (hs : stB x.nodes st = true) (hi : (fr.length : Int) = x.inputs) (hf : fr.all isSmp = true) : FrOk x st fr := by
  unfold stB at hs
  rw [Bool.and_eq_true, decide_eq_true_eq, List.all_eq_true] at hs
  refine ⟨h, hs.1, fun k hk => ?_, hi, hf⟩
  have hk2 : k < st.length := by rw [hs.1]; exact hk
  have h1 := hs.2 (x.nodes[k], st[k]) (by
    rw [List.mem_iff_getElem]
    exact ⟨k, by rw [List.length_zip]; omega, by rw [List.getElem_zip]⟩)
  rw [Bool.and_eq_true, decide_eq_true_eq] at h1
  rw [List.getD_eq_getElem?_getD, List.getElem?_eq_getElem hk2]
  exact h1
theorem inF_len {x : NodeD} {t : Int} {fr vs : List Int} (h : nodeB x t = true) : ((inF x fr vs).length : Int) = inN x := by
  rw [nodeB_split] at h
  simp only [Bool.and_eq_true, beq_iff_eq] at h
  obtain ⟨-, -, h3, -⟩ := h
  unfold inF inN
  split
  · rfl
  · rw [mapL_length]; exact h3
theorem FrOk.nd {x : PatchD} {st : List (List Int)} {fr : List Int} (h : FrOk x st fr) {k : Nat} (hk : k < x.nodes.length) : nodeB x.nodes[k] x.tables.length = true ∧ (x.nodes[k].kind = 1 → 0 ≤ x.nodes[k].a ∧ x.nodes[k].a < (fr.length : Int)) ∧ ∀ f ∈ x.nodes[k].src, 0 ≤ f ∧ f < (x.nodes.length : Int) := by
  have h1 := (formed_iff.1 h.f).2.2.2.2.1 _ (List.getElem_mem hk)
  have h2 := ndB_src h1
  unfold ndB at h1
  simp only [Bool.and_eq_true, Bool.not_eq_true', Bool.and_eq_false_iff, beq_eq_false_iff_ne, decide_eq_false_iff_not] at h1
  refine ⟨h1.1.1, fun e => ?_, h2⟩
  have h3 := h1.1.1
  rw [nodeB_split] at h3
  simp only [Bool.and_eq_true] at h3
  have h4 : aB 1 x.nodes[k].a x.tables.length = true := by rw [← e]; exact h3.2.1
  have h5 : inB x.nodes[k].a 0 3 = true := h4
  rw [inB_iff] at h5
  rcases h1.1.2 with h6 | h6
  · exact absurd e h6
  · rw [h.il]; omega
theorem FrOk.out {x : PatchD} {st : List (List Int)} {fr vs : List Int} (h : FrOk x st fr) (hv : vs.all isSmp = true) {k : Nat} (hk : k < x.nodes.length) :
    OutOk x.nodes[k] x.tables (inF x.nodes[k] fr vs) (st.getD k []) ∧ isSmp (outP x.nodes[k] x.tables (inF x.nodes[k] fr vs) (st.getD k [])) = true := by
  have hn := (h.nd hk).1
  have ht := (formed_iff.1 h.f).2.1
  have hi : (inF x.nodes[k] fr vs).all isSmp = true := by
    unfold inF
    split
    · rw [List.all_cons, smps_getD h.i]; rfl
    · exact smps_map hv
  have ok := OutOk.of ht hn (inF_len hn) (h.s k hk).1 hi
  exact ⟨ok, outP_smp ok hn ht hi (h.s k hk).2⟩
theorem valS_smp {x : PatchD} {st : List (List Int)} {fr vs : List Int} (h : FrOk x st fr) (hv : vs.all isSmp = true) {k : Nat} (hk : k < x.nodes.length) : (valS x st fr vs k).all isSmp = true := by
  unfold valS
  refine smps_set hv _ ?_
  have := (h.out hv hk).2
  rw [Int.toNat_natCast, List.getD_eq_getElem?_getD (l := x.nodes), List.getElem?_eq_getElem hk]
  exact this
theorem valsF_smp {x : PatchD} {st : List (List Int)} {fr : List Int} (h : FrOk x st fr) : ∀ (os : List Int), (∀ o ∈ os, 0 ≤ o ∧ o < (x.nodes.length : Int)) → ∀ vs : List Int, vs.all isSmp = true → (os.foldl (valS x st fr) vs).all isSmp = true
  | [], _, vs, hv => hv
  | o :: os, ho, vs, hv => by
    rw [List.foldl_cons]
    obtain ⟨h1, h2⟩ := ho o (List.mem_cons_self ..)
    obtain ⟨k, rfl⟩ := Int.eq_ofNat_of_zero_le h1
    exact valsF_smp h os (fun o ho' => ho o (List.mem_cons_of_mem _ ho')) _ (valS_smp h hv (by omega))
theorem zeros_smp (n : Nat) : (List.replicate n (0 : Int)).all isSmp = true := by
  rw [List.all_eq_true]
  intro y hy
  rw [(List.mem_replicate.1 hy).2]; rfl
theorem valsF_smps {x : PatchD} {st : List (List Int)} {fr : List Int} (h : FrOk x st fr) {os : List Int} (ho : ∀ o ∈ os, 0 ≤ o ∧ o < (x.nodes.length : Int)) : (valsF x st fr os).all isSmp = true := valsF_smp h os ho _ (zeros_smp _)
end Go.Proofs.YtcfhcmgmkhfjjaaGreat

namespace Go.Proofs.YtcfhcmgmkhfjjaaGreat
open Go.ChangeShapes Go.WideShapes Go.ChangeAt Go.RowKit Go.Sort
set_option linter.unusedVariables false

/-! ### ranks -/
def ndI (nodes : List NodeD) (j : Int) : NodeD := nodes.getD j.toNat ⟨0, 0, 0, []⟩
/-- each node has a higher rank than those it waits for -/
def RankR (nodes : List NodeD) (ρ : Int → Nat) : Prop := ∀ j : Int, 0 ≤ j → j < (nodes.length : Int) → ∀ s ∈ waits (ndI nodes j), ρ s < ρ j
def OutRankR (nodes : List NodeD) (out : List Int) : Prop := ∃ ρ : Int → Nat, (∀ o ∈ out, ρ o < out.length) ∧ ∀ o ∈ out, ∀ s ∈ waits (ndI nodes o), s ∈ out ∧ ρ s < ρ o
theorem outRankR_snoc {nodes : List NodeD} {out : List Int} {i : Nat} (h : OutRankR nodes out) (hr : rdy nodes out i = true) : OutRankR nodes (out ++ [(i : Int)]) := by
  obtain ⟨ρ, h1, h2⟩ := h
  have hf := rdy_free hr
  have hni : (i : Int) ∉ out := by simpa using hf
  unfold rdy at hr
  simp only [Bool.and_eq_true, List.all_eq_true] at hr
  have hw : ∀ s ∈ waits (ndI nodes (i : Int)), s ∈ out := fun s hs => by simpa using hr.2 s hs
  refine ⟨fun o => if o = (i : Int) then out.length else ρ o, fun o ho => ?_, fun o ho s hs => ?_⟩
  · rw [List.length_append, List.length_singleton]
    dsimp only
    rcases List.mem_append.1 ho with ho | ho
    · split
      · omega
      · have := h1 o ho; omega
    · rw [if_pos (List.mem_singleton.1 ho)]; omega
  · dsimp only
    rcases List.mem_append.1 ho with ho | ho
    · obtain ⟨a, b⟩ := h2 o ho s hs
      have e1 : s ≠ (i : Int) := fun e => hni (e ▸ a)
      have e2 : o ≠ (i : Int) := fun e => hni (e ▸ ho)
      refine ⟨List.mem_append.2 (.inl a), ?_⟩
      rw [if_neg e1, if_neg e2]; exact b
    · obtain rfl := List.mem_singleton.1 ho
      have a := hw s hs
      have e1 : s ≠ (i : Int) := fun e => hni (e ▸ a)
      refine ⟨List.mem_append.2 (.inl a), ?_⟩
      rw [if_neg e1, if_pos rfl]; exact h1 s a
theorem ordR_rank {nodes : List NodeD} : ∀ (f : Nat) (out : List Int), OutRankR nodes out → OutRankR nodes (ord nodes f out)
  | 0, _, h => h
  | f + 1, out, h => by
    rcases e : nxt nodes out 0 nodes.length with _ | i
    · rw [ord_none e]; exact h
    · rw [ord_some e]; exact ordR_rank f _ (outRankR_snoc h (nxt_some e).2.2)
theorem ordR_free {nodes : List NodeD} : ∀ (f : Nat) (out : List Int), free (ord nodes f out) nodes.length + (ord nodes f out).length = free out nodes.length + out.length
  | 0, out => rfl
  | f + 1, out => by
    rcases e : nxt nodes out 0 nodes.length with _ | i
    · rw [ord_none e]
    · rw [ord_some e, ordR_free f]
      have h := nxt_some e
      have := free_add out i (rdy_free h.2.2) nodes.length (by omega)
      rw [List.length_append, List.length_singleton]; omega
theorem okR_len {x : PatchD} (h : okB x = true) : formedB x = true ∧ (orderL x.nodes).length = x.nodes.length ∧ x.nodes.length ≤ 24 := by
  unfold okB at h
  rw [Bool.and_eq_true, decide_eq_true_iff] at h
  exact ⟨h.1, h.2, (formed_iff.1 h.1).2.2.1⟩
theorem okR_all {x : PatchD} (h : okB x = true) {i : Nat} (hi : i < x.nodes.length) : (i : Int) ∈ orderL x.nodes := by
  have hl := (okR_len h).2.1
  have hf := ordR_free (nodes := x.nodes) x.nodes.length []
  rw [free_nil] at hf
  have hO : orderL x.nodes = ord x.nodes x.nodes.length [] := rfl
  rw [← hO] at hf
  have h0 : free (orderL x.nodes) x.nodes.length = 0 := by simp at hf; omega
  have hc : (orderL x.nodes).contains (i : Int) = true := by
    cases hc : (orderL x.nodes).contains (i : Int)
    · have := free_pos hc hi; omega
    · rfl
  simpa using hc
theorem okR_ranked {x : PatchD} (h : okB x = true) : ∃ ρ, RankR x.nodes ρ ∧ ∀ j, ρ j ≤ 24 := by
  obtain ⟨ρ, h1, h2⟩ := ordR_rank (nodes := x.nodes) x.nodes.length [] ⟨fun _ => 0, by simp, by simp⟩
  have hl := okR_len h
  refine ⟨fun j => if (orderL x.nodes).contains j then ρ j else 0, fun j h0 hj s hs => ?_, fun j => ?_⟩
  · obtain ⟨k, rfl⟩ := Int.eq_ofNat_of_zero_le h0
    have hm := okR_all h (i := k) (by omega)
    obtain ⟨a, b⟩ := h2 _ hm s hs
    have a' : s ∈ orderL x.nodes := a
    dsimp only
    rw [if_pos (by simpa using a'), if_pos (by simpa using hm)]; exact b
  · dsimp only
    split
    · rename_i hc
      have e1 := h1 j (by simpa [orderL] using hc)
      have e2 : (ord x.nodes x.nodes.length []).length = x.nodes.length := hl.2.1
      have e3 := hl.2.2
      omega
    · omega
theorem nxtR_none {nodes : List NodeD} {out : List Int} : ∀ {m k : Nat}, nxt nodes out k m = none → ∀ i, k ≤ i → i < k + m → rdy nodes out i = false
  | 0, _, _, i, h1, h2 => by omega
  | m + 1, k, h, i, h1, h2 => by
    unfold nxt at h
    split at h
    · cases h
    · rename_i hk
      rcases Nat.lt_or_ge k i with hlt | hge
      · exact nxtR_none h i hlt (by omega)
      · obtain rfl : k = i := by omega
        simpa using hk
theorem ordR_stop {nodes : List NodeD} : ∀ (f : Nat) (out : List Int), nxt nodes (ord nodes f out) 0 nodes.length = none ∨ (ord nodes f out).length = out.length + f
  | 0, out => .inr rfl
  | f + 1, out => by
    rcases e : nxt nodes out 0 nodes.length with _ | i
    · rw [ord_none e]; exact .inl e
    · rw [ord_some e]
      rcases ordR_stop f (out ++ [(i : Int)]) with h | h
      · exact .inl h
      · right
        rw [h, List.length_append, List.length_singleton]; omega
theorem freeR_zero {out : List Int} : ∀ n : Nat, (∀ i : Nat, i < n → out.contains (i : Int) = true) → free out n = 0
  | 0, _ => rfl
  | n + 1, h => by
    rw [free, freeR_zero n fun i hi => h i (by omega), h n (by omega)]; rfl
theorem ndI_at {nodes : List NodeD} {k : Nat} (h : k < nodes.length) : ndI nodes (k : Int) = nodes[k] := by
  unfold ndI
  rw [Int.toNat_natCast, List.getD_eq_getElem?_getD, List.getElem?_eq_getElem h]; rfl
theorem formedR_src {x : PatchD} (hf : formedB x = true) {k : Nat} (h : k < x.nodes.length) : ∀ j ∈ (ndI x.nodes k).src, 0 ≤ j ∧ j < (x.nodes.length : Int) := fun j hj => by
  rw [ndI_at h] at hj
  exact ndB_src ((formed_iff.1 hf).2.2.2.2.1 _ (List.getElem_mem h)) j hj
theorem rankedR_okB {x : PatchD} {ρ : Int → Nat} (hf : formedB x = true) (hr : RankR x.nodes ρ) : okB x = true := by
  have key : (orderL x.nodes).length = x.nodes.length := by
    have hfr := ordR_free (nodes := x.nodes) x.nodes.length []
    rw [free_nil] at hfr
    rcases ordR_stop (nodes := x.nodes) x.nodes.length [] with h | h
    · have hall : ∀ m i : Nat, i < x.nodes.length → ρ (i : Int) = m → (ord x.nodes x.nodes.length []).contains (i : Int) = true := by
        intro m
        induction m using Nat.strongRecOn with
        | _ m ih =>
          intro i hi hm
          cases hc : (ord x.nodes x.nodes.length []).contains (i : Int)
          · exfalso
            have hrd := nxtR_none h i (Nat.zero_le _) (by omega)
            unfold rdy at hrd
            rw [hc] at hrd
            have hw : (waits (x.nodes.getD i ⟨0, 0, 0, []⟩)).all (fun f => (ord x.nodes x.nodes.length []).contains f) = true := List.all_eq_true.2 fun s hs => by
              have hs0 : s ∈ waits (ndI x.nodes (i : Int)) := hs
              have rng := formedR_src hf hi s (waits_src hs0)
              obtain ⟨k, rfl⟩ := Int.eq_ofNat_of_zero_le rng.1
              have hlt := hr (i : Int) (by omega) (by omega) _ hs0
              rw [hm] at hlt
              exact ih _ hlt k (by omega) rfl
            rw [hw] at hrd
            cases hrd
          · rfl
      have h0 := freeR_zero (out := ord x.nodes x.nodes.length []) x.nodes.length fun i hi => hall _ i hi rfl
      have hO : orderL x.nodes = ord x.nodes x.nodes.length [] := rfl
      rw [hO]
      simp only [List.length_nil] at hfr
      omega
    · simpa [orderL] using h
  unfold okB
  rw [hf, Bool.true_and]; exact decide_eq_true key

/-! ### a frame's values solve the nodes' equations -/
structure Sol (x : PatchD) (st : List (List Int)) (fr vs : List Int) : Prop where
  len : vs.length = x.nodes.length
  eq : ∀ k : Nat, k < x.nodes.length → vs.getD k 0 = outP (ndI x.nodes k) x.tables (inF (ndI x.nodes k) fr vs) (st.getD k [])
theorem outP_wait {n : NodeD} {tb : List (List Int)} {fr vs vs' ss : List Int} (h : ∀ s ∈ waits n, vs.getD s.toNat 0 = vs'.getD s.toNat 0) : outP n tb (inF n fr vs) ss = outP n tb (inF n fr vs') ss := by
  by_cases hk : n.kind = 6
  · unfold outP; rw [hk]; rfl
  · have e : inF n fr vs = inF n fr vs' := by
      unfold inF
      split
      · rfl
      · unfold mapL
        refine List.map_congr_left fun s hs => h s ?_
        unfold waits
        rw [if_neg hk]; exact hs
    rw [e]
theorem getD_set_ne' {vs : List Int} {i j : Nat} (y : Int) (h : j ≠ i) : (vs.set i y).getD j 0 = vs.getD j 0 := by
  rw [List.getD_eq_getElem?_getD, List.getD_eq_getElem?_getD, List.getElem?_set_ne (Ne.symm h)]
theorem getD_set_eq' {vs : List Int} {i : Nat} (y : Int) (h : i < vs.length) : (vs.set i y).getD i 0 = y := by
  rw [List.getD_eq_getElem?_getD, List.getElem?_set_self h]; rfl
def SolP (x : PatchD) (st : List (List Int)) (fr : List Int) (out : List Int) : Prop :=
  (∀ o ∈ out, 0 ≤ o ∧ o < (x.nodes.length : Int)) ∧ (∀ o ∈ out, ∀ s ∈ waits (ndI x.nodes o), s ∈ out) ∧
    ∀ o ∈ out, (valsF x st fr out).getD o.toNat 0 = outP (ndI x.nodes o) x.tables (inF (ndI x.nodes o) fr (valsF x st fr out)) (st.getD o.toNat [])
theorem solP_snoc {x : PatchD} {st : List (List Int)} {fr out : List Int} {i : Nat} (h : SolP x st fr out) (hi : i < x.nodes.length) (hr : rdy x.nodes out i = true) : SolP x st fr (out ++ [(i : Int)]) := by
  obtain ⟨h1, h2, h3⟩ := h
  have hni : (i : Int) ∉ out := by simpa using rdy_free hr
  unfold rdy at hr
  simp only [Bool.and_eq_true, List.all_eq_true] at hr
  have hw : ∀ s ∈ waits (ndI x.nodes (i : Int)), s ∈ out := fun s hs => by simpa using hr.2 s hs
  have hE : valsF x st fr (out ++ [(i : Int)]) = (valsF x st fr out).set i (outP (ndI x.nodes i) x.tables (inF (ndI x.nodes i) fr (valsF x st fr out)) (st.getD i [])) := by
    rw [valsF_snoc]; unfold valS; rw [Int.toNat_natCast]; unfold ndI; rw [Int.toNat_natCast]
  have hl := valsF_length x st fr out
  rw [SolP, hE]
  generalize valsF x st fr out = vs at h3 hl
  generalize hy : outP (ndI x.nodes i) x.tables (inF (ndI x.nodes i) fr vs) (st.getD i []) = y
  have hag : ∀ s ∈ out, (vs.set i y).getD s.toNat 0 = vs.getD s.toNat 0 := fun s hs => getD_set_ne' y fun e => hni (by
    have := (h1 s hs).1
    have e2 : s = (i : Int) := by omega
    rw [← e2]; exact hs)
  refine ⟨fun o ho => ?_, fun o ho s hs => ?_, fun o ho => ?_⟩
  · rcases List.mem_append.1 ho with ho | ho
    · exact h1 o ho
    · rw [List.mem_singleton.1 ho]; omega
  · refine List.mem_append.2 (.inl ?_)
    rcases List.mem_append.1 ho with ho | ho
    · exact h2 o ho s hs
    · rw [List.mem_singleton.1 ho] at hs; exact hw s hs
  · rcases List.mem_append.1 ho with ho | ho
    · rw [hag o ho, h3 o ho]
      exact outP_wait fun s hs => (hag s (h2 o ho s hs)).symm
    · obtain rfl := List.mem_singleton.1 ho
      rw [Int.toNat_natCast, getD_set_eq' y (by omega)]
      exact hy.symm.trans (outP_wait fun s hs => (hag s (hw s hs)).symm)
theorem solP_ord {x : PatchD} {st : List (List Int)} {fr : List Int} : ∀ (f : Nat) (out : List Int), SolP x st fr out → SolP x st fr (ord x.nodes f out)
  | 0, _, h => h
  | f + 1, out, h => by
    rcases e : nxt x.nodes out 0 x.nodes.length with _ | i
    · rw [ord_none e]; exact h
    · rw [ord_some e]
      have hn := nxt_some e
      exact solP_ord f _ (solP_snoc h (by omega) hn.2.2)
/-- the values of all nodes in a frame -/
def vsN (x : PatchD) (st : List (List Int)) (fr : List Int) : List Int := valsF x st fr (orderL x.nodes)
theorem vsN_sol {x : PatchD} (h : okB x = true) (st : List (List Int)) (fr : List Int) : Sol x st fr (vsN x st fr) := by
  have hp := solP_ord (x := x) (st := st) (fr := fr) x.nodes.length [] ⟨by simp, by simp, by simp⟩
  refine ⟨valsF_length _ _ _ _, fun k hk => ?_⟩
  have := hp.2.2 (k : Int) (okR_all h hk)
  rw [Int.toNat_natCast] at this
  exact this
theorem sol_one {x : PatchD} (h : okB x = true) {st : List (List Int)} {fr vs vs' : List Int} (h1 : Sol x st fr vs) (h2 : Sol x st fr vs') : vs = vs' := by
  obtain ⟨ρ, hr, -⟩ := okR_ranked h
  have key : ∀ m k : Nat, k < x.nodes.length → ρ (k : Int) = m → vs.getD k 0 = vs'.getD k 0 := by
    intro m
    induction m using Nat.strongRecOn with
    | _ m ih =>
      intro k hk hm
      rw [h1.eq k hk, h2.eq k hk]
      refine outP_wait fun s hs => ?_
      have rng := formedR_src (okR_len h).1 hk s (waits_src hs)
      have hlt := hr (k : Int) (by omega) (by omega) s hs
      obtain ⟨j, rfl⟩ := Int.eq_ofNat_of_zero_le rng.1
      rw [Int.toNat_natCast]
      exact ih _ (by omega) j (by omega) rfl
  apply List.ext_getElem
  · rw [h1.len, h2.len]
  · intro k hk1 hk2
    have := key _ k (by rw [← h1.len]; exact hk1) rfl
    rwa [List.getD_eq_getElem?_getD, List.getD_eq_getElem?_getD, List.getElem?_eq_getElem hk1, List.getElem?_eq_getElem hk2] at this

/-! ### the renderer -/
def stN (x : PatchD) (st : List (List Int)) (fr vs : List Int) : List (List Int) := (List.range x.nodes.length).map fun k : Nat => nextP (ndI x.nodes (k : Int)) (inF (ndI x.nodes (k : Int)) fr vs) (st.getD k []) (vs.getD k 0)
def frN (ins : List (List Int)) (i : Nat) : List Int := ins.map fun a => a.getD i 0
/-- the states ahead of frame i -/
def stI (x : PatchD) (ins : List (List Int)) : Nat → List (List Int)
  | 0 => x.nodes.map startL
  | i + 1 => stN x (stI x ins i) (frN ins i) (vsN x (stI x ins i) (frN ins i))
/-- the values in frame i -/
def vsI (x : PatchD) (ins : List (List Int)) (i : Nat) : List Int := vsN x (stI x ins i) (frN ins i)
def renL (x : PatchD) (ins : List (List Int)) (n : Nat) : List (List Int) := x.outputs.map fun o => (List.range n).map fun i => (vsI x ins i).getD o.toNat 0
theorem getD_map_range {α : Type} (f : Nat → α) (d : α) {n k : Nat} (h : k < n) : ((List.range n).map f).getD k d = f k := by
  rw [List.getD_eq_getElem?_getD, List.getElem?_map, List.getElem?_range h]; rfl
theorem stN_get {x : PatchD} {st : List (List Int)} {fr vs : List Int} {k : Nat} (h : k < x.nodes.length) : (stN x st fr vs).getD k [] = nextP (ndI x.nodes (k : Int)) (inF (ndI x.nodes (k : Int)) fr vs) (st.getD k []) (vs.getD k 0) := by
  unfold stN
  exact getD_map_range _ _ h
theorem stI_zero {x : PatchD} {ins : List (List Int)} {k : Nat} (h : k < x.nodes.length) : (stI x ins 0).getD k [] = startL (ndI x.nodes k) := by
  rw [stI, ndI_at h, List.getD_eq_getElem?_getD, List.getElem?_map, List.getElem?_eq_getElem h]; rfl
theorem vsI_len (x : PatchD) (ins : List (List Int)) (i : Nat) : (vsI x ins i).length = x.nodes.length := valsF_length _ _ _ _

/-! ### a patch in another one -/
/-- the nodes of p' lie at the places φ of p; those of lk are fed from there -/
structure Emb (p' p : PatchD) (φ : Nat → Nat) (lk : Nat → Prop) : Prop where
  lt : ∀ k, k < p'.nodes.length → φ k < p.nodes.length
  inp : ∀ k, k < p'.nodes.length → lk k → (ndI p'.nodes k).kind = 1
  out : ∀ k, k < p'.nodes.length → ¬ lk k → ∀ xs ss, outP (ndI p'.nodes k) p'.tables xs ss = outP (ndI p.nodes (φ k : Nat)) p.tables xs ss
  nxt : ∀ k, k < p'.nodes.length → ¬ lk k → ∀ xs ss y, nextP (ndI p'.nodes k) xs ss y = nextP (ndI p.nodes (φ k : Nat)) xs ss y
  start : ∀ k, k < p'.nodes.length → ¬ lk k → startL (ndI p'.nodes k) = startL (ndI p.nodes (φ k : Nat))
  kind : ∀ k, k < p'.nodes.length → ¬ lk k → (ndI p.nodes (φ k : Nat)).kind = (ndI p'.nodes k).kind
  a : ∀ k, k < p'.nodes.length → ¬ lk k → (ndI p'.nodes k).kind = 1 → (ndI p.nodes (φ k : Nat)).a = (ndI p'.nodes k).a
  src : ∀ k, k < p'.nodes.length → (ndI p'.nodes k).kind ≠ 1 → (ndI p.nodes (φ k : Nat)).src = (ndI p'.nodes k).src.map (fun s => ((φ s.toNat : Nat) : Int)) ∧ ∀ s ∈ (ndI p'.nodes k).src, 0 ≤ s ∧ s < (p'.nodes.length : Int)
/-- the values at the places -/
def atL (φ : Nat → Nat) (n : Nat) (vs : List Int) : List Int := (List.range n).map fun k => vs.getD (φ k) 0
theorem Emb.inF {p' p : PatchD} {φ : Nat → Nat} {lk : Nat → Prop} (E : Emb p' p φ lk) {fr' fr vs : List Int} (hin : ∀ a : Nat, (∃ k, k < p'.nodes.length ∧ ¬ lk k ∧ (ndI p'.nodes k).kind = 1 ∧ (ndI p'.nodes k).a.toNat = a) → fr'.getD a 0 = fr.getD a 0) {k : Nat} (hk : k < p'.nodes.length) (hl : ¬ lk k) :
    inF (ndI p.nodes (φ k : Nat)) fr vs = Go.Proofs.YtcfhcmgmkhfjjaaGreat.inF (ndI p'.nodes k) fr' (atL φ p'.nodes.length vs) := by
  unfold Go.Proofs.YtcfhcmgmkhfjjaaGreat.inF
  rw [E.kind k hk hl]
  by_cases h1 : (ndI p'.nodes k).kind = 1
  · rw [if_pos h1, if_pos h1, E.a k hk hl h1, hin _ ⟨k, hk, hl, h1, rfl⟩]
  · rw [if_neg h1, if_neg h1]
    obtain ⟨e1, e2⟩ := E.src k hk h1
    rw [e1]
    unfold mapL
    rw [List.map_map]
    refine List.map_congr_left fun s hs => ?_
    have := e2 s hs
    show vs.getD ((φ s.toNat : Nat) : Int).toNat 0 = _
    rw [Int.toNat_natCast]
    unfold atL
    rw [getD_map_range _ _ (by omega)]
theorem Emb.run {p' p : PatchD} {φ : Nat → Nat} {lk : Nat → Prop} (E : Emb p' p φ lk) (ok' : okB p' = true) (ok : okB p = true) {ins' ins : List (List Int)} {n : Nat}
    (hin : ∀ i, i < n → ∀ a : Nat, (∃ k, k < p'.nodes.length ∧ ¬ lk k ∧ (ndI p'.nodes k).kind = 1 ∧ (ndI p'.nodes k).a.toNat = a) → (frN ins' i).getD a 0 = (frN ins i).getD a 0)
    (hlk : ∀ i, i < n → ∀ k, k < p'.nodes.length → lk k → (frN ins' i).getD (ndI p'.nodes k).a.toNat 0 = (vsI p ins i).getD (φ k) 0) :
    ∀ i, i < n → (∀ k, k < p'.nodes.length → ¬ lk k → (stI p' ins' i).getD k [] = (stI p ins i).getD (φ k) []) ∧ vsI p' ins' i = atL φ p'.nodes.length (vsI p ins i) := by
  have frame : ∀ i, i < n → (∀ k, k < p'.nodes.length → ¬ lk k → (stI p' ins' i).getD k [] = (stI p ins i).getD (φ k) []) → vsI p' ins' i = atL φ p'.nodes.length (vsI p ins i) := fun i hi hst => by
    refine sol_one ok' (vsN_sol ok' _ _) ⟨by simp [atL], fun k hk => ?_⟩
    have hv := vsN_sol ok (stI p ins i) (frN ins i)
    unfold atL
    rw [getD_map_range _ _ hk]
    by_cases hl : lk k
    · rw [← hlk i hi k hk hl]
      have h1 := E.inp k hk hl
      unfold outP Go.Proofs.YtcfhcmgmkhfjjaaGreat.inF
      rw [if_pos h1, h1]
      rfl
    · have h1 := hv.eq (φ k) (E.lt k hk)
      show (vsN p (stI p ins i) (frN ins i)).getD (φ k) 0 = _
      rw [h1, E.out k hk hl, hst k hk hl, E.inF (hin i hi) hk hl]
      rfl
  intro i
  induction i with
  | zero =>
    intro hi
    have h0 : ∀ k, k < p'.nodes.length → ¬ lk k → (stI p' ins' 0).getD k [] = (stI p ins 0).getD (φ k) [] := fun k hk hl => by
      rw [stI_zero hk, stI_zero (E.lt k hk)]
      exact E.start k hk hl
    exact ⟨h0, frame 0 hi h0⟩
  | succ i ih =>
    intro hi
    obtain ⟨hs, hv⟩ := ih (by omega)
    have h0 : ∀ k, k < p'.nodes.length → ¬ lk k → (stI p' ins' (i + 1)).getD k [] = (stI p ins (i + 1)).getD (φ k) [] := fun k hk hl => by
      show (stN p' (stI p' ins' i) (frN ins' i) (vsI p' ins' i)).getD k [] = (stN p (stI p ins i) (frN ins i) (vsI p ins i)).getD (φ k) []
      rw [stN_get hk, stN_get (E.lt k hk), E.nxt k hk hl, hs k hk hl, hv, E.inF (hin i (by omega)) hk hl]
      unfold atL
      rw [getD_map_range _ _ hk]
    exact ⟨h0, frame (i + 1) hi h0⟩
end Go.Proofs.YtcfhcmgmkhfjjaaGreat

namespace Go.Proofs.YtcfhcmgmkhfjjaaGreat
open Go.ChangeShapes Go.WideShapes Go.ChangeAt Go.RowKit Go.Sort
set_option linter.unusedVariables false

theorem noiseP_smp (s : Int) : isSmp (noiseP s) = true := by unfold noiseP; split <;> exact isSmp_smp _
theorem start_smp {n : NodeD} {t : Int} (h : nodeB n t = true) : (startL n).all isSmp = true := by
  rw [nodeB_split] at h
  simp only [Bool.and_eq_true] at h
  obtain ⟨hk, ha, -⟩ := h
  obtain ⟨k, A, B, src⟩ := n
  have z : ∀ m : Nat, (List.replicate m (0 : Int)).all isSmp = true := zeros_smp
  rcases kinds_of hk with rfl | rfl | rfl | rfl | rfl | rfl | rfl | rfl | rfl | rfl | rfl | rfl | rfl | rfl | rfl | rfl | rfl
  all_goals first | rfl | exact z _ | skip
  · have ha' : isSmp A = true := ha
    show ([A] : List Int).all isSmp = true
    simp [ha']
  · have ha' : isSmp A = true := ha
    show ([A] : List Int).all isSmp = true
    simp [ha']
theorem next_ok {n : NodeD} {t : Int} {xs ss : List Int} {y : Int} (h : nodeB n t = true) (hl : ss.length = (startL n).length) (hs : ss.all isSmp = true) (hx : xs.all isSmp = true) (hy : isSmp y = true) :
    (nextP n xs ss y).length = (startL n).length ∧ (nextP n xs ss y).all isSmp = true := by
  have hp := startL_pos h
  rw [nodeB_split] at h
  simp only [Bool.and_eq_true] at h
  obtain ⟨hk, -⟩ := h
  have x0 := smps_getD hx 0
  have d : ∀ z, isSmp z = true → (ss.drop 1 ++ [z]).all isSmp = true := fun z hz => by
    rw [List.all_eq_true] at *
    intro u hu
    rcases List.mem_append.1 hu with h | h
    · exact hs u (List.mem_of_mem_drop h)
    · rw [List.mem_singleton.1 h]; exact hz
  have o : ∀ z, isSmp z = true → ([z] : List Int).all isSmp = true := fun z hz => by simpa using hz
  obtain ⟨k, A, B, src⟩ := n
  simp only at *
  rcases kinds_of hk with rfl | rfl | rfl | rfl | rfl | rfl | rfl | rfl | rfl | rfl | rfl | rfl | rfl | rfl | rfl | rfl | rfl
  all_goals first
    | exact ⟨rfl, rfl⟩
    | exact ⟨rfl, o _ hy⟩
    | exact ⟨rfl, o _ x0⟩
    | exact ⟨rfl, o _ (isSmp_smp _)⟩
    | exact ⟨rfl, o _ (noiseP_smp _)⟩
    | (have h1 := hp (by omega)
       refine ⟨?_, ?_⟩
       · show (ss.drop 1 ++ [_]).length = _
         rw [List.length_append, List.length_drop, List.length_singleton]
         omega
       · first | exact d _ hy | exact d _ x0)
/-- what the inputs of a rendering are -/
structure InsOk (x : PatchD) (ins : List (List Int)) : Prop where
  n : (ins.length : Int) = x.inputs
  s : ∀ a ∈ ins, a.all isSmp = true
theorem frN_smp {ins : List (List Int)} (h : ∀ a ∈ ins, a.all isSmp = true) (i : Nat) : (frN ins i).all isSmp = true := by
  rw [List.all_eq_true]
  intro y hy
  unfold frN at hy
  obtain ⟨a, ha, rfl⟩ := List.mem_map.1 hy
  exact smps_getD (h a ha) i
theorem frN_length (ins : List (List Int)) (i : Nat) : (frN ins i).length = ins.length := by simp [frN]
theorem vsN_smp {x : PatchD} {st : List (List Int)} {fr : List Int} (h : FrOk x st fr) : (vsN x st fr).all isSmp = true := valsF_smps h orderL_mem
theorem inF_smp {n : NodeD} {fr vs : List Int} (hf : fr.all isSmp = true) (hv : vs.all isSmp = true) : (inF n fr vs).all isSmp = true := by
  unfold inF
  split
  · rw [List.all_cons, smps_getD hf]; rfl
  · exact smps_map hv
theorem stN_length (x : PatchD) (st : List (List Int)) (fr vs : List Int) : (stN x st fr vs).length = x.nodes.length := by simp [stN]
theorem FrOk.step {x : PatchD} {st : List (List Int)} {fr fr' : List Int} (h : FrOk x st fr) (hl : (fr'.length : Int) = x.inputs) (hs : fr'.all isSmp = true) : FrOk x (stN x st fr (vsN x st fr)) fr' := by
  refine ⟨h.f, stN_length _ _ _ _, fun k hk => ?_, hl, hs⟩
  rw [stN_get hk, ndI_at hk]
  have h1 := h.s k hk
  exact next_ok (h.nd hk).1 h1.1 h1.2 (inF_smp h.i (vsN_smp h)) (smps_getD (vsN_smp h) k)
theorem FrOk.run {x : PatchD} {ins : List (List Int)} (hf : formedB x = true) (hi : InsOk x ins) : ∀ i, FrOk x (stI x ins i) (frN ins i)
  | 0 => by
    refine ⟨hf, by simp [stI], fun k hk => ?_, by rw [frN_length]; exact hi.n, frN_smp hi.s 0⟩
    rw [stI_zero hk, ndI_at hk]
    have h1 := (formed_iff.1 hf).2.2.2.2.1 _ (List.getElem_mem hk)
    unfold ndB at h1
    simp only [Bool.and_eq_true] at h1
    exact ⟨rfl, start_smp h1.1.1⟩
  | i + 1 => (FrOk.run hf hi i).step (by rw [frN_length]; exact hi.n) (frN_smp hi.s _)
theorem stI_length (x : PatchD) (ins : List (List Int)) : ∀ i, (stI x ins i).length = x.nodes.length
  | 0 => by simp [stI]
  | i + 1 => by rw [stI, stN_length]
theorem vsI_smp {x : PatchD} {ins : List (List Int)} (hf : formedB x = true) (hi : InsOk x ins) (i : Nat) : (vsI x ins i).all isSmp = true := vsN_smp (FrOk.run hf hi i)
theorem renL_length (x : PatchD) (ins : List (List Int)) (n : Nat) : (renL x ins n).length = x.outputs.length := by simp [renL]
theorem renL_rows {x : PatchD} {ins : List (List Int)} {n : Nat} (hf : formedB x = true) (hi : InsOk x ins) : ∀ a ∈ renL x ins n, a.length = n ∧ a.all isSmp = true := fun a ha => by
  unfold renL at ha
  obtain ⟨o, ho, rfl⟩ := List.mem_map.1 ha
  refine ⟨by simp, ?_⟩
  rw [List.all_map, List.all_eq_true]
  exact fun i _ => smps_getD (vsI_smp hf hi i) _
/-! ### what a rendering has of its first frames -/
def outK0 (x : PatchD) (ins : List (List Int)) (o : Int) (n : Nat) : List Int := (List.range n).map fun i => (vsI x ins i).getD o.toNat 0
theorem outK0_succ (x : PatchD) (ins : List (List Int)) (o : Int) (n : Nat) : outK0 x ins o (n + 1) = outK0 x ins o n ++ [(vsI x ins n).getD o.toNat 0] := by
  unfold outK0
  rw [List.range_succ, List.map_append]; rfl
theorem renL_eq (x : PatchD) (ins : List (List Int)) (n : Nat) : renL x ins n = x.outputs.map fun o => outK0 x ins o n := rfl
end Go.Proofs.YtcfhcmgmkhfjjaaGreat

namespace Go.Proofs.YtcfhcmgmkhfjjaaGreat
open Go.ChangeShapes Go.WideShapes Go.ChangeAt Go.RowKit Go.Sort
set_option linter.unusedVariables false

end Go.Proofs.YtcfhcmgmkhfjjaaGreat

namespace Go.Proofs.YtcfhcmgmkhfjjaaGreat
open Go.ChangeShapes Go.WideShapes Go.ChangeAt Go.RowKit Go.Sort
set_option linter.unusedVariables false

theorem l08In_any {b o : Nat} {x : NodeD} {fr vs : List Int} {pf pv : Option Addr} {cf cv : Nat} (w : World) (h : PNode w b o x) (hf : RdI w pf fr) (hv : RdI w pv vs) (ha : x.kind = 1 → 0 ≤ x.a ∧ x.a < (fr.length : Int)) (hs : ∀ f ∈ x.src, 0 ≤ f ∧ f < (vs.length : Int)) (hl : x.src.length ≤ 1048576) :
    Calls Tryz.prog 110 #[.pointer (some ⟨b, o, none⟩), .slice pf fr.length cf, .slice pv vs.length cv] w fun e w' => ∃ v, e = .returned v ∧ OwnI w.heap.size w' v (inF x fr vs) ∧ Below w.heap.size w w' := by
  obtain ⟨c0, c1, -, q, d, c3, hr⟩ := h
  by_cases hk : x.kind = 1
  · obtain ⟨a0, a1⟩ := ha hk
    obtain ⟨j, hj⟩ := Int.eq_ofNat_of_zero_le a0
    have hjl : j < fr.length := by omega
    have HI : Hid (inF x fr vs = [fr[j]]) := by unfold Hid inF; rw [if_pos hk, hj, Int.toNat_natCast, getD_at2 hjl]
    obtain ⟨bf, of_, rfl, hbf, hcf⟩ := hf.pos hjl
    have hcj := hcf j hjl
    rw [hj] at c1
    generalize fr[j] = y at hcj HI
    have hq : (x.kind == 1) = true := by rw [beq_iff_eq]; exact hk
    have hlit := OwnI.lit (B := w.heap.size) w [y] (Nat.le_refl _) (by simp [maxLen])
    have hB := (Below.refl w.heap.size w).alloc (Nat.le_refl _) (.cells #[.int .i64 y] 2)
    have hfl := hf.len
    unfold maxLen at hfl
    clear hcf hf hk hj a0 a1 ha
    go_enter Tryz.func110, Tryz.ntmps110
    go_wp2_with fail
    go_ret
    exact ⟨_, rfl, by rw [HI.out]; exact hlit, hB⟩
  · have HI : Hid (inF x fr vs = mapL vs x.src) := by unfold Hid inF; rw [if_neg hk]
    have hq : (x.kind == 1) = false := by rw [beq_eq_false_iff_ne]; exact hk
    have MP := Lib.hid (l07Map_any (c := d) (d := cv) w hr hv hl hs)
    clear hk ha hs hf hr
    go_enter Tryz.func110, Tryz.ntmps110
    go_wp2_with fail
    refine MP.out.mono ?_
    rintro e w1 ⟨v, rfl, hv1, hb1⟩
    obtain ⟨pp, cc, rfl, -⟩ := hv1.rd
    go_wp2_with fail
    go_ret
    exact ⟨_, rfl, by rw [HI.out]; exact hv1, hb1⟩
set_option maxHeartbeats 4000000 in
set_option maxRecDepth 100000 in
theorem l08Values_any {gp gs : Nat} {x : PatchD} {st : List (List Int)} {os fr : List Int} {po pf q : Option Addr} {co cf d : Nat} (w : World) (h : PPatch w gp x) (ho : RdI w po os) (hom : ∀ o ∈ os, 0 ≤ o ∧ o < (x.nodes.length : Int)) (hs : Box w gs [.slice q st.length d] 83) (hst : RdII w q st) (hf : RdI w pf fr) (ok : FrOk x st fr) :
    Calls Tryz.prog 82 #[.pointer (some ⟨gp, 0, none⟩), .slice po os.length co, .pointer (some ⟨gs, 0, none⟩), .slice pf fr.length cf] w fun e w' => ∃ v, e = .returned v ∧ OwnI w.heap.size w' v (valsF x st fr os) ∧ Below w.heap.size w w' := by
  obtain ⟨p1, c1, p2, c2, p3, c3, bx, r1, r2, -⟩ := h
  have hn24 : x.nodes.length ≤ 24 := (formed_iff.1 ok.f).2.2.1
  have hol := ho.len
  have hfl := hf.len
  unfold maxLen at hol hfl
  have hmk := fun W => run_make_row' (P := Tryz.prog) 26 2 (.int .i64 0) 8 Tryz.underlying26 infoI rfl .i64 .i64 x.nodes.length (by omega) (by omega) W
  have h0 := OwnI.made (B := w.heap.size) w x.nodes.length (Nat.le_refl _) (by unfold maxLen; omega)
  have hB0 := (Below.refl w.heap.size w).alloc (Nat.le_refl _) (.cells (madeCells #[.int .i64 0] x.nodes.length) 2)
  have HOK := Lib.hid ok
  have HOM := Lib.hid hom
  have z2 := bx.cell 2 rfl
  have lgp := bx.lt
  have lgs := hs.lt
  clear ok hom
  go_enter Tryz.func82, Tryz.ntmps82
  go_wp2_with fail
  go_loopw [10] (fun i wr => ∃ k : Nat, k ≤ os.length ∧ i = .int .i64 k ∧ OwnI w.heap.size wr (.slice (some ⟨w.heap.size, 0, none⟩) x.nodes.length x.nodes.length) (valsF x st fr (os.take k)) ∧ Below w.heap.size w wr) (fun i _ => os.length - (intOf i).toNat)
  case atStart => exact ⟨0, Nat.zero_le _, rfl, by simpa [valsF] using h0, hB0⟩
  case round =>
    obtain ⟨k, hk, rfl, hown, hbel⟩ := hrel
    clear h0 hB0 z2 hmk
    obtain ⟨wi, rfl⟩ : ∃ wi : World, wi = wr := ⟨_, rfl⟩
    by_cases hlt : k < os.length
    · obtain ⟨ob, oo, rfl, hobl, hoc⟩ := (ho.below hbel).pos hlt
      have hok := hoc k hlt
      have hmem := HOM.out _ (List.getElem_mem hlt)
      have HVT := Lib.hid (valsF_take (x := x) (st := st) (fr := fr) hlt)
      obtain ⟨m, hm⟩ : ∃ m : Nat, os[k] = m := ⟨os[k].toNat, by omega⟩
      rw [hm] at hok hmem HVT
      have hmn : m < x.nodes.length := by omega
      have hsm := valsF_smps HOK.out (os := os.take k) (fun o ho => HOM.out o (List.mem_of_mem_take ho))
      have hvl := valsF_length x st fr (os.take k)
      have hoo := (HOK.out.out hsm hmn).1
      have hnd := HOK.out.nd hmn
      have hsl : m < st.length := by rw [HOK.out.sl]; exact hmn
      have HVS : Hid (valsF x st fr (os.take (k + 1)) = (valsF x st fr (os.take k)).set m (outP x.nodes[m] x.tables (inF x.nodes[m] fr (valsF x st fr (os.take k))) (st.getD m []))) := by
        unfold Hid
        rw [HVT.out, valS, Int.toNat_natCast, List.getD_eq_getElem?_getD (l := x.nodes), List.getElem?_eq_getElem hmn]; rfl
      clear HVT
      generalize valsF x st fr (os.take k) = vs at hown hvl hoo HVS
      obtain ⟨b, o, rfl, hbl, hc⟩ := r2.pos hmn
      have hnode := hc m hmn
      obtain ⟨b2, o2, q2, d2, rfl, hb2, hrow, hrr⟩ := hst.at0 hsl
      have hnl : x.nodes[m].src.length ≤ 1048576 := by
        have h1 := hnd.1
        rw [nodeB_split] at h1
        simp only [Bool.and_eq_true, beq_iff_eq] at h1
        have := kAr_le3' h1.1
        have := h1.2.2.1
        omega
      generalize x.nodes[m] = nd at hnode hoo hnd HVS hnl
      generalize st.getD m [] = row at hrow hrr hoo HVS
      generalize hins : inF nd fr vs = ins at hoo HVS
      generalize hy : outP nd x.tables ins row = y at HVS
      obtain ⟨-, hrv⟩ := hown.rd_at2
      have IN : Hid (∀ W, Below wi.heap.size wi W → Calls Tryz.prog 110 #[.pointer (some ⟨b, o + m * 4, none⟩), .slice pf fr.length cf, .slice (some ⟨w.heap.size, 0, none⟩) x.nodes.length x.nodes.length] W fun e w' => ∃ v, e = .returned v ∧ OwnI W.heap.size w' v ins ∧ Below W.heap.size W w') := fun W hW => by
        have hwW := hbel.trans (hW.mono hbel.size)
        have := l08In_any (x := nd) (vs := vs) (cf := cf) (cv := x.nodes.length) W (hnode.below hwW) (hf.below hwW) (hrv.below hW) hnd.2.1 (by rw [hvl]; exact hnd.2.2) hnl
        rw [hins, hvl] at this
        exact this
      have OUT : Hid (∀ W ip ic, Below w.heap.size w W → RdI W ip ins → Calls Tryz.prog 109 #[.pointer (some ⟨b, o + m * 4, none⟩), .slice p1 x.tables.length c1, .slice ip ins.length ic, .slice q2 row.length d2] W fun e w' => e = .returned (.int .i64 y) ∧ Below W.heap.size W w') := fun W ip ic hW hi => by
        rw [← hy]
        exact l06Out_any (ct := c1) (cx := ic) (cs := d2) W (hnode.below hW) (r1.below hW) hi (hrr.below hW) hoo
      have CK : Hid (∀ W, Below w.heap.size w W → W.cell? ⟨gp, 1, none⟩ = some (.slice p1 x.tables.length c1) ∧ W.cell? ⟨gs, 0, none⟩ = some (.slice (some ⟨b2, o2, none⟩) st.length d) ∧ W.cell? ⟨b2, o2 + m, none⟩ = some (.slice q2 row.length d2)) := fun W hW => ⟨(bx.below hW).cell 1 rfl, (hs.below hW).cell 0 rfl, (hW.cell (p := ⟨b2, o2 + m, none⟩) hb2).trans hrow⟩
      have z2 := (bx.below hbel).cell 2 rfl
      have t1 := (CK.out wi hbel).1
      have t2 := (CK.out wi hbel).2.1
      have t3 := (CK.out wi hbel).2.2
      have hcur := belowDrew wi
      have hBW : Below w.heap.size w wi.drew := ⟨hbel.os, hbel.tape, hbel.output, hbel.size, hbel.block⟩
      have hBs := hbel.size
      have HVL := Lib.hid hvl
      clear hoc hc hins hy hrv hnode hnd hoo hrow hm hmem hsm hvl hnl
      go_wp2_with fail
      go_region_held3 (fun W => W.cell? ⟨gp, 1, none⟩ = some (.slice p1 x.tables.length c1) ∧ W.cell? ⟨gs, 0, none⟩ = some (.slice (some ⟨b2, o2, none⟩) st.length d) ∧ W.cell? ⟨b2, o2 + m, none⟩ = some (.slice q2 row.length d2)) (first | go_keep | exact CK.out _ (by (repeat (first | exact Below.refl _ _ | assumption | refine Below.setCell ?_ (by first | exact Nat.le_refl _ | omega | (simp; done) | (simp; omega)) _ | refine Below.alloc ?_ (by first | exact Nat.le_refl _ | omega | (simp; done) | (simp; omega)) _ | refine below_drewN ?_ _)))) (first | (go_at_call 110; refine (IN.out _ hcur).mono ?_; rintro e W2 ⟨v, rfl, hv, hb⟩; obtain ⟨ip, ic, rfl, hri⟩ := hv.rd; have hcur := hcur.trans (hb.mono hcur.size); have hBW := hBW.trans (hb.mono hBW.size)) | (go_at_call 109; refine (OUT.out _ ip ic hBW hri).mono ?_; rintro e W3 ⟨rfl, hb⟩; have hcur := hcur.trans (hb.mono hcur.size); have hBW := hBW.trans (hb.mono hBW.size); have hown3 := hown.below hcur; obtain ⟨-, -, hDl, hzm, hfz, hst3⟩ := hown3.storing (k := m) (by rw [HVL.out]; exact hmn); have hset := Lib.hid hst3; clear hst3))
      all_goals
        have hvs := hset.out y
        rw [← HVS.out] at hvs
        have hBf : Below w.heap.size w (W3.setCell ⟨w.heap.size, m, none⟩ (.int .i64 y)) := by (repeat (first | exact Below.refl _ _ | assumption | refine Below.setCell ?_ (by first | exact Nat.le_refl _ | omega | (simp; done) | (simp; omega)) _ | refine Below.alloc ?_ (by first | exact Nat.le_refl _ | omega | (simp; done) | (simp; omega)) _ | refine below_drewN ?_ _))
        go_wp2_with fail
        go_roundw
        case rel => exact ⟨k + 1, by omega, by go_num, hvs, hBf⟩
        case measure => simp [intOf] <;> omega
    · obtain rfl : k = os.length := by omega
      rw [List.take_length] at hown
      go_wp2_with fail
      go_ret
      exact ⟨_, rfl, hown, hbel⟩
/-! ### NodeValues -/
def frCode (x : PatchD) (s : StateD) (fr : List Int) : Int := if vsB x s then (if decide ((fr.length : Int) = x.inputs) && fr.all isSmp then 0 else 2) else 1
def nvRes (x : PatchD) (s : StateD) (fr : List Int) : List Int := if frCode x s fr = 0 then valsF x s.rows fr (orderL x.nodes) else []
theorem nvRes_small (x : PatchD) (s : StateD) (fr : List Int) : cntI (nvRes x s fr) ≤ 1048576 := by
  unfold cntI nvRes
  split
  · rename_i h
    rw [valsF_length]
    unfold frCode at h
    split at h
    · rename_i h1
      unfold vsB okB at h1
      simp only [Bool.and_eq_true] at h1
      have := (formed_iff.1 h1.1.1).2.2.1
      omega
    · omega
  · simp
theorem frCode_ok {x : PatchD} {s : StateD} {fr : List Int} (h : frCode x s fr = 0) : okB x = true ∧ FrOk x s.rows fr := by
  unfold frCode at h
  split at h
  · rename_i h1
    split at h
    · rename_i h2
      unfold vsB at h1
      simp only [Bool.and_eq_true, decide_eq_true_eq] at h1 h2
      have hk := h1.1
      unfold okB at hk
      rw [Bool.and_eq_true] at hk
      exact ⟨h1.1, FrOk.of hk.1 h1.2 h2.1 h2.2⟩
    · omega
  · omega
def RetN1 (w : World) (L : List Int) (code : Int) (e : Ending) (w' : World) : Prop := ∃ u M, e = .returned (.tuple #[u, .int .i64 code]) ∧ OwnLI w.heap.size w' u L M ∧ Dis M ∧ Below w.heap.size w w'
theorem RetN1.mk {w w' : World} {L : List Int} {code : Int} {u : Value} {B : Nat} (h : OwnI B w' u L) (hB : w.heap.size ≤ B) (hb : Below w.heap.size w w') : RetN1 w L code (.returned (.tuple #[u, .int .i64 code])) w' :=
  ⟨u, [u], rfl, ⟨h.mono hB, rfl⟩, List.pairwise_singleton _ _, hb⟩
theorem OwnI.none1 (B : Nat) (w : World) : OwnI B w (.slice none 0 0) [] := World.ownsRow_nil w B _ 1
end Go.Proofs.YtcfhcmgmkhfjjaaGreat

namespace Go.Proofs.YtcfhcmgmkhfjjaaGreat
open Go.ChangeShapes Go.WideShapes Go.ChangeAt Go.RowKit Go.Sort
set_option linter.unusedVariables false

theorem OwnII.nil0 (B : Nat) (w : World) : OwnII B w (.slice none 0 0) [] [] := ⟨World.ownsRow_nil w B _ 1, OwnIs.nil _ _, List.Pairwise.nil⟩
theorem OwnV.sl {B : Nat} {w : World} {E : TypeId} {v : Value} {L : List Value} (h : OwnV B w E v L) : ∃ q n c, v = .slice q n c := by
  rcases h.cases with ⟨rfl, rfl⟩ | ⟨_, _, rfl, _⟩
  · exact ⟨none, 0, 0, rfl⟩
  · exact ⟨_, _, _, rfl⟩
/-- the state at the beginning, as a result -/
def RetSt (B : Nat) (w : World) (xs : List (List Int)) (e : Ending) (w' : World) : Prop := ∃ u L, e = .returned u ∧ OwnState B w' u ⟨xs⟩ L ∧ Below w.heap.size w w'
end Go.Proofs.YtcfhcmgmkhfjjaaGreat

namespace Go.Proofs.YtcfhcmgmkhfjjaaGreat
open Go.ChangeShapes Go.WideShapes Go.ChangeAt Go.RowKit Go.Sort
set_option linter.unusedVariables false

theorem OwnV.neBox {B : Nat} {w : World} {E T : TypeId} {v : Value} {L cs : List Value} {s : Nat} (h : OwnV B w E v L) (hb : Box w s cs T) (hT : E ≠ T) : v.ownBlock ≠ some s := by
  intro e
  rcases h.cases with ⟨rfl, -⟩ | ⟨g, cap, rfl, -, -, ⟨cur, hg⟩, -⟩
  · simp [Value.ownBlock] at e
  · simp only [Value.ownBlock, Option.some.injEq] at e
    subst e
    unfold Box at hb
    rw [hg] at hb
    simp only [Option.some.injEq, Obj.cells.injEq] at hb
    exact hT hb.2.1
theorem OwnII.blkNeBox {B : Nat} {w : World} {v : Value} {xss : List (List Int)} {L cs : List Value} {s : Nat} {T : TypeId} (h : OwnII B w v xss L) (hb : Box w s cs T) (hT2 : ¬ mkT T) {k : Nat} (hk : Blk L k) : k ≠ s := by
  rintro rfl
  obtain ⟨cur, T', hg, hm⟩ := h.ints k hk
  rw [Box, hg] at hb
  simp only [Option.some.injEq, Obj.cells.injEq] at hb
  rw [hb.2.1] at hm
  exact hT2 hm
theorem OwnII.setBox {B : Nat} {w : World} {v : Value} {xss : List (List Int)} {L cs : List Value} {s : Nat} {T : TypeId} (h : OwnII B w v xss L) (hb : Box w s cs T) (hT : (26 : TypeId) ≠ T) (hT2 : ¬ mkT T) (u : Value) : OwnII B (w.setCell ⟨s, 0, none⟩ u) v xss L :=
  ⟨h.1.keep fun k hk => Below.heap_setCell _ _ _ _ (fun e => h.1.neBox hb hT (by rw [hk]; exact congrArg some e)), h.2.1.keep fun k hk => Below.heap_setCell _ _ _ _ (h.blkNeBox hb hT2 hk), h.2.2⟩
set_option maxHeartbeats 3200000 in
set_option maxRecDepth 100000 in
theorem l08Start_any {g : Nat} {x : PatchD} (w : World) (h : PPatch w g x) (ok : ∀ n ∈ x.nodes, StartOk n) (hn : x.nodes.length ≤ 24) :
    Calls Tryz.prog 45 #[.pointer (some ⟨g, 0, none⟩)] w fun e w' => RetSt w.heap.size w (x.nodes.map startL) e w' := by
  obtain ⟨p1, c1, p2, c2, p3, c3, bx, r1, r2, r3⟩ := h
  clear r1 r3
  have hgl := bx.lt
  obtain ⟨r0, hr0⟩ : ∃ r, r = w.heap.size := ⟨_, rfl⟩
  obtain ⟨s0, hs0⟩ : ∃ s, s = w.heap.size + 1 + 1 := ⟨_, rfl⟩
  obtain ⟨m0, hm0⟩ : ∃ m, m = w.heap.size + 1 := ⟨_, rfl⟩
  obtain ⟨E0, hE0⟩ : ∃ E, E = ((w.alloc (.cells #[.slice none 0 0] 83)).alloc (.cells #[] 26)).alloc (.cells #[.slice (some ⟨w.heap.size + 1, 0, none⟩) 0 0] 83) := ⟨_, rfl⟩
  have hB0 : Below w.heap.size w E0 := by rw [hE0]; exact (((Below.refl _ _).alloc (Nat.le_refl _) _).alloc (by simp) _).alloc (by simp; omega) _
  have br : Box E0 r0 [.slice none 0 0] 83 := by rw [hE0, hr0]; exact ((Box.newAt w [.slice none 0 0] _ rfl).alloc _).alloc _
  have bs : Box E0 s0 [.slice (some ⟨m0, 0, none⟩) 0 0] 83 := by rw [hE0, hs0, hm0]; exact Box.newAt ((w.alloc _).alloc _) [.slice (some ⟨w.heap.size + 1, 0, none⟩) 0 0] _ (by simp)
  have HE := Lib.hid hE0
  have HR0 := Lib.hid hr0
  have HS0 := Lib.hid hs0
  have i1 : w.heap.size ≤ r0 := by omega
  have i2 : r0 < s0 := by omega
  have HM0 := Lib.hid hm0
  have i3 : m0 = r0 + 1 := by omega
  have I3 := Lib.hid i3
  have h0 : OwnII (r0 + 1) E0 (.slice (some ⟨m0, 0, none⟩) 0 0) [] [] := by
    have h1 := (OwnII.empty (B := w.heap.size + 1) (w.alloc (.cells #[.slice none 0 0] 83)) (by simp)).below ((Below.refl _ _).alloc (Nat.le_refl _) (.cells #[.slice (some ⟨w.heap.size + 1, 0, none⟩) 0 0] 83))
    rw [World.size_alloc] at h1
    rw [hE0, hm0, hr0]; exact h1
  have bx1 := bx.below hB0
  clear hE0 hr0 hs0 hm0 i3
  have z2 := bx.cell 2 rfl
  go_enter Tryz.func45, Tryz.ntmps45
  go_wp2_with fail
  rw [← HE.out, ← HS0.out, ← HR0.out]
  clear z2
  have HOK := Lib.hid ok
  clear ok
  go_loopw [4] (fun i wr => ∃ k : Nat, k ≤ x.nodes.length ∧ i = .int .i64 k ∧ ∃ u L, Box wr s0 [u] 83 ∧ Box wr r0 [.slice none 0 0] 83 ∧ OwnII (r0 + 1) wr u ((x.nodes.take k).map startL) L ∧ Below w.heap.size w wr) (fun i _ => x.nodes.length - (intOf i).toNat)
  case atStart => exact ⟨0, Nat.zero_le _, rfl, .slice (some ⟨m0, 0, none⟩) 0 0, [], bs, br, by simpa using h0, hB0⟩
  case round =>
    clear bs br hB0 HE h0 bx1
    obtain ⟨k, hk, rfl, u, L, hbs, hbr, hown, hbel⟩ := hrel
    obtain ⟨wi, rfl⟩ : ∃ wi : World, wi = wr := ⟨_, rfl⟩
    by_cases hlt2 : k < x.nodes.length
    · obtain ⟨b, o, rfl, hb, hc⟩ := (r2.below hbel).pos hlt2
      have hnd := hc k hlt2
      clear hc
      have OKn := Lib.hid (HOK.out _ (List.getElem_mem hlt2))
      have hst : Hid ((x.nodes.take (k + 1)).map startL = (x.nodes.take k).map startL ++ [startL x.nodes[k]]) := by
        unfold Hid; rw [List.take_succ_eq_append_getElem hlt2, List.map_append]; rfl
      have hlL : L.length < 1099511627776 := by have := hown.2.1.1; simp at this; omega
      generalize x.nodes[k] = nd at hnd OKn hst
      obtain ⟨F, hF⟩ : ∃ F, F = wi := ⟨_, rfl⟩
      have hBF : Below wi.heap.size wi F := by rw [hF]; exact Below.refl _ _
      have HF := Lib.hid hF
      have hsF := hBF.size
      clear hF
      have hbsF := hbs.below hBF
      have hbrF := hbr.below hBF
      have hownF := hown.below hBF
      have hndF := hnd.below hBF
      have hbelF := hbel.trans (hBF.mono hbel.size)
      have bxF := (bx.below hbel).below hBF
      have zn := bxF.cell 2 rfl
      have zw := (bx.below hbel).cell 2 rfl
      have ltb := bxF.lt
      have hcur := belowDrew F
      have t0 := hbsF.cell 0 rfl
      have lt0 := hbsF.lt
      have lt1 := hbs.lt
      have K0 : Hid (∀ W, Below F.heap.size F W → Calls Tryz.prog 80 #[.pointer (some ⟨b, o + k * 4, none⟩)] W fun e w' => ∃ u, e = .returned u ∧ OwnI W.heap.size w' u (startL nd) ∧ Below W.heap.size W w') := fun W hW =>
        l06Start_any (x := nd) W (hndF.below hW) OKn.out
      have HBS := Lib.hid hbsF
      have HBR := Lib.hid hbrF
      have HOW := Lib.hid hown
      have HBE := Lib.hid hbelF
      clear hbs hbr hown hbel hnd hndF hbsF hbrF hbelF bxF
      go_wp2_with fail
      rw [← HF.out]
      clear HF
      go_region_law (first | (refine step_append_val rfl _ _ rfl 24 (.slice none 0 0) Tryz.underlying24 infoII rfl (by omega) rfl own2.1 rfl rfl hlL hBs ?_; intro v' W3 ho3 o1 o2 o3 hs3 hk3; obtain ⟨vp, vn, vc, rfl⟩ := ho3.sl; have c3 := (World.cell?_of_block (w := W2) (a := ⟨s0, 0, none⟩) (hk3 _ lt2 hne2)).trans t0; have f3 := ((HBS.out.below hcur).keep (hk3 _ lt2 hne2)).frozen 0) | (go_simp; go_at_call 80; refine (K0.out _ hcur).mono ?_; rintro e W2 ⟨uu, rfl, hu, hb2⟩; obtain ⟨sp, sc, rfl, -⟩ := hu.rd; have hz := hcur.size; have hcur := hcur.trans (hb2.mono hcur.size); have t0 := (hcur.cell (p := ⟨s0, 0, none⟩) lt0).trans t0; have own2 := hownF.below hcur; have lt2 := Nat.lt_of_lt_of_le lt0 hcur.size; have zn := (hcur.cell (p := ⟨g, 2, none⟩) ltb).trans zn; have hBs : r0 + 1 ≤ W2.heap.size := Nat.le_trans i2 (Nat.le_of_lt lt2); have hne2 : u.ownBlock ≠ some s0 := own2.1.neBox (HBS.out.below hcur) (by decide)))
      all_goals
        have bs2 := HBS.out.below hcur
        have br2 := HBR.out.below hcur
        have hw2 : Below w.heap.size w W2 := HBE.out.trans (hcur.mono HBE.out.size)
        have hw3 : Below w.heap.size w W3 := hw2.trans ⟨o1.symm, o2.symm, o3.symm, hs3, fun b' hb' => hk3 b' (Nat.lt_of_lt_of_le hb' hw2.size) (fun e => by have := (own2.1.lt e).1; omega)⟩
        have bs3 := bs2.keep (hk3 _ lt2 hne2)
        have br3 := br2.keep (hk3 _ (by omega) (fun e => by have := (own2.1.lt e).1; omega))
        have own3 := own2.snoc (hu.mono (show r0 + 1 ≤ F.drew.heap.size from Nat.le_trans i2 (Nat.le_of_lt lt0))) (fun b' hx hbk => by have h1 := (hu.lt hx).1; have h2 := (HOW.out.2.1.blk hbk).2.1; have h3 : F.heap.size ≤ b' := h1; omega) ho3 hk3
        rw [← hst.out] at own3
        have bs4 := Lib.hid (bs3.set 0 (.slice vp vn vc))
        have br4 := Lib.hid (br3.other (a := ⟨s0, 0, none⟩) (by simp; omega) (.slice vp vn vc))
        have own4 := Lib.hid (own3.setBox bs3 (by decide) (by decide) (.slice vp vn vc))
        have hb4 : Hid (Below w.heap.size w (W3.setCell ⟨s0, 0, none⟩ (.slice vp vn vc))) := hw3.setCell (by simp; omega) _
        clear bs2 br2 hw2 hw3 bs3 br3 own3 own2 hu hk3 hs3 o1 o2 o3 ho3 t0 c3 f3 hne2 hBs
        go_wp2_with fail
        go_roundw
        case rel => exact ⟨k + 1, by omega, by go_num, _, _, bs4.out, br4.out, own4.out, hb4.out⟩
        case measure => simp [intOf] <;> omega
    · obtain rfl : k = x.nodes.length := by omega
      obtain ⟨up, un, uc, rfl⟩ := hown.1.sl
      have zw := (bx.below hbel).cell 2 rfl
      have t0 := hbs.cell 0 rfl
      have tf := hbr.frozen 0
      have tr := hbr.cell 0 rfl
      rw [List.take_length] at hown
      have hfin : RetSt w.heap.size w (x.nodes.map startL) (.returned (.agg #[.slice up un uc])) (wi.setCell ⟨r0, 0, none⟩ (.slice up un uc)) := ⟨_, L, rfl, ⟨_, L, rfl, rfl, (hown.keeps (w' := wi.setCell ⟨r0, 0, none⟩ (.slice up un uc)) fun b hb _ => Below.heap_setCell _ _ _ _ (by simp; omega)).mono (by omega)⟩, hbel.setCell (by simp; omega) _⟩
      have HFIN := Lib.hid hfin
      have hread : (wi.setCell ⟨r0, 0, none⟩ (.slice up un uc)).cell? ⟨r0, 0, none⟩ = some (.slice up un uc) := (hbr.set 0 (.slice up un uc)).cell 0 rfl
      clear hfin
      go_wp2_with fail
      refine bodyPost_ret (v := .agg #[.slice up un uc]) (by simp [results, Tryz.results45, go_sem, *]) rfl ?_
      exact HFIN.out
end Go.Proofs.YtcfhcmgmkhfjjaaGreat

namespace Go.Proofs.YtcfhcmgmkhfjjaaGreat
open Go.ChangeShapes Go.WideShapes Go.ChangeAt Go.RowKit Go.Sort
set_option linter.unusedVariables false
set_option linter.unusedSimpArgs false

/-- append of one value that has just been laid, as one operation -/
theorem oper_append_val {o : Oper} {a : Act} {K : Act → World → Prop} {Q : Exit → Act → World → Prop} {w : World} {u : Value} {E T : Nat} (s x : Operand)
    (ho : o.op = .call { callee := .builtin .append, args := #[s, x], argTypes := #[T, T] }) (bytes : Nat) (z : Value) (hT : Tryz.prog.underlying T = some (.slice E)) (hinfo : (Tryz.prog.info? E).map (fun i => (i.zero, i.size, i.bytes)) = some (some z, 1, bytes)) (hz : z.cells.size = 1) (hby : bytes ≤ 64)
    {B : Nat} {v : Value} {L : List Value} (hs : a.eval s = v) (hown : OwnV B w E v L) (hx : a.eval x = .slice (some ⟨w.heap.size, 0, none⟩) 1 1) (h1 : u.oneCell' = true) (hlen : L.length < 1099511627776) (hB : B ≤ w.heap.size)
    (h : ∀ v' w', OwnV B w' E v' (L ++ [u]) → Below B w w' ∧ w.heap.size ≤ w'.heap.size → (∀ k, k < w.heap.size → v.ownBlock ≠ some k → w'.heap[k]? = w.heap[k]?) → K (a.put o.dst v') w') :
    Oper.wp Tryz.prog o a (w.alloc (.cells #[u] E)) K Q := by
  obtain ⟨v', w', e1, e2, e3⟩ := run_append_val w o.type E T bytes z hT hinfo hz hby hown h1 hlen hB
  have hk : ∀ k, k < w.heap.size → v.ownBlock ≠ some k → w'.heap[k]? = w.heap[k]? := fun k hk hne => (e3.block k (by simp; omega) (fun e => hne e.symm)).trans (Below.heap_alloc _ _ _ hk)
  have hsz : w.heap.size ≤ w'.heap.size := by have := e3.size; simp at this; omega
  unfold Oper.wp execOp
  simp only [ho, resolve, invoke, builtin, Sem.run_bind, Sem.run_pure, Result.andThen_ok, List.map_toArray, List.map_cons, List.map_nil, hs, hx, e1]
  exact h v' w' e2 ⟨⟨e3.os, e3.tape, e3.output, hsz, fun k hk' => hk k (by omega) fun e => by have := (hown.lt e).1; omega⟩, hsz⟩ hk
theorem OwnII.row {B : Nat} {w : World} {v : Value} {L : List Value} {xss : List (List Int)} (h : OwnII B w v xss L) {k : Nat} (hk : k < xss.length) :
    ∃ b o q c, (∃ n m, v = .slice (some ⟨b, o, none⟩) n m) ∧ b < w.heap.size ∧ w.cell? ⟨b, o + k, none⟩ = some (.slice q (xss.getD k []).length c) ∧ RdI w q (xss.getD k []) ∧ (xss.getD k []).length ≤ c := by
  have hL : k < L.length := by rw [h.2.1.1]; exact hk
  obtain ⟨hL', ho⟩ := h.2.1.at_ hk
  obtain ⟨q, c, e, hr⟩ := ho.rd
  rcases h.1.cases with ⟨-, h0⟩ | ⟨g, cap, rfl, -, hg, -, hrd⟩
  · rw [h0] at hL; simp at hL
  · obtain ⟨b, o, e2, hb, hc⟩ := hrd.pos hL
    cases e2
    have e3 : xss.getD k [] = xss[k] := by rw [List.getD_eq_getElem?_getD, List.getElem?_eq_getElem hk]; rfl
    rw [e3]
    refine ⟨g, 0, q, c, ⟨_, _, rfl⟩, hg, ?_, hr, ?_⟩
    · rw [hc k hL, e]
    · rw [e] at ho; exact ho.cap
set_option maxHeartbeats 4000000 in
set_option maxRecDepth 100000 in
theorem l08Step_any {gp gs Bs : Nat} {x : PatchD} {st : List (List Int)} {fr vs : List Int} {Ls : List Value} {pf pv q : Option Addr} {cf cv d : Nat} (w : World) (h : PPatch w gp x) (hs : Box w gs [.slice q st.length d] 83) (hst : OwnII Bs w (.slice q st.length d) st Ls) (hf : RdI w pf fr) (hv : RdI w pv vs) (ok : FrOk x st fr) (hvl : vs.length = x.nodes.length) (hvs : vs.all isSmp = true) :
    Calls Tryz.prog 83 #[.pointer (some ⟨gp, 0, none⟩), .pointer (some ⟨gs, 0, none⟩), .slice pf fr.length cf, .slice pv vs.length cv] w fun e w' => ∃ v0 u L, e = .returned v0 ∧ Box w' gs [u] 83 ∧ OwnII w.heap.size w' u (stN x st fr vs) L ∧ Off (· = gs) w w' := by
  obtain ⟨p1, c1, p2, c2, p3, c3, bx, r1, r2, -⟩ := h
  have hn24 : x.nodes.length ≤ 24 := (formed_iff.1 ok.f).2.2.1
  have HOK := Lib.hid ok
  have HVS := Lib.hid hvs
  have HVL := Lib.hid hvl
  have hsl : st.length = x.nodes.length := ok.sl
  have HSL := Lib.hid hsl
  have h0 := OwnII.empty (B := w.heap.size) w (Nat.le_refl _)
  have hB0 := (Below.refl w.heap.size w).alloc (Nat.le_refl _) (.cells #[] 26)
  have hfl := hf.len
  have hvl2 := hv.len
  unfold maxLen at hfl hvl2
  have HSN : Hid (∀ k, k < x.nodes.length → (stN x st fr vs).take (k + 1) = (stN x st fr vs).take k ++ [nextP (ndI x.nodes (k : Int)) (inF (ndI x.nodes (k : Int)) fr vs) (st.getD k []) (vs.getD k 0)]) := fun k hk => by
    have h1 : k < (stN x st fr vs).length := by rw [stN_length]; exact hk
    rw [List.take_succ_eq_append_getElem h1]
    have := stN_get (x := x) (st := st) (fr := fr) (vs := vs) hk
    rw [List.getD_eq_getElem?_getD, List.getElem?_eq_getElem h1] at this
    rw [show (stN x st fr vs)[k] = _ from this]
  have HSL2 : Hid ((stN x st fr vs).length = x.nodes.length) := stN_length _ _ _ _
  generalize stN x st fr vs = R at HSN HSL2 ⊢
  have z2 := bx.cell 2 rfl
  have lgp := bx.lt
  have lgs := hs.lt
  clear ok hvs hvl hsl
  go_enter Tryz.func83, Tryz.ntmps83
  go_wp2_with fail
  go_loopw [8, 9] (fun v i wr => ∃ (k : Nat) (L : List Value), k ≤ x.nodes.length ∧ i = .int .i64 k ∧ OwnII w.heap.size wr v (R.take k) L ∧ Below w.heap.size w wr) (fun _ i _ => x.nodes.length - (intOf i).toNat)
  case atStart => exact ⟨0, [], Nat.zero_le _, rfl, by simpa using h0, hB0⟩
  case round =>
    obtain ⟨k, L, hk, rfl, hown, hbel⟩ := hrel
    clear h0 hB0 z2
    obtain ⟨wi, rfl⟩ : ∃ wi : World, wi = wr := ⟨_, rfl⟩
    have hbs := hbel.size
    have z2 := (bx.below hbel).cell 2 rfl
    by_cases hlt : k < x.nodes.length
    · obtain ⟨b, o, rfl, hb, hc⟩ := (r2.below hbel).pos hlt
      have hnd := hc k hlt
      clear hc
      have HSK := Lib.hid (HSN.out k hlt)
      rw [ndI_at hlt] at HSK
      have hsk : k < st.length := by rw [HSL.out]; exact hlt
      have hvk : k < vs.length := by rw [HVL.out]; exact hlt
      have hoo := (HOK.out.out HVS.out hlt).1
      have hndk := HOK.out.nd hlt
      have hs16 := HOK.out.s k hlt
      have hn1 := startL_length (startOk_of hndk.1)
      obtain ⟨b2, o2, q2, d2, ⟨n2, m2, e2⟩, hb2, hrow, hrr, hcap⟩ := hst.row hsk
      obtain ⟨rfl, -, -⟩ := (Value.slice.injEq _ _ _ _ _ _).mp e2
      obtain ⟨b3, o3, rfl, hb3, hc3⟩ := hv.pos hvk
      have hvc := hc3 k hvk
      have hnl : x.nodes[k].src.length ≤ 1048576 := by
        have h1 := hndk.1
        rw [nodeB_split] at h1
        simp only [Bool.and_eq_true, beq_iff_eq] at h1
        have := kAr_le3' h1.1
        have := h1.2.2.1
        omega
      have hvg : vs.getD k 0 = vs[k] := getD_at2 hvk
      rw [hvg] at HSK
      have hr1 := hndk.2.2
      rw [← HVL.out] at hr1
      have hr2 := hndk.2.1
      generalize x.nodes[k] = nd at hnd hoo HSK hnl hr1 hr2 hs16 hn1 hndk
      generalize st.getD k [] = row at hrow hrr hoo HSK hcap hs16
      generalize vs[k] = y at hvc HSK
      have hrl : row.length ≤ 16 := by omega
      have hLl : L.length < 1099511627776 := by have := hown.2.1.1; rw [List.length_take] at this; omega
      have IN : Hid (∀ W, Below wi.heap.size wi W → Calls Tryz.prog 110 #[.pointer (some ⟨b, o + k * 4, none⟩), .slice pf fr.length cf, .slice (some ⟨b3, o3, none⟩) vs.length cv] W fun e w' => ∃ v, e = .returned v ∧ OwnI W.heap.size w' v (inF nd fr vs) ∧ Below W.heap.size W w') := fun W hW =>
        l08In_any (x := nd) (vs := vs) (cf := cf) (cv := cv) W (hnd.below hW) (hf.below (hbel.trans (hW.mono hbel.size))) (hv.below (hbel.trans (hW.mono hbel.size))) hr2 hr1 hnl
      have NX : Hid (∀ W ip ic, Below wi.heap.size wi W → RdI W ip (inF nd fr vs) → Calls Tryz.prog 111 #[.pointer (some ⟨b, o + k * 4, none⟩), .slice ip (inF nd fr vs).length ic, .slice q2 row.length d2, .int .i64 y] W fun e w' => ∃ u, e = .returned u ∧ OwnI W.heap.size w' u (nextP nd (inF nd fr vs) row y) ∧ Below W.heap.size W w') := fun W ip ic hW hi =>
        l06Next_any (cx := ic) (cs := d2) y W (hnd.below hW) hi (hrr.below (hbel.trans (hW.mono hbel.size))) hcap hrl hoo
      have CK : Hid (∀ W, Below w.heap.size w W → W.cell? ⟨gs, 0, none⟩ = some (.slice (some ⟨b2, o2, none⟩) st.length d) ∧ W.cell? ⟨b2, o2 + k, none⟩ = some (.slice q2 row.length d2) ∧ W.cell? ⟨b3, o3 + k, none⟩ = some (.int .i64 y)) := fun W hW => ⟨(hs.below hW).cell 0 rfl, (hW.cell (p := ⟨b2, o2 + k, none⟩) hb2).trans hrow, (hW.cell (p := ⟨b3, o3 + k, none⟩) hb3).trans hvc⟩
      generalize inF nd fr vs = ins at IN NX HSK
      have hcur := belowDrew wi
      clear hnd hrow hrr hoo hndk hs16 hn1 hr1 hr2 hvc hc3 hvg hnl hcap hb2 hb3 e2
      go_upto_region 5 with fail
      refine wp_region_plan (fun W => W.cell? ⟨gs, 0, none⟩ = some (.slice (some ⟨b2, o2, none⟩) st.length d) ∧ W.cell? ⟨b2, o2 + k, none⟩ = some (.slice q2 row.length d2) ∧ W.cell? ⟨b3, o3 + k, none⟩ = some (.int .i64 y)) 20 [(0, 0), (1, 0), (2, 0), (3, 0), (4, 0), (6, 0), (7, 0), (8, 0), (9, 1), (10, 0), (11, 0), (12, 1), (13, 0), (14, 0), (15, 0), (16, 1), (5, 2), (17, 2), (18, 2), (19, 2), (20, 3)] (by kernel_rfl) (by kernel_rfl) (CK.out _ (hbel.trans (hcur.mono hbs))) ?_
      repeat ((first | refine wpPlan_take (v := ?_) rfl (by rfl) (by (intro w hSw; clear hSw; go_simp; try with_reducible rfl)) (fun _ _ _ h => h) ?_ | refine wpPlan_load (v := ?_) rfl (by rfl) (by (intro w hSw; (try dsimp only at hSw); go_simp; try with_reducible rfl)) (fun _ _ _ h => h) ?_); try simp only [List.getElem_toArray, List.getElem_cons_succ, List.getElem_cons_zero, Act.put, List.setIfInBounds_toArray, List.set_cons_zero, List.set_cons_succ])
      refine wpPlan_call rfl (by rfl) (fun K hK => ?_)
      go_simp
      refine (IN.out _ hcur).mono ?_; rintro e W2 ⟨v2, rfl, hv2, hb4⟩; obtain ⟨ip, ic, rfl, hri⟩ := hv2.rd; have hcur := hcur.trans (hb4.mono hcur.size)
      refine hK _ _ (CK.out _ (hbel.trans (hcur.mono hbs))) ?_
      clear hK K
      try simp only [Act.put, List.setIfInBounds_toArray, List.set_cons_zero, List.set_cons_succ]
      refine wpPlan_call rfl (by rfl) (fun K hK => ?_)
      go_simp
      refine (NX.out _ ip ic hcur hri).mono ?_; rintro e W3 ⟨u3, rfl, hu3, hb5⟩; obtain ⟨up, uc, rfl, -⟩ := hu3.rd; have hsz2 := hcur.size; have hcur := hcur.trans (hb5.mono hcur.size); have hB3 : Below w.heap.size w W3 := hbel.trans (hcur.mono hbs)
      refine hK _ _ (CK.out _ hB3) ?_
      clear hK K
      try simp only [Act.put, List.setIfInBounds_toArray, List.set_cons_zero, List.set_cons_succ]
      have own3 := hown.below hcur
      have hs3 := hB3.size
      refine wpPlan_call rfl (by rfl) (fun K hK => ?_)
      go_simp
      skip
      refine hK _ _ (CK.out _ (hB3.alloc hs3 _)) ?_
      clear hK K
      try simp only [Act.put, List.setIfInBounds_toArray, List.set_cons_zero, List.set_cons_succ]
      refine wpPlan_call rfl (by rfl) (fun K hK => ?_)
      refine oper_append_val _ _ rfl 24 (.slice none 0 0) Tryz.underlying24 infoII rfl (by omega) rfl own3.1 rfl rfl hLl hs3 ?_; intro v4 W4 ho4 hb6 hk6; obtain ⟨vp, vn, vc, rfl⟩ := ho4.sl; have hB4 : Below w.heap.size w W4 := hB3.trans hb6.1
      refine hK _ _ (CK.out _ hB4) ?_
      clear hK K
      try simp only [List.getElem_toArray, List.getElem_cons_succ, List.getElem_cons_zero, Act.put, List.setIfInBounds_toArray, List.set_cons_zero, List.set_cons_succ]
      refine wpPlan_store rfl (by rfl) (fun K hK => ?_)
      go_simp
      refine hK _ _ ?_
      clear hK K
      try simp only [Act.put, List.setIfInBounds_toArray, List.set_cons_zero, List.set_cons_succ]
      refine wpPlan_nil ?_
      have own4 := own3.snoc (hu3.mono (show w.heap.size ≤ W2.heap.size by omega)) (fun b' hx hbk => by have h1 := (hu3.lt hx).1; have h2 := (hown.2.1.blk hbk).2.1; omega) ho4 hk6
      rw [← HSK.out] at own4
      go_wp2_with fail
      go_roundw
      case rel => exact ⟨k + 1, _, by omega, by go_num, own4, hB4⟩
      case measure => simp [intOf] <;> omega
    · obtain rfl : k = x.nodes.length := by omega
      obtain ⟨up, un, uc, rfl⟩ := hown.1.sl
      rw [← HSL2.out, List.take_length] at hown
      have bs := hs.below hbel
      have t0 := bs.cell 0 rfl
      have tf := bs.frozen 0
      have own4 := hown.setBox bs (by decide) (by decide) (.slice up un uc)
      have bs4 := bs.set 0 (.slice up un uc)
      have hoff : Off (· = gs) w (wi.setCell ⟨gs, 0, none⟩ (.slice up un uc)) := ⟨hbel.os, hbel.tape, hbel.output, by simpa using hbel.size, fun k' hk' hne => (Below.heap_setCell _ _ _ _ (show k' ≠ gs from hne)).trans (hbel.block k' hk')⟩
      have FIN := Lib.hid (show ∃ u L, Box (wi.setCell ⟨gs, 0, none⟩ (.slice up un uc)) gs [u] 83 ∧ OwnII w.heap.size (wi.setCell ⟨gs, 0, none⟩ (.slice up un uc)) u R L ∧ Off (· = gs) w (wi.setCell ⟨gs, 0, none⟩ (.slice up un uc)) from ⟨_, _, bs4, own4, hoff⟩)
      clear own4 bs4 hoff hown
      go_wp2_with fail
      obtain ⟨u, L, f1, f2, f3⟩ := FIN.out
      refine bodyPost_end (v := .tuple #[]) (by simp [results, Tryz.results83, go_sem]) rfl ?_
      exact ⟨_, u, L, rfl, f1, f2, f3⟩
end Go.Proofs.YtcfhcmgmkhfjjaaGreat

namespace Go.Proofs.YtcfhcmgmkhfjjaaGreat
open Go.ChangeShapes Go.WideShapes Go.ChangeAt Go.RowKit Go.Sort
set_option linter.unusedVariables false
set_option linter.unusedSimpArgs false

/-- append of one number that has just been laid, as one operation; where the row lies then is told -/
theorem oper_append_new {o : Oper} {a : Act} {K : Act → World → Prop} {Q : Exit → Act → World → Prop} {w : World} {y : Int} (s x : Operand)
    (ho : o.op = .call { callee := .builtin .append, args := #[s, x], argTypes := #[26, 26] })
    {B : Nat} {v : Value} {xs : List Int} (hs : a.eval s = v) (hown : OwnI B w v xs) (hx : a.eval x = .slice (some ⟨w.heap.size, 0, none⟩) 1 1) (hlen : xs.length < 17592186044415) (hB : B ≤ w.heap.size)
    (h : ∀ v' w', OwnI B w' v' (xs ++ [y]) → w'.os = w.os ∧ w'.tape = w.tape ∧ w'.output = w.output ∧ w.heap.size ≤ w'.heap.size → (∀ k, k < w.heap.size → v.ownBlock ≠ some k → w'.heap[k]? = w.heap[k]?) → (∀ k, v'.ownBlock = some k → v.ownBlock = some k ∨ w.heap.size ≤ k) → K (a.put o.dst v') w') :
    Oper.wp Tryz.prog o a (w.alloc (.cells #[.int .i64 y] 2)) K Q := by
  obtain ⟨v', w', h1, h2, h3, h4⟩ := run_append_new (w.alloc (.cells #[.int .i64 y] 2)) o.type (hown.alloc _) (b := w.heap.size) (o := 0) (y := y) ((Box.new w [.int .i64 y] 2).cell 0 rfl) hlen (by simp; omega)
  unfold Oper.wp execOp
  simp only [ho, resolve, invoke, builtin, Sem.run_bind, Sem.run_pure, Result.andThen_ok, List.map_toArray, List.map_cons, List.map_nil, hs, hx, h1]
  refine h v' w' h2 ⟨h3.os, h3.tape, h3.output, ?_⟩ (fun k hk hne => (h3.block k (by simp; omega) (fun e => hne e.symm)).trans (Below.heap_alloc _ _ _ hk)) fun k hk => ?_
  · have := h3.size; simp at this; omega
  · rcases h4 k hk with h | h
    · exact .inl h
    · exact .inr (by simp at h; omega)
theorem dis_iff {L : List Value} : Dis L ↔ ∀ i j (hi : i < L.length) (hj : j < L.length), i < j → ∀ b, L[i].ownBlock = some b → L[j].ownBlock ≠ some b := by
  unfold Dis
  rw [List.pairwise_iff_getElem]
theorem Dis.ne {L : List Value} (h : Dis L) {i j : Nat} (hi : i < L.length) (hj : j < L.length) (hne : i ≠ j) {b : Nat} (hb : L[i].ownBlock = some b) : L[j].ownBlock ≠ some b := by
  rw [dis_iff] at h
  rcases Nat.lt_or_gt_of_ne hne with h1 | h1
  · exact h i j hi hj h1 b hb
  · exact fun e => h j i hj hi h1 b e hb
theorem blk_set {L : List Value} {k : Nat} {u : Value} {b : Nat} (h : Blk (L.set k u) b) : Blk L b ∨ u.ownBlock = some b := by
  obtain ⟨s, hs, hb⟩ := h
  rcases List.mem_or_eq_of_mem_set hs with h1 | rfl
  · exact .inl ⟨s, h1, hb⟩
  · exact .inr hb
/-- one row is replaced by a longer one -/
theorem OwnII.putRow {B : Nat} {w W : World} {g n c : Nat} {xss : List (List Int)} {L : List Value} (h : OwnII B w (.slice (some ⟨g, 0, none⟩) n c) xss L) {k : Nat} (hk : k < L.length) {u : Value} {ys : List Int}
    (hu : OwnI B W u ys) (hsz : w.heap.size ≤ W.heap.size) (hkeep : ∀ j, j < w.heap.size → L[k].ownBlock ≠ some j → W.heap[j]? = w.heap[j]?) (hnew : ∀ j, u.ownBlock = some j → L[k].ownBlock = some j ∨ w.heap.size ≤ j) :
    OwnII B (W.setCell ⟨g, k, none⟩ u) (.slice (some ⟨g, 0, none⟩) n c) (xss.set k ys) (L.set k u) ∧ (∀ b, Blk (L.set k u) b → Blk L b ∨ w.heap.size ≤ b) ∧ (∀ j, j < w.heap.size → j ≠ g → ¬ Blk L j → (W.setCell ⟨g, k, none⟩ u).heap[j]? = w.heap[j]?) := by
  obtain ⟨hv, hs, hd⟩ := h
  have hgl := (hv.lt (k := g) rfl).2
  have hgn : L[k].ownBlock ≠ some g := fun e => hv.off (by decide) hs rfl ⟨L[k], List.getElem_mem hk, e⟩
  have hvW : OwnV B W 26 (.slice (some ⟨g, 0, none⟩) n c) L := hv.keep fun j hj => by
    simp only [Value.ownBlock, Option.some.injEq] at hj
    subst hj
    exact hkeep _ hgl hgn
  have hsW : OwnIs B W (L.set k u) (xss.set k ys) := by
    have hl := hs.1
    refine ⟨by rw [List.length_set, List.length_set]; exact hl, fun i hi => ?_⟩
    have hi' : i < xss.length := by rw [List.length_set] at hi; exact hi
    by_cases e : k = i
    · subst e
      exact ⟨u, List.getElem?_set_self hk, by rw [List.getElem_set_self]; exact hu⟩
    · obtain ⟨hL, ho⟩ := hs.at_ hi'
      exact ⟨L[i], by rw [List.getElem?_set_ne e]; exact List.getElem?_eq_getElem hL, by
        rw [List.getElem_set_ne e]
        exact ho.keep fun j hj => hkeep j (ho.lt hj).2 (hd.ne hL hk (fun e' => e e'.symm) hj)⟩
  have hnb : ∀ b, Blk (L.set k u) b → Blk L b ∨ w.heap.size ≤ b := fun b hb => by
    rcases blk_set hb with h1 | h1
    · exact .inl h1
    · rcases hnew b h1 with h2 | h2
      · exact .inl ⟨L[k], List.getElem_mem hk, h2⟩
      · exact .inr h2
  refine ⟨⟨(hvW.storing (k := k) hk).2.2.2.2.2 u, hsW.keep fun b hb => Below.heap_setCell _ _ _ _ fun e => ?_, ?_⟩, hnb, fun j hj hne hnb' => ?_⟩
  · have e' : b = g := e
    subst e'
    exact hvW.off (by decide) hsW rfl hb
  · rw [dis_iff]
    intro i j hi hj hij b hb
    rw [List.length_set] at hi hj
    rw [List.getElem_set] at hb ⊢
    by_cases e1 : k = i
    · rw [if_pos e1] at hb
      rw [if_neg (by omega)]
      rcases hnew b hb with h1 | h1
      · exact hd.ne hk hj (by omega) h1
      · intro e
        have hx : j < xss.length := by rw [← hs.1]; exact hj
        obtain ⟨hL, ho⟩ := hs.at_ hx
        have := (ho.lt e).2
        omega
    · rw [if_neg e1] at hb
      by_cases e2 : k = j
      · rw [if_pos e2]
        intro e
        have hx : i < xss.length := by rw [← hs.1]; exact hi
        obtain ⟨hL, ho⟩ := hs.at_ hx
        have h3 := (ho.lt hb).2
        rcases hnew b e with h1 | h1
        · exact hd.ne hi hk (fun e' => e1 e'.symm) hb h1
        · omega
      · rw [if_neg e2]
        exact hd.ne hi hj (by omega) hb
  · rw [Below.heap_setCell _ _ _ _ (show j ≠ g from hne)]
    exact hkeep j hj fun e => hnb' ⟨L[k], List.getElem_mem hk, e⟩
/-! ### what is out so far -/
/-- the outputs' first i frames, one more for the first k outputs -/
def mixL (x : PatchD) (ins : List (List Int)) (i k : Nat) : List (List Int) := (x.outputs.take k).map (fun o => outK0 x ins o (i + 1)) ++ (x.outputs.drop k).map (fun o => outK0 x ins o i)
theorem mixL_zero (x : PatchD) (ins : List (List Int)) (i : Nat) : mixL x ins i 0 = renL x ins i := by unfold mixL; rw [renL_eq]; simp
theorem mixL_end (x : PatchD) (ins : List (List Int)) (i : Nat) : mixL x ins i x.outputs.length = renL x ins (i + 1) := by unfold mixL; rw [renL_eq]; simp
theorem mixL_length (x : PatchD) (ins : List (List Int)) (i k : Nat) : (mixL x ins i k).length = x.outputs.length := by unfold mixL; simp; omega
theorem mixL_get {x : PatchD} {ins : List (List Int)} {i k : Nat} (h : k < x.outputs.length) : (mixL x ins i k)[k]'(by rw [mixL_length]; exact h) = outK0 x ins x.outputs[k] i := by
  unfold mixL
  have h1 : ((x.outputs.take k).map (fun o => outK0 x ins o (i + 1))).length = k := by simp; omega
  have e : ∀ m (hm : m < x.outputs.length), m = k → x.outputs[m] = x.outputs[k] := by rintro m hm rfl; rfl
  rw [List.getElem_append_right (by omega)]
  simp only [List.getElem_map, List.getElem_drop]
  rw [e _ _ (by rw [h1]; omega)]
theorem mixL_set {x : PatchD} {ins : List (List Int)} {i k : Nat} (h : k < x.outputs.length) : (mixL x ins i k).set k (outK0 x ins x.outputs[k] (i + 1)) = mixL x ins i (k + 1) := by
  unfold mixL
  have h1 : ((x.outputs.take k).map (fun o => outK0 x ins o (i + 1))).length = k := by simp; omega
  rw [List.set_append_right _ _ (by omega), h1, Nat.sub_self, List.drop_eq_getElem_cons h, List.map_cons, List.set_cons_zero, List.take_succ_eq_append_getElem h, List.map_append]
  simp
theorem renL_zero (x : PatchD) (ins : List (List Int)) : renL x ins 0 = List.replicate x.outputs.length [] := by
  unfold renL
  rw [List.eq_replicate_iff]
  exact ⟨by simp, fun b hb => by obtain ⟨o, _, rfl⟩ := List.mem_map.1 hb; rfl⟩
theorem frN_take {ins : List (List Int)} {i k : Nat} (h : k < ins.length) : (frN ins i).take (k + 1) = (frN ins i).take k ++ [ins[k].getD i 0] := by
  unfold frN
  rw [List.take_succ_eq_append_getElem (by simpa using h)]
  simp
theorem l03AtR_any {p : Option Addr} {c : Nat} {xs : List Int} (i : Nat) (w : World) (h : RdI w p xs) (hi : i ≤ 1048576) :
    Calls Tryz.prog 81 #[.slice p xs.length c, .int .i64 (i : Int)] w fun e w' => e = .returned (.int .i64 (xs.getD i 0)) ∧ w = w' := by
  have hl := h.len
  unfold maxLen at hl
  have IN := Lib.hid (l00In_any (i : Int) 0 ((xs.length : Int) - 1) w)
  by_cases h1 : i < xs.length
  · obtain ⟨b, o, rfl, hb, hc⟩ := h.pos h1
    have hck := hc i h1
    rw [getD_at2 h1]
    rw [inB_true (by omega)] at IN
    generalize xs[i] = x at hck ⊢
    clear hc
    go_enter Tryz.func81, Tryz.ntmps81
    go_wp2_with (go_at_call 25; refine IN.out.mono ?_; rintro e w' ⟨rfl, rfl⟩)
    go_ret
    exact ⟨rfl, rfl⟩
  · have h0 : xs.getD i 0 = 0 := by rw [List.getD_eq_getElem?_getD, List.getElem?_eq_none (by omega)]; rfl
    rw [h0]
    rw [inB_false (by omega)] at IN
    go_enter Tryz.func81, Tryz.ntmps81
    go_wp2_with (go_at_call 25; refine IN.out.mono ?_; rintro e w' ⟨rfl, rfl⟩)
    go_ret
    exact ⟨rfl, rfl⟩
end Go.Proofs.YtcfhcmgmkhfjjaaGreat

namespace Go.Proofs.YtcfhcmgmkhfjjaaGreat
open Go.ChangeShapes Go.WideShapes Go.ChangeAt Go.RowKit Go.Sort
set_option linter.unusedVariables false
set_option linter.unusedSimpArgs false

theorem oper_append_newD {o : Oper} {a : Act} {K : Act → World → Prop} {Q : Exit → Act → World → Prop} {w : World} {y : Int} (s x : Operand)
    (ho : o.op = .call { callee := .builtin .append, args := #[s, x], argTypes := #[26, 26] })
    {B : Nat} {v : Value} {xs : List Int} (hs : a.eval s = v) (hown : OwnI B w v xs) (hx : a.eval x = .slice (some ⟨w.heap.size, 0, none⟩) 1 1) (hlen : xs.length < 17592186044415) (hB : B ≤ w.heap.size)
    (h : ∀ v' w', OwnI B w' v' (xs ++ [y]) → w'.os = w.os ∧ w'.tape = w.drew.tape ∧ w'.output = w.output ∧ w.heap.size ≤ w'.heap.size → (∀ k, k < w.heap.size → v.ownBlock ≠ some k → w'.heap[k]? = w.heap[k]?) → (∀ k, v'.ownBlock = some k → v.ownBlock = some k ∨ w.heap.size ≤ k) → K (a.put o.dst v') w') :
    Oper.wp Tryz.prog o a (w.alloc (.cells #[.int .i64 y] 2)).drew K Q :=
  oper_append_new (w := w.drew) s x ho hs hown.drew hx hlen hB fun v' w' h1 h2 h3 h4 => h v' w' h1 h2 h3 h4
theorem OwnII.opened {B : Nat} {w : World} {v : Value} {xss : List (List Int)} {L : List Value} (h : OwnII B w v xss L) {k : Nat} (hk : k < L.length) :
    ∃ g c, v = .slice (some ⟨g, 0, none⟩) L.length c ∧ w.cell? ⟨g, k, none⟩ = some L[k] ∧ g < w.heap.size ∧ B ≤ g ∧ w.frozen? ⟨g, k, none⟩ = false ∧ L[k].ownBlock ≠ some g := by
  rcases h.1.cases with ⟨rfl, rfl⟩ | ⟨g, c, rfl, hB, hg, -, -⟩
  · simp at hk
  · obtain ⟨-, -, -, h1, h2, -⟩ := h.1.storing hk
    exact ⟨g, c, rfl, h1, hg, hB, h2, fun e => h.1.off (by decide) h.2.1 rfl ⟨L[k], List.getElem_mem hk, e⟩⟩
/-- the state of a rendering ahead of frame f -/
def RnSt (w1 : World) (gs : Nat) (x : PatchD) (ins : List (List Int)) (v : Value) (f : Nat) (wr : World) : Prop :=
  ∃ (L : List Value) (Bst : Nat) (Lst : List Value) (q : Option Addr) (d : Nat), OwnII w1.heap.size wr v (renL x ins f) L ∧ Box wr gs [.slice q x.nodes.length d] 83 ∧ OwnII Bst wr (.slice q x.nodes.length d) (stI x ins f) Lst ∧
    (∀ b, v.ownBlock = some b ∨ Blk L b → ¬ Blk Lst b ∧ (Value.slice q x.nodes.length d).ownBlock ≠ some b) ∧ Off (· = gs) w1 wr
set_option maxHeartbeats 8000000 in
set_option maxRecDepth 100000 in
theorem l08Block_any {E w : World} {gp gs Bs n : Nat} {x : PatchD} {ins : List (List Int)} {Ls : List Value} {pi q : Option Addr} {ci d : Nat} (hE : Below E.heap.size E w) (hg : E.heap.size ≤ gs) (h : PPatch E gp x) (hok : okB x = true) (hin : RdII E pi ins) (hi : InsOk x ins) (hs : Box w gs [.slice q x.nodes.length d] 83) (hst : OwnII Bs w (.slice q x.nodes.length d) (stI x ins 0) Ls) (hn : n ≤ 4000) :
    Calls Tryz.prog 46 #[.pointer (some ⟨gp, 0, none⟩), .pointer (some ⟨gs, 0, none⟩), .slice pi ins.length ci, .int .i64 0, .int .i64 (n : Int)] w fun e w' => ∃ u L, e = .returned u ∧ OwnII w.heap.size w' u (renL x ins n) L ∧ Below E.heap.size E w' := by
  have hf := (okR_len hok).1
  have ho4 : x.outputs.length ≤ 4 := (formed_iff.1 hf).2.2.2.1
  have hi4 : ins.length ≤ 4 := by have := hi.n; have := (formed_iff.1 hf).1.2; omega
  have HFR := Lib.hid (FrOk.run hf hi)
  have HOR := Lib.hid (l07Order_any w (h.below hE) hf)
  have HL := Lib.hid ((okR_len hok).2.1)
  have HF := Lib.hid hf
  have HI := Lib.hid hi
  have HP := Lib.hid h
  have hgw : gs < w.heap.size := hs.lt
  have hgpl : gp < E.heap.size := h.lt
  obtain ⟨p1, c1, p2, c2, p3, c3, bx, r1, r2, r3⟩ := h
  clear r1 r2 hok hf hi
  obtain ⟨no, hno⟩ : ∃ m, m = x.outputs.length := ⟨_, rfl⟩
  have HNO := Lib.hid hno
  rw [← hno] at bx ho4
  clear hno
  go_enter Tryz.func46, Tryz.ntmps46
  go_upto_region 2 with (first | (go_at_call 42; refine HOR.out.mono ?_; rintro e w1 ⟨u0, rfl, ho, hb1⟩; rw [if_pos HL.out] at ho; rw [decide_eq_true HL.out]; obtain ⟨po, co, rfl, -⟩ := ho.rd) | fail)
  have hE1 := hE.trans (hb1.mono hE.size)
  have z3 := (bx.below hE1).cell 3 rfl
  have hs1 := hs.below hb1
  have hst1 := hst.below hb1
  have h0 := OwnII.empty (B := w1.heap.size) w1 (Nat.le_refl _)
  have hB0 := (Below.refl w1.heap.size w1).alloc (Nat.le_refl _) (.cells #[] 26)
  have hgl1 : gp < w1.heap.size := by have := hE1.size; omega
  have HSB : Hid (∀ b, Blk Ls b → b < w.heap.size) := fun b hb => (hst.blk hb).2
  have HSO : Hid (∀ b, (Value.slice q x.nodes.length d).ownBlock = some b → b < w.heap.size) := fun b hb => (hst.1.lt hb).2
  have hw1 := hb1.size
  clear hs hst
  go_wp2_with fail
  go_loopw [13, 14] (fun v i wr => ∃ (k : Nat) (L : List Value), k ≤ no ∧ i = .int .i64 (k : Int) ∧ OwnII w1.heap.size wr v (List.replicate k []) L ∧ Below w1.heap.size w1 wr) (fun _ i _ => no - (intOf i).toNat)
  case atStart => exact ⟨0, [], Nat.zero_le _, rfl, h0, hB0⟩
  case round =>
    obtain ⟨k, L, hk, rfl, hown, hbel⟩ := hrel
    clear h0 hB0 z3
    obtain ⟨wi, rfl⟩ : ∃ wi : World, wi = wr := ⟨_, rfl⟩
    have hbs := hbel.size
    have z3 := (bx.below (hE1.trans (hbel.mono hE1.size))).cell 3 rfl
    by_cases hlt : k < no
    · have hb' : Below wi.heap.size wi (wi.alloc (.cells #[] 2)) := (Below.refl _ _).alloc (Nat.le_refl _) _
      have own1 := hown.below hb'
      have hu : OwnI w1.heap.size (wi.alloc (.cells #[] 2)) (.slice (some ⟨wi.heap.size, 0, none⟩) 0 0) [] := OwnI.lit (B := w1.heap.size) wi [] hbs (by simp [maxLen])
      have hfresh : ∀ b, (Value.slice (some ⟨wi.heap.size, 0, none⟩) 0 0).ownBlock = some b → ¬ Blk L b := fun b hb hbk => by
        have := (hown.2.1.blk hbk).2.1
        simp only [Value.ownBlock, Option.some.injEq] at hb
        omega
      have hbelA := hbel.trans (hb'.mono hbs)
      have hLl : L.length < 1099511627776 := by have := hown.2.1.1; rw [List.length_replicate] at this; omega
      have hsA := hbelA.size
      go_wp2_with (first | (at_builtin; refine wpList_append_val rfl _ _ rfl 24 (.slice none 0 0) Tryz.underlying24 infoII rfl (by omega) rfl own1.1 (by rw [World.size_alloc]; rfl) rfl hbelA hLl hsA (Nat.le_refl _) ?_; intro v' w' ho' hb2 hz' hk') | fail)
      have own2 := own1.snoc hu hfresh ho' hk'
      rw [← List.replicate_succ'] at own2
      go_roundw
      case rel => exact ⟨k + 1, _, by omega, by go_num, own2, hb2⟩
      case measure => simp [intOf] <;> omega
    · obtain rfl : no = k := by omega
      rw [HNO.out, ← renL_zero x ins] at hown
      obtain ⟨pv, nv, cv, rfl⟩ := hown.1.sl
      have hRS : Hid (RnSt w1 gs x ins (.slice pv nv cv) 0 wi) := by
        have hs2 := hs1.below hbel
        refine ⟨L, Bs, Ls, q, d, hown, hs1.keep (hbel.block gs (by omega)), ⟨hst1.1.keep fun b hb => hbel.block b (by have := HSO.out b hb; omega), hst1.2.1.keep fun b hb => hbel.block b (by have := HSB.out b hb; omega), hst1.2.2⟩, fun b hb => ?_, Off.of_below _ hbel⟩
        have hb3 : w1.heap.size ≤ b := by
          rcases hb with h | h
          · exact (hown.1.lt h).1
          · exact (hown.2.1.blk h).1
        exact ⟨fun h => by have := HSB.out b h; omega, fun h => by have := HSO.out b h; omega⟩
      have HCV := Lib.hid hbel
      clear hown hs1 hst1 hbs
      go_wp2_with fail
      go_loopw [15] (fun i wr => ∃ f : Nat, f ≤ n ∧ i = .int .i64 (f : Int) ∧ RnSt w1 gs x ins (.slice pv nv cv) f wr) (fun i _ => n - (intOf i).toNat)
      case atStart => exact ⟨0, Nat.zero_le _, rfl, hRS.out⟩
      case round =>
        obtain ⟨f, hfn, rfl, L, Bst, Lst, q', d', hown, hbs, hst, hdis, hoff⟩ := hrel
        clear hRS z3 HCV
        obtain ⟨wf, rfl⟩ : ∃ W : World, W = wr := ⟨_, rfl⟩
        have hEf : Below E.heap.size E wf := hE1.trans (hoff.below (B := E.heap.size) (fun b hb => by have : b = gs := hb; omega) hE1.size)
        have hof := hoff.size
        have hE1s := hE1.size
        by_cases hlt : f < n
        · have o16 := OwnI.lit (B := wf.heap.size) wf [] (Nat.le_refl _) (by simp [maxLen])
          have hbA := (Below.refl wf.heap.size wf).alloc (Nat.le_refl _) (.cells #[] 2)
          have hOut : Hid (∀ b, (Value.slice pv nv cv).ownBlock = some b ∨ Blk L b → w1.heap.size ≤ b ∧ b < wf.heap.size) := fun b hb => by
            rcases hb with h | h
            · exact hown.1.lt h
            · exact hown.blk h
          have HDIS := Lib.hid hdis
          clear hdis
          go_wp2_with fail
          go_loopw [16, 17] (fun v16 i w3 => ∃ k : Nat, k ≤ ins.length ∧ i = .int .i64 (k : Int) ∧ OwnI wf.heap.size w3 v16 ((frN ins f).take k) ∧ Below wf.heap.size wf w3) (fun _ i _ => ins.length - (intOf i).toNat)
          case atStart => exact ⟨0, Nat.zero_le _, rfl, o16, hbA⟩
          case round =>
            obtain ⟨k, hk, rfl, hown3, hb3⟩ := hrel
            clear o16 hbA
            obtain ⟨wk, rfl⟩ : ∃ W : World, W = wr := ⟨_, rfl⟩
            have hEk := hEf.trans (hb3.mono hEf.size)
            have hs3 := hb3.size
            by_cases hlt3 : k < ins.length
            · obtain ⟨b, o, q3, c3', rfl, hbl, hrow, hrr⟩ := (hin.below hEk).at0 hlt3
              have hg3 : ins.getD k [] = ins[k] := by rw [List.getD_eq_getElem?_getD, List.getElem?_eq_getElem hlt3]; rfl
              have HFT := Lib.hid (frN_take (ins := ins) (i := f) hlt3)
              rw [← hg3] at HFT
              have hl3 : ((frN ins f).take k).length < 17592186044415 := by rw [List.length_take]; omega
              have hrl := hrr.len
              unfold maxLen at hrl
              have AT := Lib.hid (l03AtR_any (c := c3') f wk hrr (by omega))
              generalize ins.getD k [] = row at hrow hrr HFT AT hrl
              clear hg3
              go_wp2_with (first | (go_at_call 81; refine AT.out.mono ?_; rintro e w' ⟨rfl, rfl⟩) | (at_builtin; refine wpList_append_one rfl _ _ rfl rfl hown3 rfl hb3 hl3 hs3 (Nat.le_refl _) ?_; intro v' w8 ho8 hb8 hz8 hk8) | fail)
              go_roundw
              case rel => exact ⟨k + 1, by omega, by go_num, by rw [HFT.out]; exact ho8, hb8⟩
              case measure => simp [intOf] <;> omega
            · obtain rfl : k = ins.length := by omega
              rw [← frN_length ins f, List.take_length] at hown3
              obtain ⟨pf, cf, rfl, -⟩ := hown3.rd
              have ho3 : OwnI w.heap.size wk (.slice po (orderL x.nodes).length co) (orderL x.nodes) := ho.keep fun b hb => by
                have h1 := (ho.lt hb)
                rw [hb3.block b (by omega)]
                exact hoff.block b h1.2 (by show b ≠ gs; omega)
              have hor : RdI wk po (orderL x.nodes) := by
                obtain ⟨p', c', e', hr'⟩ := ho3.rd
                obtain ⟨rfl, -, rfl⟩ := (Value.slice.injEq _ _ _ _ _ _).mp e'
                exact hr'
              have hfr : RdI wk pf (frN ins f) := by
                obtain ⟨p', c', e', hr'⟩ := hown3.rd
                obtain ⟨rfl, -, rfl⟩ := (Value.slice.injEq _ _ _ _ _ _).mp e'
                exact hr'
              have hst3 := hst.below hb3
              have hbs3 : Box wk gs [.slice q' (stI x ins f).length d'] 83 := by rw [stI_length]; exact hbs.below hb3
              have hstr : RdII wk q' (stI x ins f) := by
                obtain ⟨p', c', e', hr'⟩ := hst3.rd
                obtain ⟨rfl, -, rfl⟩ := (Value.slice.injEq _ _ _ _ _ _).mp e'
                exact hr'
              have VV : Hid (Calls Tryz.prog 82 #[.pointer (some ⟨gp, 0, none⟩), .slice po (orderL x.nodes).length co, .pointer (some ⟨gs, 0, none⟩), .slice pf (frN ins f).length cf] wk fun e w' => ∃ v, e = .returned v ∧ OwnI wk.heap.size w' v (vsI x ins f) ∧ Below wk.heap.size wk w') :=
                l08Values_any (co := co) (cf := cf) wk (HP.out.below hEk) hor orderL_mem hbs3 hstr hfr (HFR.out f)
              clear ho3 hor hfr hst3 hbs3 hstr
              go_upto_region 16 with (first | (go_at_call 82; refine VV.out.mono ?_; rintro e w4 ⟨v4, rfl, hv4, hb4⟩; obtain ⟨pv4, cv4, rfl, -⟩ := hv4.rd) | fail)
              have hb34 : Below wf.heap.size wf w4 := hb3.trans (hb4.mono hs3)
              have hown4 := hown.below hb34
              have hbs4 := hbs.below hb34
              have hst4 := hst.below hb34
              have hfr4 := hown3.below hb4
              have hE4 := hEf.trans (hb34.mono hEf.size)
              have hs4 := hb34.size
              have hk4 := hb4.size
              have HO34 := Lib.hid hb34
              have z3 := (bx.below hE4).cell 3 rfl
              clear hown hbs hst hown3 VV hb3 hb4 hEk
              go_wp2_with fail
              go_loopw [19] (fun i w5 => ∃ (k : Nat) (L' : List Value), k ≤ no ∧ i = .int .i64 (k : Int) ∧ OwnII w1.heap.size w5 (.slice pv nv cv) (mixL x ins f k) L' ∧ Hid (∀ b, Blk L' b → Blk L b ∨ w4.heap.size ≤ b) ∧ Off (fun b => (Value.slice pv nv cv).ownBlock = some b ∨ Blk L b) w4 w5) (fun i _ => no - (intOf i).toNat)
              case atStart => exact ⟨0, L, Nat.zero_le _, rfl, by rw [mixL_zero]; exact hown4, fun b h => .inl h, Off.refl _ _⟩
              case round =>
                obtain ⟨k, L', hk, rfl, hown5, HB5, hoff5⟩ := hrel
                clear z3
                obtain ⟨w5, rfl⟩ : ∃ W : World, W = wr := ⟨_, rfl⟩
                have hs5 := hoff5.size
                have hK5 : ∀ b, b < w4.heap.size → (b < w1.heap.size ∨ wf.heap.size ≤ b) → w5.heap[b]? = w4.heap[b]? := fun b hb h => hoff5.block b hb fun hob => by have := hOut.out b hob; omega
                have bx5 : Box w5 gp [.int .i64 x.inputs, .slice p1 x.tables.length c1, .slice p2 x.nodes.length c2, .slice p3 no c3] 28 := (bx.below hE4).keep (hK5 gp (by omega) (.inl hgl1))
                have z3 := bx5.cell 3 rfl
                by_cases hlt5 : k < no
                · have hko : k < x.outputs.length := by rw [← HNO.out]; exact hlt5
                  have hkL : k < L'.length := by rw [hown5.2.1.1, mixL_length]; exact hko
                  obtain ⟨go, cgo, ego, hcgo, hgol, hgoB, hgof, hgon⟩ := hown5.opened hkL
                  obtain ⟨rfl, hnv, rfl⟩ := (Value.slice.injEq _ _ _ _ _ _).mp ego
                  clear ego
                  obtain ⟨hL5, hu5⟩ := hown5.2.1.at_ (i := k) (by rw [mixL_length]; exact hko)
                  rw [mixL_get hko] at hu5
                  obtain ⟨bo, oo, rfl, hbo, hco⟩ := r3.pos hko
                  have hoc := hco k hko
                  have hom := (formed_iff.1 HF.out).2.2.2.2.2 _ (List.getElem_mem hko)
                  obtain ⟨m, hm⟩ : ∃ m : Nat, x.outputs[k] = m := ⟨x.outputs[k].toNat, by omega⟩
                  have HMS := Lib.hid (mixL_set (x := x) (ins := ins) (i := f) hko)
                  rw [hm] at hoc hom hu5 HMS
                  rw [outK0_succ, Int.toNat_natCast] at HMS
                  have hmv : m < (vsI x ins f).length := by rw [vsI_len]; omega
                  rcases hv4.cases with ⟨-, h00⟩ | ⟨bv, cv5, e4, hBv, hbv, -, hrv⟩
                  · rw [h00] at hmv; simp at hmv
                  obtain ⟨rfl, -, rfl⟩ := (Value.slice.injEq _ _ _ _ _ _).mp e4
                  clear e4
                  obtain ⟨bv', ov', e5, -, hcv⟩ := hrv.pos hmv
                  cases e5
                  have hvc := hcv m hmv
                  rw [Nat.zero_add] at hvc
                  have hvg : (vsI x ins f).getD m 0 = (vsI x ins f)[m] := getD_at2 hmv
                  rw [hvg] at HMS
                  generalize hvl : (vsI x ins f)[m] = y at hvc HMS
                  have HU : Hid (∀ b, L'[k].ownBlock = some b → w1.heap.size ≤ b ∧ b < w5.heap.size ∧ (b < wf.heap.size ∨ w4.heap.size ≤ b)) := fun b hb => by
                    have h1 := hu5.lt hb
                    refine ⟨h1.1, h1.2, ?_⟩
                    rcases HB5.out b ⟨L'[k], List.getElem_mem hkL, hb⟩ with h2 | h2
                    · exact .inl (hOut.out b (.inr h2)).2
                    · exact .inr h2
                  obtain ⟨u5, hu5e⟩ : ∃ u, u = L'[k] := ⟨_, rfl⟩
                  rw [← hu5e] at hcgo hgon hu5 HU
                  have HU5E := Lib.hid hu5e
                  have HNV := Lib.hid hnv
                  have hknv : k < nv := by rw [hnv]; exact hkL
                  have CK5 : Hid (∀ W : World, (∀ b, b < w5.heap.size → u5.ownBlock ≠ some b → W.heap[b]? = w5.heap[b]?) → W.cell? ⟨gp, 3, none⟩ = some (.slice (some ⟨bo, oo, none⟩) no c3) ∧ W.cell? ⟨bo, oo + k, none⟩ = some (.int .i64 (m : Int)) ∧ W.cell? ⟨bv, m, none⟩ = some (.int .i64 y) ∧ W.cell? ⟨go, k, none⟩ = some u5) := fun W hW => by
                    have hgp5 : gp < w5.heap.size := by omega
                    have hbo5 : bo < w1.heap.size := by omega
                    have hbv5 : bv < w5.heap.size := by omega
                    refine ⟨(bx5.keep (hW gp hgp5 fun e => by have := HU.out _ e; omega)).cell 3 rfl, ?_, ?_, ?_⟩
                    · rw [World.cell?_of_block (w := w5) (a := ⟨bo, oo + k, none⟩) (hW bo (by omega) fun e => by have := HU.out _ e; omega), World.cell?_of_block (w := w4) (a := ⟨bo, oo + k, none⟩) (hK5 bo (by omega) (.inl hbo5))]
                      exact (hE4.cell (p := ⟨bo, oo + k, none⟩) hbo).trans hoc
                    · rw [World.cell?_of_block (w := w5) (a := ⟨bv, m, none⟩) (hW bv hbv5 fun e => by have := HU.out _ e; omega), World.cell?_of_block (w := w4) (a := ⟨bv, m, none⟩) (hK5 bv hbv (.inr (by omega)))]
                      exact hvc
                    · rw [World.cell?_of_block (w := w5) (a := ⟨go, k, none⟩) (hW go hgol hgon)]
                      exact hcgo
                  have hB5 : w1.heap.size ≤ w5.heap.size := by omega
                  have hlen5 : (outK0 x ins (m : Int) f).length < 17592186044415 := by unfold outK0; simp; omega
                  have hown5v := hown5.1
                  clear hnv hu5e hcgo hvc hvl hvg hcv hco hoc hrv hbv hBv hgof hom
                  generalize hok0 : outK0 x ins (m : Int) f = zs at hu5 HMS hlen5
                  clear hok0
                  go_upto_region 19 with fail
                  refine wp_region_plan (fun W => W.cell? ⟨gp, 3, none⟩ = some (.slice (some ⟨bo, oo, none⟩) no c3) ∧ W.cell? ⟨bo, oo + k, none⟩ = some (.int .i64 (m : Int)) ∧ W.cell? ⟨bv, m, none⟩ = some (.int .i64 y) ∧ W.cell? ⟨go, k, none⟩ = some u5) 19 [(0, 0), (1, 0), (2, 0), (3, 0), (4, 0), (5, 1), (6, 0), (7, 0), (8, 0), (9, 0), (10, 1), (11, 0), (12, 0), (13, 1), (14, 0), (15, 1), (16, 2), (17, 2), (18, 0), (19, 3)] (by kernel_rfl) (by kernel_rfl) (CK5.out _ (fun _ _ _ => rfl)) ?_
                  repeat ((first | refine wpPlan_take (v := ?_) rfl (by rfl) (by (intro w hSw; clear hSw; go_simp; try with_reducible rfl)) (fun _ _ _ h => h) ?_ | refine wpPlan_load (v := ?_) rfl (by rfl) (by (intro w hSw; (try dsimp only at hSw); go_simp; try with_reducible rfl)) (fun _ _ _ h => h) ?_); try simp only [List.getElem_toArray, List.getElem_cons_succ, List.getElem_cons_zero, Act.put, List.setIfInBounds_toArray, List.set_cons_zero, List.set_cons_succ])
                  refine wpPlan_call rfl (by rfl) (fun K hK => ?_)
                  go_simp
                  skip
                  refine hK _ _ (CK5.out _ (fun b hb _ => Below.heap_alloc _ _ _ hb)) ?_
                  clear hK K
                  try simp only [Act.put, List.setIfInBounds_toArray, List.set_cons_zero, List.set_cons_succ]
                  refine wpPlan_call rfl (by rfl) (fun K hK => ?_)
                  refine oper_append_newD _ _ rfl rfl hu5 rfl hlen5 hB5 ?_; intro v6 W6 hu6 hfr6 hk6 hn6; obtain ⟨vp, vc, rfl, -⟩ := hu6.rd
                  refine hK _ _ (CK5.out _ hk6) ?_
                  clear hK K
                  try simp only [List.getElem_toArray, List.getElem_cons_succ, List.getElem_cons_zero, Act.put, List.setIfInBounds_toArray, List.set_cons_zero, List.set_cons_succ]
                  have c6 := (CK5.out _ hk6).2.2.2
                  have f6 : W6.frozen? ⟨go, k, none⟩ = false := ((hown5v.keep fun b hb => by
                    simp only [Value.ownBlock, Option.some.injEq] at hb
                    subst hb
                    exact hk6 _ hgol hgon).storing hkL).2.2.2.2.1
                  have hgo6 : go < W6.heap.size := by have := hfr6.2.2.2; omega
                  repeat ((first | refine wpPlan_take (v := ?_) rfl (by rfl) (by (intro w hSw; clear hSw; go_simp; try with_reducible rfl)) (fun _ _ _ h => h) ?_ | refine wpPlan_load (v := ?_) rfl (by rfl) (by (intro w hSw; (try dsimp only at hSw); go_simp; try with_reducible rfl)) (fun _ _ _ h => h) ?_); try simp only [List.getElem_toArray, List.getElem_cons_succ, List.getElem_cons_zero, Act.put, List.setIfInBounds_toArray, List.set_cons_zero, List.set_cons_succ])
                  refine wpPlan_store rfl (by rfl) (fun K hK => ?_)
                  go_simp
                  refine hK _ _ ?_
                  clear hK K
                  try simp only [Act.put, List.setIfInBounds_toArray, List.set_cons_zero, List.set_cons_succ]
                  refine wpPlan_nil ?_
                  rw [HU5E.out] at hk6 hn6
                  obtain ⟨n1, n2, n3⟩ := hown5.putRow hkL hu6 hfr6.2.2.2 hk6 hn6
                  rw [HMS.out] at n1
                  have hoff7 : Off (fun b => (Value.slice (some ⟨go, 0, none⟩) nv cv).ownBlock = some b ∨ Blk L b) w4 (W6.setCell ⟨go, k, none⟩ (.slice vp (zs ++ [y]).length vc)) := by
                    refine ⟨hfr6.1.trans hoff5.os, (show W6.tape = w5.drew.tape from hfr6.2.1).trans (show w5.drew.tape = w4.tape from hoff5.tape), hfr6.2.2.1.trans hoff5.output, by have := hfr6.2.2.2; simp; omega, fun b hb hne => ?_⟩
                    have hbg : b ≠ go := fun e => hne (.inl (by rw [e]; rfl))
                    have hbl : ¬ Blk L' b := fun e => by
                      rcases HB5.out b e with h | h
                      · exact hne (.inr h)
                      · omega
                    exact (n3 b (by omega) hbg hbl).trans (hoff5.block b hb hne)
                  have HB7 : Hid (∀ b, Blk (L'.set k (.slice vp (zs ++ [y]).length vc)) b → Blk L b ∨ w4.heap.size ≤ b) := fun b hb => by
                    rcases n2 b hb with h | h
                    · exact HB5.out b h
                    · exact .inr (by omega)
                  have hle : (zs ++ [y]).length = zs.length + 1 := by simp
                  rw [hle] at n1 HB7 hoff7
                  clear hle
                  go_wp2_with fail
                  go_roundw
                  case rel => exact ⟨k + 1, _, by omega, by go_num, n1, HB7, hoff7⟩
                  case measure => simp [intOf] <;> omega
                · obtain rfl : no = k := by omega
                  rw [HNO.out, mixL_end] at hown5
                  have hE5 : Below E.heap.size E w5 := hE4.trans (hoff5.below (B := E.heap.size) (fun b hb => by have := hOut.out b hb; omega) hE4.size)
                  have hbs5 : Box w5 gs [.slice q' (stI x ins f).length d'] 83 := by rw [stI_length]; exact hbs4.keep (hK5 gs (by omega) (.inl (by omega)))
                  have hst5 : OwnII Bst w5 (.slice q' (stI x ins f).length d') (stI x ins f) Lst := by
                    rw [stI_length]
                    exact ⟨hst4.1.keep fun b hb => hoff5.block b (hst4.1.lt hb).2 fun hob => (HDIS.out b hob).2 hb, hst4.2.1.keep fun b hb => hoff5.block b (hst4.blk hb).2 fun hob => (HDIS.out b hob).1 hb, hst4.2.2⟩
                  have hfr5 : RdI w5 pf (frN ins f) := by
                    have h5 : OwnI wf.heap.size w5 (.slice pf (frN ins f).length cf) (frN ins f) := hfr4.keep fun b hb => hK5 b (hfr4.lt hb).2 (.inr (hfr4.lt hb).1)
                    obtain ⟨p', c', e', hr'⟩ := h5.rd
                    obtain ⟨rfl, -, rfl⟩ := (Value.slice.injEq _ _ _ _ _ _).mp e'
                    exact hr'
                  have hv5 : RdI w5 pv4 (vsI x ins f) := by
                    have h5 : OwnI wk.heap.size w5 (.slice pv4 (vsI x ins f).length cv4) (vsI x ins f) := hv4.keep fun b hb => hK5 b (hv4.lt hb).2 (.inr (by have := (hv4.lt hb).1; omega))
                    obtain ⟨p', c', e', hr'⟩ := h5.rd
                    obtain ⟨rfl, -, rfl⟩ := (Value.slice.injEq _ _ _ _ _ _).mp e'
                    exact hr'
                  have STEP : Hid (Calls Tryz.prog 83 #[.pointer (some ⟨gp, 0, none⟩), .pointer (some ⟨gs, 0, none⟩), .slice pf (frN ins f).length cf, .slice pv4 (vsI x ins f).length cv4] w5 fun e w' => ∃ v0 u L, e = .returned v0 ∧ Box w' gs [u] 83 ∧ OwnII w5.heap.size w' u (stI x ins (f + 1)) L ∧ Off (· = gs) w5 w') :=
                    l08Step_any (Bs := Bst) (cf := cf) (cv := cv4) w5 (HP.out.below hE5) hbs5 hst5 hfr5 hv5 (HFR.out f) (vsI_len x ins f) (vsI_smp HF.out HI.out f)
                  clear hbs5 hst5 hfr5 hv5 hE5
                  go_wp2_with (first | (go_at_call 83; refine STEP.out.mono ?_; rintro e w6 ⟨v0, u6, L6, rfl, bs6, own6, off6⟩) | fail)
                  have hRS6 : RnSt w1 gs x ins (.slice pv nv cv) (f + 1) w6 := by
                    obtain ⟨q6, c6, rfl, -⟩ := own6.rd
                    rw [stI_length] at bs6 own6
                    have hO5 : ∀ b, (Value.slice pv nv cv).ownBlock = some b ∨ Blk L' b → w1.heap.size ≤ b ∧ b < w5.heap.size := fun b hb => by
                      rcases hb with h | h
                      · exact hown5.1.lt h
                      · exact hown5.blk h
                    refine ⟨L', w5.heap.size, L6, q6, c6, ⟨hown5.1.keep fun b hb => off6.block b (hown5.1.lt hb).2 (by have := (hown5.1.lt hb).1; show b ≠ gs; omega), hown5.2.1.keep fun b hb => off6.block b (hown5.blk hb).2 (by have := (hown5.blk hb).1; show b ≠ gs; omega), hown5.2.2⟩, bs6, own6, fun b hb => ?_, ?_⟩
                    · have h1 := hO5 b hb
                      exact ⟨fun h => by have := (own6.blk h).1; omega, fun h => by have := (own6.1.lt h).1; omega⟩
                    · refine ⟨off6.os.trans (hoff5.os.trans (HO34.out.os.trans hoff.os)), off6.tape.trans (hoff5.tape.trans (HO34.out.tape.trans hoff.tape)), off6.output.trans (hoff5.output.trans (HO34.out.output.trans hoff.output)), by have := off6.size; omega, fun b hb hne => ?_⟩
                      exact (off6.block b (by omega) hne).trans ((hK5 b (by omega) (.inl hb)).trans ((HO34.out.block b (by omega)).trans (hoff.block b hb hne)))
                  clear bs6 own6 off6
                  go_roundw
                  case rel => exact ⟨f + 1, by omega, by go_num, hRS6⟩
                  case measure => simp [intOf] <;> omega
        · obtain rfl : f = n := by omega
          go_wp2_with fail
          go_ret
          exact ⟨_, L, rfl, hown.mono hw1, hEf⟩
end Go.Proofs.YtcfhcmgmkhfjjaaGreat
