/-
  Frames of a patch: the values of the nodes, in plain Lean; no program in sight.
-/
import Derived.Test.YtbjpianbeebmeabStepN
import Derived.Test.YtbjpianbeebmeabMapped
import Derived.Test.YtbjpianbeebmeabPatSt
namespace Go.Proofs.Ytbjpianbeebmeab
open Go.ChangeShapes Go.WideShapes Go.ChangeAt Go.RowKit Go.Sort
set_option linter.unusedVariables false

/-! ### the order has each node once -/
theorem ord_nodup {nodes : List NodeD} : ∀ (f : Nat) (out : List Int), out.Nodup → (ord nodes f out).Nodup
  | 0, out, h => h
  | f + 1, out, h => by
    rw [ord]
    split
    · exact h
    · rename_i i hi
      refine ord_nodup f _ ?_
      have h1 := rdy_free (nxt_some hi).2.2
      rw [List.nodup_append]
      refine ⟨h, by simp, fun a ha b hb e => ?_⟩
      rw [List.mem_singleton] at hb
      subst hb e
      rw [List.contains_eq_mem, decide_eq_false_iff_not] at h1
      exact h1 ha
theorem orderL_nodup (nodes : List NodeD) : (orderL nodes).Nodup := ord_nodup _ _ List.nodup_nil

theorem getD_at2 {xs : List Int} {k : Nat} (h : k < xs.length) : xs.getD k 0 = xs[k] := by
  rw [List.getD_eq_getElem?_getD, List.getElem?_eq_getElem h]; rfl
theorem OwnI.rd_at2 {B : Nat} {w : World} {p : Option Addr} {n c : Nat} {xs : List Int} (h : OwnI B w (.slice p n c) xs) : n = xs.length ∧ RdI w p xs := by
  obtain ⟨q, d, e, hr⟩ := h.rd
  simp only [Value.slice.injEq] at e
  obtain ⟨rfl, rfl, -⟩ := e
  exact ⟨rfl, hr⟩
/-! ### samples -/
theorem smps_getD {xs : List Int} (h : xs.all isSmp = true) (i : Nat) : isSmp (xs.getD i 0) = true := by
  rw [List.all_eq_true] at h
  by_cases hi : i < xs.length
  · rw [List.getD_eq_getElem?_getD, List.getElem?_eq_getElem hi]; exact h _ (List.getElem_mem hi)
  · rw [List.getD_eq_getElem?_getD, List.getElem?_eq_none (by omega)]; rfl
theorem smps_set {xs : List Int} (h : xs.all isSmp = true) (i : Nat) {y : Int} (hy : isSmp y = true) : (xs.set i y).all isSmp = true := by
  rw [List.all_eq_true] at h ⊢
  intro z hz
  rcases List.mem_or_eq_of_mem_set hz with hz | rfl
  · exact h z hz
  · exact hy
theorem smps_map {xs ys : List Int} (h : xs.all isSmp = true) : (mapL xs ys).all isSmp = true := by
  unfold mapL
  rw [List.all_map, List.all_eq_true]
  exact fun i _ => smps_getD h _
theorem isSmp_smp (x : Int) : isSmp (smp x) = true := by unfold isSmp; rw [inB_iff]; exact smp_bounds x
theorem outP_smp {x : NodeD} {tb : List (List Int)} {xs ss : List Int} (ok : OutOk x tb xs ss) (hv : nodeB x tb.length = true) (ht : tablesB tb = true) (hx : xs.all isSmp = true) (hs : ss.all isSmp = true) : isSmp (outP x tb xs ss) = true := by
  obtain ⟨k, A, B, src⟩ := x
  rw [nodeB_split] at hv
  simp only [Bool.and_eq_true] at hv
  obtain ⟨hk, ha, -⟩ := hv
  have x0 := smps_getD hx 0
  have x1 := smps_getD hx 1
  have x2 := smps_getD hx 2
  have s0 := smps_getD hs 0
  rcases kinds_of hk with rfl | rfl | rfl | rfl | rfl | rfl | rfl | rfl | rfl | rfl | rfl | rfl | rfl | rfl | rfl | rfl | rfl
  · exact x0
  · exact ha
  · exact isSmp_smp _
  · exact isSmp_smp _
  · exact isSmp_smp _
  · exact s0
  · exact isSmp_smp _
  · exact isSmp_smp _
  · exact isSmp_smp _
  · show isSmp (xs.getD 0 0 / 2 ^ A.toNat) = true
    have ha' : inB A 0 31 = true := ha
    rw [inB_iff] at ha'
    have hp : (0 : Int) < 2 ^ A.toNat := Int.pow_pos (by omega)
    generalize (2 : Int) ^ A.toNat = p at hp
    generalize xs.getD 0 0 = v at x0
    unfold isSmp at x0 ⊢
    rw [inB_iff] at x0 ⊢
    constructor
    · rw [Int.le_ediv_iff_mul_le hp]
      have h3 : (-2147483648 : Int) * p ≤ -2147483648 * 1 := Int.mul_le_mul_of_nonpos_left (by omega) (by omega)
      omega
    · have h4 : v / p < 2147483648 := Int.ediv_lt_of_lt_mul hp (by
        have h3 : (2147483648 : Int) * 1 ≤ 2147483648 * p := Int.mul_le_mul_of_nonneg_left (by omega) (by omega)
        omega)
      omega
  · show isSmp (max (-A) (min (xs.getD 0 0) A)) = true
    have ha' : inB A 0 2147483647 = true := ha
    unfold isSmp at x0 ⊢
    rw [inB_iff] at x0 ha' ⊢
    omega
  · exact s0
  · show isSmp (lookP (tb.getD A.toNat []) (xs.getD 0 0)) = true
    unfold lookP
    refine smps_getD ?_ _
    unfold tablesB at ht
    simp only [Bool.and_eq_true, List.all_eq_true] at ht
    by_cases hi : A.toNat < tb.length
    · have h1 := ht.1 tb[A.toNat] (List.getElem_mem hi)
      unfold tblB at h1
      rw [Bool.and_eq_true] at h1
      rw [List.getD_eq_getElem?_getD, List.getElem?_eq_getElem hi]
      exact h1.2
    · rw [List.getD_eq_getElem?_getD, List.getElem?_eq_none (by omega)]; rfl
  · exact s0
  · show isSmp (if 0 ≤ xs.getD 0 0 then xs.getD 1 0 else xs.getD 2 0) = true
    split
    · exact x1
    · exact x2
  · show isSmp (if 0 < xs.getD 1 0 then xs.getD 0 0 else ss.getD 0 0) = true
    split
    · exact x0
    · exact s0
  · exact isSmp_smp _

/-! ### one frame -/
/-- the samples that a node gets in a frame -/
def inF (x : NodeD) (fr vs : List Int) : List Int := if x.kind = 1 then [fr.getD x.a.toNat 0] else mapL vs x.src
/-- the value of node k is put in its place -/
def valS (x : PatchD) (st : List (List Int)) (fr vs : List Int) (k : Int) : List Int :=
  vs.set k.toNat (outP (x.nodes.getD k.toNat ⟨0, 0, 0, []⟩) x.tables (inF (x.nodes.getD k.toNat ⟨0, 0, 0, []⟩) fr vs) (st.getD k.toNat []))
def valsF (x : PatchD) (st : List (List Int)) (fr : List Int) (os : List Int) : List Int := os.foldl (valS x st fr) (List.replicate x.nodes.length 0)
theorem valsF_snoc (x : PatchD) (st : List (List Int)) (fr : List Int) (os : List Int) (k : Int) : valsF x st fr (os ++ [k]) = valS x st fr (valsF x st fr os) k := by unfold valsF; rw [List.foldl_append]; rfl
theorem valsF_take {x : PatchD} {st : List (List Int)} {fr os : List Int} {j : Nat} (h : j < os.length) : valsF x st fr (os.take (j + 1)) = valS x st fr (valsF x st fr (os.take j)) os[j] := by
  rw [List.take_succ_eq_append_getElem h, valsF_snoc]
theorem foldl_valS_length (x : PatchD) (st : List (List Int)) (fr : List Int) : ∀ (os vs : List Int), (os.foldl (valS x st fr) vs).length = vs.length
  | [], vs => rfl
  | o :: os, vs => by rw [List.foldl_cons, foldl_valS_length x st fr os, valS, List.length_set]
theorem valsF_length (x : PatchD) (st : List (List Int)) (fr os : List Int) : (valsF x st fr os).length = x.nodes.length := by unfold valsF; rw [foldl_valS_length, List.length_replicate]
/-- what a frame asks of patch, state and input -/
structure FrOk (x : PatchD) (st : List (List Int)) (fr : List Int) : Prop where
  f : formedB x = true
  sl : st.length = x.nodes.length
  s : ∀ k, (h : k < x.nodes.length) → (st.getD k []).length = (startL x.nodes[k]).length ∧ (st.getD k []).all isSmp = true
  il : (fr.length : Int) = x.inputs
  i : fr.all isSmp = true
theorem FrOk.of {x : PatchD} {st : List (List Int)} {fr : List Int} (h : formedB x = true) (hs : stB x.nodes st = true) (hi : (fr.length : Int) = x.inputs) (hf : fr.all isSmp = true) : FrOk x st fr := by
  unfold stB at hs
  rw [Bool.and_eq_true, decide_eq_true_eq, List.all_eq_true] at hs
  refine ⟨h, hs.1, fun k hk => ?_, hi, hf⟩
  have hk2 : k < st.length := by rw [hs.1]; exact hk
  have h1 := hs.2 (x.nodes[k], st[k]) (by
    rw [List.mem_iff_getElem]
    exact ⟨k, by rw [List.length_zip]; omega, by rw [List.getElem_zip]⟩)
  rw [Bool.and_eq_true, decide_eq_true_eq] at h1
  rw [List.getD_eq_getElem?_getD, List.getElem?_eq_getElem hk2]
  exact h1
theorem inF_len {x : NodeD} {t : Int} {fr vs : List Int} (h : nodeB x t = true) : ((inF x fr vs).length : Int) = inN x := by
  rw [nodeB_split] at h
  simp only [Bool.and_eq_true, beq_iff_eq] at h
  obtain ⟨-, -, h3, -⟩ := h
  unfold inF inN
  split
  · rfl
  · rw [mapL_length]; exact h3
theorem FrOk.nd {x : PatchD} {st : List (List Int)} {fr : List Int} (h : FrOk x st fr) {k : Nat} (hk : k < x.nodes.length) : nodeB x.nodes[k] x.tables.length = true ∧ (x.nodes[k].kind = 1 → 0 ≤ x.nodes[k].a ∧ x.nodes[k].a < (fr.length : Int)) ∧ ∀ f ∈ x.nodes[k].src, 0 ≤ f ∧ f < (x.nodes.length : Int) := by
  have h1 := (formed_iff.1 h.f).2.2.2.2.1 _ (List.getElem_mem hk)
  have h2 := ndB_src h1
  unfold ndB at h1
  simp only [Bool.and_eq_true, Bool.not_eq_true', Bool.and_eq_false_iff, beq_eq_false_iff_ne, decide_eq_false_iff_not] at h1
  refine ⟨h1.1.1, fun e => ?_, h2⟩
  have h3 := h1.1.1
  rw [nodeB_split] at h3
  simp only [Bool.and_eq_true] at h3
  have h4 : aB 1 x.nodes[k].a x.tables.length = true := by rw [← e]; exact h3.2.1
  have h5 : inB x.nodes[k].a 0 3 = true := h4
  rw [inB_iff] at h5
  rcases h1.1.2 with h6 | h6
  · exact absurd e h6
  · rw [h.il]; omega
theorem FrOk.out {x : PatchD} {st : List (List Int)} {fr vs : List Int} (h : FrOk x st fr) (hv : vs.all isSmp = true) {k : Nat} (hk : k < x.nodes.length) :
    OutOk x.nodes[k] x.tables (inF x.nodes[k] fr vs) (st.getD k []) ∧ isSmp (outP x.nodes[k] x.tables (inF x.nodes[k] fr vs) (st.getD k [])) = true := by
  have hn := (h.nd hk).1
  have ht := (formed_iff.1 h.f).2.1
  have hi : (inF x.nodes[k] fr vs).all isSmp = true := by
    unfold inF
    split
    · rw [List.all_cons, smps_getD h.i]; rfl
    · exact smps_map hv
  have ok := OutOk.of ht hn (inF_len hn) (h.s k hk).1 hi
  exact ⟨ok, outP_smp ok hn ht hi (h.s k hk).2⟩
theorem valS_smp {x : PatchD} {st : List (List Int)} {fr vs : List Int} (h : FrOk x st fr) (hv : vs.all isSmp = true) {k : Nat} (hk : k < x.nodes.length) : (valS x st fr vs k).all isSmp = true := by
  unfold valS
  refine smps_set hv _ ?_
  have := (h.out hv hk).2
  rw [Int.toNat_natCast, List.getD_eq_getElem?_getD (l := x.nodes), List.getElem?_eq_getElem hk]
  exact this
theorem valsF_smp {x : PatchD} {st : List (List Int)} {fr : List Int} (h : FrOk x st fr) : ∀ (os : List Int), (∀ o ∈ os, 0 ≤ o ∧ o < (x.nodes.length : Int)) → ∀ vs : List Int, vs.all isSmp = true → (os.foldl (valS x st fr) vs).all isSmp = true
  | [], _, vs, hv => hv
  | o :: os, ho, vs, hv => by
    rw [List.foldl_cons]
    obtain ⟨h1, h2⟩ := ho o (List.mem_cons_self ..)
    obtain ⟨k, rfl⟩ := Int.eq_ofNat_of_zero_le h1
    exact valsF_smp h os (fun o ho' => ho o (List.mem_cons_of_mem _ ho')) _ (valS_smp h hv (by omega))
theorem zeros_smp (n : Nat) : (List.replicate n (0 : Int)).all isSmp = true := by
  rw [List.all_eq_true]
  intro y hy
  rw [(List.mem_replicate.1 hy).2]; rfl
theorem valsF_smps {x : PatchD} {st : List (List Int)} {fr : List Int} (h : FrOk x st fr) {os : List Int} (ho : ∀ o ∈ os, 0 ≤ o ∧ o < (x.nodes.length : Int)) : (valsF x st fr os).all isSmp = true := valsF_smp h os ho _ (zeros_smp _)
end Go.Proofs.Ytbjpianbeebmeab
