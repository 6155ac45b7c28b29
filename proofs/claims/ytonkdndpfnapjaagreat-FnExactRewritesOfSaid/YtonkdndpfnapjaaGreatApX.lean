/-
  Several texts in one: RwL, ApA, ApB, ApC.
-/
import Derived.Test.YtonkdndpfnapjaaGreatRwThree
namespace Go.Proofs.YtonkdndpfnapjaaGreat
open Go.ChangeShapes Go.WideShapes Go.ChangeAt Go.RowKit Go.Sort
set_option linter.unusedVariables false

/-! ### ranks -/
/-- each node has a higher rank than those it waits for -/
def Ranked (nodes : List NodeD) (ρ : Int → Nat) : Prop := ∀ j : Int, 0 ≤ j → j < (nodes.length : Int) → ∀ s ∈ waits (nodeAt nodes j), ρ s < ρ j
def OutRank (nodes : List NodeD) (out : List Int) : Prop := ∃ ρ : Int → Nat, (∀ o ∈ out, ρ o < out.length) ∧ ∀ o ∈ out, ∀ s ∈ waits (nodeAt nodes o), s ∈ out ∧ ρ s < ρ o
theorem outRank_snoc {nodes : List NodeD} {out : List Int} {i : Nat} (h : OutRank nodes out) (hr : rdy nodes out i = true) : OutRank nodes (out ++ [(i : Int)]) := by
  obtain ⟨ρ, h1, h2⟩ := h
  have hf := rdy_free hr
  have hni : (i : Int) ∉ out := by simpa using hf
  unfold rdy at hr
  simp only [Bool.and_eq_true, List.all_eq_true] at hr
  have hw : ∀ s ∈ waits (nodeAt nodes (i : Int)), s ∈ out := fun s hs => by simpa using hr.2 s hs
  refine ⟨fun o => if o = (i : Int) then out.length else ρ o, fun o ho => ?_, fun o ho s hs => ?_⟩
  · rw [List.length_append, List.length_singleton]
    dsimp only
    rcases List.mem_append.1 ho with ho | ho
    · split
      · omega
      · have := h1 o ho; omega
    · rw [if_pos (List.mem_singleton.1 ho)]; omega
  · dsimp only
    rcases List.mem_append.1 ho with ho | ho
    · obtain ⟨a, b⟩ := h2 o ho s hs
      have e1 : s ≠ (i : Int) := fun e => hni (e ▸ a)
      have e2 : o ≠ (i : Int) := fun e => hni (e ▸ ho)
      refine ⟨List.mem_append.2 (.inl a), ?_⟩
      rw [if_neg e1, if_neg e2]; exact b
    · obtain rfl := List.mem_singleton.1 ho
      have a := hw s hs
      have e1 : s ≠ (i : Int) := fun e => hni (e ▸ a)
      refine ⟨List.mem_append.2 (.inl a), ?_⟩
      rw [if_neg e1, if_pos rfl]; exact h1 s a
theorem ord_rank {nodes : List NodeD} : ∀ (f : Nat) (out : List Int), OutRank nodes out → OutRank nodes (ord nodes f out)
  | 0, _, h => h
  | f + 1, out, h => by
    rcases e : nxt nodes out 0 nodes.length with _ | i
    · rw [ord_none e]; exact h
    · rw [ord_some e]; exact ord_rank f _ (outRank_snoc h (nxt_some e).2.2)
theorem ok_all {x : PatchD} (h : okB x = true) {i : Nat} (hi : i < x.nodes.length) : (i : Int) ∈ orderL x.nodes := by
  have hl := (okB_len h).2.1
  have hf := ord_free (nodes := x.nodes) x.nodes.length []
  rw [free_nil] at hf
  have hO : orderL x.nodes = ord x.nodes x.nodes.length [] := rfl
  rw [← hO] at hf
  have h0 : free (orderL x.nodes) x.nodes.length = 0 := by simp at hf; omega
  have hc : (orderL x.nodes).contains (i : Int) = true := by
    cases hc : (orderL x.nodes).contains (i : Int)
    · have := free_pos hc hi; omega
    · rfl
  simpa using hc
theorem okB_ranked {x : PatchD} (h : okB x = true) : ∃ ρ, Ranked x.nodes ρ ∧ ∀ j, ρ j ≤ 24 := by
  obtain ⟨ρ, h1, h2⟩ := ord_rank (nodes := x.nodes) x.nodes.length [] ⟨fun _ => 0, by simp, by simp⟩
  have hl := okB_len h
  refine ⟨fun j => if (orderL x.nodes).contains j then ρ j else 0, fun j h0 hj s hs => ?_, fun j => ?_⟩
  · obtain ⟨k, rfl⟩ := Int.eq_ofNat_of_zero_le h0
    have hm := ok_all h (i := k) (by omega)
    obtain ⟨a, b⟩ := h2 _ hm s hs
    have a' : s ∈ orderL x.nodes := a
    dsimp only
    rw [if_pos (by simpa using a'), if_pos (by simpa using hm)]; exact b
  · dsimp only
    split
    · rename_i hc
      have e1 := h1 j (by simpa [orderL] using hc)
      have e2 : (ord x.nodes x.nodes.length []).length = x.nodes.length := hl.2.1
      have e3 := hl.2.2
      omega
    · omega
theorem nxt_none {nodes : List NodeD} {out : List Int} : ∀ {m k : Nat}, nxt nodes out k m = none → ∀ i, k ≤ i → i < k + m → rdy nodes out i = false
  | 0, _, _, i, h1, h2 => by omega
  | m + 1, k, h, i, h1, h2 => by
    unfold nxt at h
    split at h
    · cases h
    · rename_i hk
      rcases Nat.lt_or_ge k i with hlt | hge
      · exact nxt_none h i hlt (by omega)
      · obtain rfl : k = i := by omega
        simpa using hk
theorem ord_stop {nodes : List NodeD} : ∀ (f : Nat) (out : List Int), nxt nodes (ord nodes f out) 0 nodes.length = none ∨ (ord nodes f out).length = out.length + f
  | 0, out => .inr rfl
  | f + 1, out => by
    rcases e : nxt nodes out 0 nodes.length with _ | i
    · rw [ord_none e]; exact .inl e
    · rw [ord_some e]
      rcases ord_stop f (out ++ [(i : Int)]) with h | h
      · exact .inl h
      · right
        rw [h, List.length_append, List.length_singleton]; omega
theorem free_zero {out : List Int} : ∀ n : Nat, (∀ i : Nat, i < n → out.contains (i : Int) = true) → free out n = 0
  | 0, _ => rfl
  | n + 1, h => by
    rw [free, free_zero n fun i hi => h i (by omega), h n (by omega)]; rfl
theorem ranked_okB {x : PatchD} {ρ : Int → Nat} (hf : formedB x = true) (hr : Ranked x.nodes ρ) : okB x = true := by
  have key : (orderL x.nodes).length = x.nodes.length := by
    have hfr := ord_free (nodes := x.nodes) x.nodes.length []
    rw [free_nil] at hfr
    rcases ord_stop (nodes := x.nodes) x.nodes.length [] with h | h
    · have hall : ∀ m i : Nat, i < x.nodes.length → ρ (i : Int) = m → (ord x.nodes x.nodes.length []).contains (i : Int) = true := by
        intro m
        induction m using Nat.strongRecOn with
        | _ m ih =>
          intro i hi hm
          cases hc : (ord x.nodes x.nodes.length []).contains (i : Int)
          · exfalso
            have hrd := nxt_none h i (Nat.zero_le _) (by omega)
            unfold rdy at hrd
            rw [hc] at hrd
            have hw : (waits (x.nodes.getD i ⟨0, 0, 0, []⟩)).all (fun f => (ord x.nodes x.nodes.length []).contains f) = true := List.all_eq_true.2 fun s hs => by
              have hs0 : s ∈ waits (nodeAt x.nodes (i : Int)) := hs
              have rng := nodeAt_src hf (by omega) (by omega) s (waits_src hs0)
              obtain ⟨k, rfl⟩ := Int.eq_ofNat_of_zero_le rng.1
              have hlt := hr (i : Int) (by omega) (by omega) _ hs0
              rw [hm] at hlt
              exact ih _ hlt k (by omega) rfl
            rw [hw] at hrd
            cases hrd
          · rfl
      have h0 := free_zero (out := ord x.nodes x.nodes.length []) x.nodes.length fun i hi => hall _ i hi rfl
      have hO : orderL x.nodes = ord x.nodes x.nodes.length [] := rfl
      rw [hO]
      simp only [List.length_nil] at hfr
      omega
    · simpa [orderL] using h
  unfold okB
  rw [hf, Bool.true_and]; exact decide_eq_true key

/-! ### what is needed -/
theorem need_shut {x : PatchD} (hf : formedB x = true) : ∀ j ∈ need x, ∀ s ∈ (nodeAt x.nodes j).src, s ∈ need x := fun j hj s hs => by
  have M := marksL_end (formed_src hf) (formed_outs hf)
  obtain ⟨h0, h1, h2⟩ := mem_ups.1 hj
  have hr := nodeAt_src hf h0 h1 s hs
  exact mem_ups.2 ⟨hr.1, hr.2, M.shut j h0 h1 h2 s hs⟩
theorem need_outs {x : PatchD} (hf : formedB x = true) : ∀ j ∈ x.outputs, j ∈ need x := fun j hj => by
  have M := marksL_end (formed_src hf) (formed_outs hf)
  have hr := formed_outs hf j hj
  exact mem_ups.2 ⟨hr.1, hr.2, M.todo j hj⟩
theorem need_least {x : PatchD} (hf : formedB x = true) (S : Int → Prop) (hs : ∀ j, 0 ≤ j → j < (x.nodes.length : Int) → S j → ∀ s ∈ (nodeAt x.nodes j).src, S s) (ho : ∀ j ∈ x.outputs, S j) : ∀ j ∈ need x, S j := fun j hj => by
  have M := marksL_end (formed_src hf) (formed_outs hf)
  obtain ⟨h0, h1, h2⟩ := mem_ups.1 hj
  exact M.least S hs (fun j _ _ h => absurd h (mk_none _ _)) ho j h0 h1 h2

/-! ### the measure -/
def cost (ρ : Int → Nat) (n : NodeD) : Nat := if n.kind = 2 then 1 else if n.kind = 5 then 2 + ρ (n.src.getD 0 0) else if n.kind = 9 then 30 else if n.kind = 6 then 2 + (16 - n.a).toNat else 2
theorem cost_pos (ρ : Int → Nat) (n : NodeD) : 1 ≤ cost ρ n := by unfold cost; (repeat' split) <;> omega
theorem cost_two {ρ : Int → Nat} {n : NodeD} (h : n.kind ≠ 2) : 2 ≤ cost ρ n := by unfold cost; rw [if_neg h]; (repeat' split) <;> omega
def sumN (f : Nat → Nat) : Nat → Nat
  | 0 => 0
  | n + 1 => sumN f n + f n
theorem sumN_le {f g : Nat → Nat} : ∀ n : Nat, (∀ j, j < n → f j ≤ g j) → sumN f n ≤ sumN g n
  | 0, _ => Nat.le_refl _
  | n + 1, h => Nat.add_le_add (sumN_le n fun j hj => h j (by omega)) (h n (by omega))
theorem sumN_lt {f g : Nat → Nat} {i : Nat} : ∀ n : Nat, i < n → (∀ j, j < n → f j ≤ g j) → f i < g i → sumN f n < sumN g n
  | 0, h, _, _ => by omega
  | n + 1, hi, h, hlt => by
    rw [sumN, sumN]
    rcases Nat.lt_or_ge i n with h1 | h1
    · have e1 := sumN_lt n h1 (fun j hj => h j (by omega)) hlt
      have e2 := h n (by omega)
      omega
    · obtain rfl : i = n := by omega
      have e1 := sumN_le i fun j hj => h j (by omega)
      omega
def mass (ρ : Int → Nat) (x : PatchD) : Nat := sumN (fun j => if (need x).contains (j : Int) then cost ρ (nodeAt x.nodes (j : Int)) else 0) x.nodes.length
/-- so many rewrites are left at most -/
def Fuel (x : PatchD) (N : Nat) : Prop := ∃ ρ, Ranked x.nodes ρ ∧ (∀ j, ρ j ≤ 24) ∧ mass ρ x ≤ N
theorem fuel_some {x : PatchD} (h : okB x = true) : ∃ N, Fuel x N := by
  obtain ⟨ρ, h1, h2⟩ := okB_ranked h
  exact ⟨_, ρ, h1, h2, Nat.le_refl _⟩
theorem mass_lt {ρ ρ' : Int → Nat} {x y : PatchD} {i : Int} (hl : y.nodes.length = x.nodes.length) (hi : i ∈ need x) (hsub : ∀ j ∈ need y, j ∈ need x) (hle : ∀ j ∈ need y, cost ρ' (nodeAt y.nodes j) ≤ cost ρ (nodeAt x.nodes j)) (hlt : i ∈ need y → cost ρ' (nodeAt y.nodes i) < cost ρ (nodeAt x.nodes i)) :
    mass ρ' y < mass ρ x := by
  obtain ⟨h0, h1⟩ := need_rng i hi
  obtain ⟨k, rfl⟩ := Int.eq_ofNat_of_zero_le h0
  unfold mass
  rw [hl]
  refine sumN_lt (i := k) _ (by omega) (fun j hj => ?_) ?_
  · by_cases hy : (j : Int) ∈ need y
    · rw [if_pos (by simpa using hy), if_pos (by simpa using hsub _ hy)]; exact hle _ hy
    · rw [if_neg (by simpa using hy)]; omega
  · rw [if_pos (c := (need x).contains _ = true) (by simpa using hi)]
    by_cases hy : (k : Int) ∈ need y
    · rw [if_pos (by simpa using hy)]; exact hlt hy
    · rw [if_neg (by simpa using hy)]; exact cost_pos _ _

/-! ### a node is put in the place of another -/
theorem nodeAt_set {nodes : List NodeD} {n : NodeD} {i j : Int} (h0 : 0 ≤ i) (h1 : i < (nodes.length : Int)) (hj : 0 ≤ j) : nodeAt (nodes.set i.toNat n) j = if j = i then n else nodeAt nodes j := by
  unfold nodeAt
  rw [List.getD_eq_getElem?_getD, List.getD_eq_getElem?_getD, List.getElem?_set]
  by_cases e : j = i
  · subst e
    rw [if_pos rfl, if_pos rfl, if_pos (by omega)]; rfl
  · rw [if_neg e, if_neg (by omega)]
theorem set_step {x : PatchD} {i : Int} {n : NodeD} {ρ : Int → Nat} (hf : formedB x = true) (hi : i ∈ need x) (hnd : ndB x.inputs x.tables.length x.nodes.length n = true) (hsub : ∀ s ∈ n.src, s ∈ need x) (hR : Ranked x.nodes ρ) (hw : ∀ s ∈ waits n, ρ s < ρ i)
    (hc : cost ρ n < cost ρ (nodeAt x.nodes i)) : formedB (setN x i n) = true ∧ Ranked (setN x i n).nodes ρ ∧ mass ρ (setN x i n) < mass ρ x := by
  obtain ⟨h0, h1⟩ := need_rng i hi
  have hl : (setN x i n).nodes.length = x.nodes.length := List.length_set
  have hF : formedB (setN x i n) = true := by
    obtain ⟨f1, f2, f3, f4, f5, f6⟩ := formed_iff.1 hf
    refine formed_iff.2 ⟨f1, f2, by rw [hl]; exact f3, f4, fun y hy => ?_, fun f h => ?_⟩
    · rw [hl]
      rcases List.mem_or_eq_of_mem_set hy with h | h
      · exact f5 y h
      · rw [h]; exact hnd
    · rw [hl]; exact f6 f h
  have hat : ∀ j, 0 ≤ j → nodeAt (setN x i n).nodes j = if j = i then n else nodeAt x.nodes j := fun j hj => nodeAt_set h0 h1 hj
  have hsubN : ∀ j ∈ need (setN x i n), j ∈ need x := need_least hF (· ∈ need x) (fun j hj0 hj1 hj s hs => by
    rw [hat j hj0] at hs
    split at hs
    · exact hsub s hs
    · exact need_shut hf j hj s hs) (need_outs hf)
  refine ⟨hF, fun j hj0 hj1 s hs => ?_, mass_lt hl hi hsubN (fun j hj => ?_) fun _ => ?_⟩
  · rw [hat j hj0] at hs
    split at hs
    · rename_i e; rw [e]; exact hw s hs
    · exact hR j hj0 (by rw [hl] at hj1; exact hj1) s hs
  · rw [hat j (need_rng j hj).1]
    split
    · rename_i e; rw [e]; omega
    · exact Nat.le_refl _
  · rw [hat i h0, if_pos rfl]; exact hc

/-! ### a node is used in the place of another -/
def swapN (i b : Int) (n : NodeD) : NodeD := { n with src := swapL i b n.src }
theorem nodeAt_repl (x : PatchD) (i b j : Int) : nodeAt (replP x i b).nodes j = swapN i b (nodeAt x.nodes j) := by
  unfold nodeAt replP
  rw [List.getD_eq_getElem?_getD, List.getD_eq_getElem?_getD, List.getElem?_map]
  rcases x.nodes[j.toNat]? with _ | y <;> rfl
theorem mem_swapL {i b s : Int} {l : List Int} (h : s ∈ swapL i b l) : (s = b ∧ i ∈ l) ∨ (s ∈ l ∧ s ≠ i) := by
  obtain ⟨t, ht, rfl⟩ := List.mem_map.1 h
  split
  · rename_i e; exact .inl ⟨rfl, e ▸ ht⟩
  · rename_i e; exact .inr ⟨ht, e⟩
theorem waits_swap (i b : Int) (n : NodeD) : waits (swapN i b n) = swapL i b (waits n) := by
  unfold waits swapN
  dsimp only
  split <;> rfl
theorem repl_step {x : PatchD} {i b : Int} {ρ ρ' : Int → Nat} (hf : formedB x = true) (hi : i ∈ need x) (hb : b ∈ need x) (hne : b ≠ i) (hR : Ranked x.nodes ρ) (hle : ∀ j, ρ' j ≤ ρ j) (hbi : ρ' b ≤ ρ i) (hbb : ∀ s ∈ waits (nodeAt x.nodes b), ρ s < ρ' b) (heq : ∀ j, j ≠ b → ρ' j = ρ j) :
    formedB (replP x i b) = true ∧ Ranked (replP x i b).nodes ρ' ∧ mass ρ' (replP x i b) < mass ρ x := by
  have hl : (replP x i b).nodes.length = x.nodes.length := List.length_map _
  have rb := need_rng b hb
  have hF : formedB (replP x i b) = true := by
    obtain ⟨f1, f2, f3, f4, f5, f6⟩ := formed_iff.1 hf
    refine formed_iff.2 ⟨f1, f2, by rw [hl]; exact f3, by show (swapL i b x.outputs).length ≤ 4; unfold swapL; rw [List.length_map]; exact f4, fun y hy => ?_, fun f h => ?_⟩
    · rw [hl]
      obtain ⟨z, hz, rfl⟩ := List.mem_map.1 hy
      have e := f5 z hz
      unfold ndB nodeB at e ⊢
      simp only [Bool.and_eq_true, List.all_eq_true, inB_iff] at e ⊢
      obtain ⟨⟨⟨⟨⟨⟨e1, e2⟩, e3⟩, e4⟩, e5⟩, e6⟩, e7⟩ := e
      refine ⟨⟨⟨⟨⟨⟨e1, e2⟩, fun s hs => ?_⟩, ?_⟩, e5⟩, e6⟩, fun s hs => ?_⟩
      · rcases mem_swapL hs with ⟨rfl, -⟩ | ⟨h, -⟩
        · omega
        · exact e3 s h
      · unfold swapL; rw [List.length_map]; exact e4
      · rcases mem_swapL hs with ⟨rfl, -⟩ | ⟨h, -⟩
        · omega
        · exact e7 s h
    · rw [hl]
      rcases mem_swapL h with ⟨rfl, -⟩ | ⟨h, -⟩
      · exact rb
      · exact f6 f h
  have hsubN : ∀ j ∈ need (replP x i b), j ∈ need x ∧ j ≠ i := need_least hF (fun j => j ∈ need x ∧ j ≠ i) (fun j hj0 hj1 hj s hs => by
    rw [nodeAt_repl] at hs
    rcases mem_swapL hs with ⟨rfl, -⟩ | ⟨h, h'⟩
    · exact ⟨hb, hne⟩
    · exact ⟨need_shut hf j hj.1 s h, h'⟩) (fun j hj => by
    rcases mem_swapL hj with ⟨rfl, -⟩ | ⟨h, h'⟩
    · exact ⟨hb, hne⟩
    · exact ⟨need_outs hf j h, h'⟩)
  refine ⟨hF, fun j hj0 hj1 s hs => ?_, mass_lt hl hi (fun j hj => (hsubN j hj).1) (fun j hj => ?_) fun h => absurd rfl (hsubN i h).2⟩
  · rw [hl] at hj1
    rw [nodeAt_repl, waits_swap] at hs
    by_cases e : j = b
    · subst e
      rcases mem_swapL hs with ⟨rfl, h⟩ | ⟨h, h'⟩
      · have := hbb i h; omega
      · have := hbb s h; have := hle s; omega
    · rw [heq j e]
      rcases mem_swapL hs with ⟨rfl, h⟩ | ⟨h, h'⟩
      · have := hR j hj0 hj1 i h; omega
      · have := hR j hj0 hj1 s h; have := hle s; omega
  · rw [nodeAt_repl]
    unfold cost swapN
    dsimp only
    repeat' split
    all_goals first | omega | skip
    rw [show (swapL i b (nodeAt x.nodes j).src).getD 0 0 = if (nodeAt x.nodes j).src = [] then 0 else if (nodeAt x.nodes j).src.getD 0 0 = i then b else (nodeAt x.nodes j).src.getD 0 0 from by
      unfold swapL
      rcases (nodeAt x.nodes j).src with _ | ⟨y, ys⟩ <;> simp]
    split
    · rename_i e
      rw [e]
      exact Nat.add_le_add_left (hle 0) _
    · split
      · rename_i e; rw [e]; omega
      · have := hle ((nodeAt x.nodes j).src.getD 0 0); omega

/-! ### each rule -/
theorem outP_smp {x : NodeD} {tb : List (List Int)} {xs ss : List Int} (ok : OutOk x tb xs ss) (hk : x.kind ∈ foldL) (ht : ∀ t ∈ tb, ∀ y ∈ t, -2147483648 ≤ y ∧ y ≤ 2147483647) : -2147483648 ≤ outP x tb xs ss ∧ outP x tb xs ss ≤ 2147483647 := by
  have hx : ∀ k, -2147483648 ≤ xs.getD k 0 ∧ xs.getD k 0 ≤ 2147483647 := fun k => by
    rcases Nat.lt_or_ge k xs.length with h | h
    · exact ok.smps _ (getD_mem h)
    · rw [List.getD_eq_getElem?_getD, List.getElem?_eq_none h]; decide
  have h0 := hx 0
  have h1 := hx 1
  have h2 := hx 2
  unfold outP
  simp only [foldL, List.mem_cons, List.not_mem_nil, or_false] at hk
  rcases hk with e | e | e | e | e | e | e | e <;> rw [e]
  · exact smp_bounds _
  · exact smp_bounds _
  · exact smp_bounds _
  · exact smp_bounds _
  · show -2147483648 ≤ xs.getD 0 0 / 2 ^ x.a.toNat ∧ xs.getD 0 0 / 2 ^ x.a.toNat ≤ 2147483647
    have hd : (1 : Int) ≤ 2 ^ x.a.toNat := Int.pow_pos (by decide)
    generalize (2 : Int) ^ x.a.toNat = d at hd
    generalize xs.getD 0 0 = y at h0
    constructor
    · refine (Int.le_ediv_iff_mul_le (by omega)).2 ?_
      omega
    · refine Int.ediv_le_of_le_mul (by omega) ?_
      omega
  · have hc := ok.clip e
    show -2147483648 ≤ max (-x.a) (min (xs.getD 0 0) x.a) ∧ max (-x.a) (min (xs.getD 0 0) x.a) ≤ 2147483647
    omega
  · show -2147483648 ≤ lookP (tb.getD x.a.toNat []) (xs.getD 0 0) ∧ lookP (tb.getD x.a.toNat []) (xs.getD 0 0) ≤ 2147483647
    have hc := ok.tab e
    have hm : tb.getD x.a.toNat [] ∈ tb := by
      rw [List.getD_eq_getElem?_getD, List.getElem?_eq_getElem (by omega)]
      exact List.getElem_mem _
    unfold lookP
    generalize (((tb.getD x.a.toNat []).length : Int) * (xs.getD 0 0 % 4294967296) / 4294967296).toNat = k
    rcases Nat.lt_or_ge k (tb.getD x.a.toNat []).length with h | h
    · exact ht _ hm _ (getD_mem h)
    · rw [List.getD_eq_getElem?_getD, List.getElem?_eq_none h]; decide
  · show -2147483648 ≤ (if 0 ≤ xs.getD 0 0 then xs.getD 1 0 else xs.getD 2 0) ∧ (if 0 ≤ xs.getD 0 0 then xs.getD 1 0 else xs.getD 2 0) ≤ 2147483647
    split <;> assumption
theorem tables_smp {x : PatchD} (hf : formedB x = true) : ∀ t ∈ x.tables, ∀ y ∈ t, -2147483648 ≤ y ∧ y ≤ 2147483647 := fun t ht y hy => by
  have h := (formed_iff.1 hf).2.1
  unfold tablesB at h
  simp only [Bool.and_eq_true, List.all_eq_true] at h
  have h1 := h.1 t ht
  unfold tblB at h1
  simp only [Bool.and_eq_true, List.all_eq_true] at h1
  have h2 := h1.2 y hy
  unfold isSmp at h2
  rwa [inB_iff] at h2
theorem nd_const {m t n v : Int} (h : -2147483648 ≤ v ∧ v ≤ 2147483647) : ndB m t n ⟨2, v, 0, []⟩ = true := by
  unfold ndB
  rw [nodeB_split]
  have e : aB 2 v t = true := by
    unfold aB
    rw [if_neg (by decide), if_pos (by decide)]
    exact inB_true h
  simp only [e, List.all_nil, Bool.and_true, Bool.true_and]
  rfl
theorem nd_gain {m t n v s : Int} (h : -2147483648 ≤ v ∧ v ≤ 2147483647) (hs : 0 ≤ s ∧ s < n) (hn : n ≤ 24) : ndB m t n ⟨5, v, 0, [s]⟩ = true := by
  unfold ndB
  rw [nodeB_split]
  have e : aB 5 v t = true := by
    unfold aB
    rw [if_neg (by decide), if_pos (by decide)]
    exact inB_true h
  have e1 : inB s 0 23 = true := inB_true (by omega)
  have e2 : inB s 0 (n - 1) = true := inB_true (by omega)
  simp only [e, e1, e2, List.all_cons, List.all_nil, Bool.and_true, Bool.true_and]
  rfl
theorem nd_delay {m t n v s : Int} (h : 1 ≤ v ∧ v ≤ 16) (hs : 0 ≤ s ∧ s < n) (hn : n ≤ 24) : ndB m t n ⟨6, v, 0, [s]⟩ = true := by
  unfold ndB
  rw [nodeB_split]
  have e : aB 6 v t = true := by
    unfold aB
    rw [if_neg (by decide), if_pos (by decide)]
    exact inB_true h
  have e1 : inB s 0 23 = true := inB_true (by omega)
  have e2 : inB s 0 (n - 1) = true := inB_true (by omega)
  simp only [e, e1, e2, List.all_cons, List.all_nil, Bool.and_true, Bool.true_and]
  rfl
/-- a node with one input -/
theorem one_src {x : PatchD} (hf : formedB x = true) {i : Int} (h0 : 0 ≤ i) (h1 : i < (x.nodes.length : Int)) (hk : (nodeAt x.nodes i).kind = 5 ∨ (nodeAt x.nodes i).kind = 6) : (nodeAt x.nodes i).src = [inp x i 0] := by
  have h := (nodeB_ar (nodeAt_ok hf h0 h1)).2
  have hl : (nodeAt x.nodes i).src.length = 1 := by
    rcases hk with e | e
    · rw [e] at h
      have : kAr (5 - 1 : Int).toNat = 1 := rfl
      omega
    · rw [e] at h
      have : kAr (6 - 1 : Int).toNat = 1 := rfl
      omega
  unfold inp
  generalize (nodeAt x.nodes i).src = l at hl
  match l, hl with
  | [y], _ => rfl
theorem inp_mem {x : PatchD} (hf : formedB x = true) {i : Int} (h0 : 0 ≤ i) (h1 : i < (x.nodes.length : Int)) {k : Nat} (hk : (k : Int) < kAr ((nodeAt x.nodes i).kind - 1).toNat) : inp x i k ∈ (nodeAt x.nodes i).src := by
  have h := (nodeB_ar (nodeAt_ok hf h0 h1)).2
  exact getD_mem (by omega)
theorem waits_of {n : NodeD} {s : Int} (hk : n.kind ≠ 6) (h : s ∈ n.src) : s ∈ waits n := by
  unfold waits; rw [if_neg hk]; exact h
theorem same_mem {x : PatchD} (hf : formedB x = true) {i : Int} (h0 : 0 ≤ i) (h1 : i < (x.nodes.length : Int)) (hs : 0 ≤ sameI x i) : (nodeAt x.nodes i).kind ≠ 6 ∧ sameI x i ∈ (nodeAt x.nodes i).src := by
  have m0 := fun h => inp_mem hf h0 h1 (k := 0) h
  have m1 := fun h => inp_mem hf h0 h1 (k := 1) h
  have m2 := fun h => inp_mem hf h0 h1 (k := 2) h
  unfold sameI sameK at hs ⊢
  generalize (nodeAt x.nodes i).kind = k at *
  by_cases k5 : k = 5
  · subst k5
    rw [if_pos rfl] at hs ⊢
    split at hs
    · rename_i h; rw [if_pos h]; exact ⟨by decide, m0 (by decide)⟩
    · omega
  rw [if_neg k5] at hs ⊢
  by_cases k10 : k = 10
  · subst k10
    rw [if_pos rfl] at hs ⊢
    split at hs
    · rename_i h; rw [if_pos h]; exact ⟨by decide, m0 (by decide)⟩
    · omega
  rw [if_neg k10] at hs ⊢
  by_cases k3 : k = 3
  · subst k3
    rw [if_pos rfl] at hs ⊢
    refine ⟨by decide, ?_⟩
    split at hs
    · rename_i h; rw [if_pos h]; exact m1 (by decide)
    · rename_i h
      rw [if_neg h]
      split at hs
      · rename_i h'; rw [if_pos h']; exact m0 (by decide)
      · omega
  rw [if_neg k3] at hs ⊢
  by_cases k4 : k = 4
  · subst k4
    rw [if_pos rfl] at hs ⊢
    split at hs
    · rename_i h; rw [if_pos h]; exact ⟨by decide, m0 (by decide)⟩
    · omega
  rw [if_neg k4] at hs ⊢
  by_cases k16 : k = 16
  · subst k16
    rw [if_pos rfl] at hs ⊢
    split at hs
    · rename_i h; rw [if_pos h]; exact ⟨by decide, m0 (by decide)⟩
    · omega
  rw [if_neg k16] at hs ⊢
  by_cases k15 : k = 15
  · subst k15
    rw [if_pos rfl] at hs ⊢
    refine ⟨by decide, ?_⟩
    split at hs
    · rename_i h; rw [if_pos h]; exact m1 (by decide)
    · rename_i h
      rw [if_neg h]
      split at hs
      · rename_i h'; rw [if_pos h']; exact m2 (by decide)
      · omega
  rw [if_neg k15] at hs
  omega
theorem zero_kind {x : PatchD} {i : Int} (h : zeroB x i = true) : (nodeAt x.nodes i).kind ≠ 2 := by
  intro e
  unfold zeroB zeroK at h
  rw [e] at h
  simp at h
theorem rule_cases {x : PatchD} {i : Int} (h : ruleP x i ≠ 0) : i ∈ need x ∧ ((ruleP x i = 1 ∧ constB x i = true) ∨ (ruleP x i = 2 ∧ zeroB x i = true) ∨ (ruleP x i = 3 ∧ 0 ≤ sameI x i) ∨ (ruleP x i = 4 ∧ factB x i = true) ∨ (ruleP x i = 5 ∧ joinOk x i 5 = true) ∨ (ruleP x i = 6 ∧ joinOk x i 6 = true) ∨ (ruleP x i = 7 ∧ 0 ≤ twinI x i)) := by
  refine ⟨ruleP_need h, ?_⟩
  unfold ruleP at h ⊢
  split at h
  case isFalse => exact absurd rfl h
  case isTrue hc =>
    simp only [hc, if_true]
    cases h1 : constB x i
    case true => simp
    cases h2 : zeroB x i
    case true => simp
    by_cases h3 : 0 ≤ sameI x i
    · simp [h3]
    cases h4 : factB x i
    case true => simp [h3]
    cases h5 : joinOk x i 5
    case true => simp [h3]
    cases h6 : joinOk x i 6
    case true => simp [h3]
    by_cases h7 : 0 ≤ twinI x i
    · simp [h3, h7]
    · rw [h1, h2, h4, h5, h6] at h
      simp [h3, h7] at h
/-- a rewrite keeps the patch valid and eats fuel -/
theorem rewrite_step {x : PatchD} {i : Int} {N : Nat} (h : okB x = true) (hr : ruleP x i ≠ 0) (hN : Fuel x N) : okB (afterP x i (ruleP x i)) = true ∧ ∃ M, M < N ∧ Fuel (afterP x i (ruleP x i)) M := by
  obtain ⟨ρ, hR, h24, hm⟩ := hN
  have hf := okB_formed h
  have hn24 := (formed_iff.1 hf).2.2.1
  obtain ⟨hi, hc⟩ := rule_cases hr
  obtain ⟨h0, h1⟩ := need_rng i hi
  have fin : ∀ (y : PatchD) (ρ' : Int → Nat), (∀ j, ρ' j ≤ 24) → formedB y = true ∧ Ranked y.nodes ρ' ∧ mass ρ' y < mass ρ x → okB y = true ∧ ∃ M, M < N ∧ Fuel y M := fun y ρ' hb hy =>
    ⟨ranked_okB hy.1 hy.2.1, mass ρ' y, by omega, ρ', hy.2.1, hb, Nat.le_refl _⟩
  have hsh := need_shut hf i hi
  have hno := nodeAt_ok hf h0 h1
  rcases hc with ⟨e, hc⟩ | ⟨e, hc⟩ | ⟨e, hc⟩ | ⟨e, hc⟩ | ⟨e, hc⟩ | ⟨e, hc⟩ | ⟨e, hc⟩ <;> rw [e]
  · rw [show afterP x i 1 = setN x i ⟨2, constV x i, 0, []⟩ from rfl]
    have hk : (nodeAt x.nodes i).kind ∈ foldL := by
      unfold constB at hc
      rw [Bool.and_eq_true] at hc
      simpa using hc.1
    refine fin _ ρ h24 (set_step hf hi (nd_const (outP_smp (const_ok hf h0 h1 hc).1 hk (tables_smp hf))) (by simp) hR (by simp [waits]) ?_)
    refine Nat.lt_of_lt_of_le (by decide : 1 < 2) (cost_two fun e2 => ?_)
    rw [e2] at hk
    exact absurd hk (by decide)
  · rw [show afterP x i 2 = setN x i ⟨2, 0, 0, []⟩ from rfl]
    refine fin _ ρ h24 (set_step hf hi (nd_const (by decide)) (by simp) hR (by simp [waits]) ?_)
    exact Nat.lt_of_lt_of_le (by decide : 1 < 2) (cost_two (zero_kind hc))
  · rw [show afterP x i 3 = replP x i (sameI x i) from rfl]
    obtain ⟨hk, hs⟩ := same_mem hf h0 h1 hc
    have hlt := hR i h0 h1 _ (waits_of hk hs)
    have hb := hsh _ hs
    refine fin _ ρ h24 (repl_step hf hi hb (fun e2 => ?_) hR (fun _ => Nat.le_refl _) (by omega) (fun s hs' => hR _ (need_rng _ hb).1 (need_rng _ hb).2 s hs') fun _ _ => rfl)
    rw [e2] at hlt; omega
  · rw [show afterP x i 4 = setN x i (factN x i) from rfl]
    unfold factB at hc
    rw [Bool.and_eq_true, beq_iff_eq] at hc
    have m0 := inp_mem hf h0 h1 (k := 0) (by rw [hc.1]; decide)
    have m1 := inp_mem hf h0 h1 (k := 1) (by rw [hc.1]; decide)
    have r0 := need_rng _ (hsh _ m0)
    have r1 := need_rng _ (hsh _ m1)
    have hk6 : (nodeAt x.nodes i).kind ≠ 6 := by rw [hc.1]; decide
    have c9 : cost ρ (nodeAt x.nodes i) = 30 := by unfold cost; rw [hc.1]; rfl
    unfold factN
    split
    · refine fin _ ρ h24 (set_step hf hi (nd_gain (nodeB_a (nodeAt_ok hf r0.1 r0.2)) r1 (by omega)) (fun s hs => ?_) hR (fun s hs => ?_) ?_)
      · obtain rfl := List.mem_singleton.1 hs; exact hsh _ m1
      · obtain rfl : s = inp x i 1 := by simpa [waits] using hs
        exact hR i h0 h1 _ (waits_of hk6 m1)
      · rw [c9]
        have := h24 (inp x i 1)
        show 2 + ρ (inp x i 1) < 30
        omega
    · refine fin _ ρ h24 (set_step hf hi (nd_gain (nodeB_a (nodeAt_ok hf r1.1 r1.2)) r0 (by omega)) (fun s hs => ?_) hR (fun s hs => ?_) ?_)
      · obtain rfl := List.mem_singleton.1 hs; exact hsh _ m0
      · obtain rfl : s = inp x i 0 := by simpa [waits] using hs
        exact hR i h0 h1 _ (waits_of hk6 m0)
      · rw [c9]
        have := h24 (inp x i 0)
        show 2 + ρ (inp x i 0) < 30
        omega
  · rw [show afterP x i 5 = setN x i (joinN x i 5) from rfl]
    unfold joinOk joinB at hc
    simp only [Bool.and_eq_true, beq_iff_eq] at hc
    obtain ⟨⟨⟨k1, k2⟩, -⟩, -⟩ := hc
    have s1 := one_src hf h0 h1 (.inl k1)
    have m0 : inp x i 0 ∈ (nodeAt x.nodes i).src := by rw [s1]; simp
    have hb := hsh _ m0
    have r0 := need_rng _ hb
    have s2 := one_src hf r0.1 r0.2 (.inl k2)
    have m2 : inp x (inp x i 0) 0 ∈ (nodeAt x.nodes (inp x i 0)).src := by rw [s2]; simp
    have hb2 := need_shut hf _ hb _ m2
    have l1 := hR i h0 h1 _ (waits_of (by rw [k1]; decide) m0)
    have l2 := hR _ r0.1 r0.2 _ (waits_of (n := nodeAt x.nodes (inp x i 0)) (by show (frm x i 0).kind ≠ 6; rw [k2]; decide) m2)
    have eN : joinN x i 5 = ⟨5, joinA x i 5, 0, [inp x (inp x i 0) 0]⟩ := by unfold joinN; rw [show (frm x i 0).src = [inp x (inp x i 0) 0] from s2]
    rw [eN]
    refine fin _ ρ h24 (set_step hf hi (nd_gain ?_ (need_rng _ hb2) (by omega)) (fun s hs => ?_) hR (fun s hs => ?_) ?_)
    · unfold joinA; rw [if_pos rfl]; exact smp_bounds _
    · obtain rfl := List.mem_singleton.1 hs; exact hb2
    · obtain rfl : s = inp x (inp x i 0) 0 := by simpa [waits] using hs
      omega
    · have : cost ρ (nodeAt x.nodes i) = 2 + ρ (inp x i 0) := by unfold cost; rw [k1]; rfl
      rw [this]
      show 2 + ρ (inp x (inp x i 0) 0) < 2 + ρ (inp x i 0)
      omega
  · rw [show afterP x i 6 = setN x i (joinN x i 6) from rfl]
    unfold joinOk joinB at hc
    simp only [Bool.and_eq_true, beq_iff_eq, Bool.or_eq_true, decide_eq_true_eq] at hc
    obtain ⟨⟨⟨k1, k2⟩, -⟩, hA⟩ := hc
    have hA : joinA x i 6 ≤ 16 := by rcases hA with h | h <;> omega
    have s1 := one_src hf h0 h1 (.inr k1)
    have m0 : inp x i 0 ∈ (nodeAt x.nodes i).src := by rw [s1]; simp
    have hb := hsh _ m0
    have r0 := need_rng _ hb
    have s2 := one_src hf r0.1 r0.2 (.inr k2)
    have m2 : inp x (inp x i 0) 0 ∈ (nodeAt x.nodes (inp x i 0)).src := by rw [s2]; simp
    have hb2 := need_shut hf _ hb _ m2
    have da : ∀ j, 0 ≤ j → j < (x.nodes.length : Int) → (nodeAt x.nodes j).kind = 6 → 1 ≤ (nodeAt x.nodes j).a ∧ (nodeAt x.nodes j).a ≤ 16 := fun j j0 j1 hk => by
      have hq := nodeAt_ok hf j0 j1
      rw [nodeB_split] at hq
      simp only [Bool.and_eq_true] at hq
      have h2 := hq.2.1
      rw [hk] at h2
      have : inB (nodeAt x.nodes j).a 1 16 = true := h2
      rwa [inB_iff] at this
    have a1 := da i h0 h1 k1
    have a2 : 1 ≤ (frm x i 0).a ∧ (frm x i 0).a ≤ 16 := da _ r0.1 r0.2 k2
    have eA : joinA x i 6 = (nodeAt x.nodes i).a + (frm x i 0).a := by unfold joinA; rw [if_neg (by decide)]
    have eN : joinN x i 6 = ⟨6, joinA x i 6, 0, [inp x (inp x i 0) 0]⟩ := by unfold joinN; rw [show (frm x i 0).src = [inp x (inp x i 0) 0] from s2]
    rw [eN]
    refine fin _ ρ h24 (set_step hf hi (nd_delay ?_ (need_rng _ hb2) (by omega)) (fun s hs => ?_) hR (by simp [waits]) ?_)
    · omega
    · obtain rfl := List.mem_singleton.1 hs; exact hb2
    · have : cost ρ (nodeAt x.nodes i) = 2 + (16 - (nodeAt x.nodes i).a).toNat := by unfold cost; rw [k1]; rfl
      rw [this]
      show 2 + (16 - joinA x i 6).toNat < 2 + (16 - (nodeAt x.nodes i).a).toNat
      omega
  · rw [show afterP x i 7 = replP x i (twinI x i) from rfl]
    have hq : twinI x i ∈ need x ∧ twinI x i < i ∧ nodeAt x.nodes (twinI x i) = nodeAt x.nodes i := by
      unfold twinI at hc ⊢
      rcases hq : (need x).find? (fun k => decide (k < i) && decide (nodeAt x.nodes k = nodeAt x.nodes i)) with _ | k
      · rw [hq] at hc
        exact absurd hc (by decide)
      · have e1 := List.find?_some hq
        have e2 := List.mem_of_find?_eq_some hq
        simp only [Bool.and_eq_true, decide_eq_true_eq] at e1
        exact ⟨e2, e1⟩
    generalize twinI x i = b at hq
    obtain ⟨hb, hlt, he⟩ := hq
    have rb := need_rng b hb
    refine fin _ (fun j => if j = b then min (ρ b) (ρ i) else ρ j) (fun j => ?_) (repl_step hf hi hb (by omega) hR (fun j => ?_) ?_ (fun s hs => ?_) fun j hj => if_neg hj)
    · have := h24 j
      have := h24 b
      split <;> omega
    · split
      · rename_i e2; rw [e2]; omega
      · exact Nat.le_refl _
    · rw [if_pos rfl]; omega
    · rw [if_pos rfl]
      have l1 := hR b rb.1 rb.2 s hs
      rw [he] at hs
      have l2 := hR i h0 h1 s hs
      omega
end Go.Proofs.YtonkdndpfnapjaaGreat

namespace Go.Proofs.YtonkdndpfnapjaaGreat
open Go.ChangeShapes Go.WideShapes Go.ChangeAt Go.RowKit Go.Sort
set_option linter.unusedVariables false

set_option maxHeartbeats 4000000 in
set_option maxRecDepth 100000 in
theorem l10Swap_any {B : Nat} {u : Value} {xs : List Int} {i y : Int} (w : World) (ho : OwnI B w u xs) (hl : xs.length ≤ 1000) :
    Calls Tryz.prog 104 #[u, .int .i64 i, .int .i64 y] w fun e w' => e = .returned (.tuple #[]) ∧ OwnI B w' u (swapL i y xs) ∧ Off (fun b => u.ownBlock = some b) w w' := by
  obtain ⟨p, c, rfl, -⟩ := ho.rd
  go_enter Tryz.func104, Tryz.ntmps104
  go_wp2_with fail
  go_loopw [6] (fun ci wr => ∃ k : Nat, k ≤ xs.length ∧ ci = .int .i64 k ∧ OwnI B wr (.slice p xs.length c) (swapL i y (xs.take k) ++ xs.drop k) ∧ Off (fun b => (Value.slice p xs.length c).ownBlock = some b) w wr) (fun ci _ => xs.length - (intOf ci).toNat)
  case atStart => exact ⟨0, Nat.zero_le _, rfl, by simpa [swapL] using ho, Off.refl _ _⟩
  case round =>
    obtain ⟨k, hk, rfl, hown, hof⟩ := hrel
    obtain ⟨wi, rfl⟩ : ∃ wi : World, wi = wr := ⟨_, rfl⟩
    by_cases hlt : k < xs.length
    · have hml : (swapL i y (xs.take k) ++ xs.drop k).length = xs.length := by rw [List.length_append, swapL_len, List.length_take, List.length_drop]; omega
      have hkm : k < (swapL i y (xs.take k) ++ xs.drop k).length := by rw [hml]; exact hlt
      rcases hown.cases with ⟨-, hnil⟩ | ⟨g, cap, e, hB, hgl, -, -⟩
      · rw [hnil] at hkm; simp at hkm
      · simp only [Value.slice.injEq] at e
        obtain ⟨rfl, -, rfl⟩ := e
        obtain ⟨-, -, -, hck, hfr, hst⟩ := hown.storing hkm
        rw [swap_mix_get hlt] at hck
        have hst1 := Lib.hid (hst y)
        have SK := Lib.hid (swap_mix_keep (i := i) (y := y) hlt)
        have SS := Lib.hid (swap_mix_set (i := i) (y := y) hlt)
        have HO : Hid (∀ v, Off (fun b => (Value.slice (some ⟨g, 0, none⟩) xs.length c).ownBlock = some b) w (wi.setCell ⟨g, k, none⟩ v)) := fun v =>
          hof.trans ⟨rfl, rfl, rfl, by simp, fun j hj hn => Below.heap_setCell _ _ _ _ fun e => hn (by rw [e]; rfl)⟩
        have HOF := Lib.hid hof
        have HOWN := Lib.hid hown
        clear hst hof hown
        generalize xs[k] = z at *
        clear hml hkm
        by_cases hz : z = i
        · have q : (z == i) = true := by rw [beq_iff_eq]; exact hz
          have S1 := SS.out hz
          have S2 := Lib.hid S1
          clear hz S1 SK SS
          go_wp2_with fail
          go_roundw
          case rel => exact ⟨k + 1, by omega, by go_num, by rw [S2.out]; exact hst1.out, HO.out _⟩
          case measure => simp [intOf] <;> omega
        · have q : (z == i) = false := by rw [beq_eq_false_iff_ne]; exact hz
          have S1 := SK.out hz
          have S2 := Lib.hid S1
          clear hz S1 SK SS
          go_wp2_with fail
          go_roundw
          case rel => exact ⟨k + 1, by omega, by go_num, by rw [S2.out]; exact HOWN.out, HOF.out⟩
          case measure => simp [intOf] <;> omega
    · obtain rfl : k = xs.length := by omega
      rw [List.take_length, List.drop_length, List.append_nil] at hown
      go_wp2_with fail
      go_end0
      exact ⟨rfl, hown, hof⟩
set_option maxHeartbeats 8000000 in
set_option maxRecDepth 100000 in
theorem l10Replace_any {B gp : Nat} {inp i y : Int} {v1 v2 v3 : Value} {ts : List (List Int)} {ns : List NodeD} {os : List Int} {L1 L : List Value} (w : World) (bx : Box w gp [.int .i64 inp, v1, v2, v3] 32) (ho : OwnP B w v1 v2 v3 ts ns os L1 L)
    (hn24 : ns.length ≤ 24) (hs : ∀ n ∈ ns, n.src.length ≤ 1000) (hos : os.length ≤ 1000) (hBs : B ≤ w.heap.size) :
    Calls Tryz.prog 72 #[.pointer (some ⟨gp, 0, none⟩), .int .i64 i, .int .i64 y] w fun e w' => e = .returned (.tuple #[]) ∧ OwnP B w' v1 v2 v3 ts (ns.map (fun n => { n with src := swapL i y n.src })) (swapL i y os) L1 L ∧ Box w' gp [.int .i64 inp, v1, v2, v3] 32 ∧ Below B w w' := by
  obtain ⟨qa, da, ea⟩ := ho.o1.sl'
  obtain ⟨qb, db, eb, -⟩ := ho.o3.rd
  obtain ⟨qc, dc, ec⟩ := ho.o2.sl
  subst ea eb ec
  have hl1 := ho.o2.1
  go_enter Tryz.func72, Tryz.ntmps72
  go_wp2_with fail
  go_loopw [6] (fun ci wr => ∃ k : Nat, k ≤ ns.length ∧ ci = .int .i64 k ∧ OwnP B wr (.slice qa L1.length da) (.slice qc ns.length dc) (.slice qb os.length db) ts (mixN i y ns k) os L1 L ∧ Box wr gp [.int .i64 inp, .slice qa L1.length da, .slice qc ns.length dc, .slice qb os.length db] 32 ∧ Below B w wr) (fun ci _ => ns.length - (intOf ci).toNat)
  case atStart => exact ⟨0, Nat.zero_le _, rfl, by simpa [mixN] using ho, bx, Below.refl _ _⟩
  case round =>
    obtain ⟨k, hk, rfl, hop, bow, hbel⟩ := hrel
    obtain ⟨wi, rfl⟩ : ∃ wi : World, wi = wr := ⟨_, rfl⟩
    clear ho bx
    by_cases hlt : k < ns.length
    · have hml : k < (mixN i y ns k).length := by rw [mixN_len _ _ _ hk]; exact hlt
      have hkL : k < L.length := by rw [hop.o2.1]; exact hml
      rcases hop.o2.cases with ⟨-, hn0, -⟩ | ⟨mg, mc, e, hmB, hmgl, -, hc⟩
      · rw [hn0] at hml; simp at hml
      simp only [Value.slice.injEq] at e
      obtain ⟨rfl, -, rfl⟩ := e
      obtain ⟨z0, z1, z2, z3⟩ := hc k hml hkL
      obtain ⟨hL', hu⟩ := hop.s2.at_ (i := k) (by rw [List.length_map]; exact hml)
      rw [List.getElem_map] at hu
      rw [mixN_get hlt hml] at z0 z1 z2 hu
      have hsl := hs _ (List.getElem_mem hlt)
      have MS := Lib.hid (mixN_step (i := i) (y := y) hlt)
      generalize ns[k] = n at *
      obtain ⟨uq, ud, hur, -⟩ := hu.rd
      rw [hur] at z3
      have hge : ∀ j, L[k].ownBlock = some j → B ≤ j := fun j hj => (hu.lt hj).1
      have SW := Lib.hid (l10Swap_any (i := i) (y := y) wi hu hsl)
      rw [hur] at SW
      have NB := Lib.hid (hop.neBox bow patchT).2.2
      have HUR := Lib.hid hur
      have SA := Lib.hid (fun w' (h1 : OwnI B w' L[k] (swapL i y n.src)) (h2 : Off (fun b => L[k].ownBlock = some b) wi w') => hop.swapAt hml hkL h1 h2)
      have HMEM : Hid (L[k] ∈ L) := List.getElem_mem hkL
      have l2 := bow.cell 2 rfl
      clear hop hu hc hur z0 z1 z2
      go_wp2_with fail
      refine SW.out.mono ?_
      rintro e W2 ⟨rfl, h1, h2⟩
      rw [← HUR.out] at h1 h2
      have hop2 := SA.out W2 h1 h2
      have bow2 : Box W2 gp _ _ := bow.off h2 fun e => NB.out (blk_append.2 (.inr (blk_append.2 (.inl ⟨L[k], HMEM.out, e⟩))))
      have hb2 : Below B w W2 := ⟨h2.os.trans hbel.os, h2.tape.trans hbel.tape, h2.output.trans hbel.output, Nat.le_trans hbel.size h2.size, fun j hj => (h2.block j (Nat.lt_of_lt_of_le hj (Nat.le_trans hBs hbel.size)) fun e => by have := hge j e; omega).trans (hbel.block j hj)⟩
      rw [← MS.out] at hop2
      have HOP2 := Lib.hid hop2
      clear h1 h2 hop2 SA bow
      go_wp2_with fail
      go_roundw
      case rel => exact ⟨k + 1, by omega, by go_num, HOP2.out, bow2, hb2⟩
      case measure => simp [intOf] <;> omega
    · obtain rfl : k = ns.length := by omega
      have hmix : mixN i y ns ns.length = ns.map (fun n => { n with src := swapL i y n.src }) := by unfold mixN; rw [List.take_length, List.drop_length, List.append_nil]
      rw [hmix] at hop
      have l2 := bow.cell 2 rfl
      have l3 := bow.cell 3 rfl
      have hge : ∀ j, (Value.slice qb os.length db).ownBlock = some j → B ≤ j := fun j hj => (hop.o3.lt hj).1
      have SW := Lib.hid (l10Swap_any (i := i) (y := y) wi hop.o3 hos)
      have SA := Lib.hid (fun w' h1 (h2 : Off (fun b => (Value.slice qb os.length db).ownBlock = some b) wi w') => hop.swapOut (w' := w') (ys := swapL i y os) h1 h2)
      have NB := Lib.hid (hop.neBox bow patchT).2.2
      clear hop hmix
      go_wp2_with fail
      refine SW.out.mono ?_
      rintro e W2 ⟨rfl, h1, h2⟩
      have hop2 := SA.out W2 h1 h2
      have bow2 := bow.off h2 fun e => NB.out (blk_append.2 (.inr (blk_append.2 (.inr (Blk.one.2 e)))))
      have hb2 : Below B w W2 := ⟨h2.os.trans hbel.os, h2.tape.trans hbel.tape, h2.output.trans hbel.output, Nat.le_trans hbel.size h2.size, fun j hj => (h2.block j (Nat.lt_of_lt_of_le hj (Nat.le_trans hBs hbel.size)) fun e => by have := hge j e; omega).trans (hbel.block j hj)⟩
      have HH := Lib.hid (And.intro hop2 (And.intro bow2 hb2))
      clear h1 h2 SA l2 l3 hop2 bow2 hb2
      go_wp2_with fail
      go_end0
      exact ⟨rfl, HH.out⟩
set_option maxHeartbeats 8000000 in
set_option maxRecDepth 100000 in
theorem l10Value_x {x : PatchD} {gp i : Nat} (w : World) (h : PPatch w gp x) (hf : formedB x = true) (hi : i < x.nodes.length) (hc : constB x (i : Int) = true) :
    Calls Tryz.prog 71 #[.pointer (some ⟨gp, 0, none⟩), .int .i64 (i : Int)] w fun e w' => e = .returned (.int .i64 (constV x (i : Int))) ∧ Below w.heap.size w w' := by
  obtain ⟨b, o, c2, hp2, NS⟩ := SPat.of h hi
  obtain ⟨p1, c1, p2', c2', p3, c3, bx, RT, -, -⟩ := h
  have t1 := bx.cell 1 rfl
  have OKC := (const_ok hf (i := (i : Int)) (by omega) (by omega) hc).1
  have hn := NS i hi
  have hok := nodeAt_ok hf (i := (i : Int)) (by omega) (by omega)
  have hN3 := src_le3 hok
  have OUT : Hid (∀ W p c, Below w.heap.size w W → RdI W p (constIn x (i : Int)) → Calls Tryz.prog 103 #[.pointer (some ⟨b, o + i * 4, none⟩), .slice p1 x.tables.length c1, .slice p (constIn x (i : Int)).length c, .slice none 0 0] W
      fun e w' => e = .returned (.int .i64 (constV x (i : Int))) ∧ Below W.heap.size W w') := fun W p c hW hp =>
    l06Out_any (ps := none) (cs := 0) (ss := []) W (hn.below hW) (RT.below hW) hp (RdI.nil W none) OKC
  have HCI : Hid ((constIn x (i : Int)).length = (nodeAt x.nodes (i : Int)).src.length) := by unfold Hid constIn; rw [List.length_map]
  have HCS : Hid (∀ k (hk : k < (nodeAt x.nodes (i : Int)).src.length), (constIn x (i : Int)).take (k + 1) = (constIn x (i : Int)).take k ++ [(nodeAt x.nodes (nodeAt x.nodes (i : Int)).src[k]).a]) := fun k hk => by
    have e : (constIn x (i : Int))[k]? = some (nodeAt x.nodes (nodeAt x.nodes (i : Int)).src[k]).a := by
      unfold constIn
      rw [List.getElem?_map, List.getElem?_eq_getElem hk]; rfl
    rw [List.take_add_one, e]; rfl
  have HCT : Hid ((constIn x (i : Int)).take (nodeAt x.nodes (i : Int)).src.length = constIn x (i : Int)) := List.take_of_length_le (Nat.le_of_eq HCI.out)
  have HRG : Hid (∀ k (hk : k < (nodeAt x.nodes (i : Int)).src.length), 0 ≤ (nodeAt x.nodes (i : Int)).src[k] ∧ (nodeAt x.nodes (i : Int)).src[k] < (x.nodes.length : Int)) := fun k hk => nodeAt_src hf (by omega) (by omega) _ (List.getElem_mem hk)
  obtain ⟨-, -, -, q, d, y3, hr⟩ := hn
  have hlt0 := World.block_lt_of_cell? w _ hp2
  have hltb := World.block_lt_of_cell? w _ y3
  clear hok bx OKC hc
  generalize (nodeAt x.nodes (i : Int)).src = SR at *
  have h0 := OwnI.lit (B := w.heap.size) w [] (Nat.le_refl _) (by simp [maxLen])
  have hCl : ∀ k, ((constIn x (i : Int)).take k).length ≤ 3 := fun k => by rw [List.length_take]; have := HCI.out; omega
  generalize constV x (i : Int) = CV at *
  generalize constIn x (i : Int) = CI at *
  go_enter Tryz.func71, Tryz.ntmps71
  go_wp2_with fail
  go_loopw [6, 7] (fun v ci wr => ∃ k : Nat, k ≤ SR.length ∧ ci = .int .i64 k ∧ OwnI w.heap.size wr v (CI.take k) ∧ Below w.heap.size w wr) (fun _ ci _ => SR.length - (intOf ci).toNat)
  case atStart => exact ⟨0, Nat.zero_le _, rfl, by simpa using h0, (Below.refl _ _).alloc (Nat.le_refl _) _⟩
  case round =>
    obtain ⟨k, hk, rfl, hown, hbel⟩ := hrel
    clear h0
    obtain ⟨wo, rfl⟩ : ∃ wo : World, wo = wr := ⟨_, rfl⟩
    have z2 := (hbel.cell (p := ⟨gp, 2, none⟩) hlt0).trans hp2
    have z3 := (hbel.cell (p := ⟨b, o + i * 4 + 3, none⟩) hltb).trans y3
    have z1 := (hbel.cell (p := ⟨gp, 1, none⟩) hlt0).trans t1
    by_cases hlt : k < SR.length
    · obtain ⟨b', o', rfl, hb1, hcq⟩ := (hr.below hbel).pos hlt
      have hck := hcq k hlt
      obtain ⟨r0, r1⟩ := HRG.out k hlt
      have hst := Lib.hid (HCS.out k hlt)
      obtain ⟨m, hm⟩ := Int.eq_ofNat_of_zero_le r0
      rw [hm] at hck r1 hst
      have hml : m < x.nodes.length := by omega
      obtain ⟨-, ya, -, -⟩ := NS m hml
      have za := (hbel.cell (p := ⟨b, o + m * 4 + 1, none⟩) hltb).trans ya
      generalize (nodeAt x.nodes (m : Int)).a = A at za hst
      have hlen : (CI.take k).length < 17592186044415 := by have := hCl k; omega
      generalize CI.take k = T at hown hst hlen
      have hsz := hbel.size
      have hsz' : w.heap.size ≤ wo.drew.heap.size := hsz
      have hkz : (0 : Int) ≤ (k : Int) := by omega
      have hkl : (k : Int) < (SR.length : Int) := by omega
      have hkw : IntKind.i64.wrap (k : Int) = (k : Int) := IntWalk.i64_in _ (by omega)
      have hmz : (0 : Int) ≤ (m : Int) := by omega
      clear hcq hm ya r0
      go_wp2_with fail
      go_region_law (first | (refine step_append_drew rfl _ _ rfl rfl hown rfl hlen hsz ?_; intro q2 k2 w2 ho2 o1 o2 o3 hs2 hk2) | fail)
      all_goals
        have hbf : Below w.heap.size w w2 := hbel.trans ⟨o1.symm, o2.symm, o3.symm, hs2, fun b hb => hk2 b (Nat.lt_of_lt_of_le hb hsz) fun e => by have := (hown.lt e).1; omega⟩
        have HO := Lib.hid ho2
        have HB := Lib.hid hbf
        clear ho2 o1 o2 o3 hs2 hk2 hbf
        go_wp2_with fail
        go_roundw
        case rel => exact ⟨k + 1, by omega, by go_num, by rw [hst.out]; exact HO.out, HB.out⟩
        case measure => simp [intOf] <;> omega
    · obtain rfl : k = SR.length := by omega
      rw [HCT.out] at hown
      obtain ⟨qu, cu, rfl, hru⟩ := hown.rd
      have K := Lib.hid (OUT.out wo qu cu hbel hru)
      have HB := Lib.hid hbel
      clear hown hru hbel
      go_wp2_with fail
      refine K.out.mono ?_
      rintro e W2 ⟨rfl, hb2⟩
      go_wp2_with fail
      go_ret
      exact ⟨rfl, HB.out.trans (hb2.mono HB.out.size)⟩
end Go.Proofs.YtonkdndpfnapjaaGreat

namespace Go.Proofs.YtonkdndpfnapjaaGreat
open Go.ChangeShapes Go.WideShapes Go.ChangeAt Go.RowKit Go.Sort
set_option linter.unusedVariables false

set_option maxHeartbeats 8000000 in
set_option maxRecDepth 100000 in
theorem l10Apply_const {x : PatchD} {gp i : Nat} (w : World) (h : PPatch w gp x) (hok : okB x = true) (hi : i < x.nodes.length) (hc : constB x (i : Int) = true) :
    Calls Tryz.prog 41 #[.pointer (some ⟨gp, 0, none⟩), .int .i64 1, .int .i64 (i : Int)] w (RetP0 w (setN x (i : Int) ⟨2, constV x (i : Int), 0, []⟩)) := by
  have hf := okB_formed hok
  have hn24 := (formed_iff.1 hf).2.2.1
  have sm := formed_small hf
  obtain ⟨b, o, c2, SP⟩ := SPat.of h hi
  obtain ⟨g, hg⟩ : ∃ g, g = w.heap.size := ⟨_, rfl⟩
  obtain ⟨E, hE⟩ : ∃ E, E = w.alloc (.cells #[.int .i64 0, .slice none 0 0, .slice none 0 0, .slice none 0 0] 32) := ⟨_, rfl⟩
  have hB0 : Below w.heap.size w E := by rw [hE]; exact (Below.refl _ _).alloc (Nat.le_refl _) _
  have br : Box E g zPatch 32 := by rw [hE, hg]; exact Box.newAt w _ _ rfl
  have hgw : w.heap.size ≤ g := by omega
  have hp0 := h.below hB0
  have SP0 := SP.below hB0
  have OWN := Lib.hid (l07Own_any E hp0 sm)
  have HE := Lib.hid hE
  have HG := Lib.hid hg
  clear hE hg h SP
  have VAL := Lib.hid (fun W (hW : Below E.heap.size E W) => l10Value_x W (hp0.below hW) hf hi hc)
  clear hc
  generalize constV x (i : Int) = cv at *
  go_enter Tryz.func41, Tryz.ntmps41
  go_upto_region 1 with fail
  rw [← HE.out, ← HG.out]
  go_wp2_with fail
  refine OWN.out.mono ?_
  rintro e W1 ⟨w1, w2, w3, L1, L, rfl, ho, hb1⟩
  obtain ⟨qa, da, ea⟩ := ho.o1.sl'
  obtain ⟨qb, db, eb, -⟩ := ho.o3.rd
  subst ea eb
  rcases ho.o2.cases with ⟨-, hn0, -⟩ | ⟨mg, mc, rfl, hmB, hml, -, hcn⟩
  · rw [hn0] at hi; simp at hi
  obtain ⟨V, hV⟩ : ∃ V, V = W1.alloc (.cells #[.int .i64 x.inputs, .slice qa L1.length da, .slice (some ⟨mg, 0, none⟩) x.nodes.length mc, .slice qb x.outputs.length db] 32) := ⟨_, rfl⟩
  have d2 : Below W1.heap.size W1 V := by rw [hV]; exact (Below.refl _ _).alloc (Nat.le_refl _) _
  have bo : Box V W1.heap.size [.int .i64 x.inputs, .slice qa L1.length da, .slice (some ⟨mg, 0, none⟩) x.nodes.length mc, .slice qb x.outputs.length db] 32 := by rw [hV]; exact Box.newAt W1 _ _ rfl
  obtain ⟨so, hso⟩ : ∃ so, so = W1.heap.size := ⟨_, rfl⟩
  rw [← hso] at bo
  have eV : Below E.heap.size E V := hb1.trans (d2.mono hb1.size)
  have hoV := ho.below d2
  have hiL : i < L.length := by rw [ho.o2.1]; exact hi
  obtain ⟨t0, t1, t2, t3⟩ := hcn i hi hiL
  have z0 := (d2.cell (p := ⟨mg, i * 4, none⟩) hml).trans t0
  have z1 := (d2.cell (p := ⟨mg, i * 4 + 1, none⟩) hml).trans t1
  have z2 := (d2.cell (p := ⟨mg, i * 4 + 2, none⟩) hml).trans t2
  have z3 := (d2.cell (p := ⟨mg, i * 4 + 3, none⟩) hml).trans t3
  have HV := Lib.hid hV
  have HSO := Lib.hid hso
  clear hV hso hcn d2 ho t0 t1 t2 t3
  have o2 := bo.cell 2 rfl
  have VV := Lib.hid (VAL.out V eV)
  go_upto_region 2 with fail
  rw [← HV.out, ← HSO.out]
  go_wp2_with fail
  refine VV.out.mono ?_
  rintro e W2 ⟨rfl, hb2⟩
  have hs := OwnI.lit (B := E.heap.size) W2 [] (Nat.le_trans eV.size hb2.size) (by simp [maxLen])
  have hs' := OwnI.lit (B := W2.heap.size) W2 [] (Nat.le_refl _) (by simp [maxLen])
  obtain ⟨F, hF⟩ : ∃ F, F = W2.alloc (.cells #[] 2) := ⟨_, rfl⟩
  have dF : Below W2.heap.size W2 F := by rw [hF]; exact (Below.refl _ _).alloc (Nat.le_refl _) _
  have hsF : OwnI E.heap.size F (.slice (some ⟨W2.heap.size, 0, none⟩) 0 0) [] := by rw [hF]; exact hs
  have hsF' : OwnI W2.heap.size F (.slice (some ⟨W2.heap.size, 0, none⟩) 0 0) [] := by rw [hF]; exact hs'
  have ho2 := hoV.below hb2
  have HF := Lib.hid hF
  clear hs hs' hF hoV o2 z0 z1 z2 z3
  have hoF := ho2.below dF
  have boF := (bo.below hb2).below dF
  have SN := hoF.setNode hi ⟨2, cv, 0, []⟩ (s := .slice (some ⟨W2.heap.size, 0, none⟩) 0 0) hsF (fun b hb hbk => by have h1 := (hsF'.lt hb).1; have h2 := (ho2.blk hbk).2; omega)
  obtain ⟨-, -, hmgl, ⟨u0, u1, u2, u3, g0, g1, g2, g3⟩, hfr, -⟩ := ho2.o2.storing hi
  have f0 := hfr (i * 4)
  have f1 := hfr (i * 4 + 1)
  have f2 := hfr (i * 4 + 2)
  have f3 := hfr (i * 4 + 3)
  have hne := hoF.neBox boF patchT
  have hmso : so ≠ mg := fun e => hne.2.1 (by rw [e]; rfl)
  have eF := (eV.trans (hb2.mono eV.size)).trans (dF.mono (Nat.le_trans eV.size hb2.size))
  have brF := br.below eF
  have hnr := hoF.neBox brF patchT
  have hmr : g ≠ mg := fun e => hnr.2.1 (by rw [e]; rfl)
  have k2 := hB0.trans (eF.mono hB0.size)
  obtain ⟨W3, hW3⟩ : ∃ W3, W3 = ((((F.setCell ⟨mg, i * 4, none⟩ (.int .i64 2)).setCell ⟨mg, i * 4 + 1, none⟩ (.int .i64 cv)).setCell ⟨mg, i * 4 + 2, none⟩ (.int .i64 0)).setCell ⟨mg, i * 4 + 3, none⟩ (.slice (some ⟨W2.heap.size, 0, none⟩) 0 0)) := ⟨_, rfl⟩
  rw [← hW3] at SN
  have b3 : Box W3 so [.int .i64 x.inputs, .slice qa L1.length da, .slice (some ⟨mg, 0, none⟩) x.nodes.length mc, .slice qb x.outputs.length db] 32 := by
    rw [hW3]; exact (((boF.other (by exact hmso) _).other (by exact hmso) _).other (by exact hmso) _).other (by exact hmso) _
  have r3 : Box W3 g zPatch 32 := by
    rw [hW3]; exact (((brF.other (by exact hmr) _).other (by exact hmr) _).other (by exact hmr) _).other (by exact hmr) _
  have k3 : Below w.heap.size w W3 := by
    have hm : w.heap.size ≤ mg := Nat.le_trans hB0.size hmB
    rw [hW3]
    exact (((k2.setCell (p := ⟨mg, i * 4, none⟩) hm _).setCell (p := ⟨mg, i * 4 + 1, none⟩) hm _).setCell (p := ⟨mg, i * 4 + 2, none⟩) hm _).setCell (p := ⟨mg, i * 4 + 3, none⟩) hm _
  have hcomm : W3 = ((((W2.setCell ⟨mg, i * 4, none⟩ (.int .i64 2)).setCell ⟨mg, i * 4 + 1, none⟩ (.int .i64 cv)).setCell ⟨mg, i * 4 + 2, none⟩ (.int .i64 0)).setCell ⟨mg, i * 4 + 3, none⟩ (.slice (some ⟨W2.heap.size, 0, none⟩) 0 0)).alloc (.cells #[] 2) := by
    rw [hW3, HF.out]
    rw [World.setCell_alloc_past _ _ _ _ hmgl, World.setCell_alloc_past _ _ _ _ (by simpa using hmgl), World.setCell_alloc_past _ _ _ _ (by simpa using hmgl), World.setCell_alloc_past _ _ _ _ (by simpa using hmgl)]
  have HW3 := Lib.hid hcomm
  clear hcomm hW3 hfr hnr hne hoF ho2 boF
  go_upto_region 24 with fail
  rw [← HW3.out]
  clear g0 g1 g2 g3 f0 f1 f2 f3
  have y0 := b3.cell 0 rfl
  have y1 := b3.cell 1 rfl
  have y2 := b3.cell 2 rfl
  have y3 := b3.cell 3 rfl
  have j0 := r3.frozen 0
  have j1 := r3.frozen 1
  have j2 := r3.frozen 2
  have j3 := r3.frozen 3
  have i0 := r3.cell 0 rfl
  have i1 := r3.cell 1 rfl
  have i2 := r3.cell 2 rfl
  have i3 := r3.cell 3 rfl
  obtain ⟨W9, hW9, b9, o9, l9⟩ := put_patch (inp := x.inputs) r3 SN k3 hgw
  have q0 := b9.cell 0 rfl
  have q1 := b9.cell 1 rfl
  have q2 := b9.cell 2 rfl
  have q3 := b9.cell 3 rfl
  have O9 := Lib.hid (o9.mono hB0.size)
  have L9 := Lib.hid l9
  have H9 := Lib.hid hW9
  clear hW9 o9 l9 b9 SN k3
  go_wp2_with fail
  rw [← H9.out]
  refine bodyPost_ret (v := .agg #[.int .i64 x.inputs, .slice qa L1.length da, .slice (some ⟨mg, 0, none⟩) x.nodes.length mc, .slice qb x.outputs.length db]) (by simp [results, Tryz.results41, go_sem, *]) rfl ?_
  exact ⟨_, _, _, _, _, rfl, by simpa [setN] using O9.out, L9.out⟩
set_option maxHeartbeats 8000000 in
set_option maxRecDepth 100000 in
theorem l10Apply_zero {x : PatchD} {gp i : Nat} (w : World) (h : PPatch w gp x) (hok : okB x = true) (hi : i < x.nodes.length) :
    Calls Tryz.prog 41 #[.pointer (some ⟨gp, 0, none⟩), .int .i64 2, .int .i64 (i : Int)] w (RetP0 w (setN x (i : Int) ⟨2, 0, 0, []⟩)) := by
  have hf := okB_formed hok
  have hn24 := (formed_iff.1 hf).2.2.1
  have sm := formed_small hf
  obtain ⟨b, o, c2, SP⟩ := SPat.of h hi
  obtain ⟨g, hg⟩ : ∃ g, g = w.heap.size := ⟨_, rfl⟩
  obtain ⟨E, hE⟩ : ∃ E, E = w.alloc (.cells #[.int .i64 0, .slice none 0 0, .slice none 0 0, .slice none 0 0] 32) := ⟨_, rfl⟩
  have hB0 : Below w.heap.size w E := by rw [hE]; exact (Below.refl _ _).alloc (Nat.le_refl _) _
  have br : Box E g zPatch 32 := by rw [hE, hg]; exact Box.newAt w _ _ rfl
  have hgw : w.heap.size ≤ g := by omega
  have hp0 := h.below hB0
  have SP0 := SP.below hB0
  have OWN := Lib.hid (l07Own_any E hp0 sm)
  have HE := Lib.hid hE
  have HG := Lib.hid hg
  clear hE hg h SP
  go_enter Tryz.func41, Tryz.ntmps41
  go_upto_region 1 with fail
  rw [← HE.out, ← HG.out]
  go_wp2_with fail
  refine OWN.out.mono ?_
  rintro e W1 ⟨w1, w2, w3, L1, L, rfl, ho, hb1⟩
  obtain ⟨qa, da, ea⟩ := ho.o1.sl'
  obtain ⟨qb, db, eb, -⟩ := ho.o3.rd
  subst ea eb
  rcases ho.o2.cases with ⟨-, hn0, -⟩ | ⟨mg, mc, rfl, hmB, hml, -, hcn⟩
  · rw [hn0] at hi; simp at hi
  obtain ⟨V, hV⟩ : ∃ V, V = W1.alloc (.cells #[.int .i64 x.inputs, .slice qa L1.length da, .slice (some ⟨mg, 0, none⟩) x.nodes.length mc, .slice qb x.outputs.length db] 32) := ⟨_, rfl⟩
  have d2 : Below W1.heap.size W1 V := by rw [hV]; exact (Below.refl _ _).alloc (Nat.le_refl _) _
  have bo : Box V W1.heap.size [.int .i64 x.inputs, .slice qa L1.length da, .slice (some ⟨mg, 0, none⟩) x.nodes.length mc, .slice qb x.outputs.length db] 32 := by rw [hV]; exact Box.newAt W1 _ _ rfl
  obtain ⟨so, hso⟩ : ∃ so, so = W1.heap.size := ⟨_, rfl⟩
  rw [← hso] at bo
  have eV : Below E.heap.size E V := hb1.trans (d2.mono hb1.size)
  have hoV := ho.below d2
  have hiL : i < L.length := by rw [ho.o2.1]; exact hi
  obtain ⟨t0, t1, t2, t3⟩ := hcn i hi hiL
  have z0 := (d2.cell (p := ⟨mg, i * 4, none⟩) hml).trans t0
  have z1 := (d2.cell (p := ⟨mg, i * 4 + 1, none⟩) hml).trans t1
  have z2 := (d2.cell (p := ⟨mg, i * 4 + 2, none⟩) hml).trans t2
  have z3 := (d2.cell (p := ⟨mg, i * 4 + 3, none⟩) hml).trans t3
  have HV := Lib.hid hV
  have HSO := Lib.hid hso
  clear hV hso hcn d2 ho t0 t1 t2 t3
  have o2 := bo.cell 2 rfl
  have hs := OwnI.lit (B := E.heap.size) V [] eV.size (by simp [maxLen])
  have hs' := OwnI.lit (B := V.heap.size) V [] (Nat.le_refl _) (by simp [maxLen])
  obtain ⟨F, hF⟩ : ∃ F, F = V.alloc (.cells #[] 2) := ⟨_, rfl⟩
  have dF : Below V.heap.size V F := by rw [hF]; exact (Below.refl _ _).alloc (Nat.le_refl _) _
  have hsF : OwnI E.heap.size F (.slice (some ⟨V.heap.size, 0, none⟩) 0 0) [] := by rw [hF]; exact hs
  have hsF' : OwnI V.heap.size F (.slice (some ⟨V.heap.size, 0, none⟩) 0 0) [] := by rw [hF]; exact hs'
  have HF := Lib.hid hF
  clear hs hs' hF z0 z1 z2 z3
  have hoF := hoV.below dF
  have boF := bo.below dF
  have SN := hoF.setNode hi ⟨2, 0, 0, []⟩ (s := .slice (some ⟨V.heap.size, 0, none⟩) 0 0) hsF (fun b hb hbk => by have h1 := (hsF'.lt hb).1; have h2 := (hoV.blk hbk).2; omega)
  obtain ⟨-, -, hmgl, ⟨u0, u1, u2, u3, g0, g1, g2, g3⟩, hfr, -⟩ := hoV.o2.storing hi
  have f0 := hfr (i * 4)
  have f1 := hfr (i * 4 + 1)
  have f2 := hfr (i * 4 + 2)
  have f3 := hfr (i * 4 + 3)
  have hne := hoF.neBox boF patchT
  have hmso : so ≠ mg := fun e => hne.2.1 (by rw [e]; rfl)
  have eF := eV.trans (dF.mono eV.size)
  have brF := br.below eF
  have hnr := hoF.neBox brF patchT
  have hmr : g ≠ mg := fun e => hnr.2.1 (by rw [e]; rfl)
  have k2 := hB0.trans (eF.mono hB0.size)
  obtain ⟨W3, hW3⟩ : ∃ W3, W3 = ((((F.setCell ⟨mg, i * 4, none⟩ (.int .i64 2)).setCell ⟨mg, i * 4 + 1, none⟩ (.int .i64 0)).setCell ⟨mg, i * 4 + 2, none⟩ (.int .i64 0)).setCell ⟨mg, i * 4 + 3, none⟩ (.slice (some ⟨V.heap.size, 0, none⟩) 0 0)) := ⟨_, rfl⟩
  rw [← hW3] at SN
  have b3 : Box W3 so [.int .i64 x.inputs, .slice qa L1.length da, .slice (some ⟨mg, 0, none⟩) x.nodes.length mc, .slice qb x.outputs.length db] 32 := by
    rw [hW3]; exact (((boF.other (by exact hmso) _).other (by exact hmso) _).other (by exact hmso) _).other (by exact hmso) _
  have r3 : Box W3 g zPatch 32 := by
    rw [hW3]; exact (((brF.other (by exact hmr) _).other (by exact hmr) _).other (by exact hmr) _).other (by exact hmr) _
  have k3 : Below w.heap.size w W3 := by
    have hm : w.heap.size ≤ mg := Nat.le_trans hB0.size hmB
    rw [hW3]
    exact (((k2.setCell (p := ⟨mg, i * 4, none⟩) hm _).setCell (p := ⟨mg, i * 4 + 1, none⟩) hm _).setCell (p := ⟨mg, i * 4 + 2, none⟩) hm _).setCell (p := ⟨mg, i * 4 + 3, none⟩) hm _
  have hcomm : W3 = ((((V.setCell ⟨mg, i * 4, none⟩ (.int .i64 2)).setCell ⟨mg, i * 4 + 1, none⟩ (.int .i64 0)).setCell ⟨mg, i * 4 + 2, none⟩ (.int .i64 0)).setCell ⟨mg, i * 4 + 3, none⟩ (.slice (some ⟨V.heap.size, 0, none⟩) 0 0)).alloc (.cells #[] 2) := by
    rw [hW3, HF.out]
    rw [World.setCell_alloc_past _ _ _ _ hmgl, World.setCell_alloc_past _ _ _ _ (by simpa using hmgl), World.setCell_alloc_past _ _ _ _ (by simpa using hmgl), World.setCell_alloc_past _ _ _ _ (by simpa using hmgl)]
  have HW3 := Lib.hid hcomm
  clear hcomm hW3 hfr hnr hne hoF hoV boF
  go_upto_region 2 with fail
  rw [← HV.out, ← HSO.out]
  go_upto_region 24 with fail
  rw [← HW3.out]
  clear g0 g1 g2 g3 f0 f1 f2 f3 o2
  have y0 := b3.cell 0 rfl
  have y1 := b3.cell 1 rfl
  have y2 := b3.cell 2 rfl
  have y3 := b3.cell 3 rfl
  have j0 := r3.frozen 0
  have j1 := r3.frozen 1
  have j2 := r3.frozen 2
  have j3 := r3.frozen 3
  have i0 := r3.cell 0 rfl
  have i1 := r3.cell 1 rfl
  have i2 := r3.cell 2 rfl
  have i3 := r3.cell 3 rfl
  obtain ⟨W9, hW9, b9, o9, l9⟩ := put_patch (inp := x.inputs) r3 SN k3 hgw
  have q0 := b9.cell 0 rfl
  have q1 := b9.cell 1 rfl
  have q2 := b9.cell 2 rfl
  have q3 := b9.cell 3 rfl
  have O9 := Lib.hid (o9.mono hB0.size)
  have L9 := Lib.hid l9
  have H9 := Lib.hid hW9
  clear hW9 o9 l9 b9 SN k3
  go_wp2_with fail
  rw [← H9.out]
  refine bodyPost_ret (v := .agg #[.int .i64 x.inputs, .slice qa L1.length da, .slice (some ⟨mg, 0, none⟩) x.nodes.length mc, .slice qb x.outputs.length db]) (by simp [results, Tryz.results41, go_sem, *]) rfl ?_
  exact ⟨_, _, _, _, _, rfl, by simpa [setN] using O9.out, L9.out⟩
set_option maxHeartbeats 8000000 in
set_option maxRecDepth 100000 in
theorem l10Apply_same {x : PatchD} {gp i : Nat} (w : World) (h : PPatch w gp x) (hok : okB x = true) (hi : i < x.nodes.length) :
    Calls Tryz.prog 41 #[.pointer (some ⟨gp, 0, none⟩), .int .i64 3, .int .i64 (i : Int)] w (RetP0 w (replP x (i : Int) (sameI x (i : Int)))) := by
  have hf := okB_formed hok
  have hn24 := (formed_iff.1 hf).2.2.1
  have sm := formed_small hf
  obtain ⟨b, o, c2, SP⟩ := SPat.of h hi
  obtain ⟨g, hg⟩ : ∃ g, g = w.heap.size := ⟨_, rfl⟩
  obtain ⟨E, hE⟩ : ∃ E, E = w.alloc (.cells #[.int .i64 0, .slice none 0 0, .slice none 0 0, .slice none 0 0] 32) := ⟨_, rfl⟩
  have hB0 : Below w.heap.size w E := by rw [hE]; exact (Below.refl _ _).alloc (Nat.le_refl _) _
  have br : Box E g zPatch 32 := by rw [hE, hg]; exact Box.newAt w _ _ rfl
  have hgw : w.heap.size ≤ g := by omega
  have hp0 := h.below hB0
  have SP0 := SP.below hB0
  have OWN := Lib.hid (l07Own_any E hp0 sm)
  have HE := Lib.hid hE
  have HG := Lib.hid hg
  clear hE hg h SP
  have SAM := Lib.hid (fun W (hW : Below E.heap.size E W) => l10Same_x W (SP0.below hW) hf hi)
  generalize sameI x (i : Int) = y at *
  go_enter Tryz.func41, Tryz.ntmps41
  go_upto_region 1 with fail
  rw [← HE.out, ← HG.out]
  go_wp2_with fail
  refine OWN.out.mono ?_
  rintro e W1 ⟨w1, w2, w3, L1, L, rfl, ho, hb1⟩
  obtain ⟨qa, da, ea⟩ := ho.o1.sl'
  obtain ⟨qb, db, eb, -⟩ := ho.o3.rd
  subst ea eb
  rcases ho.o2.cases with ⟨-, hn0, -⟩ | ⟨mg, mc, rfl, hmB, hml, -, hcn⟩
  · rw [hn0] at hi; simp at hi
  obtain ⟨V, hV⟩ : ∃ V, V = W1.alloc (.cells #[.int .i64 x.inputs, .slice qa L1.length da, .slice (some ⟨mg, 0, none⟩) x.nodes.length mc, .slice qb x.outputs.length db] 32) := ⟨_, rfl⟩
  have d2 : Below W1.heap.size W1 V := by rw [hV]; exact (Below.refl _ _).alloc (Nat.le_refl _) _
  have bo : Box V W1.heap.size [.int .i64 x.inputs, .slice qa L1.length da, .slice (some ⟨mg, 0, none⟩) x.nodes.length mc, .slice qb x.outputs.length db] 32 := by rw [hV]; exact Box.newAt W1 _ _ rfl
  obtain ⟨so, hso⟩ : ∃ so, so = W1.heap.size := ⟨_, rfl⟩
  rw [← hso] at bo
  have eV : Below E.heap.size E V := hb1.trans (d2.mono hb1.size)
  have hoV := ho.below d2
  have hiL : i < L.length := by rw [ho.o2.1]; exact hi
  obtain ⟨t0, t1, t2, t3⟩ := hcn i hi hiL
  have z0 := (d2.cell (p := ⟨mg, i * 4, none⟩) hml).trans t0
  have z1 := (d2.cell (p := ⟨mg, i * 4 + 1, none⟩) hml).trans t1
  have z2 := (d2.cell (p := ⟨mg, i * 4 + 2, none⟩) hml).trans t2
  have z3 := (d2.cell (p := ⟨mg, i * 4 + 3, none⟩) hml).trans t3
  have HV := Lib.hid hV
  have HSO := Lib.hid hso
  clear hV hso hcn d2 ho t0 t1 t2 t3
  have o2 := bo.cell 2 rfl
  have VV := Lib.hid (SAM.out V eV)
  go_upto_region 2 with fail
  rw [← HV.out, ← HSO.out]
  go_wp2_with fail
  refine VV.out.mono ?_
  rintro e W2 ⟨rfl, hb2⟩
  have bo2 := bo.below hb2
  have ho2 := hoV.below hb2
  have e2 := eV.trans (hb2.mono eV.size)
  have RPL := Lib.hid (l10Replace_any (i := (i : Int)) (y := y) W2 bo2 ho2 hn24 (fun n hn => sm.srcs n hn) (by have := sm.outs; omega) e2.size)
  clear hoV bo bo2 ho2
  go_wp2_with fail
  refine RPL.out.mono ?_
  rintro e W3 ⟨rfl, ho3, b3, hb3⟩
  have e3 : Below E.heap.size E W3 := e2.trans hb3
  have r3 := br.below e3
  have k3 := hB0.trans (e3.mono hB0.size)
  clear RPL e2 hb3 z0 z1 z2 z3 o2
  go_upto_region 24 with fail
  have y0 := b3.cell 0 rfl
  have y1 := b3.cell 1 rfl
  have y2 := b3.cell 2 rfl
  have y3 := b3.cell 3 rfl
  have j0 := r3.frozen 0
  have j1 := r3.frozen 1
  have j2 := r3.frozen 2
  have j3 := r3.frozen 3
  have i0 := r3.cell 0 rfl
  have i1 := r3.cell 1 rfl
  have i2 := r3.cell 2 rfl
  have i3 := r3.cell 3 rfl
  obtain ⟨W9, hW9, b9, o9, l9⟩ := put_patch (inp := x.inputs) r3 ho3 k3 hgw
  have q0 := b9.cell 0 rfl
  have q1 := b9.cell 1 rfl
  have q2 := b9.cell 2 rfl
  have q3 := b9.cell 3 rfl
  have O9 := Lib.hid (o9.mono hB0.size)
  have L9 := Lib.hid l9
  have H9 := Lib.hid hW9
  clear hW9 o9 l9 b9 ho3 k3
  go_wp2_with fail
  rw [← H9.out]
  refine bodyPost_ret (v := .agg #[.int .i64 x.inputs, .slice qa L1.length da, .slice (some ⟨mg, 0, none⟩) x.nodes.length mc, .slice qb x.outputs.length db]) (by simp [results, Tryz.results41, go_sem, *]) rfl ?_
  exact ⟨_, _, _, _, _, rfl, by simpa [replP] using O9.out, L9.out⟩
set_option maxHeartbeats 8000000 in
set_option maxRecDepth 100000 in
theorem l10Apply_twin {x : PatchD} {gp i : Nat} (w : World) (h : PPatch w gp x) (hok : okB x = true) (hi : i < x.nodes.length) :
    Calls Tryz.prog 41 #[.pointer (some ⟨gp, 0, none⟩), .int .i64 7, .int .i64 (i : Int)] w (RetP0 w (replP x (i : Int) (twinI x (i : Int)))) := by
  have hf := okB_formed hok
  have hn24 := (formed_iff.1 hf).2.2.1
  have sm := formed_small hf
  obtain ⟨b, o, c2, SP⟩ := SPat.of h hi
  obtain ⟨g, hg⟩ : ∃ g, g = w.heap.size := ⟨_, rfl⟩
  obtain ⟨E, hE⟩ : ∃ E, E = w.alloc (.cells #[.int .i64 0, .slice none 0 0, .slice none 0 0, .slice none 0 0] 32) := ⟨_, rfl⟩
  have hB0 : Below w.heap.size w E := by rw [hE]; exact (Below.refl _ _).alloc (Nat.le_refl _) _
  have br : Box E g zPatch 32 := by rw [hE, hg]; exact Box.newAt w _ _ rfl
  have hgw : w.heap.size ≤ g := by omega
  have hp0 := h.below hB0
  have SP0 := SP.below hB0
  have OWN := Lib.hid (l07Own_any E hp0 sm)
  have HE := Lib.hid hE
  have HG := Lib.hid hg
  clear hE hg h SP
  have NED := Lib.hid (fun W (hW : Below E.heap.size E W) => l07Needed_any W (hp0.below hW) hf)
  have TWI := Lib.hid (fun W p c (hW : Below E.heap.size E W) hr => l10Twin_x (pn := p) (cn := c) W (SP0.below hW) hi hr hn24)
  generalize twinI x (i : Int) = y at *
  go_enter Tryz.func41, Tryz.ntmps41
  go_upto_region 1 with fail
  rw [← HE.out, ← HG.out]
  go_wp2_with fail
  refine OWN.out.mono ?_
  rintro e W1 ⟨w1, w2, w3, L1, L, rfl, ho, hb1⟩
  obtain ⟨qa, da, ea⟩ := ho.o1.sl'
  obtain ⟨qb, db, eb, -⟩ := ho.o3.rd
  subst ea eb
  rcases ho.o2.cases with ⟨-, hn0, -⟩ | ⟨mg, mc, rfl, hmB, hml, -, hcn⟩
  · rw [hn0] at hi; simp at hi
  obtain ⟨V, hV⟩ : ∃ V, V = W1.alloc (.cells #[.int .i64 x.inputs, .slice qa L1.length da, .slice (some ⟨mg, 0, none⟩) x.nodes.length mc, .slice qb x.outputs.length db] 32) := ⟨_, rfl⟩
  have d2 : Below W1.heap.size W1 V := by rw [hV]; exact (Below.refl _ _).alloc (Nat.le_refl _) _
  have bo : Box V W1.heap.size [.int .i64 x.inputs, .slice qa L1.length da, .slice (some ⟨mg, 0, none⟩) x.nodes.length mc, .slice qb x.outputs.length db] 32 := by rw [hV]; exact Box.newAt W1 _ _ rfl
  obtain ⟨so, hso⟩ : ∃ so, so = W1.heap.size := ⟨_, rfl⟩
  rw [← hso] at bo
  have eV : Below E.heap.size E V := hb1.trans (d2.mono hb1.size)
  have hoV := ho.below d2
  have hiL : i < L.length := by rw [ho.o2.1]; exact hi
  obtain ⟨t0, t1, t2, t3⟩ := hcn i hi hiL
  have z0 := (d2.cell (p := ⟨mg, i * 4, none⟩) hml).trans t0
  have z1 := (d2.cell (p := ⟨mg, i * 4 + 1, none⟩) hml).trans t1
  have z2 := (d2.cell (p := ⟨mg, i * 4 + 2, none⟩) hml).trans t2
  have z3 := (d2.cell (p := ⟨mg, i * 4 + 3, none⟩) hml).trans t3
  have HV := Lib.hid hV
  have HSO := Lib.hid hso
  clear hV hso hcn d2 ho t0 t1 t2 t3
  have o2 := bo.cell 2 rfl
  have VV := Lib.hid (NED.out V eV)
  go_upto_region 2 with fail
  rw [← HV.out, ← HSO.out]
  go_wp2_with fail
  refine VV.out.mono ?_
  rintro e W1b ⟨u, rfl, hu, hb1b⟩
  obtain ⟨pu, cu, rfl, hru⟩ := hu.rd
  have e1b := eV.trans (hb1b.mono eV.size)
  have TT := Lib.hid (TWI.out W1b pu cu e1b hru)
  clear hu hru
  go_wp2_with fail
  refine TT.out.mono ?_
  rintro e W2 ⟨rfl, hd2⟩
  have hb2 : Below V.heap.size V W2 := hb1b.trans (hd2.below _)
  clear hd2
  have bo2 := bo.below hb2
  have ho2 := hoV.below hb2
  have e2 := eV.trans (hb2.mono eV.size)
  have RPL := Lib.hid (l10Replace_any (i := (i : Int)) (y := y) W2 bo2 ho2 hn24 (fun n hn => sm.srcs n hn) (by have := sm.outs; omega) e2.size)
  clear hoV bo bo2 ho2
  go_wp2_with fail
  refine RPL.out.mono ?_
  rintro e W3 ⟨rfl, ho3, b3, hb3⟩
  have e3 : Below E.heap.size E W3 := e2.trans hb3
  have r3 := br.below e3
  have k3 := hB0.trans (e3.mono hB0.size)
  clear RPL e2 hb3 z0 z1 z2 z3 o2
  go_upto_region 24 with fail
  have y0 := b3.cell 0 rfl
  have y1 := b3.cell 1 rfl
  have y2 := b3.cell 2 rfl
  have y3 := b3.cell 3 rfl
  have j0 := r3.frozen 0
  have j1 := r3.frozen 1
  have j2 := r3.frozen 2
  have j3 := r3.frozen 3
  have i0 := r3.cell 0 rfl
  have i1 := r3.cell 1 rfl
  have i2 := r3.cell 2 rfl
  have i3 := r3.cell 3 rfl
  obtain ⟨W9, hW9, b9, o9, l9⟩ := put_patch (inp := x.inputs) r3 ho3 k3 hgw
  have q0 := b9.cell 0 rfl
  have q1 := b9.cell 1 rfl
  have q2 := b9.cell 2 rfl
  have q3 := b9.cell 3 rfl
  have O9 := Lib.hid (o9.mono hB0.size)
  have L9 := Lib.hid l9
  have H9 := Lib.hid hW9
  clear hW9 o9 l9 b9 ho3 k3
  go_wp2_with fail
  rw [← H9.out]
  refine bodyPost_ret (v := .agg #[.int .i64 x.inputs, .slice qa L1.length da, .slice (some ⟨mg, 0, none⟩) x.nodes.length mc, .slice qb x.outputs.length db]) (by simp [results, Tryz.results41, go_sem, *]) rfl ?_
  exact ⟨_, _, _, _, _, rfl, by simpa [replP] using O9.out, L9.out⟩
end Go.Proofs.YtonkdndpfnapjaaGreat

namespace Go.Proofs.YtonkdndpfnapjaaGreat
open Go.ChangeShapes Go.WideShapes Go.ChangeAt Go.RowKit Go.Sort
set_option linter.unusedVariables false

set_option maxHeartbeats 8000000 in
set_option maxRecDepth 100000 in
theorem l10Apply_fact0 {x : PatchD} {gp i : Nat} (w : World) (h : PPatch w gp x) (hok : okB x = true) (hi : i < x.nodes.length) {j0 j1 : Nat} (hs2 : (nodeAt x.nodes (i : Int)).src = [(j0 : Int), (j1 : Int)]) (hj0 : j0 < x.nodes.length) (hj1 : j1 < x.nodes.length) (hk : ((nodeAt x.nodes (j0 : Int)).kind == 2) = true) :
    Calls Tryz.prog 41 #[.pointer (some ⟨gp, 0, none⟩), .int .i64 4, .int .i64 (i : Int)] w (RetP0 w (setN x (i : Int) ⟨5, (nodeAt x.nodes (j0 : Int)).a, 0, [(j1 : Int)]⟩)) := by
  have hf := okB_formed hok
  have hn24 := (formed_iff.1 hf).2.2.1
  have sm := formed_small hf
  obtain ⟨b, o, c2, SP⟩ := SPat.of h hi
  obtain ⟨g, hg⟩ : ∃ g, g = w.heap.size := ⟨_, rfl⟩
  obtain ⟨E, hE⟩ : ∃ E, E = w.alloc (.cells #[.int .i64 0, .slice none 0 0, .slice none 0 0, .slice none 0 0] 32) := ⟨_, rfl⟩
  have hB0 : Below w.heap.size w E := by rw [hE]; exact (Below.refl _ _).alloc (Nat.le_refl _) _
  have br : Box E g zPatch 32 := by rw [hE, hg]; exact Box.newAt w _ _ rfl
  have hgw : w.heap.size ≤ g := by omega
  have hp0 := h.below hB0
  have SP0 := SP.below hB0
  have OWN := Lib.hid (l07Own_any E hp0 sm)
  have HE := Lib.hid hE
  have HG := Lib.hid hg
  clear hE hg h SP
  have ISC := Lib.hid (fun W (hW : Below E.heap.size E W) => l10Is_x W (SP0.below hW) hj0)
  rw [hk] at ISC
  have NA : Hid (nodeAt x.nodes (i : Int) = x.nodes[i]) := nodeAt_eq hi
  clear hk
  go_enter Tryz.func41, Tryz.ntmps41
  go_upto_region 1 with fail
  rw [← HE.out, ← HG.out]
  go_wp2_with fail
  refine OWN.out.mono ?_
  rintro e W1 ⟨w1, w2, w3, L1, L, rfl, ho, hb1⟩
  obtain ⟨qa, da, ea⟩ := ho.o1.sl'
  obtain ⟨qb, db, eb, -⟩ := ho.o3.rd
  subst ea eb
  rcases ho.o2.cases with ⟨-, hn0, -⟩ | ⟨mg, mc, rfl, hmB, hml, -, hcn⟩
  · rw [hn0] at hi; simp at hi
  obtain ⟨V, hV⟩ : ∃ V, V = W1.alloc (.cells #[.int .i64 x.inputs, .slice qa L1.length da, .slice (some ⟨mg, 0, none⟩) x.nodes.length mc, .slice qb x.outputs.length db] 32) := ⟨_, rfl⟩
  have d2 : Below W1.heap.size W1 V := by rw [hV]; exact (Below.refl _ _).alloc (Nat.le_refl _) _
  have bo : Box V W1.heap.size [.int .i64 x.inputs, .slice qa L1.length da, .slice (some ⟨mg, 0, none⟩) x.nodes.length mc, .slice qb x.outputs.length db] 32 := by rw [hV]; exact Box.newAt W1 _ _ rfl
  obtain ⟨so, hso⟩ : ∃ so, so = W1.heap.size := ⟨_, rfl⟩
  rw [← hso] at bo
  have eV : Below E.heap.size E V := hb1.trans (d2.mono hb1.size)
  have hoV := ho.below d2
  have hiL : i < L.length := by rw [ho.o2.1]; exact hi
  obtain ⟨t0, t1, t2, t3⟩ := hcn i hi hiL
  have z0 := (d2.cell (p := ⟨mg, i * 4, none⟩) hml).trans t0
  have z1 := (d2.cell (p := ⟨mg, i * 4 + 1, none⟩) hml).trans t1
  have z2 := (d2.cell (p := ⟨mg, i * 4 + 2, none⟩) hml).trans t2
  have z3 := (d2.cell (p := ⟨mg, i * 4 + 3, none⟩) hml).trans t3
  have HV := Lib.hid hV
  have HSO := Lib.hid hso
  clear hV hso hcn d2 ho t0 t1 t2 t3
  have o2 := bo.cell 2 rfl
  obtain ⟨hL', hu⟩ := hoV.s2.at_ (i := i) (by rw [List.length_map]; exact hi)
  rw [List.getElem_map, ← NA.out, hs2] at hu
  obtain ⟨uq, ud, hur, hru⟩ := hu.rd
  rw [hur] at z3
  obtain ⟨b', o', rfl, hb', hcq⟩ := hru.pos (k := 0) (by simp)
  have s0 := hcq 0 (by simp)
  have s1 := hcq 1 (by simp)
  simp only [List.getElem_cons_zero, List.getElem_cons_succ, List.length_cons, List.length_nil, Nat.add_zero] at s0 s1 z3
  obtain ⟨p2, NSV⟩ := SP0.below eV
  obtain ⟨-, na, -, -⟩ := NSV j0 hj0
  have II := Lib.hid (ISC.out V eV)
  generalize (nodeAt x.nodes (j0 : Int)).a = A at *
  have hs := OwnI.lit (B := E.heap.size) V [(j1 : Int)] eV.size (by simp [maxLen])
  have hs' := OwnI.lit (B := V.heap.size) V [(j1 : Int)] (Nat.le_refl _) (by simp [maxLen])
  obtain ⟨F, hF⟩ : ∃ F, F = V.alloc (.cells #[.int .i64 (j1 : Int)] 2) := ⟨_, rfl⟩
  have dF : Below V.heap.size V F := by rw [hF]; exact (Below.refl _ _).alloc (Nat.le_refl _) _
  have hsF : OwnI E.heap.size F (.slice (some ⟨V.heap.size, 0, none⟩) 1 1) [(j1 : Int)] := by rw [hF]; exact hs
  have hsF' : OwnI V.heap.size F (.slice (some ⟨V.heap.size, 0, none⟩) 1 1) [(j1 : Int)] := by rw [hF]; exact hs'
  have HF := Lib.hid hF
  clear hs hs' hF hu hru hcq hur NSV z0 z1 z2 hL'
  have hoF := hoV.below dF
  have boF := bo.below dF
  have SN := hoF.setNode hi ⟨5, A, 0, [(j1 : Int)]⟩ (s := .slice (some ⟨V.heap.size, 0, none⟩) 1 1) hsF (fun b hb hbk => by have h1 := (hsF'.lt hb).1; have h2 := (hoV.blk hbk).2; omega)
  obtain ⟨-, -, hmgl, ⟨u0, u1, u2, u3, g0, g1, g2, g3⟩, hfr, -⟩ := hoV.o2.storing hi
  have f0 := hfr (i * 4)
  have f1 := hfr (i * 4 + 1)
  have f2 := hfr (i * 4 + 2)
  have f3 := hfr (i * 4 + 3)
  have hne := hoF.neBox boF patchT
  have hmso : so ≠ mg := fun e => hne.2.1 (by rw [e]; rfl)
  have eF := eV.trans (dF.mono eV.size)
  have brF := br.below eF
  have hnr := hoF.neBox brF patchT
  have hmr : g ≠ mg := fun e => hnr.2.1 (by rw [e]; rfl)
  have k2 := hB0.trans (eF.mono hB0.size)
  obtain ⟨W3, hW3⟩ : ∃ W3, W3 = ((((F.setCell ⟨mg, i * 4, none⟩ (.int .i64 5)).setCell ⟨mg, i * 4 + 1, none⟩ (.int .i64 A)).setCell ⟨mg, i * 4 + 2, none⟩ (.int .i64 0)).setCell ⟨mg, i * 4 + 3, none⟩ (.slice (some ⟨V.heap.size, 0, none⟩) 1 1)) := ⟨_, rfl⟩
  rw [← hW3] at SN
  have b3 : Box W3 so [.int .i64 x.inputs, .slice qa L1.length da, .slice (some ⟨mg, 0, none⟩) x.nodes.length mc, .slice qb x.outputs.length db] 32 := by
    rw [hW3]; exact (((boF.other (by exact hmso) _).other (by exact hmso) _).other (by exact hmso) _).other (by exact hmso) _
  have r3 : Box W3 g zPatch 32 := by
    rw [hW3]; exact (((brF.other (by exact hmr) _).other (by exact hmr) _).other (by exact hmr) _).other (by exact hmr) _
  have k3 : Below w.heap.size w W3 := by
    have hm : w.heap.size ≤ mg := Nat.le_trans hB0.size hmB
    rw [hW3]
    exact (((k2.setCell (p := ⟨mg, i * 4, none⟩) hm _).setCell (p := ⟨mg, i * 4 + 1, none⟩) hm _).setCell (p := ⟨mg, i * 4 + 2, none⟩) hm _).setCell (p := ⟨mg, i * 4 + 3, none⟩) hm _
  have hcomm : W3 = ((((V.setCell ⟨mg, i * 4, none⟩ (.int .i64 5)).setCell ⟨mg, i * 4 + 1, none⟩ (.int .i64 A)).setCell ⟨mg, i * 4 + 2, none⟩ (.int .i64 0)).setCell ⟨mg, i * 4 + 3, none⟩ (.slice (some ⟨V.heap.size, 0, none⟩) 1 1)).alloc (.cells #[.int .i64 (j1 : Int)] 2) := by
    rw [hW3, HF.out]
    rw [World.setCell_alloc_past _ _ _ _ hmgl, World.setCell_alloc_past _ _ _ _ (by simpa using hmgl), World.setCell_alloc_past _ _ _ _ (by simpa using hmgl), World.setCell_alloc_past _ _ _ _ (by simpa using hmgl)]
  have HW3 := Lib.hid hcomm
  clear hcomm hW3 hfr hnr hne hoF hoV boF
  go_upto_region 2 with fail
  rw [← HV.out, ← HSO.out]
  go_wp2_with fail
  refine II.out.mono ?_
  rintro e W2 ⟨rfl, rfl⟩
  go_upto_region 24 with fail
  rw [← HW3.out]
  clear g0 g1 g2 g3 f0 f1 f2 f3 o2 s0 s1 z3 p2 na
  have y0 := b3.cell 0 rfl
  have y1 := b3.cell 1 rfl
  have y2 := b3.cell 2 rfl
  have y3 := b3.cell 3 rfl
  have j0 := r3.frozen 0
  have j1 := r3.frozen 1
  have j2 := r3.frozen 2
  have j3 := r3.frozen 3
  have i0 := r3.cell 0 rfl
  have i1 := r3.cell 1 rfl
  have i2 := r3.cell 2 rfl
  have i3 := r3.cell 3 rfl
  obtain ⟨W9, hW9, b9, o9, l9⟩ := put_patch (inp := x.inputs) r3 SN k3 hgw
  have q0 := b9.cell 0 rfl
  have q1 := b9.cell 1 rfl
  have q2 := b9.cell 2 rfl
  have q3 := b9.cell 3 rfl
  have O9 := Lib.hid (o9.mono hB0.size)
  have L9 := Lib.hid l9
  have H9 := Lib.hid hW9
  clear hW9 o9 l9 b9 SN k3
  go_wp2_with fail
  rw [← H9.out]
  refine bodyPost_ret (v := .agg #[.int .i64 x.inputs, .slice qa L1.length da, .slice (some ⟨mg, 0, none⟩) x.nodes.length mc, .slice qb x.outputs.length db]) (by simp [results, Tryz.results41, go_sem, *]) rfl ?_
  exact ⟨_, _, _, _, _, rfl, by simpa [setN] using O9.out, L9.out⟩
set_option maxHeartbeats 8000000 in
set_option maxRecDepth 100000 in
theorem l10Apply_fact1 {x : PatchD} {gp i : Nat} (w : World) (h : PPatch w gp x) (hok : okB x = true) (hi : i < x.nodes.length) {j0 j1 : Nat} (hs2 : (nodeAt x.nodes (i : Int)).src = [(j0 : Int), (j1 : Int)]) (hj0 : j0 < x.nodes.length) (hj1 : j1 < x.nodes.length) (hk : ((nodeAt x.nodes (j0 : Int)).kind == 2) = false) :
    Calls Tryz.prog 41 #[.pointer (some ⟨gp, 0, none⟩), .int .i64 4, .int .i64 (i : Int)] w (RetP0 w (setN x (i : Int) ⟨5, (nodeAt x.nodes (j1 : Int)).a, 0, [(j0 : Int)]⟩)) := by
  have hf := okB_formed hok
  have hn24 := (formed_iff.1 hf).2.2.1
  have sm := formed_small hf
  obtain ⟨b, o, c2, SP⟩ := SPat.of h hi
  obtain ⟨g, hg⟩ : ∃ g, g = w.heap.size := ⟨_, rfl⟩
  obtain ⟨E, hE⟩ : ∃ E, E = w.alloc (.cells #[.int .i64 0, .slice none 0 0, .slice none 0 0, .slice none 0 0] 32) := ⟨_, rfl⟩
  have hB0 : Below w.heap.size w E := by rw [hE]; exact (Below.refl _ _).alloc (Nat.le_refl _) _
  have br : Box E g zPatch 32 := by rw [hE, hg]; exact Box.newAt w _ _ rfl
  have hgw : w.heap.size ≤ g := by omega
  have hp0 := h.below hB0
  have SP0 := SP.below hB0
  have OWN := Lib.hid (l07Own_any E hp0 sm)
  have HE := Lib.hid hE
  have HG := Lib.hid hg
  clear hE hg h SP
  have ISC := Lib.hid (fun W (hW : Below E.heap.size E W) => l10Is_x W (SP0.below hW) hj0)
  rw [hk] at ISC
  have NA : Hid (nodeAt x.nodes (i : Int) = x.nodes[i]) := nodeAt_eq hi
  clear hk
  go_enter Tryz.func41, Tryz.ntmps41
  go_upto_region 1 with fail
  rw [← HE.out, ← HG.out]
  go_wp2_with fail
  refine OWN.out.mono ?_
  rintro e W1 ⟨w1, w2, w3, L1, L, rfl, ho, hb1⟩
  obtain ⟨qa, da, ea⟩ := ho.o1.sl'
  obtain ⟨qb, db, eb, -⟩ := ho.o3.rd
  subst ea eb
  rcases ho.o2.cases with ⟨-, hn0, -⟩ | ⟨mg, mc, rfl, hmB, hml, -, hcn⟩
  · rw [hn0] at hi; simp at hi
  obtain ⟨V, hV⟩ : ∃ V, V = W1.alloc (.cells #[.int .i64 x.inputs, .slice qa L1.length da, .slice (some ⟨mg, 0, none⟩) x.nodes.length mc, .slice qb x.outputs.length db] 32) := ⟨_, rfl⟩
  have d2 : Below W1.heap.size W1 V := by rw [hV]; exact (Below.refl _ _).alloc (Nat.le_refl _) _
  have bo : Box V W1.heap.size [.int .i64 x.inputs, .slice qa L1.length da, .slice (some ⟨mg, 0, none⟩) x.nodes.length mc, .slice qb x.outputs.length db] 32 := by rw [hV]; exact Box.newAt W1 _ _ rfl
  obtain ⟨so, hso⟩ : ∃ so, so = W1.heap.size := ⟨_, rfl⟩
  rw [← hso] at bo
  have eV : Below E.heap.size E V := hb1.trans (d2.mono hb1.size)
  have hoV := ho.below d2
  have hiL : i < L.length := by rw [ho.o2.1]; exact hi
  obtain ⟨t0, t1, t2, t3⟩ := hcn i hi hiL
  have z0 := (d2.cell (p := ⟨mg, i * 4, none⟩) hml).trans t0
  have z1 := (d2.cell (p := ⟨mg, i * 4 + 1, none⟩) hml).trans t1
  have z2 := (d2.cell (p := ⟨mg, i * 4 + 2, none⟩) hml).trans t2
  have z3 := (d2.cell (p := ⟨mg, i * 4 + 3, none⟩) hml).trans t3
  have HV := Lib.hid hV
  have HSO := Lib.hid hso
  clear hV hso hcn d2 ho t0 t1 t2 t3
  have o2 := bo.cell 2 rfl
  obtain ⟨hL', hu⟩ := hoV.s2.at_ (i := i) (by rw [List.length_map]; exact hi)
  rw [List.getElem_map, ← NA.out, hs2] at hu
  obtain ⟨uq, ud, hur, hru⟩ := hu.rd
  rw [hur] at z3
  obtain ⟨b', o', rfl, hb', hcq⟩ := hru.pos (k := 0) (by simp)
  have s0 := hcq 0 (by simp)
  have s1 := hcq 1 (by simp)
  simp only [List.getElem_cons_zero, List.getElem_cons_succ, List.length_cons, List.length_nil, Nat.add_zero] at s0 s1 z3
  obtain ⟨p2, NSV⟩ := SP0.below eV
  obtain ⟨-, na, -, -⟩ := NSV j1 hj1
  have II := Lib.hid (ISC.out V eV)
  generalize (nodeAt x.nodes (j1 : Int)).a = A at *
  have hs := OwnI.lit (B := E.heap.size) V [(j0 : Int)] eV.size (by simp [maxLen])
  have hs' := OwnI.lit (B := V.heap.size) V [(j0 : Int)] (Nat.le_refl _) (by simp [maxLen])
  obtain ⟨F, hF⟩ : ∃ F, F = V.alloc (.cells #[.int .i64 (j0 : Int)] 2) := ⟨_, rfl⟩
  have dF : Below V.heap.size V F := by rw [hF]; exact (Below.refl _ _).alloc (Nat.le_refl _) _
  have hsF : OwnI E.heap.size F (.slice (some ⟨V.heap.size, 0, none⟩) 1 1) [(j0 : Int)] := by rw [hF]; exact hs
  have hsF' : OwnI V.heap.size F (.slice (some ⟨V.heap.size, 0, none⟩) 1 1) [(j0 : Int)] := by rw [hF]; exact hs'
  have HF := Lib.hid hF
  clear hs hs' hF hu hru hcq hur NSV z0 z1 z2 hL'
  have hoF := hoV.below dF
  have boF := bo.below dF
  have SN := hoF.setNode hi ⟨5, A, 0, [(j0 : Int)]⟩ (s := .slice (some ⟨V.heap.size, 0, none⟩) 1 1) hsF (fun b hb hbk => by have h1 := (hsF'.lt hb).1; have h2 := (hoV.blk hbk).2; omega)
  obtain ⟨-, -, hmgl, ⟨u0, u1, u2, u3, g0, g1, g2, g3⟩, hfr, -⟩ := hoV.o2.storing hi
  have f0 := hfr (i * 4)
  have f1 := hfr (i * 4 + 1)
  have f2 := hfr (i * 4 + 2)
  have f3 := hfr (i * 4 + 3)
  have hne := hoF.neBox boF patchT
  have hmso : so ≠ mg := fun e => hne.2.1 (by rw [e]; rfl)
  have eF := eV.trans (dF.mono eV.size)
  have brF := br.below eF
  have hnr := hoF.neBox brF patchT
  have hmr : g ≠ mg := fun e => hnr.2.1 (by rw [e]; rfl)
  have k2 := hB0.trans (eF.mono hB0.size)
  obtain ⟨W3, hW3⟩ : ∃ W3, W3 = ((((F.setCell ⟨mg, i * 4, none⟩ (.int .i64 5)).setCell ⟨mg, i * 4 + 1, none⟩ (.int .i64 A)).setCell ⟨mg, i * 4 + 2, none⟩ (.int .i64 0)).setCell ⟨mg, i * 4 + 3, none⟩ (.slice (some ⟨V.heap.size, 0, none⟩) 1 1)) := ⟨_, rfl⟩
  rw [← hW3] at SN
  have b3 : Box W3 so [.int .i64 x.inputs, .slice qa L1.length da, .slice (some ⟨mg, 0, none⟩) x.nodes.length mc, .slice qb x.outputs.length db] 32 := by
    rw [hW3]; exact (((boF.other (by exact hmso) _).other (by exact hmso) _).other (by exact hmso) _).other (by exact hmso) _
  have r3 : Box W3 g zPatch 32 := by
    rw [hW3]; exact (((brF.other (by exact hmr) _).other (by exact hmr) _).other (by exact hmr) _).other (by exact hmr) _
  have k3 : Below w.heap.size w W3 := by
    have hm : w.heap.size ≤ mg := Nat.le_trans hB0.size hmB
    rw [hW3]
    exact (((k2.setCell (p := ⟨mg, i * 4, none⟩) hm _).setCell (p := ⟨mg, i * 4 + 1, none⟩) hm _).setCell (p := ⟨mg, i * 4 + 2, none⟩) hm _).setCell (p := ⟨mg, i * 4 + 3, none⟩) hm _
  have hcomm : W3 = ((((V.setCell ⟨mg, i * 4, none⟩ (.int .i64 5)).setCell ⟨mg, i * 4 + 1, none⟩ (.int .i64 A)).setCell ⟨mg, i * 4 + 2, none⟩ (.int .i64 0)).setCell ⟨mg, i * 4 + 3, none⟩ (.slice (some ⟨V.heap.size, 0, none⟩) 1 1)).alloc (.cells #[.int .i64 (j0 : Int)] 2) := by
    rw [hW3, HF.out]
    rw [World.setCell_alloc_past _ _ _ _ hmgl, World.setCell_alloc_past _ _ _ _ (by simpa using hmgl), World.setCell_alloc_past _ _ _ _ (by simpa using hmgl), World.setCell_alloc_past _ _ _ _ (by simpa using hmgl)]
  have HW3 := Lib.hid hcomm
  clear hcomm hW3 hfr hnr hne hoF hoV boF
  go_upto_region 2 with fail
  rw [← HV.out, ← HSO.out]
  go_wp2_with fail
  refine II.out.mono ?_
  rintro e W2 ⟨rfl, rfl⟩
  go_upto_region 24 with fail
  rw [← HW3.out]
  clear g0 g1 g2 g3 f0 f1 f2 f3 o2 s0 s1 z3 p2 na
  have y0 := b3.cell 0 rfl
  have y1 := b3.cell 1 rfl
  have y2 := b3.cell 2 rfl
  have y3 := b3.cell 3 rfl
  have j0 := r3.frozen 0
  have j1 := r3.frozen 1
  have j2 := r3.frozen 2
  have j3 := r3.frozen 3
  have i0 := r3.cell 0 rfl
  have i1 := r3.cell 1 rfl
  have i2 := r3.cell 2 rfl
  have i3 := r3.cell 3 rfl
  obtain ⟨W9, hW9, b9, o9, l9⟩ := put_patch (inp := x.inputs) r3 SN k3 hgw
  have q0 := b9.cell 0 rfl
  have q1 := b9.cell 1 rfl
  have q2 := b9.cell 2 rfl
  have q3 := b9.cell 3 rfl
  have O9 := Lib.hid (o9.mono hB0.size)
  have L9 := Lib.hid l9
  have H9 := Lib.hid hW9
  clear hW9 o9 l9 b9 SN k3
  go_wp2_with fail
  rw [← H9.out]
  refine bodyPost_ret (v := .agg #[.int .i64 x.inputs, .slice qa L1.length da, .slice (some ⟨mg, 0, none⟩) x.nodes.length mc, .slice qb x.outputs.length db]) (by simp [results, Tryz.results41, go_sem, *]) rfl ?_
  exact ⟨_, _, _, _, _, rfl, by simpa [setN] using O9.out, L9.out⟩
end Go.Proofs.YtonkdndpfnapjaaGreat
