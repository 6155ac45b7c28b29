/-
  The nodes that outputs need: plain models of both sides, and that they agree; no program in sight.
-/
import Derived.Test.YtonkdndpfnapjaaGreatPatM
namespace Go.Proofs.YtonkdndpfnapjaaGreat
set_option linter.unusedVariables false

theorem kAr_le3 : ∀ i, i < 17 → kAr i ≤ 3 := by decide
theorem src_le3 {x : NodeD} {t : Int} (h : nodeB x t = true) : x.src.length ≤ 3 := by
  unfold nodeB at h
  simp only [Bool.and_eq_true, decide_eq_true_eq] at h
  obtain ⟨i, hi, he⟩ := kind_of_in h.1.1.1.1
  have h1 := h.1.2
  rw [he, show ((i : Int) + 1 - 1).toNat = i by omega] at h1
  have := kAr_le3 i hi
  omega
theorem waits_le3 {x : NodeD} {t : Int} (h : nodeB x t = true) : (waits x).length ≤ 3 := by
  have := src_le3 h
  unfold waits
  split
  · simp
  · exact this
/-- what a node has in From -/
def srcs (nodes : List NodeD) (i : Int) : List Int := (nodes.getD i.toNat ⟨0, 0, 0, []⟩).src
/-- marks are set, a queue is worked off -/
def qrun (nodes : List NodeD) : Nat → List Bool → List Int → List Bool
  | 0, m, _ => m
  | _ + 1, m, [] => m
  | f + 1, m, i :: t => if m.getD i.toNat false then qrun nodes f m t else qrun nodes f (m.set i.toNat true) (t ++ srcs nodes i)
/-- how many marks are not set -/
def unm : List Bool → Nat
  | [] => 0
  | b :: m => (if b then 0 else 1) + unm m
theorem unm_set : ∀ (m : List Bool) (k : Nat), k < m.length → m.getD k false = false → unm (m.set k true) + 1 = unm m
  | [], k, h, _ => by simp at h
  | b :: m, 0, _, h => by
    simp only [List.getD_cons_zero] at h
    subst h
    simp only [List.set_cons_zero, unm, if_true, Bool.false_eq_true, if_false]
    omega
  | b :: m, k + 1, h, hk => by
    simp only [List.getD_cons_succ] at hk
    have := unm_set m k (by simpa using h) hk
    simp only [List.set_cons_succ, unm]
    omega
theorem unm_false : ∀ n, unm (List.replicate n false) = n
  | 0 => rfl
  | n + 1 => by rw [List.replicate_succ, unm, unm_false n]; simp; omega
theorem getD_set_self {m : List Bool} {k : Nat} (h : k < m.length) : (m.set k true).getD k false = true := by
  rw [List.getD_eq_getElem?_getD, List.getElem?_set_self h]; rfl
theorem getD_set_ne {m : List Bool} {k j : Nat} (h : k ≠ j) : (m.set k true).getD j false = m.getD j false := by
  rw [List.getD_eq_getElem?_getD, List.getElem?_set_ne h, ← List.getD_eq_getElem?_getD]
theorem getD_lt {m : List Bool} {k : Nat} (h : m.getD k false = true) : k < m.length := by
  rcases Nat.lt_or_ge k m.length with h1 | h1
  · exact h1
  · rw [List.getD_eq_getElem?_getD, List.getElem?_eq_none h1] at h; cases h

/-- the sources of all nodes lie in the patch, three at most each -/
structure SrcOk (nodes : List NodeD) : Prop where
  rng : ∀ x ∈ nodes, ∀ s ∈ x.src, 0 ≤ s ∧ s < (nodes.length : Int)
  len : ∀ x ∈ nodes, x.src.length ≤ 3
theorem srcs_rng {nodes : List NodeD} (h : SrcOk nodes) {i s : Int} (hs : s ∈ srcs nodes i) : 0 ≤ s ∧ s < (nodes.length : Int) := by
  unfold srcs at hs
  rcases Nat.lt_or_ge i.toNat nodes.length with h1 | h1
  · rw [List.getD_eq_getElem?_getD, List.getElem?_eq_getElem h1] at hs
    exact h.rng _ (List.getElem_mem h1) s hs
  · rw [List.getD_eq_getElem?_getD, List.getElem?_eq_none h1] at hs
    simp at hs
theorem srcs_len {nodes : List NodeD} (h : SrcOk nodes) (i : Int) : (srcs nodes i).length ≤ 3 := by
  unfold srcs
  rcases Nat.lt_or_ge i.toNat nodes.length with h1 | h1
  · rw [List.getD_eq_getElem?_getD, List.getElem?_eq_getElem h1]
    exact h.len _ (List.getElem_mem h1)
  · rw [List.getD_eq_getElem?_getD, List.getElem?_eq_none h1]
    simp
/-- a set of nodes with all that they have in From -/
def Shut (nodes : List NodeD) (S : Int → Prop) : Prop := ∀ i, 0 ≤ i → i < (nodes.length : Int) → S i → ∀ s ∈ srcs nodes i, S s
def mk (m : List Bool) (i : Int) : Prop := m.getD i.toNat false = true
structure QEnd (nodes : List NodeD) (m : List Bool) (t : List Int) (R : List Bool) : Prop where
  len : R.length = nodes.length
  old : ∀ i, mk m i → mk R i
  todo : ∀ i ∈ t, mk R i
  shut : Shut nodes (mk R)
  least : ∀ S : Int → Prop, Shut nodes S → (∀ i, 0 ≤ i → i < (nodes.length : Int) → mk m i → S i) → (∀ i ∈ t, S i) → ∀ i, 0 ≤ i → i < (nodes.length : Int) → mk R i → S i
theorem qrun_end {nodes : List NodeD} (ok : SrcOk nodes) : ∀ (f : Nat) (m : List Bool) (t : List Int), m.length = nodes.length → (∀ i ∈ t, 0 ≤ i ∧ i < (nodes.length : Int)) → 4 * unm m + t.length ≤ f →
    (∀ i, 0 ≤ i → i < (nodes.length : Int) → mk m i → ∀ s ∈ srcs nodes i, mk m s ∨ s ∈ t) → QEnd nodes m t (qrun nodes f m t)
  | 0, m, t, hl, ht, hf, hc => by
    obtain rfl : t = [] := List.eq_nil_of_length_eq_zero (by omega)
    exact ⟨hl, fun _ h => h, by simp, fun i h0 h1 h2 s hs => (hc i h0 h1 h2 s hs).elim id (fun h => by simp at h), fun S _ h _ i h0 h1 h2 => h i h0 h1 h2⟩
  | f + 1, m, [], hl, ht, hf, hc =>
    ⟨hl, fun _ h => h, by simp, fun i h0 h1 h2 s hs => (hc i h0 h1 h2 s hs).elim id (fun h => by simp at h), fun S _ h _ i h0 h1 h2 => h i h0 h1 h2⟩
  | f + 1, m, i :: t, hl, ht, hf, hc => by
    obtain ⟨hi0, hi1⟩ := ht i (List.mem_cons_self ..)
    have ht' : ∀ j ∈ t, 0 ≤ j ∧ j < (nodes.length : Int) := fun j hj => ht j (List.mem_cons_of_mem _ hj)
    simp only [List.length_cons] at hf
    unfold qrun
    split
    · rename_i hm
      have E := qrun_end ok f m t hl ht' (by omega) (fun j h0 h1 h2 s hs => (hc j h0 h1 h2 s hs).elim .inl fun h => by
        rcases List.mem_cons.1 h with rfl | h
        · exact .inl hm
        · exact .inr h)
      exact ⟨E.len, E.old, fun j hj => by
        rcases List.mem_cons.1 hj with rfl | hj
        · exact E.old _ hm
        · exact E.todo j hj, E.shut, fun S hS h1 h2 => E.least S hS h1 fun j hj => h2 j (List.mem_cons_of_mem _ hj)⟩
    · rename_i hm
      have hmf : m.getD i.toNat false = false := by simpa using hm
      have hk : i.toNat < m.length := by omega
      have hu := unm_set m i.toNat hk hmf
      have hs3 := srcs_len ok i
      have hmi : mk (m.set i.toNat true) i := getD_set_self hk
      have hmo : ∀ j, mk m j → mk (m.set i.toNat true) j := fun j hj => by
        unfold mk
        by_cases e : i.toNat = j.toNat
        · rw [e]; exact getD_set_self (by rw [← e]; exact hk)
        · rw [getD_set_ne e]; exact hj
      have hmn : ∀ j, 0 ≤ j → mk (m.set i.toNat true) j → j = i ∨ mk m j := fun j h0 hj => by
        unfold mk at hj
        by_cases e : i.toNat = j.toNat
        · left; omega
        · rw [getD_set_ne e] at hj; exact .inr hj
      have E := qrun_end ok f (m.set i.toNat true) (t ++ srcs nodes i) (by rw [List.length_set, hl])
        (fun j hj => by
          rcases List.mem_append.1 hj with hj | hj
          · exact ht' j hj
          · exact srcs_rng ok hj)
        (by rw [List.length_append]; omega)
        (fun j h0 h1 h2 s hs => by
          rcases hmn j h0 h2 with rfl | h2
          · exact .inr (List.mem_append_right _ hs)
          · rcases hc j h0 h1 h2 s hs with h | h
            · exact .inl (hmo s h)
            · rcases List.mem_cons.1 h with rfl | h
              · exact .inl hmi
              · exact .inr (List.mem_append_left _ h))
      refine ⟨E.len, fun j hj => E.old j (hmo j hj), fun j hj => ?_, E.shut, fun S hS h1 h2 => E.least S hS (fun j h0 hj1 hj => ?_) fun j hj => ?_⟩
      · rcases List.mem_cons.1 hj with rfl | hj
        · exact E.old _ hmi
        · exact E.todo j (List.mem_append_left _ hj)
      · rcases hmn j h0 hj with rfl | hj
        · exact h2 _ (List.mem_cons_self ..)
        · exact h1 j h0 hj1 hj
      · rcases List.mem_append.1 hj with hj | hj
        · exact h2 j (List.mem_cons_of_mem _ hj)
        · exact hS i hi0 hi1 (h2 i (List.mem_cons_self ..)) j hj
def marksL (nodes : List NodeD) (outs : List Int) : List Bool := qrun nodes (4 * nodes.length + outs.length) (List.replicate nodes.length false) outs
theorem mk_none (n : Nat) (i : Int) : ¬ mk (List.replicate n false) i := by
  unfold mk
  rw [List.getD_eq_getElem?_getD, List.getElem?_replicate]
  split <;> simp
theorem marksL_end {nodes : List NodeD} (ok : SrcOk nodes) {outs : List Int} (ho : ∀ i ∈ outs, 0 ≤ i ∧ i < (nodes.length : Int)) : QEnd nodes (List.replicate nodes.length false) outs (marksL nodes outs) :=
  qrun_end ok _ _ _ (by simp) ho (by rw [unm_false]; omega) fun i _ _ h => absurd h (mk_none _ _)
/-- the first k marks, as places -/
def ups (m : List Bool) (k : Nat) : List Int := ((List.range k).filter fun i => m.getD i false).map fun i => ((i : Nat) : Int)
theorem ups_succ (m : List Bool) (k : Nat) {b : Bool} (hb : m.getD k false = b) : ups m (k + 1) = ups m k ++ (if b then [(k : Int)] else []) := by
  unfold ups
  rw [List.range_succ, List.filter_append, List.map_append]
  congr 1
  cases b
  · have e : List.filter (fun i => m.getD i false) [k] = [] := by rw [List.filter_cons_of_neg (by rw [hb]; simp)]; rfl
    rw [e]; rfl
  · have e : List.filter (fun i => m.getD i false) [k] = [k] := by rw [List.filter_cons_of_pos (p := fun i => m.getD i false) hb]; rfl
    rw [e]; rfl
theorem ups_length (m : List Bool) (k : Nat) : (ups m k).length ≤ k := by
  unfold ups
  rw [List.length_map]
  have := List.length_filter_le (fun i => m.getD i false) (List.range k)
  rwa [List.length_range] at this
theorem mem_ups {m : List Bool} {k : Nat} {i : Int} : i ∈ ups m k ↔ 0 ≤ i ∧ i < (k : Int) ∧ mk m i := by
  unfold ups mk
  simp only [List.mem_map, List.mem_filter, List.mem_range]
  constructor
  · rintro ⟨a, ⟨h1, h2⟩, rfl⟩
    exact ⟨by omega, by omega, by simpa using h2⟩
  · rintro ⟨h1, h2, h3⟩
    exact ⟨i.toNat, ⟨by omega, h3⟩, by omega⟩
def Rising (xs : List Int) : Prop := xs.Pairwise (· < ·)
theorem ups_rising (m : List Bool) (k : Nat) : Rising (ups m k) := by
  unfold Rising ups
  rw [List.pairwise_map]
  exact ((List.pairwise_lt_range (n := k)).filter _).imp fun h => by omega
theorem rising_ext : ∀ {xs ys : List Int}, Rising xs → Rising ys → (∀ i, i ∈ xs ↔ i ∈ ys) → xs = ys
  | [], [], _, _, _ => rfl
  | [], y :: ys, _, _, h => by have := (h y).2 (List.mem_cons_self ..); simp at this
  | x :: xs, [], _, _, h => by have := (h x).1 (List.mem_cons_self ..); simp at this
  | x :: xs, y :: ys, hx, hy, h => by
    have hx' := List.pairwise_cons.1 hx
    have hy' := List.pairwise_cons.1 hy
    have e : x = y := by
      have h1 := List.mem_cons.1 ((h x).1 (List.mem_cons_self ..))
      have h2 := List.mem_cons.1 ((h y).2 (List.mem_cons_self ..))
      rcases h1 with h1 | h1
      · exact h1
      · rcases h2 with h2 | h2
        · exact h2.symm
        · have a := hx'.1 y h2
          have b := hy'.1 x h1
          omega
    subst e
    refine congrArg _ (rising_ext hx'.2 hy'.2 fun i => ?_)
    have hi := h i
    simp only [List.mem_cons] at hi
    constructor
    · intro hm
      rcases hi.1 (.inr hm) with rfl | h1
      · have := hx'.1 _ hm; omega
      · exact h1
    · intro hm
      rcases hi.2 (.inr hm) with rfl | h1
      · have := hy'.1 _ hm; omega
      · exact h1
theorem rising_len : ∀ {xs : List Int} {a : Int} {n : Nat}, Rising xs → (∀ i ∈ xs, a ≤ i ∧ i < a + n) → xs.length ≤ n
  | [], _, _, _, _ => Nat.zero_le _
  | x :: xs, a, n, hx, h => by
    have hx' := List.pairwise_cons.1 hx
    have h0 := h x (List.mem_cons_self ..)
    obtain ⟨m, rfl⟩ : ∃ m, n = m + 1 := ⟨n - 1, by omega⟩
    have := rising_len (xs := xs) (a := x + 1) (n := m) hx'.2 fun i hi => by
      have h1 := hx'.1 i hi
      have h2 := h i (List.mem_cons_of_mem _ hi)
      omega
    simp only [List.length_cons]
    omega
/-- the nodes that outputs need -/
def need (x : PatchD) : List Int := ups (marksL x.nodes x.outputs) x.nodes.length
/-! ### the reference's way -/
def putR : List Int → Int → List Int
  | [], n => [n]
  | y :: ys, n => if n ≤ y then (if n < y then n :: y :: ys else y :: ys) else y :: putR ys n
theorem mem_putR {n i : Int} : ∀ {l : List Int}, i ∈ putR l n ↔ i = n ∨ i ∈ l
  | [] => by simp [putR]
  | y :: ys => by
    unfold putR
    split
    · split
      · simp
      · obtain rfl : n = y := by omega
        simp
    · simp only [List.mem_cons, mem_putR (l := ys)]
      constructor
      · rintro (h | h | h)
        · exact .inr (.inl h)
        · exact .inl h
        · exact .inr (.inr h)
      · rintro (h | h | h)
        · exact .inr (.inl h)
        · exact .inl h
        · exact .inr (.inr h)
theorem putR_rising {n : Int} : ∀ {l : List Int}, Rising l → Rising (putR l n)
  | [], _ => by simp [putR, Rising]
  | y :: ys, h => by
    have h' := List.pairwise_cons.1 h
    unfold putR
    split
    · split
      · refine List.pairwise_cons.2 ⟨fun i hi => ?_, h⟩
        rcases List.mem_cons.1 hi with rfl | hi
        · assumption
        · have := h'.1 i hi; omega
      · exact h
    · refine List.pairwise_cons.2 ⟨fun i hi => ?_, putR_rising h'.2⟩
      rcases mem_putR.1 hi with rfl | hi
      · omega
      · exact h'.1 i hi
theorem putR_or {n : Int} : ∀ (l : List Int), putR l n = l ∨ (putR l n).length = l.length + 1
  | [] => .inr rfl
  | y :: ys => by
    unfold putR
    split
    · split
      · exact .inr rfl
      · exact .inl rfl
    · rcases putR_or (n := n) ys with h | h
      · exact .inl (by rw [h])
      · exact .inr (by simp [h])
def putAll (out : List Int) (l : List Int) : List Int := l.foldl putR out
def rndL (nodes : List NodeD) : List Int → List Int → List Int
  | out, [] => out
  | out, i :: is => rndL nodes (putAll out (srcs nodes i)) is
def sat (nodes : List NodeD) : Nat → List Int → List Int
  | 0, out => out
  | f + 1, out => if (rndL nodes out out).length > out.length then sat nodes f (rndL nodes out out) else rndL nodes out out
theorem putAll_mem {i : Int} : ∀ {l out : List Int}, i ∈ putAll out l ↔ i ∈ out ∨ i ∈ l
  | [], out => by simp [putAll]
  | y :: ys, out => by
    show i ∈ putAll (putR out y) ys ↔ _
    rw [putAll_mem, mem_putR, List.mem_cons]
    constructor
    · rintro ((h | h) | h)
      · exact .inr (.inl h)
      · exact .inl h
      · exact .inr (.inr h)
    · rintro (h | h | h)
      · exact .inl (.inr h)
      · exact .inl (.inl h)
      · exact .inr h
theorem putAll_rising : ∀ {l out : List Int}, Rising out → Rising (putAll out l)
  | [], out, h => h
  | y :: ys, out, h => putAll_rising (l := ys) (putR_rising h)
theorem putAll_or : ∀ (l out : List Int), putAll out l = out ∨ out.length < (putAll out l).length
  | [], out => .inl rfl
  | y :: ys, out => by
    show putAll (putR out y) ys = out ∨ out.length < (putAll (putR out y) ys).length
    rcases putR_or (n := y) out with h | h
    · rw [h]; exact putAll_or ys out
    · rcases putAll_or ys (putR out y) with h' | h'
      · rw [h']; right; omega
      · right; omega
theorem rndL_mem {nodes : List NodeD} {i : Int} : ∀ {is out : List Int}, i ∈ rndL nodes out is ↔ i ∈ out ∨ ∃ j ∈ is, i ∈ srcs nodes j
  | [], out => by simp [rndL]
  | j :: is, out => by
    rw [rndL, rndL_mem, putAll_mem]
    simp only [List.mem_cons, exists_eq_or_imp]
    constructor
    · rintro ((h | h) | h)
      · exact .inl h
      · exact .inr (.inl h)
      · exact .inr (.inr h)
    · rintro (h | h | h)
      · exact .inl (.inl h)
      · exact .inl (.inr h)
      · exact .inr h
theorem rndL_rising {nodes : List NodeD} : ∀ {is out : List Int}, Rising out → Rising (rndL nodes out is)
  | [], out, h => h
  | j :: is, out, h => rndL_rising (is := is) (putAll_rising h)
theorem rndL_or {nodes : List NodeD} : ∀ (is out : List Int), rndL nodes out is = out ∨ out.length < (rndL nodes out is).length
  | [], out => .inl rfl
  | j :: is, out => by
    rw [rndL]
    rcases putAll_or (srcs nodes j) out with h | h
    · rw [h]; exact rndL_or is out
    · rcases rndL_or (nodes := nodes) is (putAll out (srcs nodes j)) with h' | h'
      · rw [h']; right; exact h
      · right; omega
structure SEnd (nodes : List NodeD) (out L : List Int) : Prop where
  rising : Rising L
  rng : ∀ i ∈ L, 0 ≤ i ∧ i < (nodes.length : Int)
  old : ∀ i ∈ out, i ∈ L
  shut : ∀ i ∈ L, ∀ s ∈ srcs nodes i, s ∈ L
  least : ∀ S : Int → Prop, Shut nodes S → (∀ i ∈ out, S i) → ∀ i ∈ L, S i
theorem rndL_rng {nodes : List NodeD} (ok : SrcOk nodes) {out is : List Int} (h : ∀ i ∈ out, 0 ≤ i ∧ i < (nodes.length : Int)) : ∀ i ∈ rndL nodes out is, 0 ≤ i ∧ i < (nodes.length : Int) := fun i hi => by
  rcases rndL_mem.1 hi with hi | ⟨j, _, hi⟩
  · exact h i hi
  · exact srcs_rng ok hi
theorem sat_end {nodes : List NodeD} (ok : SrcOk nodes) : ∀ (f : Nat) (out : List Int), Rising out → (∀ i ∈ out, 0 ≤ i ∧ i < (nodes.length : Int)) → nodes.length < f + out.length → SEnd nodes out (sat nodes f out)
  | 0, out, hr, hg, hf => by
    have := rising_len (a := 0) (n := nodes.length) hr fun i hi => by have := hg i hi; omega
    omega
  | f + 1, out, hr, hg, hf => by
    unfold sat
    have hg' := rndL_rng ok (is := out) hg
    split
    · have E := sat_end ok f (rndL nodes out out) (rndL_rising hr) hg' (by omega)
      refine ⟨E.rising, E.rng, fun i hi => E.old i (rndL_mem.2 (.inl hi)), E.shut, fun S hS h => E.least S hS fun i hi => ?_⟩
      rcases rndL_mem.1 hi with hi | ⟨j, hj, hi⟩
      · exact h i hi
      · exact hS j (hg j hj).1 (hg j hj).2 (h j hj) i hi
    · rcases rndL_or (nodes := nodes) out out with h | h
      · rw [h]
        refine ⟨hr, hg, fun i hi => hi, fun i hi s hs => ?_, fun S _ h => h⟩
        have : s ∈ rndL nodes out out := rndL_mem.2 (.inr ⟨i, hi, hs⟩)
        rwa [h] at this
      · omega
def needL (nodes : List NodeD) (outs : List Int) : List Int := sat nodes (nodes.length + 1) (putAll [] outs)
theorem needL_eq {x : PatchD} (ok : SrcOk x.nodes) (ho : ∀ i ∈ x.outputs, 0 ≤ i ∧ i < (x.nodes.length : Int)) : needL x.nodes x.outputs = need x := by
  have E := sat_end ok (x.nodes.length + 1) (putAll [] x.outputs) (putAll_rising (by simp [Rising])) (fun i hi => by
    rcases putAll_mem.1 hi with h | h
    · simp at h
    · exact ho i h) (by omega)
  have M := marksL_end ok ho
  refine rising_ext E.rising (ups_rising _ _) fun i => ?_
  refine Iff.trans ?_ mem_ups.symm
  constructor
  · intro hi
    have hr := E.rng i hi
    refine ⟨hr.1, hr.2, E.least (mk (marksL x.nodes x.outputs)) M.shut (fun j hj => ?_) i hi⟩
    rcases putAll_mem.1 hj with h | h
    · simp at h
    · exact M.todo j h
  · rintro ⟨h0, h1, h2⟩
    exact M.least (· ∈ needL x.nodes x.outputs) (fun j _ _ hj s hs => E.shut j hj s hs) (fun j _ _ h => absurd h (mk_none _ _)) (fun j hj => E.old j (putAll_mem.2 (.inr hj))) i h0 h1 h2
theorem need_rng {x : PatchD} : ∀ i ∈ need x, 0 ≤ i ∧ i < (x.nodes.length : Int) := fun i hi => ⟨(mem_ups.1 hi).1, (mem_ups.1 hi).2.1⟩
theorem need_length (x : PatchD) : (need x).length ≤ x.nodes.length := ups_length _ _
def okCode (x : PatchD) : Int := if okB x then 0 else 1
theorem okB_n24 {x : PatchD} (h : okB x = true) : x.nodes.length ≤ 24 := by
  unfold okB at h
  rw [Bool.and_eq_true] at h
  exact (formed_iff.1 h.1).2.2.1
end Go.Proofs.YtonkdndpfnapjaaGreat
