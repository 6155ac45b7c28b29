/-
  Several texts in one: NeedM, KeepM, PatV, PatU, Queue, Put, Need, Need2, Keep, PatK, TrimS, Trim.
-/
import Derived.Test.YtcfhcmgmkhfjjaaGreatPk3
import Derived.Test.YtcfhcmgmkhfjjaaGreatPk4
import Derived.Test.YtcfhcmgmkhfjjaaGreatPk5
import Derived.Deep.RegionHeld3
import Derived.Deep.AppendSrc
import Derived.Deep.Upon
import Derived.Deep.MidRow
import Derived.Test.YtcfhcmgmkhfjjaaGreatPk1
import Derived.Test.YtcfhcmgmkhfjjaaGreatPk2
namespace Go.Proofs.YtcfhcmgmkhfjjaaGreat
set_option linter.unusedVariables false

theorem kAr_le3 : ∀ i, i < 17 → kAr i ≤ 3 := by decide
theorem src_le3 {x : NodeD} {t : Int} (h : nodeB x t = true) : x.src.length ≤ 3 := by
  unfold nodeB at h
  simp only [Bool.and_eq_true, decide_eq_true_eq] at h
  obtain ⟨i, hi, he⟩ := kind_of_in h.1.1.1.1
  have h1 := h.1.2
  rw [he, show ((i : Int) + 1 - 1).toNat = i by omega] at h1
  have := kAr_le3 i hi
  omega
theorem waits_le3 {x : NodeD} {t : Int} (h : nodeB x t = true) : (waits x).length ≤ 3 := by
  have := src_le3 h
  unfold waits
  split
  · simp
  · exact this
/-- what a node has in From -/
def srcs (nodes : List NodeD) (i : Int) : List Int := (nodes.getD i.toNat ⟨0, 0, 0, []⟩).src
/-- marks are set, a queue is worked off -/
def qrun (nodes : List NodeD) : Nat → List Bool → List Int → List Bool
  | 0, m, _ => m
  | _ + 1, m, [] => m
  | f + 1, m, i :: t => if m.getD i.toNat false then qrun nodes f m t else qrun nodes f (m.set i.toNat true) (t ++ srcs nodes i)
/-- how many marks are not set -/
def unm : List Bool → Nat
  | [] => 0
  | b :: m => (if b then 0 else 1) + unm m
theorem unm_set : ∀ (m : List Bool) (k : Nat), k < m.length → m.getD k false = false → unm (m.set k true) + 1 = unm m
  | [], k, h, _ => by simp at h
  | b :: m, 0, _, h => by
    simp only [List.getD_cons_zero] at h
    subst h
    simp only [List.set_cons_zero, unm, if_true, Bool.false_eq_true, if_false]
    omega
  | b :: m, k + 1, h, hk => by
    simp only [List.getD_cons_succ] at hk
    have := unm_set m k (by simpa using h) hk
    simp only [List.set_cons_succ, unm]
    omega
theorem unm_false : ∀ n, unm (List.replicate n false) = n
  | 0 => rfl
  | n + 1 => by rw [List.replicate_succ, unm, unm_false n]; simp; omega
theorem getD_set_self {m : List Bool} {k : Nat} (h : k < m.length) : (m.set k true).getD k false = true := by
  rw [List.getD_eq_getElem?_getD, List.getElem?_set_self h]; rfl
theorem getD_set_ne {m : List Bool} {k j : Nat} (h : k ≠ j) : (m.set k true).getD j false = m.getD j false := by
  rw [List.getD_eq_getElem?_getD, List.getElem?_set_ne h, ← List.getD_eq_getElem?_getD]
theorem getD_lt {m : List Bool} {k : Nat} (h : m.getD k false = true) : k < m.length := by
  rcases Nat.lt_or_ge k m.length with h1 | h1
  · exact h1
  · rw [List.getD_eq_getElem?_getD, List.getElem?_eq_none h1] at h; cases h

/-- the sources of all nodes lie in the patch, three at most each -/
structure SrcOk (nodes : List NodeD) : Prop where
  rng : ∀ x ∈ nodes, ∀ s ∈ x.src, 0 ≤ s ∧ s < (nodes.length : Int)
  len : ∀ x ∈ nodes, x.src.length ≤ 3
theorem srcs_rng {nodes : List NodeD} (h : SrcOk nodes) {i s : Int} (hs : s ∈ srcs nodes i) : 0 ≤ s ∧ s < (nodes.length : Int) := by
  unfold srcs at hs
  rcases Nat.lt_or_ge i.toNat nodes.length with h1 | h1
  · rw [List.getD_eq_getElem?_getD, List.getElem?_eq_getElem h1] at hs
    exact h.rng _ (List.getElem_mem h1) s hs
  · rw [List.getD_eq_getElem?_getD, List.getElem?_eq_none h1] at hs
    simp at hs
theorem srcs_len {nodes : List NodeD} (h : SrcOk nodes) (i : Int) : (srcs nodes i).length ≤ 3 := by
  unfold srcs
  rcases Nat.lt_or_ge i.toNat nodes.length with h1 | h1
  · rw [List.getD_eq_getElem?_getD, List.getElem?_eq_getElem h1]
    exact h.len _ (List.getElem_mem h1)
  · rw [List.getD_eq_getElem?_getD, List.getElem?_eq_none h1]
    simp
/-- a set of nodes with all that they have in From -/
def Shut (nodes : List NodeD) (S : Int → Prop) : Prop := ∀ i, 0 ≤ i → i < (nodes.length : Int) → S i → ∀ s ∈ srcs nodes i, S s
def mk (m : List Bool) (i : Int) : Prop := m.getD i.toNat false = true
structure QEnd (nodes : List NodeD) (m : List Bool) (t : List Int) (R : List Bool) : Prop where
  len : R.length = nodes.length
  old : ∀ i, mk m i → mk R i
  todo : ∀ i ∈ t, mk R i
  shut : Shut nodes (mk R)
  least : ∀ S : Int → Prop, Shut nodes S → (∀ i, 0 ≤ i → i < (nodes.length : Int) → mk m i → S i) → (∀ i ∈ t, S i) → ∀ i, 0 ≤ i → i < (nodes.length : Int) → mk R i → S i
theorem qrun_end {nodes : List NodeD} (ok : SrcOk nodes) : ∀ (f : Nat) (m : List Bool) (t : List Int), m.length = nodes.length → (∀ i ∈ t, 0 ≤ i ∧ i < (nodes.length : Int)) → 4 * unm m + t.length ≤ f →
    (∀ i, 0 ≤ i → i < (nodes.length : Int) → mk m i → ∀ s ∈ srcs nodes i, mk m s ∨ s ∈ t) → QEnd nodes m t (qrun nodes f m t)
  | 0, m, t, hl, ht, hf, hc => by
    obtain rfl : t = [] := List.eq_nil_of_length_eq_zero (by omega)
    exact ⟨hl, fun _ h => h, by simp, fun i h0 h1 h2 s hs => (hc i h0 h1 h2 s hs).elim id (fun h => by simp at h), fun S _ h _ i h0 h1 h2 => h i h0 h1 h2⟩
  | f + 1, m, [], hl, ht, hf, hc =>
    ⟨hl, fun _ h => h, by simp, fun i h0 h1 h2 s hs => (hc i h0 h1 h2 s hs).elim id (fun h => by simp at h), fun S _ h _ i h0 h1 h2 => h i h0 h1 h2⟩
  | f + 1, m, i :: t, hl, ht, hf, hc => by
    obtain ⟨hi0, hi1⟩ := ht i (List.mem_cons_self ..)
    have ht' : ∀ j ∈ t, 0 ≤ j ∧ j < (nodes.length : Int) := fun j hj => ht j (List.mem_cons_of_mem _ hj)
    simp only [List.length_cons] at hf
    unfold qrun
    split
    · rename_i hm
      have E := qrun_end ok f m t hl ht' (by omega) (fun j h0 h1 h2 s hs => (hc j h0 h1 h2 s hs).elim .inl fun h => by
        rcases List.mem_cons.1 h with rfl | h
        · exact .inl hm
        · exact .inr h)
      exact ⟨E.len, E.old, fun j hj => by
        rcases List.mem_cons.1 hj with rfl | hj
        · exact E.old _ hm
        · exact E.todo j hj, E.shut, fun S hS h1 h2 => E.least S hS h1 fun j hj => h2 j (List.mem_cons_of_mem _ hj)⟩
    · rename_i hm
      have hmf : m.getD i.toNat false = false := by simpa using hm
      have hk : i.toNat < m.length := by omega
      have hu := unm_set m i.toNat hk hmf
      have hs3 := srcs_len ok i
      have hmi : mk (m.set i.toNat true) i := getD_set_self hk
      have hmo : ∀ j, mk m j → mk (m.set i.toNat true) j := fun j hj => by
        unfold mk
        by_cases e : i.toNat = j.toNat
        · rw [e]; exact getD_set_self (by rw [← e]; exact hk)
        · rw [getD_set_ne e]; exact hj
      have hmn : ∀ j, 0 ≤ j → mk (m.set i.toNat true) j → j = i ∨ mk m j := fun j h0 hj => by
        unfold mk at hj
        by_cases e : i.toNat = j.toNat
        · left; omega
        · rw [getD_set_ne e] at hj; exact .inr hj
      have E := qrun_end ok f (m.set i.toNat true) (t ++ srcs nodes i) (by rw [List.length_set, hl])
        (fun j hj => by
          rcases List.mem_append.1 hj with hj | hj
          · exact ht' j hj
          · exact srcs_rng ok hj)
        (by rw [List.length_append]; omega)
        (fun j h0 h1 h2 s hs => by
          rcases hmn j h0 h2 with rfl | h2
          · exact .inr (List.mem_append_right _ hs)
          · rcases hc j h0 h1 h2 s hs with h | h
            · exact .inl (hmo s h)
            · rcases List.mem_cons.1 h with rfl | h
              · exact .inl hmi
              · exact .inr (List.mem_append_left _ h))
      refine ⟨E.len, fun j hj => E.old j (hmo j hj), fun j hj => ?_, E.shut, fun S hS h1 h2 => E.least S hS (fun j h0 hj1 hj => ?_) fun j hj => ?_⟩
      · rcases List.mem_cons.1 hj with rfl | hj
        · exact E.old _ hmi
        · exact E.todo j (List.mem_append_left _ hj)
      · rcases hmn j h0 hj with rfl | hj
        · exact h2 _ (List.mem_cons_self ..)
        · exact h1 j h0 hj1 hj
      · rcases List.mem_append.1 hj with hj | hj
        · exact h2 j (List.mem_cons_of_mem _ hj)
        · exact hS i hi0 hi1 (h2 i (List.mem_cons_self ..)) j hj
def marksL (nodes : List NodeD) (outs : List Int) : List Bool := qrun nodes (4 * nodes.length + outs.length) (List.replicate nodes.length false) outs
theorem mk_none (n : Nat) (i : Int) : ¬ mk (List.replicate n false) i := by
  unfold mk
  rw [List.getD_eq_getElem?_getD, List.getElem?_replicate]
  split <;> simp
theorem marksL_end {nodes : List NodeD} (ok : SrcOk nodes) {outs : List Int} (ho : ∀ i ∈ outs, 0 ≤ i ∧ i < (nodes.length : Int)) : QEnd nodes (List.replicate nodes.length false) outs (marksL nodes outs) :=
  qrun_end ok _ _ _ (by simp) ho (by rw [unm_false]; omega) fun i _ _ h => absurd h (mk_none _ _)
/-- the first k marks, as places -/
def ups (m : List Bool) (k : Nat) : List Int := ((List.range k).filter fun i => m.getD i false).map fun i => ((i : Nat) : Int)
theorem ups_succ (m : List Bool) (k : Nat) {b : Bool} (hb : m.getD k false = b) : ups m (k + 1) = ups m k ++ (if b then [(k : Int)] else []) := by
  unfold ups
  rw [List.range_succ, List.filter_append, List.map_append]
  congr 1
  cases b
  · have e : List.filter (fun i => m.getD i false) [k] = [] := by rw [List.filter_cons_of_neg (by rw [hb]; simp)]; rfl
    rw [e]; rfl
  · have e : List.filter (fun i => m.getD i false) [k] = [k] := by rw [List.filter_cons_of_pos (p := fun i => m.getD i false) hb]; rfl
    rw [e]; rfl
theorem ups_length (m : List Bool) (k : Nat) : (ups m k).length ≤ k := by
  unfold ups
  rw [List.length_map]
  have := List.length_filter_le (fun i => m.getD i false) (List.range k)
  rwa [List.length_range] at this
theorem mem_ups {m : List Bool} {k : Nat} {i : Int} : i ∈ ups m k ↔ 0 ≤ i ∧ i < (k : Int) ∧ mk m i := by
  unfold ups mk
  simp only [List.mem_map, List.mem_filter, List.mem_range]
  constructor
  · rintro ⟨a, ⟨h1, h2⟩, rfl⟩
    exact ⟨by omega, by omega, by simpa using h2⟩
  · rintro ⟨h1, h2, h3⟩
    exact ⟨i.toNat, ⟨by omega, h3⟩, by omega⟩
def Rising (xs : List Int) : Prop := xs.Pairwise (· < ·)
theorem ups_rising (m : List Bool) (k : Nat) : Rising (ups m k) := by
  unfold Rising ups
  rw [List.pairwise_map]
  exact ((List.pairwise_lt_range (n := k)).filter _).imp fun h => by omega
theorem rising_ext : ∀ {xs ys : List Int}, Rising xs → Rising ys → (∀ i, i ∈ xs ↔ i ∈ ys) → xs = ys
  | [], [], _, _, _ => rfl
  | [], y :: ys, _, _, h => by have := (h y).2 (List.mem_cons_self ..); simp at this
  | x :: xs, [], _, _, h => by have := (h x).1 (List.mem_cons_self ..); simp at this
  | x :: xs, y :: ys, hx, hy, h => by
    have hx' := List.pairwise_cons.1 hx
    have hy' := List.pairwise_cons.1 hy
    have e : x = y := by
      have h1 := List.mem_cons.1 ((h x).1 (List.mem_cons_self ..))
      have h2 := List.mem_cons.1 ((h y).2 (List.mem_cons_self ..))
      rcases h1 with h1 | h1
      · exact h1
      · rcases h2 with h2 | h2
        · exact h2.symm
        · have a := hx'.1 y h2
          have b := hy'.1 x h1
          omega
    subst e
    refine congrArg _ (rising_ext hx'.2 hy'.2 fun i => ?_)
    have hi := h i
    simp only [List.mem_cons] at hi
    constructor
    · intro hm
      rcases hi.1 (.inr hm) with rfl | h1
      · have := hx'.1 _ hm; omega
      · exact h1
    · intro hm
      rcases hi.2 (.inr hm) with rfl | h1
      · have := hy'.1 _ hm; omega
      · exact h1
theorem rising_len : ∀ {xs : List Int} {a : Int} {n : Nat}, Rising xs → (∀ i ∈ xs, a ≤ i ∧ i < a + n) → xs.length ≤ n
  | [], _, _, _, _ => Nat.zero_le _
  | x :: xs, a, n, hx, h => by
    have hx' := List.pairwise_cons.1 hx
    have h0 := h x (List.mem_cons_self ..)
    obtain ⟨m, rfl⟩ : ∃ m, n = m + 1 := ⟨n - 1, by omega⟩
    have := rising_len (xs := xs) (a := x + 1) (n := m) hx'.2 fun i hi => by
      have h1 := hx'.1 i hi
      have h2 := h i (List.mem_cons_of_mem _ hi)
      omega
    simp only [List.length_cons]
    omega
/-- the nodes that outputs need -/
def need (x : PatchD) : List Int := ups (marksL x.nodes x.outputs) x.nodes.length
/-! ### the reference's way -/
def putR : List Int → Int → List Int
  | [], n => [n]
  | y :: ys, n => if n ≤ y then (if n < y then n :: y :: ys else y :: ys) else y :: putR ys n
theorem mem_putR {n i : Int} : ∀ {l : List Int}, i ∈ putR l n ↔ i = n ∨ i ∈ l
  | [] => by simp [putR]
  | y :: ys => by
    unfold putR
    split
    · split
      · simp
      · obtain rfl : n = y := by omega
        simp
    · simp only [List.mem_cons, mem_putR (l := ys)]
      constructor
      · rintro (h | h | h)
        · exact .inr (.inl h)
        · exact .inl h
        · exact .inr (.inr h)
      · rintro (h | h | h)
        · exact .inr (.inl h)
        · exact .inl h
        · exact .inr (.inr h)
theorem putR_rising {n : Int} : ∀ {l : List Int}, Rising l → Rising (putR l n)
  | [], _ => by simp [putR, Rising]
  | y :: ys, h => by
    have h' := List.pairwise_cons.1 h
    unfold putR
    split
    · split
      · refine List.pairwise_cons.2 ⟨fun i hi => ?_, h⟩
        rcases List.mem_cons.1 hi with rfl | hi
        · assumption
        · have := h'.1 i hi; omega
      · exact h
    · refine List.pairwise_cons.2 ⟨fun i hi => ?_, putR_rising h'.2⟩
      rcases mem_putR.1 hi with rfl | hi
      · omega
      · exact h'.1 i hi
theorem putR_or {n : Int} : ∀ (l : List Int), putR l n = l ∨ (putR l n).length = l.length + 1
  | [] => .inr rfl
  | y :: ys => by
    unfold putR
    split
    · split
      · exact .inr rfl
      · exact .inl rfl
    · rcases putR_or (n := n) ys with h | h
      · exact .inl (by rw [h])
      · exact .inr (by simp [h])
def putAll (out : List Int) (l : List Int) : List Int := l.foldl putR out
def rndL (nodes : List NodeD) : List Int → List Int → List Int
  | out, [] => out
  | out, i :: is => rndL nodes (putAll out (srcs nodes i)) is
def sat (nodes : List NodeD) : Nat → List Int → List Int
  | 0, out => out
  | f + 1, out => if (rndL nodes out out).length > out.length then sat nodes f (rndL nodes out out) else rndL nodes out out
theorem putAll_mem {i : Int} : ∀ {l out : List Int}, i ∈ putAll out l ↔ i ∈ out ∨ i ∈ l
  | [], out => by simp [putAll]
  | y :: ys, out => by
    show i ∈ putAll (putR out y) ys ↔ _
    rw [putAll_mem, mem_putR, List.mem_cons]
    constructor
    · rintro ((h | h) | h)
      · exact .inr (.inl h)
      · exact .inl h
      · exact .inr (.inr h)
    · rintro (h | h | h)
      · exact .inl (.inr h)
      · exact .inl (.inl h)
      · exact .inr h
theorem putAll_rising : ∀ {l out : List Int}, Rising out → Rising (putAll out l)
  | [], out, h => h
  | y :: ys, out, h => putAll_rising (l := ys) (putR_rising h)
theorem putAll_or : ∀ (l out : List Int), putAll out l = out ∨ out.length < (putAll out l).length
  | [], out => .inl rfl
  | y :: ys, out => by
    show putAll (putR out y) ys = out ∨ out.length < (putAll (putR out y) ys).length
    rcases putR_or (n := y) out with h | h
    · rw [h]; exact putAll_or ys out
    · rcases putAll_or ys (putR out y) with h' | h'
      · rw [h']; right; omega
      · right; omega
theorem rndL_mem {nodes : List NodeD} {i : Int} : ∀ {is out : List Int}, i ∈ rndL nodes out is ↔ i ∈ out ∨ ∃ j ∈ is, i ∈ srcs nodes j
  | [], out => by simp [rndL]
  | j :: is, out => by
    rw [rndL, rndL_mem, putAll_mem]
    simp only [List.mem_cons, exists_eq_or_imp]
    constructor
    · rintro ((h | h) | h)
      · exact .inl h
      · exact .inr (.inl h)
      · exact .inr (.inr h)
    · rintro (h | h | h)
      · exact .inl (.inl h)
      · exact .inl (.inr h)
      · exact .inr h
theorem rndL_rising {nodes : List NodeD} : ∀ {is out : List Int}, Rising out → Rising (rndL nodes out is)
  | [], out, h => h
  | j :: is, out, h => rndL_rising (is := is) (putAll_rising h)
theorem rndL_or {nodes : List NodeD} : ∀ (is out : List Int), rndL nodes out is = out ∨ out.length < (rndL nodes out is).length
  | [], out => .inl rfl
  | j :: is, out => by
    rw [rndL]
    rcases putAll_or (srcs nodes j) out with h | h
    · rw [h]; exact rndL_or is out
    · rcases rndL_or (nodes := nodes) is (putAll out (srcs nodes j)) with h' | h'
      · rw [h']; right; exact h
      · right; omega
structure SEnd (nodes : List NodeD) (out L : List Int) : Prop where
  rising : Rising L
  rng : ∀ i ∈ L, 0 ≤ i ∧ i < (nodes.length : Int)
  old : ∀ i ∈ out, i ∈ L
  shut : ∀ i ∈ L, ∀ s ∈ srcs nodes i, s ∈ L
  least : ∀ S : Int → Prop, Shut nodes S → (∀ i ∈ out, S i) → ∀ i ∈ L, S i
theorem rndL_rng {nodes : List NodeD} (ok : SrcOk nodes) {out is : List Int} (h : ∀ i ∈ out, 0 ≤ i ∧ i < (nodes.length : Int)) : ∀ i ∈ rndL nodes out is, 0 ≤ i ∧ i < (nodes.length : Int) := fun i hi => by
  rcases rndL_mem.1 hi with hi | ⟨j, _, hi⟩
  · exact h i hi
  · exact srcs_rng ok hi
theorem sat_end {nodes : List NodeD} (ok : SrcOk nodes) : ∀ (f : Nat) (out : List Int), Rising out → (∀ i ∈ out, 0 ≤ i ∧ i < (nodes.length : Int)) → nodes.length < f + out.length → SEnd nodes out (sat nodes f out)
  | 0, out, hr, hg, hf => by
    have := rising_len (a := 0) (n := nodes.length) hr fun i hi => by have := hg i hi; omega
    omega
  | f + 1, out, hr, hg, hf => by
    unfold sat
    have hg' := rndL_rng ok (is := out) hg
    split
    · have E := sat_end ok f (rndL nodes out out) (rndL_rising hr) hg' (by omega)
      refine ⟨E.rising, E.rng, fun i hi => E.old i (rndL_mem.2 (.inl hi)), E.shut, fun S hS h => E.least S hS fun i hi => ?_⟩
      rcases rndL_mem.1 hi with hi | ⟨j, hj, hi⟩
      · exact h i hi
      · exact hS j (hg j hj).1 (hg j hj).2 (h j hj) i hi
    · rcases rndL_or (nodes := nodes) out out with h | h
      · rw [h]
        refine ⟨hr, hg, fun i hi => hi, fun i hi s hs => ?_, fun S _ h => h⟩
        have : s ∈ rndL nodes out out := rndL_mem.2 (.inr ⟨i, hi, hs⟩)
        rwa [h] at this
      · omega
def needL (nodes : List NodeD) (outs : List Int) : List Int := sat nodes (nodes.length + 1) (putAll [] outs)
theorem needL_eq {x : PatchD} (ok : SrcOk x.nodes) (ho : ∀ i ∈ x.outputs, 0 ≤ i ∧ i < (x.nodes.length : Int)) : needL x.nodes x.outputs = need x := by
  have E := sat_end ok (x.nodes.length + 1) (putAll [] x.outputs) (putAll_rising (by simp [Rising])) (fun i hi => by
    rcases putAll_mem.1 hi with h | h
    · simp at h
    · exact ho i h) (by omega)
  have M := marksL_end ok ho
  refine rising_ext E.rising (ups_rising _ _) fun i => ?_
  refine Iff.trans ?_ mem_ups.symm
  constructor
  · intro hi
    have hr := E.rng i hi
    refine ⟨hr.1, hr.2, E.least (mk (marksL x.nodes x.outputs)) M.shut (fun j hj => ?_) i hi⟩
    rcases putAll_mem.1 hj with h | h
    · simp at h
    · exact M.todo j h
  · rintro ⟨h0, h1, h2⟩
    exact M.least (· ∈ needL x.nodes x.outputs) (fun j _ _ hj s hs => E.shut j hj s hs) (fun j _ _ h => absurd h (mk_none _ _)) (fun j hj => E.old j (putAll_mem.2 (.inr hj))) i h0 h1 h2
theorem need_rng {x : PatchD} : ∀ i ∈ need x, 0 ≤ i ∧ i < (x.nodes.length : Int) := fun i hi => ⟨(mem_ups.1 hi).1, (mem_ups.1 hi).2.1⟩
theorem need_length (x : PatchD) : (need x).length ≤ x.nodes.length := ups_length _ _
def okCode (x : PatchD) : Int := if okB x then 0 else 1
theorem okB_n24 {x : PatchD} (h : okB x = true) : x.nodes.length ≤ 24 := by
  unfold okB at h
  rw [Bool.and_eq_true] at h
  exact (formed_iff.1 h.1).2.2.1
theorem formed_src {x : PatchD} (h : formedB x = true) : SrcOk x.nodes := by
  have hf := (formed_iff.1 h).2.2.2.2.1
  refine ⟨fun y hy s hs => ndB_src (hf y hy) s hs, fun y hy => ?_⟩
  have h1 := hf y hy
  unfold ndB at h1
  simp only [Bool.and_eq_true] at h1
  exact src_le3 h1.1.1
theorem formed_outs {x : PatchD} (h : formedB x = true) : ∀ i ∈ x.outputs, 0 ≤ i ∧ i < (x.nodes.length : Int) := (formed_iff.1 h).2.2.2.2.2
end Go.Proofs.YtcfhcmgmkhfjjaaGreat

namespace Go.Proofs.YtcfhcmgmkhfjjaaGreat
set_option linter.unusedVariables false

def putBy : List Int → Nat → List Int → List Int
  | b, _, [] => b
  | b, j, i :: r => putBy (b.set i.toNat (j : Int)) (j + 1) r
theorem putBy_length : ∀ (b : List Int) (j : Nat) (r : List Int), (putBy b j r).length = b.length
  | b, _, [] => rfl
  | b, j, i :: r => by rw [putBy, putBy_length, List.length_set]
theorem putBy_drop {b : List Int} {keep : List Int} {k m : Nat} (h : k < keep.length) (hm : keep[k] = (m : Int)) : putBy b k (keep.drop k) = putBy (b.set m (k : Int)) (k + 1) (keep.drop (k + 1)) := by
  rw [List.drop_eq_getElem_cons h, putBy, hm, Int.toNat_natCast]
def byL (n : Nat) (keep : List Int) : List Int := putBy (List.replicate n 0) 0 keep
theorem byL_length (n : Nat) (keep : List Int) : (byL n keep).length = n := by unfold byL; rw [putBy_length, List.length_replicate]
/-- what lies in by are places of keep -/
theorem putBy_rng : ∀ (b : List Int) (j : Nat) (r : List Int) (N : Int), (∀ x ∈ b, 0 ≤ x ∧ x < N) → (j : Int) + r.length ≤ N → ∀ x ∈ putBy b j r, 0 ≤ x ∧ x < N
  | b, _, [], N, h, _ => h
  | b, j, i :: r, N, h, hN => by
    simp only [List.length_cons] at hN
    refine putBy_rng _ (j + 1) r N (fun x hx => ?_) (by omega)
    rcases List.mem_or_eq_of_mem_set hx with hx | rfl
    · exact h x hx
    · omega
theorem byL_rng {n : Nat} {keep : List Int} {N : Nat} (h : keep.length ≤ N) (h0 : 0 < N) : ∀ x ∈ byL n keep, 0 ≤ x ∧ x < (N : Int) := by
  refine putBy_rng _ 0 keep N (fun x hx => ?_) (by omega)
  rw [(List.mem_replicate.1 hx).2]; omega
theorem mapL_rng {by_ xs : List Int} {N : Nat} (h : ∀ x ∈ by_, 0 ≤ x ∧ x < (N : Int)) (h0 : 0 < N) : ∀ x ∈ mapL by_ xs, 0 ≤ x ∧ x < (N : Int) := by
  intro x hx
  unfold mapL at hx
  obtain ⟨i, _, rfl⟩ := List.mem_map.1 hx
  rcases Nat.lt_or_ge i.toNat by_.length with h1 | h1
  · rw [List.getD_eq_getElem?_getD, List.getElem?_eq_getElem h1]; exact h _ (List.getElem_mem h1)
  · rw [List.getD_eq_getElem?_getD, List.getElem?_eq_none h1]; simp; omega
def nodeAt (nodes : List NodeD) (i : Int) : NodeD := nodes.getD i.toNat ⟨0, 0, 0, []⟩
def keepN (nodes : List NodeD) (by_ : List Int) (i : Int) : NodeD := { nodeAt nodes i with src := mapL by_ (nodeAt nodes i).src }
def keepP (x : PatchD) (keep : List Int) : PatchD :=
  ⟨x.inputs, x.tables, keep.map (keepN x.nodes (byL x.nodes.length keep)), mapL (byL x.nodes.length keep) x.outputs⟩
theorem keepN_succ {nodes : List NodeD} {by_ keep : List Int} {k : Nat} (h : k < keep.length) : (keep.take (k + 1)).map (keepN nodes by_) = (keep.take k).map (keepN nodes by_) ++ [keepN nodes by_ keep[k]] := by
  rw [List.take_succ_eq_append_getElem h, List.map_append]; rfl
def trimP (x : PatchD) : PatchD := keepP x (need x)
end Go.Proofs.YtcfhcmgmkhfjjaaGreat

namespace Go.Proofs.YtcfhcmgmkhfjjaaGreat
open Go.ChangeShapes Go.WideShapes Go.ChangeAt Go.RowKit Go.Sort
set_option linter.unusedVariables false

theorem belowDrew (w : World) : Below w.heap.size w w.drew := ⟨rfl, rfl, rfl, Nat.le_refl _, fun _ _ => rfl⟩
theorem PPatch.of {w : World} {x : PatchD} {v : Value} (h : VPatch w v x) : ∃ p1 c1 p2 c2 p3 c3, v = .agg #[.int .i64 x.inputs, .slice p1 x.tables.length c1, .slice p2 x.nodes.length c2, .slice p3 x.outputs.length c3] ∧
    PPatch (w.alloc (.cells #[.int .i64 x.inputs, .slice p1 x.tables.length c1, .slice p2 x.nodes.length c2, .slice p3 x.outputs.length c3] 28)) w.heap.size x := by
  obtain ⟨p1, c1, p2, c2, p3, c3, rfl, r1, r2, r3⟩ := h
  have hB0 : Below w.heap.size w (w.alloc (.cells #[.int .i64 x.inputs, .slice p1 x.tables.length c1, .slice p2 x.nodes.length c2, .slice p3 x.outputs.length c3] 28)) := (Below.refl _ _).alloc (Nat.le_refl _) _
  exact ⟨p1, c1, p2, c2, p3, c3, rfl, p1, c1, p2, c2, p3, c3, Box.newAt w _ _ rfl, r1.below hB0, r2.below hB0, r3.below hB0⟩
theorem l07Ok_any {g : Nat} {x : PatchD} (w : World) (h : PPatch w g x) :
    Calls Tryz.prog 20 #[.pointer (some ⟨g, 0, none⟩)] w fun e w' => e = .returned (.bool (okB x)) ∧ Below w.heap.size w w' := by
  have HR : Hid (∀ b, formedB x = b → okB x = (b && decide ((orderL x.nodes).length = x.nodes.length))) := fun b hb => by unfold okB; rw [hb]
  generalize okB x = R at HR ⊢
  have FM := Lib.hid (l07Formed_any w h)
  cases hF : formedB x
  case false =>
    rw [hF] at FM
    obtain rfl := HR.out _ hF
    go_enter Tryz.func20, Tryz.ntmps20
    go_wp2_with (go_at_call 41; refine FM.out.mono ?_; rintro e W1 ⟨rfl, hb1⟩)
    go_ret
    exact ⟨rfl, hb1⟩
  rw [hF] at FM
  obtain rfl := HR.out _ hF
  generalize hb : decide ((orderL x.nodes).length = x.nodes.length) = b
  have HB := Lib.hid hb
  clear hb HR
  go_enter Tryz.func20, Tryz.ntmps20
  go_wp2_with (go_at_call 41; refine FM.out.mono ?_; rintro e W1 ⟨rfl, hb1⟩)
  refine (l07Order_any W1 (h.below hb1) hF).mono ?_
  rintro e W2 ⟨u, rfl, ho, hb2⟩
  rw [HB.out]
  go_wp2_with fail
  go_ret
  exact ⟨rfl, hb1.trans (hb2.mono hb1.size)⟩
set_option maxHeartbeats 1600000 in
set_option maxRecDepth 100000 in
theorem isPatch_v {v : Value} {x : PatchD} (w : World) (h : VPatch w v x) :
    Calls Tryz.prog 18 #[v] w fun e w' => e = .returned (.bool (okB x)) ∧ Below w.heap.size w w' := by
  have HR : Hid (∀ b, formedB x = b → okB x = (b && decide ((orderL x.nodes).length = x.nodes.length))) := fun b hb => by unfold okB; rw [hb]
  generalize okB x = R at HR ⊢
  have hv := h
  obtain ⟨p1, c1, p2, c2, p3, c3, rfl, r1, r2, r3⟩ := h
  have hl2 := r2.len
  unfold maxLen at hl2
  clear r1 r2 r3
  obtain ⟨g, hg⟩ : ∃ g, g = w.heap.size := ⟨_, rfl⟩
  obtain ⟨E0, hE0⟩ : ∃ E, E = w.alloc (.cells #[.int .i64 x.inputs, .slice p1 x.tables.length c1, .slice p2 x.nodes.length c2, .slice p3 x.outputs.length c3] 28) := ⟨_, rfl⟩
  have hB0 : Below w.heap.size w E0 := by rw [hE0]; exact (Below.refl _ _).alloc (Nat.le_refl _) _
  have bx : Box E0 g [.int .i64 x.inputs, .slice p1 x.tables.length c1, .slice p2 x.nodes.length c2, .slice p3 x.outputs.length c3] 28 := by rw [hE0, hg]; exact Box.newAt w _ _ rfl
  have HE := Lib.hid hE0
  have HG := Lib.hid hg
  clear hE0 hg
  have z0 := bx.cell 0 rfl
  have z1 := bx.cell 1 rfl
  have z2 := bx.cell 2 rfl
  have z3 := bx.cell 3 rfl
  have hgl := bx.lt
  have k1 : Hid (∀ b, formedB x = b → ∀ W, Below E0.heap.size E0 W → Calls Tryz.prog 38 #[.agg #[.int .i64 x.inputs, .slice p1 x.tables.length c1, .slice p2 x.nodes.length c2, .slice p3 x.outputs.length c3]] W fun e w' => e = .returned (.bool b) ∧ Below W.heap.size W w') := fun b hb W hW => by
    rw [← hb]; exact isWellFormed_v W (hv.below (hB0.trans (hW.mono hB0.size)))
  have k2 : Hid (formedB x = true → ∀ W, Below E0.heap.size E0 W → Calls Tryz.prog 39 #[.agg #[.int .i64 x.inputs, .slice p1 x.tables.length c1, .slice p2 x.nodes.length c2, .slice p3 x.outputs.length c3]] W fun e w' => ∃ p c, e = .returned (.slice p (orderL x.nodes).length c) ∧ Below W.heap.size W w') := fun hb W hW =>
    (order_v W (hv.below (hB0.trans (hW.mono hB0.size))) hb).mono fun e w' ⟨u, he, ho, hbl⟩ => by
      obtain ⟨p, c, rfl, -⟩ := ho.rd
      exact ⟨p, c, he, hbl⟩
  clear hv bx
  have hcur := belowDrew E0
  cases hF : formedB x
  case false =>
    have k3 := Lib.hid (k1.out _ hF)
    obtain rfl := HR.out _ hF
    have K := Lib.hid (fun n os => Calls.regrown_of (k3.out _ (below_regrown E0 n os)))
    have s0 := cell_regrown z0
    have s1 := cell_regrown z1
    have s2 := cell_regrown z2
    have s3 := cell_regrown z3
    clear k1 k2 HR hF k3 z0 z1 z2 z3 hcur
    go_enter Tryz.func18, Tryz.ntmps18
    go_upto_region 1 with fail
    rw [← HE.out, ← HG.out]
    refine wp_region_quiet_below (by kernel_rfl) (by kernel_rfl) ?_
    repeat (first | go_big_quiet_step ((go_at_call 38; exact K.out _ _)) | quiet_step ((go_at_call 38; exact K.out _ _)))
    refine wpQuiet_nil ?_
    intro _ hw'
    obtain ⟨⟨dq, osq⟩, hw''⟩ := hw'
    subst hw''
    have hq := below_regrown E0 dq osq
    go_wp2_with fail
    go_ret
    exact ⟨rfl, hB0.trans (hq.mono hB0.size)⟩
  have k3 := Lib.hid (k1.out _ hF)
  have k4 := Lib.hid (k2.out hF)
  obtain rfl := HR.out _ hF
  clear k1 k2 HR hF
  generalize hm : (orderL x.nodes).length = m at k4 ⊢
  clear hm
  have RES : Hid (∀ b : Bool, ((m : Int) == (x.nodes.length : Int)) = b → (true && decide (m = x.nodes.length)) = b) := fun b hb => by
    rw [← hb, Bool.true_and, Bool.eq_iff_iff, decide_eq_true_iff, beq_iff_eq]; omega
  generalize (true && decide (m = x.nodes.length)) = R at RES ⊢
  cases hq : ((m : Int) == (x.nodes.length : Int))
  all_goals
    obtain rfl := RES.out _ hq
    go_enter Tryz.func18, Tryz.ntmps18
    go_upto_region 1 with fail
    rw [← HE.out, ← HG.out]
    go_region_held3 (fun W => W.cell? ⟨g, 0, none⟩ = some (.int .i64 x.inputs) ∧ W.cell? ⟨g, 1, none⟩ = some (.slice p1 x.tables.length c1) ∧ W.cell? ⟨g, 2, none⟩ = some (.slice p2 x.nodes.length c2) ∧ W.cell? ⟨g, 3, none⟩ = some (.slice p3 x.outputs.length c3)) (first | go_keep | exact ⟨(hcur.cell (p := ⟨g, 0, none⟩) hgl).trans z0, (hcur.cell (p := ⟨g, 1, none⟩) hgl).trans z1, (hcur.cell (p := ⟨g, 2, none⟩) hgl).trans z2, (hcur.cell (p := ⟨g, 3, none⟩) hgl).trans z3⟩) (first | (go_at_call 38; refine (k3.out _ hcur).mono ?_; rintro e F ⟨rfl, hb⟩; have hcur := hcur.trans (hb.mono hcur.size)) | (go_at_call 39; refine (k4.out _ hcur).mono ?_; rintro e F ⟨op, oc, rfl, hb⟩; have hcur := hcur.trans (hb.mono hcur.size)))
    all_goals (go_wp2_with fail; go_ret; exact ⟨by first | rfl | exact ret_bool hq | exact ret_bool hq.symm, hB0.trans (hcur.mono hB0.size)⟩)
theorem specValidPatch_v {v : Value} {x : PatchD} (w : World) (h : VPatch w v x) :
    Calls Tryz.prog 7 #[v] w fun e w' => e = .returned (.bool (okB x)) ∧ Below w.heap.size w w' := by
  obtain ⟨p1, c1, p2, c2, p3, c3, rfl, hp⟩ := PPatch.of h
  have hB0 : Below w.heap.size w (w.alloc (.cells #[.int .i64 x.inputs, .slice p1 x.tables.length c1, .slice p2 x.nodes.length c2, .slice p3 x.outputs.length c3] 28)) := (Below.refl _ _).alloc (Nat.le_refl _) _
  have OK := Lib.hid (l07Ok_any _ hp)
  clear hp h
  go_enter Tryz.func7, Tryz.ntmps7
  go_wp2_with (go_at_call 20; refine OK.out.mono ?_; rintro e W1 ⟨rfl, hb1⟩)
  go_ret
  exact ⟨rfl, hB0.trans (hb1.mono hB0.size)⟩
end Go.Proofs.YtcfhcmgmkhfjjaaGreat

namespace Go.Proofs.YtcfhcmgmkhfjjaaGreat
open Go.ChangeShapes Go.WideShapes Go.ChangeAt Go.RowKit Go.Sort
set_option linter.unusedVariables false

/-- a list of its own and a code -/
def RetI (w : World) (L : List Int) (code : Int) (e : Ending) (w' : World) : Prop := ∃ u M, e = .returned (.tuple #[u, .int .i64 code]) ∧ OwnLI w.heap.size w' u L M ∧ Dis M ∧ Below w.heap.size w w'
theorem RetI.mk {w w' : World} {L : List Int} {code : Int} {u : Value} {B : Nat} (h : OwnI B w' u L) (hB : w.heap.size ≤ B) (hb : Below w.heap.size w w') : RetI w L code (.returned (.tuple #[u, .int .i64 code])) w' :=
  ⟨u, [u], rfl, ⟨h.mono hB, rfl⟩, List.pairwise_singleton _ _, hb⟩
def orderRes (x : PatchD) : List Int := if okB x then orderL x.nodes else []
def orderCode (x : PatchD) : Int := if formedB x then (if (orderL x.nodes).length = x.nodes.length then 0 else 7) else 1
theorem orderRes_small (x : PatchD) : cntI (orderRes x) ≤ 1048576 := by
  unfold cntI orderRes
  split
  · rename_i h
    have h1 := (formed_iff.1 (by unfold okB at h; rw [Bool.and_eq_true] at h; exact h.1)).2.2.1
    have h2 := orderL_len x.nodes
    omega
  · show (0 : Nat) ≤ 1048576; omega
/-- the code for a node of a patch -/
def askCode (x : PatchD) (node : Int) : Int := if okB x then (if inB node 0 (x.nodes.length - 1) then 0 else 2) else 1
theorem askCode_of {x : PatchD} {node : Int} {a b : Bool} (h1 : okB x = a) (h2 : inB node 0 (x.nodes.length - 1) = b) : askCode x node = if a then (if b then 0 else 2) else 1 := by unfold askCode; rw [h1, h2]
theorem okB_len {x : PatchD} (h : okB x = true) : formedB x = true ∧ (orderL x.nodes).length = x.nodes.length ∧ x.nodes.length ≤ 24 := by
  unfold okB at h
  rw [Bool.and_eq_true, decide_eq_true_iff] at h
  exact ⟨h.1, h.2, (formed_iff.1 h.1).2.2.1⟩
theorem has_any {p : Option Addr} {c : Nat} {xs : List Int} (n : Int) (w : World) (h : RdI w p xs) :
    Calls Tryz.prog 89 #[.slice p xs.length c, .int .i64 n] w fun e w' => e = .returned (.bool (xs.any (fun y => n == y))) ∧ w = w' := by
  have hlen := h.len
  unfold maxLen at hlen
  go_enter Tryz.func89, Tryz.ntmps89
  go_wp2_with fail
  go_loop [9] (fun i => ∃ k : Nat, k ≤ xs.length ∧ i = .int .i64 k ∧ (xs.take k).any (fun y => n == y) = false) (fun i => xs.length - (intOf i).toNat)
  case atStart => exact ⟨0, Nat.zero_le _, rfl, by simp⟩
  case round =>
    obtain ⟨k, hk, rfl, hall⟩ := hrel
    have HA := Lib.hid hall; clear hall
    by_cases hlt : k < xs.length
    · obtain ⟨b, o, rfl, hb, hc⟩ := h.pos hlt
      have hck := hc k hlt
      clear hc
      generalize hx : xs[k] = x at hck
      have HX := Lib.hid hx; clear hx
      cases hs : (n == x)
      · go_wp2_with fail
        go_round
        case rel => exact ⟨k + 1, by omega, by go_num, any_step hlt HA.out (by rw [HX.out]; exact hs)⟩
        case measure => simp [intOf] <;> omega
      · go_wp2_with fail
        go_ret
        exact ⟨ret_bool (any_true hlt (by rw [HX.out]; exact hs)).symm, rfl⟩
    · obtain rfl : k = xs.length := by omega
      go_wp2_with fail
      go_ret
      exact ⟨ret_bool (any_done HA.out).symm, rfl⟩
theorem any_contains' (xs : List Int) (n : Int) : xs.any (fun y => n == y) = xs.contains n := by
  rw [Bool.eq_iff_iff]
  simp
def usersK (nodes : List NodeD) (node : Int) (k : Nat) : List Int := ((List.range k).filter fun i => (nodes.getD i ⟨0, 0, 0, []⟩).src.contains node).map fun i => ((i : Nat) : Int)
theorem usersK_succ {nodes : List NodeD} {node : Int} {k : Nat} (h : k < nodes.length) {b : Bool} (hb : nodes[k].src.contains node = b) : usersK nodes node (k + 1) = usersK nodes node k ++ (if b then [(k : Int)] else []) := by
  unfold usersK
  rw [List.range_succ, List.filter_append, List.map_append]
  congr 1
  rw [List.filter_cons, getD_node h, hb]
  cases b <;> rfl
theorem usersK_len (nodes : List NodeD) (node : Int) (k : Nat) : (usersK nodes node k).length ≤ k := by
  unfold usersK
  rw [List.length_map]
  have := List.length_filter_le (fun i => (nodes.getD i ⟨0, 0, 0, []⟩).src.contains node) (List.range k)
  rw [List.length_range] at this
  exact this
def usersRes (x : PatchD) (node : Int) : List Int := if askCode x node = 0 then usersK x.nodes node x.nodes.length else []
theorem askCode_zero {x : PatchD} {node : Int} : askCode x node = 0 ↔ okB x = true ∧ inB node 0 (x.nodes.length - 1) = true := by
  unfold askCode
  cases okB x <;> cases inB node 0 ((x.nodes.length : Int) - 1) <;> simp
theorem usersRes_small (x : PatchD) (node : Int) : cntI (usersRes x node) ≤ 1048576 := by
  unfold cntI usersRes
  split
  · rename_i h
    have h1 := (okB_len (askCode_zero.1 h).1).2.2
    have h2 := usersK_len x.nodes node x.nodes.length
    omega
  · show (0 : Nat) ≤ 1048576; omega
end Go.Proofs.YtcfhcmgmkhfjjaaGreat

namespace Go.Proofs.YtcfhcmgmkhfjjaaGreat
open Go.ChangeShapes Go.WideShapes Go.ChangeAt Go.RowKit
set_option linter.unusedVariables false

/-! ### a slice of integers of the call's own that may begin within its block -/
def OwnQ (B : Nat) (w : World) (v : Value) (xs : List Int) : Prop :=
  ∃ p c, v = .slice p xs.length c ∧ xs.length ≤ c ∧ c ≤ maxLen ∧ (c = 0 ∨ ∃ g o, p = some ⟨g, o, none⟩ ∧ B ≤ g ∧ g < w.heap.size ∧ w.there g o c ∧ ∀ i (h : i < xs.length), w.cell? ⟨g, o + i, none⟩ = some (.int .i64 xs[i]))
theorem OwnQ.of {B : Nat} {w : World} {v : Value} {xs : List Int} (h : OwnI B w v xs) : OwnQ B w v xs := by
  have h' := h
  rcases h'.2 with ⟨rfl, h0⟩ | ⟨g, cap, cur, rfl, hb, hg, hn, hm, hs, ht⟩
  · obtain rfl : xs = [] := List.eq_nil_of_length_eq_zero h0
    exact ⟨none, 0, rfl, Nat.le_refl _, by simp [maxLen], .inl rfl⟩
  · have hgl : g < w.heap.size := (Array.getElem?_eq_some_iff.1 hg).1
    refine ⟨_, cap, rfl, hn, hm, .inr ⟨g, 0, rfl, hb, hgl, fun j hj => ⟨?_, World.ownsRow.frozenAt h _⟩, fun i hi => ?_⟩⟩
    · rw [cell_of_row w g _ cur _ (0, 0) hg]
      simp [hs, hj]
    · rw [Nat.zero_add, World.ownsRow.cellAt h i (by omega), List.getElem?_map, List.getElem?_eq_getElem hi]; rfl
theorem OwnQ.keep {B : Nat} {w w' : World} {v : Value} {xs : List Int} (h : OwnQ B w v xs) (hs : w.heap.size ≤ w'.heap.size) (hk : ∀ k, B ≤ k → k < w.heap.size → v.ownBlock = some k → w'.heap[k]? = w.heap[k]?) : OwnQ B w' v xs := by
  obtain ⟨p, c, rfl, h1, h2, h3⟩ := h
  refine ⟨p, c, rfl, h1, h2, h3.imp id fun ⟨g, o, e, hB, hg, ht, hc⟩ => ?_⟩
  subst e
  have hh := hk g hB hg rfl
  exact ⟨g, o, rfl, hB, by omega, fun j hj => ⟨by rw [World.cell?_of_block (a := ⟨g, o + j, none⟩) hh]; exact (ht j hj).1, by rw [World.frozen?_of_block (a := ⟨g, o + j, none⟩) hh]; exact (ht j hj).2⟩, fun i hi => (World.cell?_of_block (a := ⟨g, o + i, none⟩) hh).trans (hc i hi)⟩
theorem OwnQ.below {B : Nat} {w w' : World} {v : Value} {xs : List Int} (h : OwnQ B w v xs) (hb : Below w.heap.size w w') : OwnQ B w' v xs := h.keep hb.size fun k _ hk _ => hb.block k hk
theorem OwnQ.cons {B : Nat} {w : World} {v : Value} {x : Int} {xs : List Int} (h : OwnQ B w v (x :: xs)) :
    ∃ g o c, v = .slice (some ⟨g, o, none⟩) (xs.length + 1) (c + 1) ∧ xs.length ≤ c ∧ c + 1 ≤ maxLen ∧ B ≤ g ∧ g < w.heap.size ∧ w.cell? ⟨g, o, none⟩ = some (.int .i64 x) ∧
      OwnQ B w (.slice (if c + 1 = 1 then some ⟨g, o, none⟩ else some ⟨g, o + 1, none⟩) xs.length c) xs := by
  obtain ⟨p, c, rfl, h1, h2, h3⟩ := h
  simp only [List.length_cons] at h1
  obtain ⟨c, rfl⟩ : ∃ c', c = c' + 1 := ⟨c - 1, by omega⟩
  rcases h3 with h3 | ⟨g, o, rfl, hB, hg, ht, hc⟩
  · omega
  refine ⟨g, o, c, rfl, by omega, h2, hB, hg, hc 0 (by simp), ?_⟩
  refine ⟨_, c, rfl, by omega, by omega, ?_⟩
  by_cases e : c = 0
  · exact .inl e
  · refine .inr ⟨g, o + 1, by rw [if_neg (by omega)], hB, hg, fun j hj => ?_, fun i hi => ?_⟩
    · have := ht (j + 1) (by omega)
      rwa [show o + (j + 1) = o + 1 + j by omega] at this
    · have := hc (i + 1) (by simp; omega)
      rw [show o + (i + 1) = o + 1 + i by omega] at this
      rw [this]; simp
theorem setCells_frame (g : Nat) : ∀ (vs : List Value) (o : Nat) (w : World), (w.setCells g o vs).os = w.os ∧ (w.setCells g o vs).tape = w.tape ∧ (w.setCells g o vs).output = w.output ∧ (w.setCells g o vs).heap.size = w.heap.size ∧ ∀ k, k ≠ g → (w.setCells g o vs).heap[k]? = w.heap[k]?
  | [], _, _ => ⟨rfl, rfl, rfl, rfl, fun _ _ => rfl⟩
  | v :: vs, o, w => by
    obtain ⟨h1, h2, h3, h4, h5⟩ := setCells_frame g vs (o + 1) (w.setCell ⟨g, o, none⟩ v)
    exact ⟨h1, h2, h3, h4.trans (by simp [World.setCell]), fun k hk => (h5 k hk).trans (Below.heap_setCell _ _ _ _ hk)⟩
theorem srcI {w : World} {p : Option Addr} {ys : List Int} (h : RdI w p ys) (c : Nat) : Src Tryz.prog 1 26 (.slice p ys.length c) ys.length (ys.map (Value.int .i64)) w := by
  have one : ∀ u ∈ ys.map (Value.int .i64), u.oneCell' = true := by
    intro u hu
    simp only [List.mem_map] at hu
    obtain ⟨y, _, rfl⟩ := hu
    rfl
  rcases h.cells with rfl | ⟨b, o, rfl, hc⟩
  · cases p with
    | none => exact Src.ofNil w Tryz.underlying26 c
    | some a => exact Src.ofSlice w Tryz.underlying26 a 0 c [] (by simp) (by simp) (by simp)
  · refine Src.ofSlice w Tryz.underlying26 ⟨b, o, none⟩ ys.length c _ (by simp) (fun j u hu => ?_) one
    rw [List.getElem?_map] at hu
    rcases hj : ys[j]? with _ | y
    · rw [hj] at hu; simp at hu
    · rw [hj] at hu
      obtain ⟨hjl, hjy⟩ := List.getElem?_eq_some_iff.1 hj
      rw [Addr.add_lit, hc j hjl, hjy]
      simpa using hu
/-- append of a list to such a slice -/
theorem run_append_q (w : World) (ty : TypeId) {B : Nat} {v : Value} {xs ys : List Int} (hq : OwnQ B w v xs) {p : Option Addr} {c : Nat} (hr : RdI w p ys) (hlen : xs.length + ys.length ≤ 17592186044415) (hB : B ≤ w.heap.size) :
    ∃ v' w', (Builtin.append_ #[26, 26] ty #[v, .slice p ys.length c]).run Tryz.prog w = .ok v' w' ∧ OwnQ B w' v' (xs ++ ys) ∧ w.grownBy w' v.ownBlock := by
  obtain ⟨i0, hi, hz0, hz1, hz2⟩ := info_parts infoI
  have hS := srcI hr c
  obtain ⟨q, cc, rfl, h1, h2, h3⟩ := hq
  have e1 : (xs ++ ys).length = xs.length + ys.length := by simp
  by_cases hroom : xs.length + ys.length ≤ cc
  · rcases h3 with h3 | ⟨g, o, rfl, hBg, hg, ht, hc⟩
    · have hx : xs = [] := List.eq_nil_of_length_eq_zero (by omega)
      have hy : ys = [] := List.eq_nil_of_length_eq_zero (by omega)
      subst hx hy h3
      refine ⟨.slice q 0 0, w, ?_, ⟨q, 0, rfl, Nat.le_refl _, by simp [maxLen], .inl rfl⟩, ⟨rfl, rfl, rfl, Nat.le_refl _, fun _ _ _ => rfl⟩⟩
      cases q <;> cases p <;> simp [Builtin.append_, run_underlying Tryz.underlying26, sizeOf, typeInfo, hi, Builtin.lenOf, Builtin.firstCells, loadCells, loadCellsFrom, storeCells]
    · have hh := run_append_room_src w 26 26 ty 2 i0 Tryz.underlying26 hi g o xs.length cc (.slice p ys.length c) ys.length (ys.map (Value.int .i64)) (by rw [hz1]; exact hS) hroom
        (fun j hj => by rw [hz1, Nat.mul_one, Nat.add_assoc]; exact (ht _ (by simp at hj; omega)).1) (fun j hj => by rw [hz1, Nat.mul_one, Nat.add_assoc]; exact (ht _ (by simp at hj; omega)).2)
      rw [hz1, Nat.mul_one] at hh
      obtain ⟨f1, f2, f3, f4, f5⟩ := setCells_frame g (ys.map (Value.int .i64)) (o + xs.length) w
      refine ⟨_, _, hh, ⟨_, cc, by rw [e1], by omega, h2, .inr ⟨g, o, rfl, hBg, by omega, World.there_setCells ht _ _ _, fun i hi => ?_⟩⟩, ⟨f1, f2, f3, by omega, fun k _ hk => f5 k fun e => hk (by rw [e]; rfl)⟩⟩
      by_cases hix : i < xs.length
      · rw [World.cell?_setCells_out g _ _ _ _ (fun _ _ => Or.inl (by simp; omega)), hc i hix, List.getElem_append_left hix]
      · rw [e1] at hi
        have := World.cell?_setCells_in g (ys.map (Value.int .i64)) (o + xs.length) w (fun j hj => by rw [Nat.add_assoc]; exact (ht _ (by simp at hj; omega)).1) (i - xs.length) (by simp; omega)
        rw [show o + xs.length + (i - xs.length) = o + i by omega] at this
        rw [this, List.getElem_map, List.getElem_append_right (by omega)]
  · have hold : (Builtin.firstCells i0.size xs.length (.slice q xs.length cc)).run Tryz.prog w.drew = .ok (xs.map (Value.int .i64)).toArray w.drew := by
      rw [hz1]
      rcases h3 with h3 | ⟨g, o, rfl, hBg, hg, ht, hc⟩
      · have hx : xs = [] := List.eq_nil_of_length_eq_zero (by omega)
        subst hx
        cases q with
        | none => exact run_firstCells_none w.drew 1 0 0 cc
        | some a => exact run_firstCells_some w.drew 1 0 a 0 cc [] (by simp) (by simp)
      · refine run_firstCells_some w.drew 1 xs.length ⟨g, o, none⟩ xs.length cc _ (by simp) (fun j u hu => ?_)
        rw [List.getElem?_map] at hu
        rcases hj : xs[j]? with _ | y
        · rw [hj] at hu; simp at hu
        · rw [hj] at hu
          obtain ⟨hjl, hjy⟩ := List.getElem?_eq_some_iff.1 hj
          rw [Addr.add_lit]
          have := hc j hjl
          rw [hjy] at this
          simp only [Option.map_some, Option.some.injEq] at hu
          rw [← hu]
          exact this
    have hh := run_append_grow_src w 26 26 ty 2 i0 (.int .i64 0) Tryz.underlying26 hi hz0 q xs.length cc _ hold (.slice p ys.length c) ys.length _ (by rw [hz1]; exact hS) (by omega) (by omega)
      (by rw [hz2]; exact growslice_fits (by omega) (by omega))
    have hown : OwnI B (w.drew.alloc (.cells ((xs.map (Value.int .i64) ++ ys.map (Value.int .i64)).toArray ++ Builtin.zeroCells (Value.int .i64 0).cells (grownCap w (xs.length + ys.length) cc 2 - (xs.length + ys.length))) 2)) (.slice (some ⟨w.heap.size, 0, none⟩) (xs.length + ys.length) (grownCap w (xs.length + ys.length) cc 2)) (xs ++ ys) := by
      have hge := grownCap_ge w (xs.length + ys.length) cc 2
      have hcm : grownCap w (xs.length + ys.length) cc 2 ≤ maxLen := grownCap_le_maxLen w _ cc _ (by simp only [maxLen]; omega)
      unfold OwnI
      rw [e1]
      refine ⟨by simp, .inr ⟨w.heap.size, _, _, rfl, hB, heap_alloc_new w.drew _, hge, hcm, ?_, ?_⟩⟩
      · simp only [Array.size_append, List.size_toArray, size_zeroCells, List.length_append, List.length_map]
        show _ + _ * 1 = _
        omega
      · simp only [Array.toList_append, List.map_append]
        rw [show (xs.length + ys.length) * 1 = (xs.map (Value.int .i64) ++ ys.map (Value.int .i64)).length by simp]
        exact List.take_left
    exact ⟨_, _, hh, OwnQ.of hown, ⟨rfl, rfl, rfl, by simp, fun k hk _ => Below.heap_alloc w.drew _ k hk⟩⟩
theorem wpList_append_q {ops : Array Oper} {rest : List Oper} {o : Oper} {a : Act} {Q : Exit → Act → World → Prop} {w : World} (hgd : o.guard = none) (s x : Operand)
    (ho : o.op = .call { callee := .builtin .append, args := #[s, x], argTypes := #[26, 26] })
    {B : Nat} {v : Value} {xs ys : List Int} (hs : a.eval s = v) (hown : OwnQ B w v xs) {p : Option Addr} {m c : Nat} (hr : RdI w p ys) (hx : a.eval x = .slice p m c) (hm : m = ys.length) (hlen : xs.length + ys.length ≤ 17592186044415) (hB : B ≤ w.heap.size)
    (h : ∀ v' w', OwnQ B w' v' (xs ++ ys) → w.grownBy w' v.ownBlock → wpList Tryz.prog ops Q rest (a.put o.dst v') w') : wpList Tryz.prog ops Q (o :: rest) a w := by
  subst hm
  refine wpList_plain hgd fun K hK => ?_
  obtain ⟨v', w', h1, h2, h3⟩ := run_append_q w o.type hown (c := c) hr hlen hB
  unfold Oper.wp execOp
  simp only [ho, resolve, invoke, builtin, Sem.run_bind, Sem.run_pure, Result.andThen_ok, List.map_toArray, List.map_cons, List.map_nil, hs, hx, h1]
  exact hK _ _ (h v' w' h2 h3)
end Go.Proofs.YtcfhcmgmkhfjjaaGreat

namespace Go.Proofs.YtcfhcmgmkhfjjaaGreat
open Go.ChangeShapes Go.WideShapes Go.ChangeAt Go.RowKit Go.Sort
set_option linter.unusedVariables false

theorem put_done {out xs : List Int} {n : Int} {k : Nat} (h : k < xs.length) (H : out ++ (if true = true then xs.drop k else putR (xs.drop k) n) = putR xs n) : (out ++ [xs[k]]) ++ (if true = true then xs.drop (k + 1) else putR (xs.drop (k + 1)) n) = putR xs n := by
  rw [if_pos rfl] at H ⊢
  rw [← H, List.append_assoc]
  congr 1
  exact (List.drop_eq_getElem_cons h).symm
theorem put_less {out xs : List Int} {n : Int} {k : Nat} (h : k < xs.length) (hx : xs[k] < n) (H : out ++ (if false = true then xs.drop k else putR (xs.drop k) n) = putR xs n) : (out ++ [xs[k]]) ++ (if false = true then xs.drop (k + 1) else putR (xs.drop (k + 1)) n) = putR xs n := by
  rw [if_neg (by simp)] at H ⊢
  rw [← H, List.append_assoc, List.drop_eq_getElem_cons h, putR, if_neg (by omega)]
  rfl
theorem put_eq {out xs : List Int} {n : Int} {k : Nat} (h : k < xs.length) (hx : xs[k] = n) (H : out ++ (if false = true then xs.drop k else putR (xs.drop k) n) = putR xs n) : (out ++ [xs[k]]) ++ (if true = true then xs.drop (k + 1) else putR (xs.drop (k + 1)) n) = putR xs n := by
  rw [if_neg (by simp)] at H
  rw [if_pos rfl]
  rw [← H, List.append_assoc, List.drop_eq_getElem_cons h, putR, if_pos (by omega), if_neg (by omega)]
  rfl
theorem put_more {out xs : List Int} {n : Int} {k : Nat} (h : k < xs.length) (hx : n < xs[k]) (H : out ++ (if false = true then xs.drop k else putR (xs.drop k) n) = putR xs n) : ((out ++ [n]) ++ [xs[k]]) ++ (if true = true then xs.drop (k + 1) else putR (xs.drop (k + 1)) n) = putR xs n := by
  rw [if_neg (by simp)] at H
  rw [if_pos rfl]
  rw [← H, List.append_assoc, List.append_assoc, List.drop_eq_getElem_cons h, putR, if_pos (by omega), if_pos (by omega)]
  rfl
set_option maxHeartbeats 1600000 in
theorem l00Put_any {p : Option Addr} {c : Nat} {xs : List Int} (n : Int) (w : World) (h : RdI w p xs) (hl : xs.length ≤ 1048576) :
    Calls Tryz.prog 47 #[.slice p xs.length c, .int .i64 n] w fun e w' => ∃ v, e = .returned v ∧ OwnI w.heap.size w' v (putR xs n) ∧ Below w.heap.size w w' := by
  have h0 := OwnI.lit (B := w.heap.size) w [] (Nat.le_refl _) (by simp [maxLen])
  have hb0 := (Below.refl w.heap.size w).alloc (Nat.le_refl _) (.cells #[] 2)
  go_enter Tryz.func47, Tryz.ntmps47
  go_wp2_with fail
  go_loopw [5, 6, 7] (fun ov dv iv wr => ∃ (k : Nat) (dn : Bool) (out : List Int), k ≤ xs.length ∧ iv = .int .i64 k ∧ dv = .bool dn ∧ Hid (out.length ≤ k + dn.toNat) ∧ OwnI w.heap.size wr ov out ∧ Below w.heap.size w wr ∧ Hid (out ++ (if dn = true then xs.drop k else putR (xs.drop k) n) = putR xs n)) (fun _ _ iv _ => xs.length - (intOf iv).toNat)
  case atStart => exact ⟨0, false, [], Nat.zero_le _, rfl, rfl, by unfold Hid; simp, h0, hb0, by unfold Hid; simp⟩
  case round =>
    obtain ⟨k, dn, out, hk, rfl, rfl, hol, hown, hbel, HH⟩ := hrel
    clear h0 hb0
    obtain ⟨wi, rfl⟩ : ∃ wi : World, wi = wr := ⟨_, rfl⟩
    have hsz := hbel.size
    have hlen : out.length < 17592186044415 := by have h1 := hol.out; cases dn <;> simp only [Bool.toNat_true, Bool.toNat_false] at h1 <;> omega
    have hlen1 : out.length + 1 < 17592186044415 := by have h1 := hol.out; cases dn <;> simp only [Bool.toNat_true, Bool.toNat_false] at h1 <;> omega
    by_cases hlt : k < xs.length
    · obtain ⟨b, o, rfl, hb, hc⟩ := h.pos hlt
      have hc0 := hc k hlt
      have hck := (hbel.cell (p := ⟨b, o + k, none⟩) hb).trans hc0
      cases dn
      case true =>
        have HN : Hid _ := put_done hlt HH.out
        generalize xs[k] = xk at hc0 hck HN
        clear hc HH
        go_wp2_with (at_builtin; refine wpList_append_one rfl _ _ rfl rfl hown rfl hbel hlen hsz (Nat.le_refl _) ?_; intro v' w4 hown4 hb4 hz4 hk4)
        go_roundw
        case rel => exact ⟨k + 1, true, out ++ [xk], by omega, by go_num, rfl, by unfold Hid; have h1 := hol.out; simp only [Bool.toNat_true] at h1 ⊢; rw [List.length_append, List.length_singleton]; omega, hown4, hb4, HN⟩
        case measure => simp [intOf] <;> omega
      case false =>
        rcases Int.lt_trichotomy xs[k] n with hx | hx | hx
        · have HN : Hid _ := put_less hlt hx HH.out
          generalize xs[k] = xk at hc0 hck HN hx
          clear hc HH
          go_wp2_with (at_builtin; refine wpList_append_one rfl _ _ rfl rfl hown rfl hbel hlen hsz (Nat.le_refl _) ?_; intro v' w4 hown4 hb4 hz4 hk4)
          go_roundw
          case rel => exact ⟨k + 1, false, out ++ [xk], by omega, by go_num, rfl, by unfold Hid; have h1 := hol.out; simp only [Bool.toNat_false] at h1 ⊢; rw [List.length_append, List.length_singleton]; omega, hown4, hb4, HN⟩
          case measure => simp [intOf] <;> omega
        · have HN : Hid _ := put_eq hlt hx HH.out
          have q : ¬ (n < xs[k]) := by omega
          have q2 : n ≤ xs[k] := by omega
          generalize xs[k] = xk at hc0 hck HN q q2
          clear hc HH hx
          go_wp2_with (at_builtin; refine wpList_append_one rfl _ _ rfl rfl hown rfl hbel hlen hsz (Nat.le_refl _) ?_; intro v' w4 hown4 hb4 hz4 hk4)
          go_roundw
          case rel => exact ⟨k + 1, true, out ++ [xk], by omega, by go_num, rfl, by unfold Hid; have h1 := hol.out; simp only [Bool.toNat_true, Bool.toNat_false] at h1 ⊢; rw [List.length_append, List.length_singleton]; omega, hown4, hb4, HN⟩
          case measure => simp [intOf] <;> omega
        · have HN : Hid _ := put_more hlt hx HH.out
          have q2 : n ≤ xs[k] := by omega
          generalize xs[k] = xk at hc0 hck HN hx q2
          clear hc HH
          go_wp2_with (at_builtin; refine wpList_append_one rfl _ _ rfl rfl hown rfl hbel (by first | exact hlen | (rw [List.length_append, List.length_singleton]; omega)) hsz (Nat.le_refl _) ?_; intro v' w4 hown hbel hsz4 hk4; have hsz := hbel.size; have hck := (hbel.cell (p := ⟨b, o + k, none⟩) hb).trans hc0)
          go_roundw
          case rel => exact ⟨k + 1, true, (out ++ [n]) ++ [xk], by omega, by go_num, rfl, by unfold Hid; have h1 := hol.out; simp only [Bool.toNat_true, Bool.toNat_false] at h1 ⊢; rw [List.length_append, List.length_append, List.length_singleton, List.length_singleton]; omega, hown, hbel, HN⟩
          case measure => simp [intOf] <;> omega
    · obtain rfl : k = xs.length := by omega
      cases dn
      case true =>
        have HF : Hid (out = putR xs n) := by have := HH.out; rw [if_pos rfl, List.drop_length, List.append_nil] at this; exact this
        clear HH
        go_wp2_with fail
        go_ret
        exact ⟨_, rfl, by rw [← HF.out]; exact hown, hbel⟩
      case false =>
        have HF : Hid (out ++ [n] = putR xs n) := by have := HH.out; rw [if_neg (by simp), List.drop_length] at this; exact this
        clear HH
        go_wp2_with (at_builtin; refine wpList_append_one rfl _ _ rfl rfl hown rfl hbel hlen hsz (Nat.le_refl _) ?_; intro v' w4 hown4 hb4 hz4 hk4)
        go_ret
        exact ⟨_, rfl, by rw [← HF.out]; exact hown4, hb4⟩
end Go.Proofs.YtcfhcmgmkhfjjaaGreat

namespace Go.Proofs.YtcfhcmgmkhfjjaaGreat
open Go.ChangeShapes Go.WideShapes Go.ChangeAt Go.RowKit
set_option linter.unusedVariables false

theorem mbool (m : List Bool) {f : Nat} (h : f < m.length) (h' : f < (m.map Value.bool).length) : (m.map Value.bool)[f] = .bool (m.getD f false) := by
  rw [List.getElem_map, List.getD_eq_getElem?_getD, List.getElem?_eq_getElem h]; rfl
theorem OwnV.apart {B B' : Nat} {w : World} {E E' : TypeId} {v v' : Value} {L L' : List Value} (h : OwnV B w E v L) (h' : OwnV B' w E' v' L') (hE : E ≠ E') {k : Nat} (hk : v.ownBlock = some k) : v'.ownBlock ≠ some k := by
  intro hk'
  rcases h.cases with ⟨rfl, -⟩ | ⟨g, cap, rfl, -, -, ⟨cur, hg⟩, -⟩
  · simp [Value.ownBlock] at hk
  rcases h'.cases with ⟨rfl, -⟩ | ⟨g', cap', rfl, -, -, ⟨cur', hg'⟩, -⟩
  · simp [Value.ownBlock] at hk'
  simp only [Value.ownBlock, Option.some.injEq] at hk hk'
  subst hk hk'
  rw [hg] at hg'
  simp only [Option.some.injEq, Obj.cells.injEq] at hg'
  exact hE hg'.2.1
theorem OwnI.asV {B : Nat} {w : World} {v : Value} {xs : List Int} (h : OwnI B w v xs) : OwnV B w 2 v (xs.map (Value.int .i64)) := by
  unfold OwnV; rw [List.length_map]; exact h
set_option maxHeartbeats 3200000 in
set_option maxRecDepth 100000 in
theorem neededMarks_v {v : Value} {x : PatchD} (w : World) (h : VPatch w v x) (ok : SrcOk x.nodes) (ho : ∀ i ∈ x.outputs, 0 ≤ i ∧ i < (x.nodes.length : Int)) (hn24 : x.nodes.length ≤ 24) (ho4 : x.outputs.length ≤ 4) :
    Calls Tryz.prog 43 #[v] w fun e w' => ∃ u, e = .returned u ∧ OwnV w.heap.size w' 4 u ((marksL x.nodes x.outputs).map Value.bool) ∧ Below w.heap.size w w' := by
  obtain ⟨p1, c1, p2, c2, p3, c3, rfl, r1, r2, r3⟩ := h
  clear r1
  obtain ⟨s, hs⟩ : ∃ s, s = w.heap.size := ⟨_, rfl⟩
  obtain ⟨E0, hE0⟩ : ∃ E, E = w.alloc (.cells #[.int .i64 x.inputs, .slice p1 x.tables.length c1, .slice p2 x.nodes.length c2, .slice p3 x.outputs.length c3] 28) := ⟨_, rfl⟩
  have hB0 : Below s w E0 := by rw [hE0, hs]; exact (Below.refl _ _).alloc (Nat.le_refl _) _
  have bx : Box E0 s [.int .i64 x.inputs, .slice p1 x.tables.length c1, .slice p2 x.nodes.length c2, .slice p3 x.outputs.length c3] 28 := by rw [hE0, hs]; exact Box.newAt w _ _ rfl
  have hsz0 : E0.heap.size = s + 1 := by rw [hE0, hs]; simp
  have HE := Lib.hid hE0
  have HS0 := Lib.hid hs
  clear hE0 hs
  have hmk := fun W => run_make_row' (P := Tryz.prog) 79 4 (.bool false) 1 Tryz.underlying79 infoB rfl .i64 .i64 x.nodes.length (by omega) (by omega) W
  have ht0 := OwnV.made (B := s + 1) E0 4 (.bool false) x.nodes.length (by omega) (by unfold maxLen; omega)
  obtain ⟨E1, hE1⟩ : ∃ E, E = E0.alloc (.cells (madeCells #[.bool false] x.nodes.length) 4) := ⟨_, rfl⟩
  rw [← hE1, hsz0] at ht0
  have hsz1 : E1.heap.size = s + 1 + 1 := by rw [hE1]; simp [hsz0]
  have hB1 : Below s w E1 := by rw [hE1]; exact hB0.alloc (by omega) _
  have hB01 : Below E0.heap.size E0 E1 := by rw [hE1]; exact (Below.refl _ _).alloc (Nat.le_refl _) _
  have bx1 := bx.below hB01
  have HE1 := Lib.hid hE1.symm
  clear hE1 hB01 hB0
  rw [← List.map_replicate (f := Value.bool)] at ht0
  have hMM : Hid (qrun x.nodes (4 * x.nodes.length + x.outputs.length) (List.replicate x.nodes.length false) x.outputs = marksL x.nodes x.outputs) := rfl
  generalize marksL x.nodes x.outputs = M at hMM ⊢
  have HC : Hid (Calls Tryz.prog 78 #[.slice p3 x.outputs.length c3] E1 fun e w' => ∃ v, e = .returned v ∧ OwnI E1.heap.size w' v x.outputs ∧ Below E1.heap.size E1 w') := clone_any E1 (r3.below (by rw [← HS0.out]; exact hB1)) (by omega)
  have z2 := bx.cell 2 rfl
  have z3 := bx1.cell 3 rfl
  have OK := Lib.hid ok
  have HO := Lib.hid ho
  clear ok ho r3
  go_enter Tryz.func43, Tryz.ntmps43
  go_upto_region 1 with fail
  rw [← HE.out, ← HS0.out]
  go_upto_region 2 with fail
  rw [HE1.out]
  clear z2
  go_wp2_with fail
  refine HC.out.mono ?_
  rintro e E2 ⟨v, rfl, hown, hb2⟩
  have hB2 := hB1.trans (hb2.mono (by omega))
  have bx2 := bx1.below hb2
  have ht2 := ht0.below hb2
  have hq2 := (OwnQ.of hown).below (Below.refl _ _)
  rw [hsz1] at hq2
  clear z3 HC ht0 hown bx bx1 hmk HE HE1
  go_wp2_with fail
  go_loopg [4, 5] (4 * x.nodes.length + x.outputs.length) (fun f tv iv wr => ∃ (m : List Bool) (t : List Int), f ≤ 100 ∧ Hid (qrun x.nodes f m t = M) ∧ Hid (4 * unm m + t.length ≤ f) ∧ t.length ≤ f ∧ Hid (m.length = x.nodes.length) ∧ Hid (∀ i ∈ t, 0 ≤ i ∧ i < (x.nodes.length : Int)) ∧
      OwnQ (s + 1 + 1) wr tv t ∧ OwnV (s + 1) wr 4 (.slice (some ⟨s + 1, 0, none⟩) x.nodes.length x.nodes.length) (m.map Value.bool) ∧ Below s w wr ∧ Box wr s [.int .i64 x.inputs, .slice p1 x.tables.length c1, .slice p2 x.nodes.length c2, .slice p3 x.outputs.length c3] 28)
  case atStart => exact ⟨_, x.outputs, by omega, hMM, by unfold Hid; rw [unm_false]; omega, by omega, by unfold Hid; simp, HO, hq2, ht2, hB2, bx2⟩
  case round =>
    obtain ⟨m, t, hf, HQ, HU, htl, HL, HT, hq, hm, hbel, hbx⟩ := hrel
    clear hq2 ht2 hB2 bx2 hMM HO
    obtain ⟨wi, rfl⟩ : ∃ wi : World, wi = wr := ⟨_, rfl⟩
    cases t with
    | nil =>
      obtain ⟨qp, qc, rfl, -, -, -⟩ := hq
      have HM : Hid (m = M) := by have := HQ.out; cases gk <;> exact this
      go_wp2_with fail
      go_ret
      exact ⟨_, rfl, by rw [← HM.out, ← HS0.out]; exact hm.mono (by omega), by rw [← HS0.out]; exact hbel⟩
    | cons i t =>
      obtain ⟨g, o, c, rfl, hc1, hc2, hBg, hgl, hci, hqt⟩ := hq.cons
      obtain ⟨hi0, hi1⟩ := HT.out i (List.mem_cons_self ..)
      obtain ⟨k, rfl⟩ : ∃ k : Nat, i = k := ⟨i.toNat, by omega⟩
      have hkn : k < x.nodes.length := by omega
      simp only [List.length_cons] at htl
      obtain ⟨f, rfl⟩ : ∃ f, gk = f + 1 := ⟨gk - 1, by omega⟩
      have hkm : k < m.length := by rw [HL.out]; exact hkn
      have hkv : k < (m.map Value.bool).length := by rw [List.length_map]; exact hkm
      obtain ⟨-, -, hsl, hck, hfk, hset⟩ := hm.storing (k := k) hkv
      rw [mbool m hkm hkv] at hck
      have hbel' : Below w.heap.size w wi := by rw [← HS0.out]; exact hbel
      have HCH : Hid (∃ p' c', OwnQ (s + 1 + 1) wi (.slice p' t.length c') t ∧ ((c = 0 ∧ p' = some ⟨g, o, none⟩ ∧ c' = 0) ∨ ∃ c2, c = c2 + 1 ∧ p' = some ⟨g, o + 1, none⟩ ∧ c' = c2 + 1)) := by
        rcases Nat.eq_zero_or_pos c with rfl | hcp
        · exact ⟨_, _, hqt, .inl ⟨rfl, by simp, rfl⟩⟩
        · exact ⟨_, _, hqt, .inr ⟨c - 1, by omega, by rw [if_neg (by omega)], by omega⟩⟩
      have HG1 := Lib.hid hBg
      clear hqt hc1
      cases hb : m.getD k false
      case true =>
        rw [hb] at hck
        have HN : Hid (qrun x.nodes f m t = M) := by have := HQ.out; rw [qrun, Int.toNat_natCast, if_pos hb] at this; exact this
        have HU' : Hid (4 * unm m + t.length ≤ f) := by have := HU.out; unfold Hid; simp only [List.length_cons] at this; omega
        have HT' : Hid (∀ i ∈ t, 0 ≤ i ∧ i < (x.nodes.length : Int)) := fun i hi => HT.out i (List.mem_cons_of_mem _ hi)
        clear hb HQ HU HT hset hkv hkm
        obtain ⟨p', c', hqt, ⟨rfl, rfl, rfl⟩ | ⟨c2, rfl, rfl, rfl⟩⟩ := HCH.out
        all_goals
          clear HCH
          have HQT := Lib.hid hqt
          clear hqt
          go_wp2_with fail
          go_roundg f
          case measure => omega
          case rel => exact ⟨m, t, by omega, HN, HU', by omega, HL, HT', HQT.out, hm, hbel, hbx⟩
      case false =>
        rw [hb] at hck
        have HN : Hid (qrun x.nodes f (m.set k true) (t ++ srcs x.nodes k) = M) := by have := HQ.out; rw [qrun, Int.toNat_natCast, if_neg (by rw [hb]; simp)] at this; exact this
        have hs3 := srcs_len OK.out (k : Int)
        have HU' : Hid (4 * unm (m.set k true) + (t ++ srcs x.nodes k).length ≤ f) := by
          have h1 := HU.out
          have h2 := unm_set m k hkm hb
          unfold Hid
          simp only [List.length_cons] at h1
          rw [List.length_append]
          omega
        have htl' : t.length + (srcs x.nodes k).length ≤ f := by have := HU'.out; rw [List.length_append] at this; omega
        have HT' : Hid (∀ i ∈ t ++ srcs x.nodes k, 0 ≤ i ∧ i < (x.nodes.length : Int)) := fun i hi => by
          rcases List.mem_append.1 hi with hi | hi
          · exact HT.out i (List.mem_cons_of_mem _ hi)
          · exact srcs_rng OK.out hi
        have hse : srcs x.nodes (k : Int) = x.nodes[k].src := by unfold srcs; rw [Int.toNat_natCast, getD_node hkn]
        obtain ⟨b2, o2, rfl, hbl2, hcc⟩ := r2.pos hkn
        obtain ⟨-, -, -, q, d, y3, hr⟩ := hcc k hkn
        rw [← hse] at y3 hr
        generalize srcs x.nodes (k : Int) = ys at HN hs3 HU' htl' HT' y3 hr
        have HM1 : Hid (OwnV (s + 1) (wi.setCell ⟨s + 1, k, none⟩ (.bool true)) 4 (.slice (some ⟨s + 1, 0, none⟩) x.nodes.length x.nodes.length) ((m.set k true).map Value.bool)) := by
          have := hset (.bool true)
          rw [← List.map_set] at this
          exact this
        have hb1 : Below w.heap.size w (wi.setCell ⟨s + 1, k, none⟩ (.bool true)) := hbel'.setCell (by simp; rw [← HS0.out]; omega) _
        have hbx1 := hbx.other (a := ⟨s + 1, k, none⟩) (by simp) (.bool true)
        obtain ⟨F, hF⟩ : ∃ F, F = wi.setCell ⟨s + 1, k, none⟩ (.bool true) := ⟨_, rfl⟩
        rw [← hF] at HM1 hb1 hbx1
        have HF := Lib.hid hF
        have hrF := hr.below hb1
        have Y3 := (hb1.cell (p := ⟨b2, o2 + k * 4 + 3, none⟩) hbl2).trans y3
        have z2 := hbx1.cell 2 rfl
        have HCF : Hid (∀ p' c', OwnQ (s + 1 + 1) wi (.slice p' t.length c') t → OwnQ (s + 1 + 1) F (.slice p' t.length c') t) := fun p' c' hqt => by
          rw [hF]; exact hqt.keep (by simp [World.setCell]) fun j hj _ _ => Below.heap_setCell _ _ _ _ (by simp; omega)
        have hlF : s + 1 + 1 ≤ F.heap.size := by rw [hF]; simp [World.setCell]; omega
        have HLM : Hid ((m.set k true).length = x.nodes.length) := by unfold Hid; rw [List.length_set]; exact HL.out
        clear hb HQ HU HT hset hkv hkm hse hcc hr y3 hm hF
        obtain ⟨p', c', hqt, ⟨rfl, rfl, rfl⟩ | ⟨c2, rfl, rfl, rfl⟩⟩ := HCH.out
        all_goals
          have hqF := HCF.out _ _ hqt
          clear hqt HCH HCF
          go_upto_region 8 with fail
          rw [← HF.out]
          go_wp2_with (at_builtin; refine wpList_append_q rfl _ _ rfl rfl hqF hrF rfl rfl (by omega) hlF ?_; intro v' w4 hq4 hg4)
          replace hg4 : F.grownBy w4 (some g) := hg4
          have hb4 : Below w.heap.size w w4 := by
            refine hb1.grown hg4 (by have := HS0.out; omega) fun j hj => ?_
            have e1 := HG1.out
            have e2 := HS0.out
            simp only [Option.some.injEq] at hj
            omega
          have hm4 := HM1.out.keep (w' := w4) fun j hj => by
            have e1 := HG1.out
            have e3 := (HM1.out.lt hj).2
            have e4 : s + 1 = j := by simpa [Value.ownBlock] using hj
            exact hg4.block j e3 (by simp; omega)
          have hbx4 := hbx1.keep (hg4.block s (by omega) (by have := HG1.out; simp; omega))
          go_roundg f
          case measure => omega
          case rel => exact ⟨m.set k true, t ++ ys, by omega, HN, HU', by rw [List.length_append]; omega, HLM, HT', hq4, hm4, by rw [HS0.out]; exact hb4, hbx4⟩
set_option maxHeartbeats 1600000 in
set_option maxRecDepth 100000 in
theorem needed_v {v : Value} {x : PatchD} (w : World) (h : VPatch w v x) (hf : formedB x = true) :
    Calls Tryz.prog 23 #[v] w fun e w' => ∃ u, e = .returned u ∧ OwnI w.heap.size w' u (need x) ∧ Below w.heap.size w w' := by
  have hv := h
  have hn24 := (formed_iff.1 hf).2.2.1
  have ho4 := (formed_iff.1 hf).2.2.2.1
  obtain ⟨p1, c1, p2, c2, p3, c3, rfl, r1, r2, r3⟩ := h
  clear r1 r2 r3
  obtain ⟨s, hs⟩ : ∃ s, s = w.heap.size := ⟨_, rfl⟩
  obtain ⟨E1, hE1⟩ : ∃ E, E = (w.alloc (.cells #[.int .i64 x.inputs, .slice p1 x.tables.length c1, .slice p2 x.nodes.length c2, .slice p3 x.outputs.length c3] 28)).alloc (.cells #[] 2) := ⟨_, rfl⟩
  have hB0 : Below w.heap.size w (w.alloc (.cells #[.int .i64 x.inputs, .slice p1 x.tables.length c1, .slice p2 x.nodes.length c2, .slice p3 x.outputs.length c3] 28)) := (Below.refl _ _).alloc (Nat.le_refl _) _
  have hB1 : Below w.heap.size w E1 := by rw [hE1]; exact hB0.alloc (by simp) _
  have bx : Box E1 s [.int .i64 x.inputs, .slice p1 x.tables.length c1, .slice p2 x.nodes.length c2, .slice p3 x.outputs.length c3] 28 := by rw [hE1, hs]; exact (Box.newAt w _ _ rfl).alloc _
  have h0 : OwnI (s + 1) E1 (.slice (some ⟨s + 1, 0, none⟩) 0 0) [] := by
    have := OwnI.lit (B := s + 1) (w.alloc (.cells #[.int .i64 x.inputs, .slice p1 x.tables.length c1, .slice p2 x.nodes.length c2, .slice p3 x.outputs.length c3] 28)) [] (by rw [hs]; simp) (by simp [maxLen])
    rw [hE1]
    rw [hs] at this ⊢
    simpa using this
  have HN : Hid (Calls Tryz.prog 43 #[.agg #[.int .i64 x.inputs, .slice p1 x.tables.length c1, .slice p2 x.nodes.length c2, .slice p3 x.outputs.length c3]] E1 fun e w' => ∃ u, e = .returned u ∧ OwnV E1.heap.size w' 4 u ((marksL x.nodes x.outputs).map Value.bool) ∧ Below E1.heap.size E1 w') := neededMarks_v E1 (hv.below hB1) (formed_src hf) (formed_outs hf) hn24 ho4
  have HML : Hid ((marksL x.nodes x.outputs).length = x.nodes.length) := (marksL_end (formed_src hf) (formed_outs hf)).len
  have HNE : Hid (ups (marksL x.nodes x.outputs) x.nodes.length = need x) := rfl
  generalize need x = R at HNE ⊢
  generalize marksL x.nodes x.outputs = M at HN HML HNE
  have hsz1 : E1.heap.size = s + 1 + 1 := by rw [hE1, hs]; simp
  have HE := Lib.hid hE1
  have HS := Lib.hid hs
  clear hE1 hs hv hf hB0
  have z0 := bx.cell 0 rfl
  have z1 := bx.cell 1 rfl
  have z2 := bx.cell 2 rfl
  have z3 := bx.cell 3 rfl
  go_enter Tryz.func23, Tryz.ntmps23
  go_upto_region 2 with fail
  rw [← HE.out, ← HS.out]
  go_wp2_with fail
  refine HN.out.mono ?_
  rintro e E2 ⟨u, rfl, hm, hb2⟩
  have h02 := h0.below hb2
  have hB2 := hB1.trans (hb2.mono hB1.size)
  rcases hm.cases with ⟨rfl, e0⟩ | ⟨g, mc, rfl, hgB, hgl, -, -⟩
  · have hn0 : x.nodes.length = 0 := by rw [← HML.out]; simpa using congrArg List.length e0
    have HR : Hid ([] = R) := by unfold Hid; rw [← HNE.out, hn0]; rfl
    clear HN HNE HML z0 z1 z2 z3 bx h0
    have : (List.map Value.bool M).length = 0 := by rw [e0]; rfl
    go_wp2_with fail
    go_loopw [3, 4, 5, 10] (fun ov _ _ iv wr => iv = .int .i64 (0 : Nat) ∧ ov = .slice (some ⟨s + 1, 0, none⟩) 0 0 ∧ wr = E2) (fun _ _ _ _ _ => 0)
    case atStart => exact ⟨rfl, rfl, rfl⟩
    case round =>
      obtain ⟨rfl, rfl, rfl⟩ := hrel
      go_wp2_with fail
      go_ret
      exact ⟨_, rfl, by rw [← HR.out, ← HS.out]; exact h02.mono (by omega), hB2⟩
  have hcl : (List.map Value.bool M).length = x.nodes.length := by rw [List.length_map]; exact HML.out
  rw [hcl] at hm ⊢
  clear hcl HN z0 z1 z2 z3 bx h0
  go_wp2_with fail
  go_loopw [3, 4, 5, 10] (fun ov _ _ iv wr => ∃ k : Nat, k ≤ x.nodes.length ∧ iv = .int .i64 k ∧ OwnI (s + 1) wr ov (ups M k) ∧ OwnV E1.heap.size wr 4 (.slice (some ⟨g, 0, none⟩) x.nodes.length mc) (M.map Value.bool) ∧ Below w.heap.size w wr) (fun _ _ _ iv _ => x.nodes.length - (intOf iv).toNat)
  case atStart => exact ⟨0, Nat.zero_le _, rfl, h02, hm, hB2⟩
  case round =>
    obtain ⟨k, hk, rfl, hown, hmr, hbel⟩ := hrel
    clear h02 hm hB2
    obtain ⟨wi, rfl⟩ : ∃ wi : World, wi = wr := ⟨_, rfl⟩
    have hul := ups_length M k
    have hsz := hbel.size
    by_cases hlt : k < x.nodes.length
    · have hkm : k < M.length := by rw [HML.out]; exact hlt
      have hkv : k < (M.map Value.bool).length := by rw [List.length_map]; exact hkm
      obtain ⟨-, -, hgl2, hck, -, -⟩ := hmr.storing (k := k) hkv
      rw [mbool M hkm hkv] at hck
      have HU : Hid (∀ b, M.getD k false = b → ups M (k + 1) = ups M k ++ (if b then [(k : Int)] else [])) := fun b hb => ups_succ M k hb
      cases hb : M.getD k false
      case false =>
        rw [hb] at hck
        have HU2 := Lib.hid (HU.out _ hb)
        clear hb HU hkm hkv
        go_wp2_with fail
        go_roundw
        case rel => exact ⟨k + 1, by omega, by go_num, by rw [HU2.out]; simpa using hown, hmr, hbel⟩
        case measure => simp [intOf] <;> omega
      case true =>
        rw [hb] at hck
        have HU2 := Lib.hid (HU.out _ hb)
        clear hb HU hkm hkv
        have hs1 : s + 1 ≤ wi.heap.size := by omega
        go_wp2_with (at_builtin; refine wpList_append_one rfl _ _ rfl rfl hown rfl hbel (by omega) hs1 (by have := HS.out; omega) ?_; intro v' w4 hown4 hb4 hz4 hk4)
        go_roundw
        case rel => exact ⟨k + 1, by omega, by go_num, by rw [HU2.out]; exact hown4, hmr.keep fun j hj => hk4 j (hmr.lt hj).2 (fun e => hmr.apart hown.asV (by decide) hj e), hb4⟩
        case measure => simp [intOf] <;> omega
    · obtain rfl : k = x.nodes.length := by omega
      have HR := HNE
      clear HNE
      generalize hU : ups M x.nodes.length = U at hown HR hul
      clear hU
      have hh := hown
      obtain ⟨up, uc, rfl, -⟩ := hh.rd
      have HO := Lib.hid hown
      clear hown hh
      go_wp2_with fail
      go_ret
      exact ⟨_, rfl, by rw [← HR.out, ← HS.out]; exact HO.out.mono (by omega), hbel⟩
end Go.Proofs.YtcfhcmgmkhfjjaaGreat

namespace Go.Proofs.YtcfhcmgmkhfjjaaGreat
open Go.ChangeShapes Go.WideShapes Go.ChangeAt Go.RowKit
set_option linter.unusedVariables false

theorem putAll_snoc {out l : List Int} {k : Nat} (h : k < l.length) : putAll out (l.take (k + 1)) = putR (putAll out (l.take k)) l[k] := by
  unfold putAll
  rw [List.take_succ_eq_append_getElem h, List.foldl_append]
  rfl
theorem putAll_cons {out l : List Int} {k : Nat} (h : k < l.length) : putAll out (l.drop k) = putAll (putR out l[k]) (l.drop (k + 1)) := by
  rw [List.drop_eq_getElem_cons h]; rfl
theorem rndL_cons {nodes : List NodeD} {out l : List Int} {k : Nat} (h : k < l.length) : rndL nodes out (l.drop k) = rndL nodes (putAll out (srcs nodes l[k])) (l.drop (k + 1)) := by
  rw [List.drop_eq_getElem_cons h]; rfl
/-- rising places in the patch: not more than there are nodes -/
def Pl (n : Nat) (xs : List Int) : Prop := Rising xs ∧ ∀ i ∈ xs, 0 ≤ i ∧ i < (n : Int)
theorem Pl.len {n : Nat} {xs : List Int} (h : Pl n xs) : xs.length ≤ n := rising_len (a := 0) h.1 fun i hi => by have := h.2 i hi; omega
theorem Pl.put {n : Nat} {xs : List Int} (h : Pl n xs) {i : Int} (h0 : 0 ≤ i) (h1 : i < (n : Int)) : Pl n (putR xs i) := ⟨putR_rising h.1, fun j hj => by
  rcases mem_putR.1 hj with rfl | hj
  · exact ⟨h0, h1⟩
  · exact h.2 j hj⟩
theorem Pl.nil (n : Nat) : Pl n [] := ⟨by simp [Rising], by simp⟩
set_option maxHeartbeats 6400000 in
set_option maxRecDepth 100000 in
theorem l07Needed_any {g : Nat} {x : PatchD} (w : World) (h : PPatch w g x) (hf : formedB x = true) :
    Calls Tryz.prog 28 #[.pointer (some ⟨g, 0, none⟩)] w fun e w' => ∃ u, e = .returned u ∧ OwnI w.heap.size w' u (need x) ∧ Below w.heap.size w w' := by
  have hn24 := (formed_iff.1 hf).2.2.1
  have ho4 := (formed_iff.1 hf).2.2.2.1
  have OK := Lib.hid (formed_src hf)
  have HO := Lib.hid (formed_outs hf)
  have HNE : Hid (sat x.nodes (x.nodes.length + 1) (putAll [] x.outputs) = need x) := needL_eq (formed_src hf) (formed_outs hf)
  generalize need x = R at HNE ⊢
  obtain ⟨p1, c1, p2, c2, p3, c3, bx, r1, r2, r3⟩ := h
  clear r1 hf
  have h0 := OwnI.lit (B := w.heap.size) w [] (Nat.le_refl _) (by simp [maxLen])
  have hb0 := (Below.refl w.heap.size w).alloc (Nat.le_refl _) (.cells #[] 2)
  go_enter Tryz.func28, Tryz.ntmps28
  go_wp2_with fail
  go_loopw [3, 4] (fun ov iv wr => ∃ k : Nat, k ≤ x.outputs.length ∧ iv = .int .i64 k ∧ OwnI w.heap.size wr ov (putAll [] (x.outputs.take k)) ∧ Below w.heap.size w wr ∧ Hid (Pl x.nodes.length (putAll [] (x.outputs.take k)))) (fun _ iv _ => x.outputs.length - (intOf iv).toNat)
  case atStart => exact ⟨0, Nat.zero_le _, rfl, by simpa [putAll] using h0, hb0, by unfold Hid; rw [List.take_zero]; exact Pl.nil _⟩
  case round =>
    obtain ⟨k, hk, rfl, hown, hbel, HP⟩ := hrel
    clear h0 hb0
    obtain ⟨wi, rfl⟩ : ∃ wi : World, wi = wr := ⟨_, rfl⟩
    have bx1 := bx.below hbel
    have z3 := bx1.cell 3 rfl
    by_cases hlt : k < x.outputs.length
    · obtain ⟨b, o, rfl, hb, hc⟩ := r3.pos hlt
      have hck := (hbel.cell (p := ⟨b, o + k, none⟩) hb).trans (hc k hlt)
      have hr := HO.out _ (List.getElem_mem hlt)
      have HN : Hid (putAll [] (x.outputs.take (k + 1)) = putR (putAll [] (x.outputs.take k)) x.outputs[k]) := putAll_snoc hlt
      have HP2 : Hid (Pl x.nodes.length (putR (putAll [] (x.outputs.take k)) x.outputs[k])) := HP.out.put hr.1 hr.2
      have hll := HP.out.len
      generalize putAll [] (x.outputs.take k) = cur at hown HP HN HP2 hll
      generalize x.outputs[k] = y at hck HN HP2
      obtain ⟨op, oc, rfl, hro⟩ := hown.rd
      have PU := Lib.hid (fun W hW => l00Put_any (c := oc) y W (hro.below hW) (by omega))
      clear hc hr hro hown
      go_wp2_with fail
      refine (PU.out wi (Below.refl _ _)).mono ?_
      rintro e W2 ⟨v, rfl, ho2, hb2⟩
      go_wp2_with fail
      go_roundw
      case rel => exact ⟨k + 1, by omega, by go_num, by rw [HN.out]; exact ho2.mono hbel.size, hbel.trans (hb2.mono hbel.size), by unfold Hid; rw [HN.out]; exact HP2.out⟩
      case measure => simp [intOf] <;> omega
    · obtain rfl : k = x.outputs.length := by omega
      rw [List.take_length] at hown HP
      go_wp2_with fail
      have HS : Hid (sat x.nodes (x.nodes.length + 1) (putAll [] x.outputs) = R) := HNE
      generalize putAll [] x.outputs = out0 at hown HP HS
      clear HO HNE r3 z3 bx1 ho4
      go_loopg [3, 5] (x.nodes.length + 2) (fun f ov mv wr' => ∃ (out : List Int) (more : Bool), mv = .bool more ∧ OwnI w.heap.size wr' ov out ∧ Below w.heap.size w wr' ∧ Hid (Pl x.nodes.length out) ∧ Hid ((more = true → ∃ f', f = f' + 1 ∧ sat x.nodes f' out = R ∧ x.nodes.length < f' + out.length) ∧ (more = false → out = R)))
      case atStart => exact ⟨out0, true, rfl, hown, hbel, HP, by unfold Hid; exact ⟨fun _ => ⟨x.nodes.length + 1, rfl, HS.out, by omega⟩, fun h => by cases h⟩⟩
      case round =>
        clear hown hbel HP HS
        obtain ⟨out, more, rfl, hown, hbel, HP, HM⟩ := hrel
        obtain ⟨wj, rfl⟩ : ∃ wj : World, wj = wr := ⟨_, rfl⟩
        cases more
        case false =>
          have HR : Hid (out = R) := HM.out.2 rfl
          have hh := hown
          obtain ⟨op, oc, rfl, -⟩ := hh.rd
          have HOW := Lib.hid hown
          clear hown hh
          go_wp2_with fail
          go_ret
          exact ⟨_, rfl, by rw [← HR.out]; exact HOW.out, hbel⟩
        obtain ⟨f', hfe, hsat, hfl⟩ := HM.out.1 rfl
        have hol := HP.out.len
        obtain ⟨f, rfl⟩ : ∃ f, f' = f + 1 := ⟨f' - 1, by omega⟩
        have HF := Lib.hid hfe
        have HSA := Lib.hid hsat
        have HFL := Lib.hid hfl
        clear HM hfe hsat hfl
        have hh := hown
        obtain ⟨op, oc, rfl, hro⟩ := hh.rd
        have OW := Lib.hid (l00Own_any (c := oc) wj hro (by omega))
        clear hh hro
        go_wp2_with (go_at_call 36; refine OW.out.mono ?_; rintro e W1 ⟨lv, rfl, hlist, hb1⟩)
        have hlt1 := hlist
        obtain ⟨lp, lc, rfl, hrl⟩ := hlt1.rd
        have hown1 := hown.below hb1
        have hbel1 := hbel.trans (hb1.mono hbel.size)
        clear hlist hown hlt1 OW
        have HRS : Hid (rndL x.nodes out (out.drop 0) = rndL x.nodes out out) := by unfold Hid; rw [List.drop_zero]
        go_wp2_with fail
        go_loopw [3, 8] (fun ov iv wr' => ∃ (k : Nat) (cur : List Int), k ≤ out.length ∧ iv = .int .i64 k ∧ OwnI w.heap.size wr' ov cur ∧ Below W1.heap.size W1 wr' ∧ Hid (Pl x.nodes.length cur) ∧ Hid (rndL x.nodes cur (out.drop k) = rndL x.nodes out out)) (fun _ iv _ => out.length - (intOf iv).toNat)
        case atStart => exact ⟨0, out, Nat.zero_le _, rfl, hown1, Below.refl _ _, HP, HRS⟩
        case round =>
          clear hown1 HRS
          obtain ⟨k, cur, hk, rfl, hown, hbk, HPC, HR⟩ := hrel
          obtain ⟨wk, rfl⟩ : ∃ wk : World, wk = wr := ⟨_, rfl⟩
          have hbelk := hbel1.trans (hbk.mono hbel1.size)
          have bxk := bx.below hbelk
          have z2 := bxk.cell 2 rfl
          by_cases hlt : k < out.length
          · obtain ⟨b, o, rfl, hb, hc⟩ := hrl.pos hlt
            have hck := (hbk.cell (p := ⟨b, o + k, none⟩) hb).trans (hc k hlt)
            have hr := HP.out.2 _ (List.getElem_mem hlt)
            obtain ⟨m, hm⟩ : ∃ m : Nat, out[k] = m := ⟨out[k].toNat, by omega⟩
            have HRN : Hid (rndL x.nodes cur (out.drop k) = rndL x.nodes (putAll cur (srcs x.nodes m)) (out.drop (k + 1))) := by rw [← hm]; exact rndL_cons hlt
            rw [hm] at hck hr
            have hmn : m < x.nodes.length := by omega
            obtain ⟨b2, o2, rfl, hbl2, hcc⟩ := r2.pos hmn
            obtain ⟨-, -, -, q, d, y3, hrs⟩ := hcc m hmn
            have Y3 := (hbelk.cell (p := ⟨b2, o2 + m * 4 + 3, none⟩) hbl2).trans y3
            have hse : srcs x.nodes (m : Int) = x.nodes[m].src := by unfold srcs; rw [Int.toNat_natCast, getD_node hmn]
            have HSR : Hid (∀ s ∈ srcs x.nodes (m : Int), 0 ≤ s ∧ s < (x.nodes.length : Int)) := fun s hs => srcs_rng OK.out hs
            have hs3 := srcs_len OK.out (m : Int)
            rw [← hse] at Y3 hrs
            generalize srcs x.nodes (m : Int) = ys at HRN Y3 hrs HSR hs3
            clear hc hm hr hcc y3 hse
            go_wp2_with fail
            go_quiet (fail)
            have hbkq := below_drewN hbk nq
            have hownq : OwnI w.heap.size (wk.drewN nq) _ cur := hown
            clear hown hbk z2 hck Y3 bxk hbelk
            generalize wk.drewN nq = W2 at hbkq hownq ⊢
            have hbelq := hbel1.trans (hbkq.mono hbel1.size)
            have hrsq := hrs.below hbelq
            have hsq := hbelq.size
            go_wp2_with fail
            go_loopw [3, 10] (fun ov iv wr' => ∃ (j : Nat) (c2 : List Int), j ≤ ys.length ∧ iv = .int .i64 j ∧ OwnI w.heap.size wr' ov c2 ∧ Below W2.heap.size W2 wr' ∧ Hid (Pl x.nodes.length c2) ∧ Hid (putAll c2 (ys.drop j) = putAll cur ys)) (fun _ iv _ => ys.length - (intOf iv).toNat)
            case atStart => exact ⟨0, cur, Nat.zero_le _, rfl, hownq, Below.refl _ _, HPC, by unfold Hid; rw [List.drop_zero]⟩
            case round =>
              clear hownq HPC
              obtain ⟨j, c2, hj, rfl, hown, hbj, HPC, HA⟩ := hrel
              obtain ⟨wl, rfl⟩ : ∃ wl : World, wl = wr := ⟨_, rfl⟩
              have hsl := hbj.size
              by_cases hlt2 : j < ys.length
              · obtain ⟨b3, o3, rfl, hb3, hc3⟩ := (hrsq.below hbj).pos hlt2
                have hcj := hc3 j hlt2
                have hrj := HSR.out _ (List.getElem_mem hlt2)
                have HN : Hid (putAll c2 (ys.drop j) = putAll (putR c2 ys[j]) (ys.drop (j + 1))) := putAll_cons hlt2
                have HP2 : Hid (Pl x.nodes.length (putR c2 ys[j])) := HPC.out.put hrj.1 hrj.2
                have hll := HPC.out.len
                generalize ys[j] = y at hcj HN HP2
                obtain ⟨op2, oc2, rfl, hro⟩ := hown.rd
                have PU := Lib.hid (fun W hW => l00Put_any (c := oc2) y W (hro.below hW) (by omega))
                clear hc3 hrj hro hown
                go_wp2_with fail
                refine (PU.out wl (Below.refl _ _)).mono ?_
                rintro e W3 ⟨v, rfl, ho2, hb2⟩
                go_wp2_with fail
                go_roundw
                case rel => exact ⟨j + 1, putR c2 y, by omega, by go_num, ho2.mono (by omega), hbj.trans (hb2.mono hbj.size), HP2, by unfold Hid; rw [← HN.out]; exact HA.out⟩
                case measure => simp [intOf] <;> omega
              · obtain rfl : j = ys.length := by omega
                have HE : Hid (c2 = putAll cur ys) := by have := HA.out; rw [List.drop_length] at this; exact this
                go_wp2_with fail
                go_roundw
                case rel => exact ⟨k + 1, c2, by omega, by go_num, hown, hbkq.trans (hbj.mono hbkq.size), HPC, by unfold Hid; rw [HE.out, ← HRN.out]; exact HR.out⟩
                case measure => simp [intOf] <;> omega
          · obtain rfl : k = out.length := by omega
            have HE : Hid (cur = rndL x.nodes out out) := by have := HR.out; rw [List.drop_length] at this; exact this
            have hh := hown
            obtain ⟨up, uc, rfl, -⟩ := hh.rd
            have HOW := Lib.hid hown
            have HSD : Hid (∀ b, decide ((out.length : Int) < (cur.length : Int)) = b → sat x.nodes (f + 1) out = if b then sat x.nodes f cur else cur) := fun b hb => by
              rw [← hb, sat, ← HE.out]
              by_cases hh : cur.length > out.length
              · rw [if_pos hh, if_pos (by simp; omega)]
              · rw [if_neg hh, if_neg (by simp; omega)]
            clear hown hh
            by_cases hgt : out.length < cur.length
            · have hs2 : sat x.nodes f cur = R := by rw [← HSA.out, HSD.out true (by simp; omega)]; rfl
              have HS2 := Lib.hid hs2
              clear hs2 HSD
              go_wp2_with fail
              go_roundg (f + 1)
              case measure => have := HF.out; omega
              case rel => exact ⟨cur, true, rfl, HOW.out, hbelk, HPC, by unfold Hid; exact ⟨fun _ => ⟨f, rfl, HS2.out, by have := HFL.out; omega⟩, fun h => by cases h⟩⟩
            · have hs2 : cur = R := by rw [← HSA.out, HSD.out false (by simp; omega)]; rfl
              have HS2 := Lib.hid hs2
              clear hs2 HSD
              go_wp2_with fail
              go_roundg 0
              case measure => have := HF.out; omega
              case rel => exact ⟨cur, false, rfl, HOW.out, hbelk, HPC, by unfold Hid; exact ⟨fun h => (by cases h), fun _ => HS2.out⟩⟩
def needRes (x : PatchD) : List Int := if okB x then need x else []
theorem needRes_small (x : PatchD) : cntI (needRes x) ≤ 1048576 := by
  unfold cntI needRes
  split
  · rename_i h
    have h1 := okB_n24 h
    have h2 := need_length x
    omega
  · simp
end Go.Proofs.YtcfhcmgmkhfjjaaGreat

namespace Go.Proofs.YtcfhcmgmkhfjjaaGreat
open Go.ChangeShapes Go.WideShapes Go.ChangeAt Go.RowKit
set_option linter.unusedVariables false

theorem formed_small {x : PatchD} (h : formedB x = true) : Small x := by
  have hf := formed_iff.1 h
  have ok := formed_src h
  have ht := hf.2.1
  unfold tablesB at ht
  simp only [Bool.and_eq_true, List.all_eq_true, decide_eq_true_eq] at ht
  refine ⟨by omega, fun t ht' => ?_, by omega, fun n hn => by have := ok.len n hn; omega, by omega⟩
  have := ht.1 t ht'
  unfold tblB at this
  simp only [Bool.and_eq_true, Bool.or_eq_true, decide_eq_true_eq] at this
  omega
theorem OwnN.empty {B : Nat} (w : World) (hB : B ≤ w.heap.size) : OwnN B (w.alloc (.cells #[] 55)) (.slice (some ⟨w.heap.size, 0, none⟩) 0 0) [] [] := by
  have h := World.ownsRow_lit (base := B) (e := 55) (size := 4) w #[] 0 hB (by simp [maxLen]) (by simp)
  exact ⟨rfl, by simpa [nodeCells] using h⟩
theorem nodeAt_eq {nodes : List NodeD} {m : Nat} (h : m < nodes.length) : nodeAt nodes (m : Int) = nodes[m] := by
  unfold nodeAt; rw [Int.toNat_natCast, List.getD_eq_getElem?_getD, List.getElem?_eq_getElem h]; rfl
end Go.Proofs.YtcfhcmgmkhfjjaaGreat

namespace Go.Proofs.YtcfhcmgmkhfjjaaGreat
set_option linter.unusedVariables false

theorem okB_start {x : PatchD} (h : okB x = true) : ∀ n ∈ x.nodes, StartOk n := by
  intro n hn
  unfold okB formedB at h
  simp only [Bool.and_eq_true, List.all_eq_true] at h
  have h2 := h.1.1.2 n hn
  unfold ndB at h2
  simp only [Bool.and_eq_true] at h2
  exact startOk_of h2.1.1
theorem lens_map_start : ∀ (ns : List NodeD), (∀ n ∈ ns, StartOk n) → lens (ns.map startL) ≤ 16 * ns.length
  | [], _ => by simp [lens]
  | n :: ns, h => by
    have h1 := startL_length (h n (List.mem_cons_self ..))
    have h2 := lens_map_start ns fun m hm => h m (List.mem_cons_of_mem _ hm)
    rw [List.map_cons, lens_cons, List.length_cons]
    omega
end Go.Proofs.YtcfhcmgmkhfjjaaGreat

namespace Go.Proofs.YtcfhcmgmkhfjjaaGreat
open Go.ChangeShapes Go.WideShapes Go.ChangeAt Go.RowKit
set_option linter.unusedVariables false

/-- a patch behind a pointer, out of its parts -/
theorem OwnP.vpatch {B : Nat} {w : World} {v1 v2 v3 : Value} {ts : List (List Int)} {ns : List NodeD} {os : List Int} {L1 L : List Value} (h : OwnP B w v1 v2 v3 ts ns os L1 L) (inp : Int) : VPatch w (.agg #[.int .i64 inp, v1, v2, v3]) ⟨inp, ts, ns, os⟩ := (h.patch inp).1.rd
theorem pp_of {w : World} {s : Nat} {inp : Int} {v1 v2 v3 : Value} {x : PatchD} (hv : VPatch w (.agg #[.int .i64 inp, v1, v2, v3]) x) (bx : Box w s [.int .i64 inp, v1, v2, v3] 28) : PPatch w s x := by
  obtain ⟨p1, c1, p2, c2, p3, c3, e, r1, r2, r3⟩ := hv
  simp only [Value.agg.injEq, Array.mk.injEq, List.cons.injEq, and_true] at e
  obtain ⟨e0, rfl, rfl, rfl⟩ := e
  rw [e0] at bx
  exact ⟨p1, c1, p2, c2, p3, c3, bx, r1, r2, r3⟩
end Go.Proofs.YtcfhcmgmkhfjjaaGreat

namespace Go.Proofs.YtcfhcmgmkhfjjaaGreat
open Go.ChangeShapes Go.WideShapes Go.ChangeAt Go.RowKit
set_option linter.unusedVariables false

theorem sepB {B : Nat} {W F : World} {v v' : Value} {xs ys : List Int} (h : OwnI B W v xs) (h' : OwnI W.heap.size F v' ys) : ∀ k, v.ownBlock = some k → v'.ownBlock ≠ some k := fun k hk hk' => by
  have h1 := (h.lt hk).2
  have h2 := (h'.lt hk').1
  omega
theorem sepB' {B : Nat} {W F : World} {v v' : Value} {xs ys : List Int} (h : OwnI B W v' ys) (h' : OwnI W.heap.size F v xs) : ∀ k, v.ownBlock = some k → v'.ownBlock ≠ some k := fun k hk hk' => by
  have h1 := (h.lt hk').2
  have h2 := (h'.lt hk).1
  omega
theorem OwnP.done {B : Nat} {w W2 : World} {r : Nat} {inp : Int} {v1 v2 v3 : Value} {ts : List (List Int)} {ns : List NodeD} {os : List Int} {L1 L : List Value} (hop : OwnP B W2 v1 v2 v3 ts ns os L1 L) (bri : Box W2 r zPatch 28) (hb : Below w.heap.size w W2) (hr : w.heap.size ≤ r) (hB : w.heap.size ≤ B) :
    Box ((((W2.setCell ⟨r, 0, none⟩ (.int .i64 inp)).setCell ⟨r, 1, none⟩ v1).setCell ⟨r, 2, none⟩ v2).setCell ⟨r, 3, none⟩ v3) r [.int .i64 inp, v1, v2, v3] 28 ∧
    OwnP w.heap.size ((((W2.setCell ⟨r, 0, none⟩ (.int .i64 inp)).setCell ⟨r, 1, none⟩ v1).setCell ⟨r, 2, none⟩ v2).setCell ⟨r, 3, none⟩ v3) v1 v2 v3 ts ns os L1 L ∧
    Below w.heap.size w ((((W2.setCell ⟨r, 0, none⟩ (.int .i64 inp)).setCell ⟨r, 1, none⟩ v1).setCell ⟨r, 2, none⟩ v2).setCell ⟨r, 3, none⟩ v3) := by
  have b0 := bri.set 0 (.int .i64 inp)
  have b1 := b0.set 1 v1
  have b2 := b1.set 2 v2
  have b3 := b2.set 3 v3
  exact ⟨by simpa [zPatch] using b3, (((((hop.setBox bri patchT 0 _).setBox b0 patchT 1 _).setBox b1 patchT 2 _).setBox b2 patchT 3 _)).mono hB,
    (((hb.setCell (p := ⟨r, 0, none⟩) hr _).setCell (p := ⟨r, 1, none⟩) hr _).setCell (p := ⟨r, 2, none⟩) hr _).setCell (p := ⟨r, 3, none⟩) hr _⟩
theorem zeros_at (n : Nat) (w : World) (hn : n ≤ 1048576) :
    Calls Tryz.prog 70 #[.int .i64 n] w fun e w' => ∃ D, e = .returned (.slice (some ⟨D, 0, none⟩) n n) ∧ OwnI w.heap.size w' (.slice (some ⟨D, 0, none⟩) n n) (List.replicate n 0) ∧ Below w.heap.size w w' := by
  have hmk := fun w => run_make_row' (P := Tryz.prog) 26 2 (.int .i64 0) 8 Tryz.underlying26 infoI rfl .i64 .i64 n (by omega) (by omega) w
  have h0 := OwnI.made (B := w.heap.size) w n (Nat.le_refl _) (by unfold maxLen; omega)
  go_enter Tryz.func70, Tryz.ntmps70
  go_wp2_with fail
  go_ret
  exact ⟨_, rfl, h0, (Below.refl _ _).alloc (Nat.le_refl _) _⟩
set_option maxHeartbeats 6400000 in
set_option maxRecDepth 100000 in
theorem trimmed_v {v : Value} {x : PatchD} (w : World) (h : VPatch w v x) (hf : formedB x = true) :
    Calls Tryz.prog 40 #[v] w (RetP0 w (trimP x)) := by
  have hv := h
  have hn24 := (formed_iff.1 hf).2.2.1
  have sm := formed_small hf
  obtain ⟨p1, c1, p2, c2, p3, c3, rfl, r1, r2, r3⟩ := h
  have hm2 := r2.len
  obtain ⟨g, hg⟩ : ∃ g, g = w.heap.size := ⟨_, rfl⟩
  obtain ⟨E0, hE⟩ : ∃ E, E = (w.alloc (.cells #[.int .i64 x.inputs, .slice p1 x.tables.length c1, .slice p2 x.nodes.length c2, .slice p3 x.outputs.length c3] 28)).alloc (.cells #[.int .i64 0, .slice none 0 0, .slice none 0 0, .slice none 0 0] 28) := ⟨_, rfl⟩
  have hB0 : Below w.heap.size w E0 := by rw [hE]; exact ((Below.refl _ _).alloc (Nat.le_refl _) _).alloc (by simp) _
  have bx : Box E0 g [.int .i64 x.inputs, .slice p1 x.tables.length c1, .slice p2 x.nodes.length c2, .slice p3 x.outputs.length c3] 28 := by rw [hE, hg]; exact (Box.newAt w _ _ rfl).alloc _
  have br : Box E0 (g + 1) zPatch 28 := by rw [hE, hg]; exact Box.newAt (w.alloc _) zPatch _ (by simp)
  have HE := Lib.hid hE
  have HG := Lib.hid hg
  have i0 : w.heap.size ≤ g + 1 := by omega
  clear hE hg
  have K1 : Hid (∀ W, Below E0.heap.size E0 W → Calls Tryz.prog 23 #[.agg #[.int .i64 x.inputs, .slice p1 x.tables.length c1, .slice p2 x.nodes.length c2, .slice p3 x.outputs.length c3]] W fun e w' => ∃ u, e = .returned u ∧ OwnI W.heap.size w' u (need x) ∧ Below W.heap.size W w') := fun W hW => needed_v W (hv.below (hB0.trans (hW.mono hB0.size))) hf
  have K2 : Hid (∀ W, Calls Tryz.prog 21 #[.slice p2 x.nodes.length c2] W fun e w' => e = .returned (.int .i64 (x.nodes.length : Int)) ∧ W = w') := fun W => sizeN_any p2 x.nodes.length c2 W hm2
  have K3 : Hid (∀ W, Calls Tryz.prog 70 #[.int .i64 (x.nodes.length : Int)] W fun e w' => ∃ D, e = .returned (.slice (some ⟨D, 0, none⟩) x.nodes.length x.nodes.length) ∧ OwnI W.heap.size w' (.slice (some ⟨D, 0, none⟩) x.nodes.length x.nodes.length) (List.replicate x.nodes.length 0) ∧ Below W.heap.size W w') := fun W => zeros_at x.nodes.length W (by omega)
  have hkl := need_length x
  have HKR : Hid (∀ i ∈ need x, 0 ≤ i ∧ i < (x.nodes.length : Int)) := need_rng
  have HBY : Hid (putBy (List.replicate x.nodes.length 0) 0 (need x) = byL x.nodes.length (need x)) := rfl
  have HBL : Hid ((byL x.nodes.length (need x)).length = x.nodes.length) := byL_length _ _
  have HKP : Hid (trimP x = ⟨x.inputs, x.tables, (need x).map (keepN x.nodes (byL x.nodes.length (need x))), mapL (byL x.nodes.length (need x)) x.outputs⟩) := rfl
  have SM := Lib.hid sm
  have OKS := Lib.hid (formed_src hf)
  have HO := Lib.hid (formed_outs hf)
  generalize trimP x = KP at HKP ⊢
  generalize byL x.nodes.length (need x) = BY at HBY HBL HKP
  generalize need x = keep at K1 hkl HKR HBY HKP
  have z0 := bx.cell 0 rfl
  have z1 := bx.cell 1 rfl
  have z2 := bx.cell 2 rfl
  have z3 := bx.cell 3 rfl
  have hgl := bx.lt
  have hcur := belowDrew0 E0
  have CK : Hid (∀ W, Below E0.heap.size E0 W → W.cell? ⟨g, 0, none⟩ = some (.int .i64 x.inputs) ∧ W.cell? ⟨g, 1, none⟩ = some (.slice p1 x.tables.length c1) ∧ W.cell? ⟨g, 2, none⟩ = some (.slice p2 x.nodes.length c2) ∧ W.cell? ⟨g, 3, none⟩ = some (.slice p3 x.outputs.length c3)) := fun W hW => ⟨(hW.cell (p := ⟨g, 0, none⟩) hgl).trans z0, (hW.cell (p := ⟨g, 1, none⟩) hgl).trans z1, (hW.cell (p := ⟨g, 2, none⟩) hgl).trans z2, (hW.cell (p := ⟨g, 3, none⟩) hgl).trans z3⟩
  clear hv hf sm hm2
  go_enter Tryz.func40, Tryz.ntmps40
  go_upto_region 1 with fail
  rw [← HE.out, ← HG.out]
  go_cut [3, 4] (fun s3 s4 wr => ∃ v3 D, s3 = v3 ∧ s4 = .slice (some ⟨D, 0, none⟩) x.nodes.length x.nodes.length ∧ OwnI E0.heap.size wr v3 keep ∧ OwnI E0.heap.size wr (.slice (some ⟨D, 0, none⟩) x.nodes.length x.nodes.length) (List.replicate x.nodes.length 0) ∧ Hid (∀ k, v3.ownBlock = some k → k ≠ D) ∧ Below E0.heap.size E0 wr)
  case first =>
    go_region_held3 (fun W => W.cell? ⟨g, 0, none⟩ = some (.int .i64 x.inputs) ∧ W.cell? ⟨g, 1, none⟩ = some (.slice p1 x.tables.length c1) ∧ W.cell? ⟨g, 2, none⟩ = some (.slice p2 x.nodes.length c2) ∧ W.cell? ⟨g, 3, none⟩ = some (.slice p3 x.outputs.length c3)) (first | go_keep | exact CK.out _ hcur) (first | (go_at_call 23; refine (K1.out _ hcur).mono ?_; rintro e F1 ⟨v1, rfl, h1, hb1⟩; obtain ⟨q1, d1, rfl, -⟩ := h1.rd; (try (have SEP := sepB' hm4 h1)); (try (have hm4 := hm4.below hb1)); have hm1 := h1.mono hcur.size; have hcur := Below.via hcur hb1) | (go_at_call 21; refine (K2.out _).mono ?_; rintro e w' ⟨rfl, rfl⟩) | (go_at_call 70; refine (K3.out _).mono ?_; rintro e F4 ⟨D, rfl, h4, hb4⟩; (try (have SEP := sepB hm1 h4)); (try (have hm1 := hm1.below hb4)); have hm4 := h4.mono hcur.size; have hcur := Below.via hcur hb4))
    all_goals (go_wp2_with fail; go_meet; exact ⟨_, D, rfl, rfl, hm1, hm4, fun k hk e => SEP k hk (by rw [e]; rfl), hcur⟩)
  case rest =>
    obtain ⟨v3, D, rfl, rfl, hlist, hto, HSEP, hb1⟩ := hcut
    obtain ⟨W1, rfl⟩ : ∃ W1 : World, W1 = wc := ⟨_, rfl⟩
    clear z0 z1 z2 z3 hcur CK K1 K2 K3
    have hlist' := hlist
    obtain ⟨lq, lc, rfl, hlr⟩ := hlist'.rd
    have hDlt := hto.lt (k := D) rfl
    go_wp2_with fail
    go_loopw [5, 6, 19] (fun _ _ i wr => ∃ (k : Nat) (b : List Int), k ≤ keep.length ∧ i = .int .i64 k ∧ Hid (b.length = x.nodes.length) ∧ Hid (putBy b k (keep.drop k) = BY) ∧ OwnI E0.heap.size wr (.slice (some ⟨D, 0, none⟩) x.nodes.length x.nodes.length) b ∧ Off (· = D) W1 wr) (fun _ _ i _ => keep.length - (intOf i).toNat)
    case atStart => exact ⟨0, _, Nat.zero_le _, rfl, List.length_replicate, HBY, hto, Off.refl _ _⟩
    case round =>
      clear hto HBY
      obtain ⟨k, b, hk, rfl, HBN, HB, hown, hoff⟩ := hrel
      obtain ⟨wi, rfl⟩ : ∃ wi : World, wi = wr := ⟨_, rfl⟩
      by_cases hlt : k < keep.length
      · obtain ⟨kb, ko, rfl, hkb, hkc⟩ := hlr.pos hlt
        have hkD : kb ≠ D := HSEP.out kb rfl
        have hck : wi.cell? ⟨kb, ko + k, none⟩ = some (.int .i64 keep[k]) := (World.cell?_of_block (w := W1) (a := ⟨kb, ko + k, none⟩) (hoff.block kb hkb hkD)).trans (hkc k hlt)
        have hrk := HKR.out _ (List.getElem_mem hlt)
        obtain ⟨m, hm⟩ : ∃ m : Nat, keep[k] = m := ⟨keep[k].toNat, by omega⟩
        have HBS := Lib.hid (putBy_drop (b := b) hlt hm)
        rw [hm] at hck hrk
        have hmn : m < x.nodes.length := by omega
        have hmb : m < b.length := by rw [HBN.out]; exact hmn
        obtain ⟨-, -, hDl, hzm, hfz, hset⟩ := hown.storing (k := m) hmb
        have HST := Lib.hid (hset (k : Int))
        have HBN2 : Hid ((b.set m (k : Int)).length = x.nodes.length) := by unfold Hid; rw [List.length_set]; exact HBN.out
        clear hkc hm hrk hset
        go_wp2_with fail
        go_roundw
        case rel => exact ⟨k + 1, b.set m (k : Int), by omega, by go_num, HBN2, by unfold Hid; rw [← HBS.out]; exact HB.out, HST.out, hoff.trans ⟨rfl, rfl, rfl, by simp [World.setCell], fun j hj hs => Below.heap_setCell _ _ _ _ hs⟩⟩
        case measure => simp [intOf] <;> omega
      · obtain rfl : k = keep.length := by omega
        have HBE : Hid (b = BY) := by have := HB.out; rw [List.drop_length] at this; exact this
        obtain rfl := HBE.out
        clear HB HBE HBN
        obtain ⟨E2, rfl⟩ : ∃ E : World, E = wi := ⟨_, rfl⟩
        have hryb : RdI E2 (some ⟨D, 0, none⟩) b := by
          obtain ⟨yp, yc, ye, hr⟩ := hown.rd
          simp only [Value.slice.injEq] at ye
          rw [ye.1]; exact hr
        have hE2 : Below E0.heap.size E0 E2 := hb1.trans (hoff.below (fun j hj => by have : j = D := hj; omega) hb1.size)
        have hbw := hB0.trans (hE2.mono hB0.size)
        have hlr2 : RdI E2 lq keep := by
          obtain ⟨yp, yc, ye, hr⟩ := (hlist.keep (w' := E2) fun j hj => hoff.block j (hlist.lt hj).2 (HSEP.out j hj)).rd
          simp only [Value.slice.injEq] at ye
          rw [ye.1]; exact hr
        have brE := br.below hE2
        have bxE := bx.below hE2
        have hB2 : w.heap.size ≤ E2.heap.size := hbw.size
        clear hown hoff hlist hlr
        have KC : Hid (∀ W, Below E2.heap.size E2 W → Calls Tryz.prog 71 #[.slice p1 x.tables.length c1] W fun e w' => ∃ v L, e = .returned v ∧ OwnII W.heap.size w' v x.tables L ∧ Below W.heap.size W w') := fun W hW => clones_any W (r1.below (hbw.trans (hW.mono hbw.size))) (by have := SM.out.tables; omega) (fun t ht => by have := SM.out.rows t ht; omega)
        have KM : Hid (∀ W, Below E2.heap.size E2 W → Calls Tryz.prog 72 #[.slice p3 x.outputs.length c3, .slice (some ⟨D, 0, none⟩) x.nodes.length x.nodes.length] W fun e w' => ∃ v, e = .returned v ∧ OwnI W.heap.size w' v (mapL b x.outputs) ∧ Below W.heap.size W w') := fun W hW => by
          have := mapped_any (c := c3) (d := x.nodes.length) W (r3.below (hbw.trans (hW.mono hbw.size))) (hryb.below hW) (by have := SM.out.outs; omega) (fun s hs => by rw [HBL.out]; exact HO.out s hs)
          rw [HBL.out] at this
          exact this
        generalize mapL b x.outputs = ML at KM HKP
        have z0 := bxE.cell 0 rfl
        have z1 := bxE.cell 1 rfl
        have z3 := bxE.cell 3 rfl
        have hgE := bxE.lt
        have hcur := belowDrew0 E2
        have CK : Hid (∀ W, Below E2.heap.size E2 W → W.cell? ⟨g, 0, none⟩ = some (.int .i64 x.inputs) ∧ W.cell? ⟨g, 1, none⟩ = some (.slice p1 x.tables.length c1) ∧ W.cell? ⟨g, 3, none⟩ = some (.slice p3 x.outputs.length c3)) := fun W hW => ⟨(hW.cell (p := ⟨g, 0, none⟩) hgE).trans z0, (hW.cell (p := ⟨g, 1, none⟩) hgE).trans z1, (hW.cell (p := ⟨g, 3, none⟩) hgE).trans z3⟩
        go_upto_region 7 with fail
        go_cut [7] (fun s7 wr => ∃ s0 v1 v3 L1, s7 = .pointer (some ⟨s0, 0, none⟩) ∧ PB E2.heap.size E2 wr s0 x.inputs v1 (.slice none 0 0) v3 x.tables [] ML L1 [])
        case first =>
          go_region_held3 (fun W => W.cell? ⟨g, 0, none⟩ = some (.int .i64 x.inputs) ∧ W.cell? ⟨g, 1, none⟩ = some (.slice p1 x.tables.length c1) ∧ W.cell? ⟨g, 3, none⟩ = some (.slice p3 x.outputs.length c3)) (first | go_keep | exact CK.out _ (by (repeat (first | exact Below.refl _ _ | assumption | refine Below.setCell ?_ (by first | exact Nat.le_refl _ | omega | (simp; done) | (simp; omega)) _ | refine Below.alloc ?_ (by first | exact Nat.le_refl _ | omega | (simp; done) | (simp; omega)) _ | refine below_drewN ?_ _)))) (first | (go_at_call 71; refine (KC.out _ (by first | exact hcur | exact hcur.alloc hcur.size _)).mono ?_; rintro e F1 ⟨v1, L1, rfl, ho1, hb1'⟩; obtain ⟨q1, d1, rfl⟩ := ho1.1.sl'; (first | (have bq : Box F1 E2.heap.size zPatch 28 := Box.below (w := E2.drew.alloc _) (Box.newAt E2.drew zPatch _ rfl) hb1') | (have bq : Box F1 F3.heap.size zPatch 28 := Box.below (w := F3.alloc _) (Box.newAt F3 zPatch _ rfl) hb1') | (have bq := bq.below hb1') | skip); (try (have HP := OwnP.two31 (by first | exact hm3 | exact hm3.below ((Below.refl _ _).alloc (Nat.le_refl _) _)) ho1 hb1' (by first | exact hcur.size | exact (hcur.alloc hcur.size _).size))); have hm1 := ho1.mono (by first | exact hcur.size | exact (hcur.alloc hcur.size _).size); have hcur : Below E2.heap.size E2 F1 := Below.via (by first | exact hcur | exact hcur.alloc hcur.size _) hb1'; have hcsF1 := hcur.size; (try (have tq0 := bq.cell 0 rfl; have tq1 := bq.cell 1 rfl; have tq2 := bq.cell 2 rfl; have tq3 := bq.cell 3 rfl; have fq0 := bq.frozen 0; have fq1 := bq.frozen 1; have fq2 := bq.frozen 2; have fq3 := bq.frozen 3))) | (go_at_call 72; refine (KM.out _ (by first | exact hcur | exact hcur.alloc hcur.size _)).mono ?_; rintro e F3 ⟨v3, rfl, ho3, hb3'⟩; obtain ⟨q3, d3, rfl, -⟩ := ho3.rd; (first | (have bq : Box F3 E2.heap.size zPatch 28 := Box.below (w := E2.drew.alloc _) (Box.newAt E2.drew zPatch _ rfl) hb3') | (have bq : Box F3 F1.heap.size zPatch 28 := Box.below (w := F1.alloc _) (Box.newAt F1 zPatch _ rfl) hb3') | (have bq := bq.below hb3') | skip); (try (have HP := OwnP.two13 (by first | exact hm1 | exact hm1.below ((Below.refl _ _).alloc (Nat.le_refl _) _)) ho3 hb3' (by first | exact hcur.size | exact (hcur.alloc hcur.size _).size))); have hm3 := ho3.mono (by first | exact hcur.size | exact (hcur.alloc hcur.size _).size); have hcur : Below E2.heap.size E2 F3 := Below.via (by first | exact hcur | exact hcur.alloc hcur.size _) hb3'; have hcsF3 := hcur.size; (try (have tq0 := bq.cell 0 rfl; have tq1 := bq.cell 1 rfl; have tq2 := bq.cell 2 rfl; have tq3 := bq.cell 3 rfl; have fq0 := bq.frozen 0; have fq1 := bq.frozen 1; have fq2 := bq.frozen 2; have fq3 := bq.frozen 3))))
          all_goals (go_wp2_with fail; go_meet; first | exact ⟨_, _, _, _, rfl, PB.new HP hcur⟩ | exact ⟨_, _, _, _, rfl, PB.newB HP hcur bq (by first | exact Nat.le_refl _ | assumption)⟩)
        case rest =>
          obtain ⟨s0, v1, v3, L1, rfl, hpb⟩ := hcut
          obtain ⟨wa, rfl⟩ : ∃ wa : World, wa = wc := ⟨_, rfl⟩
          clear z0 z1 z3 hcur CK KC KM
          obtain ⟨q1, d1, e1⟩ := hpb.own.o1.sl'
          obtain ⟨q3, d3, e3, -⟩ := hpb.own.o3.rd
          subst e1 e3
          go_wp2_with fail
          go_loopw [9, 41] (fun _ i wr => ∃ (k : Nat) (v2 : Value) (L : List Value), k ≤ keep.length ∧ i = .int .i64 k ∧ PB E2.heap.size E2 wr s0 x.inputs (.slice q1 L1.length d1) v2 (.slice q3 ML.length d3) x.tables ((keep.take k).map (keepN x.nodes b)) ML L1 L) (fun _ i _ => keep.length - (intOf i).toNat)
          case atStart => exact ⟨0, _, _, Nat.zero_le _, rfl, by simpa using hpb⟩
          case round =>
            clear hpb
            obtain ⟨k, v2, L, hk, rfl, hpb⟩ := hrel
            obtain ⟨wj, rfl⟩ : ∃ wj : World, wj = wr := ⟨_, rfl⟩
            have hbel := hbw.trans (hpb.bel.mono hbw.size)
            have bxi := bxE.below hpb.bel
            have z2 := bxi.cell 2 rfl
            by_cases hlt : k < keep.length
            · obtain ⟨kb, ko, rfl, hkb, hkc⟩ := (hlr2.below hpb.bel).pos hlt
              have hck := hkc k hlt
              have hrk := HKR.out _ (List.getElem_mem hlt)
              obtain ⟨m, hm⟩ : ∃ m : Nat, keep[k] = m := ⟨keep[k].toNat, by omega⟩
              have HS : Hid ((keep.take (k + 1)).map (keepN x.nodes b) = (keep.take k).map (keepN x.nodes b) ++ [keepN x.nodes b (m : Int)]) := by unfold Hid; rw [keepN_succ hlt, hm]
              rw [hm] at hck hrk
              have hmn : m < x.nodes.length := by omega
              have hlL : ((keep.take k).map (keepN x.nodes b)).length < 1099511627776 := by rw [List.length_map, List.length_take]; omega
              have hyk : keepN x.nodes b (m : Int) = { x.nodes[m] with src := mapL b x.nodes[m].src } := by unfold keepN; rw [nodeAt_eq hmn]
              generalize keepN x.nodes b (m : Int) = y at HS hyk
              generalize (keep.take k).map (keepN x.nodes b) = ns at hpb hlL HS
              obtain ⟨q2, d2, e2⟩ := hpb.own.o2.sl
              subst e2
              obtain ⟨nb, no, rfl, hnb, hnc⟩ := (r2.below hbel).pos hmn
              have hnd := hnc m hmn
              have hlk := SM.out.srcs _ (List.getElem_mem hmn)
              have hsr := OKS.out.rng _ (List.getElem_mem hmn)
              generalize x.nodes[m] = nd at hnd hlk hsr hyk
              obtain ⟨yk, ya, yb, ysrc⟩ := y
              simp only [NodeD.mk.injEq] at hyk
              obtain ⟨rfl, rfl, rfl, rfl⟩ := hyk
              clear hkc hm hrk hnc
              obtain ⟨y0, y1, y2, q, d, y3, hrn⟩ := hnd
              obtain ⟨n0, hn0⟩ : ∃ n, n = wj.heap.size := ⟨_, rfl⟩
              obtain ⟨F, hF⟩ : ∃ F, F = wj.alloc (.cells #[.int .i64 nd.kind, .int .i64 nd.a, .int .i64 nd.b, .slice q nd.src.length d] 55) := ⟨_, rfl⟩
              have hbF : Below wj.heap.size wj F := by rw [hF]; exact (Below.refl _ _).alloc (Nat.le_refl _) _
              have bn : Box F n0 [.int .i64 nd.kind, .int .i64 nd.a, .int .i64 nd.b, .slice q nd.src.length d] 55 := by rw [hF]; exact Box.newAt _ _ _ hn0
              have hrby : RdI F (some ⟨D, 0, none⟩) b := (hryb.below hpb.bel).below hbF
              have MP : Hid (Calls Tryz.prog 72 #[.slice q nd.src.length d, .slice (some ⟨D, 0, none⟩) x.nodes.length x.nodes.length] F fun e w' => ∃ v, e = .returned v ∧ OwnI F.heap.size w' v (mapL b nd.src) ∧ Below F.heap.size F w') := by
                have := mapped_any (c := d) (d := x.nodes.length) F (hrn.below hbF) hrby (by omega) (fun s hs => by rw [HBL.out]; exact hsr s hs)
                rw [HBL.out] at this
                exact this
              have HF := Lib.hid hF
              have HN0 := Lib.hid hn0
              have hn0' : wj.heap.size ≤ n0 := by omega
              clear hF hn0 hrn hsr hrby
              have t3 := bn.cell 3 rfl
              go_upto_region 12 with fail
              rw [← HF.out, ← HN0.out]
              clear z2 y0 y1 y2 y3 hck
              go_wp2_with fail
              refine MP.out.mono ?_
              rintro e W2 ⟨u, rfl, hu, hb1'⟩
              have hb1x : Below wj.heap.size wj W2 := hbF.trans (hb1'.mono hbF.size)
              have bn1 := bn.below hb1'
              have hnew := hpb.fresh hu hbF.size
              have hsj := hpb.bel.size
              obtain ⟨uq, uc, rfl, -⟩ := hu.rd
              clear t3
              have t3 := bn1.cell 3 rfl
              have f3 := bn1.frozen 3
              have bn2 := bn1.set 3 (.slice uq (mapL b nd.src).length uc)
              have hun : ∀ j, (Value.slice uq (mapL b nd.src).length uc).ownBlock = some j → j ≠ n0 := fun j hj => by have h1 := (hu.lt hj).1; have h2 := bn.lt; omega
              have hu2 := (hu.mono (B' := E2.heap.size) (by have := hbF.size; omega)).keep (w' := W2.setCell ⟨n0, 3, none⟩ (.slice uq (mapL b nd.src).length uc)) fun j hj => Below.heap_setCell _ _ _ _ (hun j hj)
              have hb2' := hb1x.setCell (p := ⟨n0, 3, none⟩) hn0' (.slice uq (mapL b nd.src).length uc)
              generalize (mapL b nd.src).length = ul at hu hun hu2 hb2' bn2 hnew ⊢
              obtain ⟨W3, hW3⟩ : ∃ W, W = W2.setCell ⟨n0, 3, none⟩ (.slice uq ul uc) := ⟨_, rfl⟩
              rw [← hW3] at bn2 hu2 hb2'
              have HW3 := Lib.hid hW3
              clear hW3
              have hpb2 := hpb.below hb2'
              have y0 := bn2.cell 0 rfl
              have y1 := bn2.cell 1 rfl
              have y2 := bn2.cell 2 rfl
              have y3 := bn2.cell 3 rfl
              have s2 := hpb2.out.cell 2 rfl
              have hBs : E2.heap.size ≤ W3.heap.size := hpb2.bel.size
              have hown := hpb2.own.o2
              go_upto_region 13 with fail
              rw [← HW3.out]
              clear t3 f3
              go_wp2_with (first | (at_builtin; (refine wpList_append_node rfl _ _ rfl ⟨nd.kind, nd.a, nd.b, mapL b nd.src⟩ rfl rfl rfl rfl hown rfl rfl hlL hBs ?_; intro v' W4 hv hg hk3; obtain ⟨vp, vc, rfl⟩ := hv.slS; have PN := hpb2.node hu2 hnew hv hg; have c3 := PN.1.1; have f3 := PN.1.2)) | fail)
              have PN2 := Lib.hid PN.2
              clear PN c3 f3
              go_roundw
              case rel => exact ⟨k + 1, _, _, by omega, by go_num, by rw [HS.out]; exact PN2.out⟩
              case measure => simp [intOf] <;> omega
            · obtain rfl : k = keep.length := by omega
              rw [List.take_length] at hpb
              obtain ⟨q2, d2, e2⟩ := hpb.own.o2.sl
              subst e2
              have bri := brE.below hpb.bel
              obtain ⟨W', hW', bW, hret⟩ := hpb.done bri hbel i0 hB2
              subst hW'
              have a0 := hpb.out.cell 0 rfl
              have a1 := hpb.out.cell 1 rfl
              have a2 := hpb.out.cell 2 rfl
              have a3 := hpb.out.cell 3 rfl
              have k0 := bri.cell 0 rfl
              have k1 := bri.cell 1 rfl
              have k2 := bri.cell 2 rfl
              have k3 := bri.cell 3 rfl
              have g0 := bri.frozen 0
              have g1 := bri.frozen 1
              have g2 := bri.frozen 2
              have g3 := bri.frozen 3
              have m0 := bW.cell 0 rfl
              have m1 := bW.cell 1 rfl
              have m2 := bW.cell 2 rfl
              have m3 := bW.cell 3 rfl
              have HRET := Lib.hid hret
              clear hret bW bri hpb z2
              generalize keep.map (keepN x.nodes b) = ns at *
              go_wp2_with fail
              refine bodyPost_ret (v := .agg #[.int .i64 x.inputs, .slice q1 L1.length d1, .slice q2 ns.length d2, .slice q3 ML.length d3]) (by simp [results, Tryz.results40, go_sem, *]) rfl ?_
              rw [HKP.out]
              exact HRET.out
end Go.Proofs.YtcfhcmgmkhfjjaaGreat
