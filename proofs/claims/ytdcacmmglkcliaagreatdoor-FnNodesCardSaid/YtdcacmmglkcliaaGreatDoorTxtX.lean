/-
  Texts parted again: what joins words with blanks is parted into these words; how the program reads a node, as a plain function; it finds just the valid node with a text.
-/
import Derived.Test.YtdcacmmglkcliaaGreatDoorTxtW
import Derived.Test.YtdcacmmglkcliaaGreatDoorTxtV
namespace Go.Proofs.YtdcacmmglkcliaaGreatDoor
set_option linter.unusedVariables false
set_option linter.unusedSimpArgs false

theorem splitK_join : ∀ (ws : List (List UInt8)) (w : List UInt8), (32 : UInt8) ∉ w → (∀ v ∈ ws, (32 : UInt8) ∉ v) → Lib.splitK [32] 0 (Lib.count (Lib.join (w :: ws) [32]) [32]) (Lib.join (w :: ws) [32]) = w :: ws
  | [], w, hw, _ => by
    rw [Lib.join_one, Lib.count_miss (index_none w 32 hw)]
    rfl
  | v :: ws, w, hw, h => by
    have e : Lib.join (w :: v :: ws) [32] = w ++ 32 :: Lib.join (v :: ws) [32] := by
      rw [Lib.join_cons, Lib.join_cons]
      simp [Lib.joinTail]
    have hi := index_at w (Lib.join (v :: ws) [32]) 32 hw
    have ih := splitK_join ws v (h v (by simp)) fun u hu => h u (by simp [hu])
    rw [e, Lib.count_hit (by simp) hi]
    have ed : (w ++ 32 :: Lib.join (v :: ws) [32]).drop (w.length + [(32 : UInt8)].length) = Lib.join (v :: ws) [32] := by simp
    rw [ed, Nat.add_comm 1, Lib.splitK, if_neg (by rw [hi]; simp), hi]
    have et : ((w.length : Nat) : Int).toNat = w.length := by omega
    rw [et, ed, ih]
    simp
theorem bs_data (x : ByteArray) : bs x.data.toList = x := by
  unfold bs
  apply ByteArray.ext
  simp
/-- the words of joined words -/
theorem words_join {ws : List (List UInt8)} (h0 : ws ≠ []) (h : ∀ w ∈ ws, (32 : UInt8) ∉ w ∧ w ≠ []) : wordsB (bs (Lib.join ws [32])) = ws.map bs := by
  match ws, h0 with
  | w :: ws, _ =>
    have hk := splitK_join ws w (h w (by simp)).1 fun v hv => (h v (by simp [hv])).1
    have hp : (partsB (bs (Lib.join (w :: ws) [32]))).map (·.data.toList) = w :: ws := by
      unfold partsB
      rw [Lib.splitB_data]
      have : Lib.countB (bs (Lib.join (w :: ws) [32])) ⟨#[32]⟩ = Lib.count (Lib.join (w :: ws) [32]) [32] := by
        unfold Lib.countB
        rw [bs_list]
      rw [this, bs_list]
      exact hk
    have hpb : partsB (bs (Lib.join (w :: ws) [32])) = (w :: ws).map bs := by
      have key : ∀ P : List ByteArray, P = (P.map (·.data.toList)).map bs := fun P => by
        rw [List.map_map]
        conv => lhs; rw [← List.map_id P]
        exact List.map_congr_left fun x _ => (bs_data x).symm
      rw [key (partsB _), hp]
    unfold wordsB
    rw [hpb, List.filter_eq_self]
    intro x hx
    obtain ⟨v, hv, rfl⟩ := List.mem_map.1 hx
    have := (h v hv).2
    unfold nzB
    simp only [ne_eq, decide_eq_true_eq]
    intro e
    exact this (bs_inj (m := []) e)
theorem join_flat : ∀ (xs ys : List (List UInt8)), ys ≠ [] → Lib.join (xs ++ [Lib.join ys [32]]) [32] = Lib.join (xs ++ ys) [32]
  | [], ys, _ => by simp [Lib.join_one]
  | x :: xs, ys, h => by
    have ih := join_flat xs ys h
    match ys, h with
    | y :: ys, _ =>
      have e1 : ∀ (zs : List (List UInt8)) (z : List UInt8), Lib.join (x :: z :: zs) [32] = x ++ 32 :: Lib.join (z :: zs) [32] := fun zs z => by
        rw [Lib.join_cons, Lib.join_cons]; simp [Lib.joinTail]
      match xs, ih with
      | [], ih => simp only [List.nil_append, List.cons_append] at ih ⊢; rw [e1, e1, ih]
      | z :: zs, ih => simp only [List.cons_append] at ih ⊢; rw [e1, e1, ih]
theorem kindNamed_self {i : Nat} (hi : i < 17) : kindNamed (kNm i) = (i : Int) + 1 := by
  rcases seventeen hi with rfl | rfl | rfl | rfl | rfl | rfl | rfl | rfl | rfl | rfl | rfl | rfl | rfl | rfl | rfl | rfl | rfl <;> decide +kernel
theorem nmL_ok {i : Nat} (hi : i < 17) : (32 : UInt8) ∉ nmL i ∧ nmL i ≠ [] := by
  rcases seventeen hi with rfl | rfl | rfl | rfl | rfl | rfl | rfl | rfl | rfl | rfl | rfl | rfl | rfl | rfl | rfl | rfl | rfl <;> decide
theorem itoa_ok (n : Int) : (32 : UInt8) ∉ Lib.itoa n ∧ Lib.itoa n ≠ [] := ⟨itoa_no (by decide), itoa_ne n⟩
/-- the word between a node's numbers and its inputs -/
def ofB : ByteArray := ⟨#[111, 102]⟩
theorem itoa_of (n : Int) : bs (Lib.itoa n) ≠ ofB := by
  intro h
  have : Lib.itoa n = [111, 102] := bs_inj (m := [111, 102]) h
  exact itoa_no (n := n) (c := 111) (by decide) (by rw [this]; simp)
/-- how the program reads a node: the words behind the kind, up to 'of', and behind it -/
def headB (ws : List ByteArray) : List ByteArray := ws.takeWhile fun x => decide (x ≠ ofB)
def tailB (ws : List ByteArray) : List ByteArray := (ws.dropWhile fun x => decide (x ≠ ofB)).tail
def readN (s : ByteArray) : Option NodeD :=
  match wordsB s with
  | [] => none
  | k :: ws => match decsB (headB ws), decsB (tailB ws) with
    | some ns, some fs =>
      let x : NodeD := ⟨kindNamed k, ns.getD 0 0, ns.getD 1 0, fs⟩
      if nodeB x 4 = true ∧ bs (nodeStr x) = s then some x else none
    | _, _ => none
theorem decsB_itoa : ∀ xs : List Int, (∀ x ∈ xs, small18 x) → decsB (xs.map fun x => bs (Lib.itoa x)) = some xs
  | [], _ => rfl
  | x :: xs, h => by
    have ih := decsB_itoa xs fun y hy => h y (by simp [hy])
    unfold decsB at ih ⊢
    rw [List.map_cons, List.mapM_cons, bs_list, readDec_itoa (h x (by simp)), ih]
    rfl
theorem headB_nums (ns fs : List Int) (h : fs = [] ∨ True) : headB (ns.map (fun x => bs (Lib.itoa x)) ++ ofB :: fs.map fun x => bs (Lib.itoa x)) = ns.map (fun x => bs (Lib.itoa x)) ∧
    tailB (ns.map (fun x => bs (Lib.itoa x)) ++ ofB :: fs.map fun x => bs (Lib.itoa x)) = fs.map fun x => bs (Lib.itoa x) := by
  induction ns with
  | nil => simp [headB, tailB]
  | cons n ns ih =>
    have hn := itoa_of n
    unfold headB tailB at *
    simp only [List.map_cons, List.cons_append]
    rw [List.takeWhile_cons_of_pos (by simpa using hn), List.dropWhile_cons_of_pos (by simpa using hn), ih.1, ih.2]
    exact ⟨rfl, rfl⟩
theorem headB_only (ns : List Int) : headB (ns.map fun x => bs (Lib.itoa x)) = ns.map (fun x => bs (Lib.itoa x)) ∧ tailB (ns.map fun x => bs (Lib.itoa x)) = [] := by
  induction ns with
  | nil => exact ⟨rfl, rfl⟩
  | cons n ns ih =>
    have hn := itoa_of n
    unfold headB tailB at *
    simp only [List.map_cons]
    rw [List.takeWhile_cons_of_pos (by simpa using hn), List.dropWhile_cons_of_pos (by simpa using hn), ih.1, ih.2]
    exact ⟨rfl, rfl⟩
/-- the numbers ahead of 'of' -/
def numsN (i : Nat) (a b : Int) : List Int := (if kLo i ≤ kHi i then [a] else []) ++ (if kBb i = true then [b] else [])
theorem words_node {i : Nat} (hi : i < 17) (a b : Int) (src : List Int) :
    wordsB (bs (Lib.join (wordsN i a b src) [32])) = bs (nmL i) :: ((numsN i a b).map (fun x => bs (Lib.itoa x)) ++ (if src = [] then [] else ofB :: src.map fun x => bs (Lib.itoa x))) := by
  by_cases hs : src = []
  · have e : wordsN i a b src = nmL i :: (numsN i a b).map Lib.itoa := by
      unfold wordsN numsN
      rw [if_pos hs]
      by_cases h1 : kLo i ≤ kHi i <;> by_cases h2 : kBb i = true <;> simp [h1, h2]
    rw [e, words_join (by simp) (fun w hw => by
      rcases List.mem_cons.1 hw with rfl | hw
      · exact nmL_ok hi
      · obtain ⟨n, -, rfl⟩ := List.mem_map.1 hw
        exact itoa_ok n), if_pos hs]
    simp
  · have e : wordsN i a b src = (nmL i :: ((numsN i a b).map Lib.itoa ++ [[111, 102]])) ++ [numStr src] := by
      unfold wordsN numsN
      rw [if_neg hs]
      by_cases h1 : kLo i ≤ kHi i <;> by_cases h2 : kBb i = true <;> simp [h1, h2]
    rw [e]
    unfold numStr
    rw [join_flat _ _ (by simpa using hs), words_join (by simp) (fun w hw => by
      simp only [List.cons_append, List.mem_cons, List.mem_append, List.mem_map, List.mem_singleton, List.not_mem_nil, or_false] at hw
      rcases hw with rfl | (⟨n, -, rfl⟩ | rfl) | ⟨n, -, rfl⟩
      · exact nmL_ok hi
      · exact itoa_ok n
      · decide
      · exact itoa_ok n), if_neg hs]
    simp only [List.map_cons, List.map_append, List.map_map, List.cons_append, List.map_nil, List.append_assoc, List.nil_append]
    rfl
/-- the program's reading finds just the valid node with a text -/
theorem readN_iff (s : ByteArray) (x : NodeD) : readN s = some x ↔ nodeB x 4 = true ∧ bs (nodeStr x) = s := by
  constructor
  · intro h
    unfold readN at h
    split at h
    · cases h
    · split at h
      · simp only at h
        split at h
        · rename_i hc
          obtain rfl := Option.some.inj h
          exact hc
        · cases h
      · cases h
  · rintro ⟨hx, rfl⟩
    obtain ⟨b1, b2, b3, b4⟩ := nodeB_bounds hx
    obtain ⟨i, hi, he⟩ := nodeB_kind hx
    obtain ⟨k, a, b, src⟩ := x
    simp only at he b1 b2 b3 b4
    subst he
    have hsm : small18 a ∧ small18 b ∧ ∀ f ∈ src, small18 f := by
      have hx' := hx
      unfold nodeB at hx'
      simp only [Bool.and_eq_true] at hx'
      obtain ⟨⟨⟨⟨-, hab⟩, hs⟩, -⟩, -⟩ := hx'
      have e : ((i : Int) + 1 - 1).toNat = i := by omega
      rw [e] at hab
      unfold abB at hab
      simp only [Bool.and_eq_true] at hab
      refine ⟨?_, ?_, fun f hf => ?_⟩
      · have h1 := hab.1
        split at h1
        · have h2 := inB_iff.1 h1
          have h3 : -2147483648 ≤ kLo i ∧ kHi i ≤ 2147483647 := by
            rcases seventeen hi with rfl | rfl | rfl | rfl | rfl | rfl | rfl | rfl | rfl | rfl | rfl | rfl | rfl | rfl | rfl | rfl | rfl <;> decide
          unfold small18; omega
        · have : a = 0 := by simpa using h1
          unfold small18; omega
      · have h1 := hab.2
        split at h1
        · have h2 := inB_iff.1 h1
          unfold small18; omega
        · have : b = 0 := by simpa using h1
          unfold small18; omega
      · have := inB_iff.1 (List.all_eq_true.1 hs f hf)
        unfold small18; omega
    have hab : (¬ kLo i ≤ kHi i → a = 0) ∧ (kBb i = false → b = 0) := by
      have hx' := hx
      unfold nodeB at hx'
      simp only [Bool.and_eq_true] at hx'
      obtain ⟨⟨⟨⟨-, hab⟩, -⟩, -⟩, -⟩ := hx'
      have e : ((i : Int) + 1 - 1).toNat = i := by omega
      rw [e] at hab
      unfold abB at hab
      simp only [Bool.and_eq_true] at hab
      refine ⟨fun h => ?_, fun h => ?_⟩
      · have := hab.1; rw [if_neg h] at this; simpa using this
      · have := hab.2; rw [h] at this; simpa using this
    have hAB : kBb i = true → kLo i ≤ kHi i := by
      rcases seventeen hi with rfl | rfl | rfl | rfl | rfl | rfl | rfl | rfl | rfl | rfl | rfl | rfl | rfl | rfl | rfl | rfl | rfl <;> decide
    have es : nodeStr ⟨(i : Int) + 1, a, b, src⟩ = Lib.join (wordsN i a b src) [32] := by
      have e : ((i : Int) + 1 - 1).toNat = i := by omega
      unfold nodeStr
      simp only [e]
    have hn : (numsN i a b).getD 0 0 = a ∧ (numsN i a b).getD 1 0 = b := by
      unfold numsN
      by_cases h1 : kLo i ≤ kHi i
      · by_cases h2 : kBb i = true
        · simp [h1, h2]
        · have := hab.2 (by simpa using h2)
          simp [h1, h2, this]
      · have h2 : ¬ kBb i = true := fun h => h1 (hAB h)
        have e1 := hab.1 h1
        have e2 := hab.2 (by simpa using h2)
        simp [h1, h2, e1, e2]
    have hd : decsB ((numsN i a b).map fun x => bs (Lib.itoa x)) = some (numsN i a b) := decsB_itoa _ fun x hx => by
      unfold numsN at hx
      simp only [List.mem_append] at hx
      rcases hx with hx | hx
      · split at hx
        · simp at hx; subst hx; exact hsm.1
        · simp at hx
      · split at hx
        · simp at hx; subst hx; exact hsm.2.1
        · simp at hx
    have hnode : (⟨kindNamed (bs (nmL i)), (numsN i a b).getD 0 0, (numsN i a b).getD 1 0, src⟩ : NodeD) = ⟨(i : Int) + 1, a, b, src⟩ := by
      rw [← kNm_bs, kindNamed_self hi, hn.1, hn.2]
    unfold readN
    rw [es, words_node hi]
    by_cases hs : src = []
    · have := headB_only (numsN i a b)
      simp only [if_pos hs, List.append_nil, this.1, this.2, hd]
      have e0 : decsB [] = some src := by rw [hs]; rfl
      simp only [e0, hnode]
      rw [if_pos ⟨hx, by rw [es]⟩]
    · have := headB_nums (numsN i a b) src (.inr trivial)
      have e0 : decsB (src.map fun x => bs (Lib.itoa x)) = some src := decsB_itoa _ hsm.2.2
      simp only [if_neg hs, this.1, this.2, hd, e0, hnode]
      rw [if_pos ⟨hx, by rw [es]⟩]
end Go.Proofs.YtdcacmmglkcliaaGreatDoor
