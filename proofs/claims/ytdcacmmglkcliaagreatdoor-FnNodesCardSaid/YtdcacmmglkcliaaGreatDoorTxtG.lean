/-
  How the reference reads a node, as a plain function: it reads what the program reads.
-/
import Derived.Test.YtdcacmmglkcliaaGreatDoorTxtZ
namespace Go.Proofs.YtdcacmmglkcliaaGreatDoor
open Go.ChangeShapes Go.WideShapes Go.ChangeAt Go.RowKit Go.Sort
set_option linter.unusedVariables false
set_option linter.unusedSimpArgs false

/-- one word of a node, behind its kind -/
def stepS (i : Nat) (x : ByteArray) (o : Bool) (a b : Int) (f : List Int) : Option (Bool × Int × Int × List Int) :=
  if x = ofB then some (true, a, b, f) else
  match readDec x.data.toList with
  | none => none
  | some n => some (if o = true then (o, a, b, f ++ [n]) else if i = 1 then (o, n, b, f) else if i = 2 then (o, a, n, f) else (o, a, b, f))
def foldS : Nat → List ByteArray → Bool → Int → Int → List Int → Option (Bool × Int × Int × List Int)
  | _, [], o, a, b, f => some (o, a, b, f)
  | i, x :: ws, o, a, b, f => if i < 7 then (match stepS i x o a b f with
    | none => none
    | some (o, a, b, f) => foldS (i + 1) ws o a b f) else some (o, a, b, f)
def specN (s : ByteArray) : Option NodeD :=
  match foldS 1 (partsB s).tail false 0 0 [] with
  | none => none
  | some (_, a, b, f) => if nodeB ⟨kindNamed ((partsB s).headD ⟨#[]⟩), a, b, f⟩ 4 = true ∧ bs (nodeStr ⟨kindNamed ((partsB s).headD ⟨#[]⟩), a, b, f⟩) = s then some ⟨kindNamed ((partsB s).headD ⟨#[]⟩), a, b, f⟩ else none
theorem foldS_of (i : Nat) (x : ByteArray) (ws : List ByteArray) (o : Bool) (a b : Int) (f : List Int) (hi : i < 7) (hx : x = ofB) : foldS i (x :: ws) o a b f = foldS (i + 1) ws true a b f := by
  rw [foldS, if_pos hi, stepS, if_pos hx]
theorem foldS_none (i : Nat) (x : ByteArray) (ws : List ByteArray) (o : Bool) (a b : Int) (f : List Int) (hi : i < 7) (hx : x ≠ ofB) (hr : readDec x.data.toList = none) : foldS i (x :: ws) o a b f = none := by
  rw [foldS, if_pos hi, stepS, if_neg hx, hr]
theorem foldS_some (i : Nat) (x : ByteArray) (ws : List ByteArray) (o : Bool) (a b : Int) (f : List Int) {n : Int} (hi : i < 7) (hx : x ≠ ofB) (hr : readDec x.data.toList = some n) :
    foldS i (x :: ws) o a b f = if o = true then foldS (i + 1) ws o a b (f ++ [n]) else if i = 1 then foldS (i + 1) ws o n b f else if i = 2 then foldS (i + 1) ws o a n f else foldS (i + 1) ws o a b f := by
  rw [foldS, if_pos hi, stepS, if_neg hx, hr]
  by_cases h1 : o = true
  · simp only [if_pos h1]
  · by_cases h2 : i = 1
    · simp only [if_neg h1, if_pos h2]
    · by_cases h3 : i = 2
      · simp only [if_neg h1, if_neg h2, if_pos h3]
      · simp only [if_neg h1, if_neg h2, if_neg h3]
theorem foldS_end (i : Nat) (ws : List ByteArray) (o : Bool) (a b : Int) (f : List Int) (h : ws = [] ∨ ¬ i < 7) : foldS i ws o a b f = some (o, a, b, f) := by
  cases ws with
  | nil => rfl
  | cons x ws =>
    rw [foldS, if_neg (h.resolve_left (by simp))]
theorem itoa_list (n : Int) : (bs (Lib.itoa n)).data.toList = Lib.itoa n := bs_list _
theorem foldS_src : ∀ (fs : List Int) (i : Nat) (a b : Int) (f : List Int), i + fs.length ≤ 7 → (∀ x ∈ fs, small18 x) → foldS i (fs.map fun x => bs (Lib.itoa x)) true a b f = some (true, a, b, f ++ fs)
  | [], i, a, b, f, _, _ => by simp [foldS]
  | x :: fs, i, a, b, f, hi, hs => by
    simp only [List.length_cons] at hi
    rw [List.map_cons, foldS_some i _ _ _ a b f (n := x) (by omega) (itoa_of x) (by rw [itoa_list]; exact readDec_itoa (hs x (by simp))), if_pos rfl, foldS_src fs (i + 1) a b _ (by omega) fun y hy => hs y (by simp [hy])]
    simp
theorem foldS_num (i : Nat) (x : Int) (ws : List ByteArray) (a b : Int) (hi : i < 7) (hx : small18 x) :
    foldS i (bs (Lib.itoa x) :: ws) false a b [] = if i = 1 then foldS (i + 1) ws false x b [] else if i = 2 then foldS (i + 1) ws false a x [] else foldS (i + 1) ws false a b [] := by
  rw [foldS_some i _ _ _ a b [] (n := x) hi (itoa_of x) (by rw [itoa_list]; exact readDec_itoa hx), if_neg (by decide)]
theorem parts_join {ws : List (List UInt8)} (h0 : ws ≠ []) (h : ∀ w ∈ ws, (32 : UInt8) ∉ w ∧ w ≠ []) : partsB (bs (Lib.join ws [32])) = wordsB (bs (Lib.join ws [32])) := by
  rw [words_join h0 h]
  match ws, h0 with
  | w :: ws, _ =>
    have hk := splitK_join ws w (h w (by simp)).1 fun v hv => (h v (by simp [hv])).1
    rw [partsB_cut, bs_list, ← splitK_cut _ _ (Nat.le_refl _), hk]
theorem node_facts {i : Nat} (hi : i < 17) {a b : Int} {src : List Int} (hx : nodeB ⟨(i : Int) + 1, a, b, src⟩ 4 = true) :
    (small18 a ∧ small18 b ∧ ∀ f ∈ src, small18 f) ∧ (¬ kLo i ≤ kHi i → a = 0) ∧ (kBb i = false → b = 0) := by
  unfold nodeB at hx
  simp only [Bool.and_eq_true] at hx
  obtain ⟨⟨⟨⟨-, hab⟩, hs⟩, -⟩, -⟩ := hx
  have e : ((i : Int) + 1 - 1).toNat = i := by omega
  rw [e] at hab
  unfold abB at hab
  simp only [Bool.and_eq_true] at hab
  refine ⟨⟨?_, ?_, fun f hf => ?_⟩, fun h => ?_, fun h => ?_⟩
  · have h1 := hab.1
    split at h1
    · have h2 := inB_iff.1 h1
      have h3 : -2147483648 ≤ kLo i ∧ kHi i ≤ 2147483647 := by
        rcases seventeen hi with rfl | rfl | rfl | rfl | rfl | rfl | rfl | rfl | rfl | rfl | rfl | rfl | rfl | rfl | rfl | rfl | rfl <;> decide
      unfold small18; omega
    · have : a = 0 := by simpa using h1
      unfold small18; omega
  · have h1 := hab.2
    split at h1
    · have h2 := inB_iff.1 h1
      unfold small18; omega
    · have : b = 0 := by simpa using h1
      unfold small18; omega
  · have := inB_iff.1 (List.all_eq_true.1 hs f hf)
    unfold small18; omega
  · have := hab.1; rw [if_neg h] at this; simpa using this
  · have := hab.2; rw [h] at this; simpa using this
theorem specN_of {x : NodeD} (hx : nodeB x 4 = true) : specN (bs (nodeStr x)) = some x := by
  obtain ⟨b1, b2, b3, b4⟩ := nodeB_bounds hx
  obtain ⟨i, hi, he⟩ := nodeB_kind hx
  obtain ⟨k, a, b, src⟩ := x
  simp only at he b1 b2 b3 b4
  subst he
  obtain ⟨⟨sa, sb, sf⟩, ha0, hb0⟩ := node_facts hi hx
  have hAB : kBb i = true → kLo i ≤ kHi i := by
    rcases seventeen hi with rfl | rfl | rfl | rfl | rfl | rfl | rfl | rfl | rfl | rfl | rfl | rfl | rfl | rfl | rfl | rfl | rfl <;> decide
  have es : nodeStr ⟨(i : Int) + 1, a, b, src⟩ = Lib.join (wordsN i a b src) [32] := by
    have e : ((i : Int) + 1 - 1).toNat = i := by omega
    unfold nodeStr
    simp only [e]
  have hw := words_node hi a b src
  have hp : partsB (bs (Lib.join (wordsN i a b src) [32])) = bs (nmL i) :: ((numsN i a b).map (fun x => bs (Lib.itoa x)) ++ (if src = [] then [] else ofB :: src.map fun x => bs (Lib.itoa x))) := by
    rw [← hw]
    by_cases hs : src = []
    · have e : wordsN i a b src = nmL i :: (numsN i a b).map Lib.itoa := by
        unfold wordsN numsN
        rw [if_pos hs]
        by_cases h1 : kLo i ≤ kHi i <;> by_cases h2 : kBb i = true <;> simp [h1, h2]
      rw [e]
      exact parts_join (by simp) (fun w hw => by
        rcases List.mem_cons.1 hw with rfl | hw
        · exact nmL_ok hi
        · obtain ⟨n, -, rfl⟩ := List.mem_map.1 hw
          exact itoa_ok n)
    · have e : wordsN i a b src = (nmL i :: ((numsN i a b).map Lib.itoa ++ [[111, 102]])) ++ [numStr src] := by
        unfold wordsN numsN
        rw [if_neg hs]
        by_cases h1 : kLo i ≤ kHi i <;> by_cases h2 : kBb i = true <;> simp [h1, h2]
      rw [e]
      unfold numStr
      rw [join_flat _ _ (by simpa using hs)]
      exact parts_join (by simp) (fun w hw => by
        simp only [List.cons_append, List.mem_cons, List.mem_append, List.mem_map, List.mem_singleton, List.not_mem_nil, or_false] at hw
        rcases hw with rfl | (⟨n, -, rfl⟩ | rfl) | ⟨n, -, rfl⟩
        · exact nmL_ok hi
        · exact itoa_ok n
        · decide
        · exact itoa_ok n)
  have hfold : ∃ o, foldS 1 ((numsN i a b).map (fun x => bs (Lib.itoa x)) ++ (if src = [] then [] else ofB :: src.map fun x => bs (Lib.itoa x))) false 0 0 [] = some (o, a, b, src) := by
    have fin : ∀ j, j + 1 + src.length ≤ 7 → ∃ o, foldS j (if src = [] then [] else ofB :: src.map fun x => bs (Lib.itoa x)) false a b [] = some (o, a, b, src) := by
      intro j hj
      by_cases hs : src = []
      · rw [if_pos hs, hs]; exact ⟨false, rfl⟩
      · rw [if_neg hs, foldS_of j _ _ _ _ _ _ (by omega) rfl, foldS_src _ _ _ _ _ (by omega) sf]
        exact ⟨true, by simp⟩
    unfold numsN
    by_cases h1 : kLo i ≤ kHi i
    · by_cases h2 : kBb i = true
      · rw [if_pos h1, if_pos h2]
        simp only [List.cons_append, List.nil_append, List.map_cons, List.map_nil]
        rw [foldS_num 1 a _ 0 0 (by omega) sa, if_pos rfl, foldS_num 2 b _ a 0 (by omega) sb, if_neg (by decide), if_pos rfl]
        exact fin 3 (by omega)
      · have eb := hb0 (by simpa using h2)
        rw [if_pos h1, if_neg h2]
        simp only [List.cons_append, List.nil_append, List.map_cons, List.map_nil, List.append_nil]
        rw [foldS_num 1 a _ 0 0 (by omega) sa, if_pos rfl]
        have := fin 2 (by omega)
        rwa [eb] at this ⊢
    · have ea := ha0 h1
      have h2 : ¬ kBb i = true := fun h => h1 (hAB h)
      have eb := hb0 (by simpa using h2)
      rw [if_neg h1, if_neg h2]
      simp only [List.nil_append, List.map_nil]
      have := fin 1 (by omega)
      rwa [eb, ea] at this ⊢
  obtain ⟨o, hf⟩ := hfold
  have hk : kindNamed (bs (nmL i)) = (i : Int) + 1 := by rw [← kNm_bs, kindNamed_self hi]
  unfold specN
  rw [es, hp]
  simp only [List.tail_cons, List.headD_cons, hf, hk]
  rw [if_pos ⟨hx, by rw [es]⟩]
theorem specN_iff (s : ByteArray) (x : NodeD) : specN s = some x ↔ nodeB x 4 = true ∧ bs (nodeStr x) = s := by
  constructor
  · intro h
    unfold specN at h
    split at h
    · cases h
    · split at h
      · rename_i hc
        obtain rfl := Option.some.inj h
        exact hc
      · cases h
  · rintro ⟨hx, rfl⟩
    exact specN_of hx
theorem specN_eq (s : ByteArray) : specN s = readN s := by
  apply Option.ext
  intro x
  rw [specN_iff, readN_iff]
theorem cutAt_len : ∀ (l cur x : List UInt8), x ∈ cutAt cur l → x.length ≤ cur.length + l.length
  | [], cur, x, h => by simp [cutAt] at h; subst h; simp
  | c :: l, cur, x, h => by
    unfold cutAt at h
    split at h
    · rcases List.mem_cons.1 h with rfl | h
      · simp
      · have := cutAt_len l [] x h
        simp at this ⊢; omega
    · have := cutAt_len l _ x h
      simp at this ⊢; omega
theorem partsB_size {s x : ByteArray} (h : x ∈ partsB s) : x.size ≤ s.size := by
  rw [partsB_cut] at h
  obtain ⟨l, hl, rfl⟩ := List.mem_map.1 h
  have h1 := cutAt_len _ _ _ hl
  rw [bs_size]
  have : s.data.toList.length = s.size := Array.length_toList
  simp at h1
  omega
theorem partsB_ne (s : ByteArray) : 1 ≤ (partsB s).length := by rw [partsB_length]; omega
end Go.Proofs.YtdcacmmglkcliaaGreatDoor
