/-
  How both sides read a patch, as plain functions; both find just the valid patch with a text.
-/
import Derived.Test.YtdcacmmglkcliaaGreatDoorTxtG
import Derived.Test.YtdcacmmglkcliaaGreatDoorTxtR
namespace Go.Proofs.YtdcacmmglkcliaaGreatDoor
set_option linter.unusedVariables false
set_option linter.unusedSimpArgs false

/-- the parts of a row of bytes between bytes c; cur stands ahead -/
def cutC (c : UInt8) : List UInt8 → List UInt8 → List (List UInt8)
  | cur, [] => [cur]
  | cur, d :: r => if d = c then cur :: cutC c [] r else cutC c (cur ++ [d]) r
theorem cutC_none (c : UInt8) : ∀ (r cur : List UInt8), c ∉ r → cutC c cur r = [cur ++ r]
  | [], cur, _ => by simp [cutC]
  | d :: r, cur, h => by
    have hc : d ≠ c := fun e => h (by simp [e])
    rw [cutC, if_neg hc, cutC_none c r _ fun e => h (by simp [e])]
    simp
theorem cutC_at (c : UInt8) : ∀ (a b cur : List UInt8), c ∉ a → cutC c cur (a ++ c :: b) = (cur ++ a) :: cutC c [] b
  | [], b, cur, _ => by simp [cutC]
  | d :: a, b, cur, h => by
    have hc : d ≠ c := fun e => h (by simp [e])
    rw [List.cons_append, cutC, if_neg hc, cutC_at c a b _ fun e => h (by simp [e])]
    simp
theorem cutC_cat (c : UInt8) : ∀ ls : List (List UInt8), (∀ l ∈ ls, c ∉ l) → cutC c [] ((ls.map (· ++ [c])).flatten) = ls ++ [[]]
  | [], _ => rfl
  | l :: ls, h => by
    have ih := cutC_cat c ls fun m hm => h m (by simp [hm])
    rw [List.map_cons, List.flatten_cons, List.append_assoc, List.singleton_append, cutC_at c l _ _ (h l (by simp)), ih]
    rfl
theorem cutC_len (c : UInt8) : ∀ l cur : List UInt8, (cutC c cur l).length ≤ l.length + 1
  | [], cur => by simp [cutC]
  | d :: l, cur => by
    rw [cutC]
    split
    · have := cutC_len c l []; simp; omega
    · have := cutC_len c l (cur ++ [d]); simp; omega
theorem cutC_size (c : UInt8) : ∀ (l cur x : List UInt8), x ∈ cutC c cur l → x.length ≤ cur.length + l.length
  | [], cur, x, h => by simp [cutC] at h; simp [h]
  | d :: l, cur, x, h => by
    rw [cutC] at h
    split at h
    · rcases List.mem_cons.1 h with rfl | h
      · simp
      · have := cutC_size c l [] x h; simp at this ⊢; omega
    · have := cutC_size c l (cur ++ [d]) x h; simp at this ⊢; omega
theorem cutC_ne (c : UInt8) : ∀ l cur : List UInt8, cutC c cur l ≠ []
  | [], cur => by simp [cutC]
  | d :: l, cur => by
    rw [cutC]
    split
    · simp
    · exact cutC_ne c l _
theorem splitK_cutC (c : UInt8) : ∀ (n : Nat) (l : List UInt8), l.length ≤ n → Lib.splitK [c] 0 (Lib.count l [c]) l = cutC c [] l
  | n, l, hn => by
    by_cases h : c ∈ l
    · obtain ⟨a, b, rfl, ha⟩ := List.eq_append_cons_of_mem h
      have hi := index_at a b c ha
      match n, hn with
      | 0, hn => simp at hn
      | n + 1, hn =>
        have ih := splitK_cutC c n b (by simp at hn; omega)
        rw [Lib.count_hit (by simp) hi]
        have ed : (a ++ c :: b).drop (a.length + [c].length) = b := by simp
        rw [ed, Nat.add_comm 1, Lib.splitK, if_neg (by rw [hi]; simp), hi]
        have et : ((a.length : Nat) : Int).toNat = a.length := by omega
        rw [et, ed, ih, cutC_at c a b _ ha]
        simp
    · rw [Lib.count_miss (index_none l c h), cutC_none c l _ h]
      rfl
/-- the lines of a text -/
def linesB (s : ByteArray) : List ByteArray := (cutC 10 [] s.data.toList).map bs
theorem linesB_split (s : ByteArray) : Lib.splitB ⟨#[10]⟩ 0 (Lib.countB s ⟨#[10]⟩) s = linesB s := by
  have hp : (Lib.splitB ⟨#[10]⟩ 0 (Lib.countB s ⟨#[10]⟩) s).map (·.data.toList) = cutC 10 [] s.data.toList := by
    rw [Lib.splitB_data]
    exact splitK_cutC 10 _ _ (Nat.le_refl _)
  unfold linesB
  rw [← hp, List.map_map]
  conv => lhs; rw [← List.map_id (Lib.splitB _ _ _ _)]
  exact List.map_congr_left fun x _ => (bs_data x).symm
theorem linesB_length (s : ByteArray) : (linesB s).length = Lib.countB s ⟨#[10]⟩ + 1 := by rw [← linesB_split]; exact Lib.splitB_all _ (by decide) 0 _ s rfl
theorem linesB_le (s : ByteArray) : (linesB s).length ≤ s.size + 1 := by
  unfold linesB
  rw [List.length_map]
  have := cutC_len 10 s.data.toList []
  simpa using this
theorem linesB_size {s x : ByteArray} (h : x ∈ linesB s) : x.size ≤ s.size := by
  unfold linesB at h
  obtain ⟨l, hl, rfl⟩ := List.mem_map.1 h
  have := cutC_size 10 _ _ _ hl
  simp at this
  show (bs l).data.size ≤ s.data.size
  simpa [bs] using this
theorem linesB_ne (s : ByteArray) : linesB s ≠ [] := by
  unfold linesB
  intro h
  exact cutC_ne 10 _ _ (List.map_eq_nil_iff.1 h)
def trimN (s : ByteArray) : ByteArray := ⟨(Lib.trimSuffix s.data.toList [10]).toArray⟩
theorem trimN_size (s : ByteArray) : (trimN s).size ≤ s.size := by
  unfold trimN Lib.trimSuffix
  split
  · show ((s.data.toList.take _).toArray).size ≤ s.data.size
    simp [List.size_toArray]
  · show (s.data.toList.toArray).size ≤ s.data.size
    simp
/-! ### one line -/
def wPatch : ByteArray := ⟨#[112, 97, 116, 99, 104]⟩
def wValues : ByteArray := ⟨#[118, 97, 108, 117, 101, 115]⟩
def wOut : ByteArray := ⟨#[111, 117, 116]⟩
def addNode (p : PatchD) (n : NodeD) : PatchD := { p with nodes := p.nodes ++ [n] }
def addTable (p : PatchD) (t : List Int) : PatchD := { p with tables := p.tables ++ [t] }
def setOut (p : PatchD) (t : List Int) : PatchD := { p with outputs := t }
def setIn (p : PatchD) (n : Int) : PatchD := { p with inputs := n }
/-- the program's step -/
def stepI (p : PatchD) (line : ByteArray) : Option PatchD :=
  match wordsB line with
  | [] => none
  | k :: ws =>
    if k ≠ wPatch ∧ k ≠ wValues ∧ k ≠ wOut then (readN line).map (addNode p)
    else match decsB ws with
      | none => none
      | some ns => if k = wPatch then (if ns.length = 1 then some (setIn p (ns.getD 0 0)) else none) else if k = wValues then some (addTable p ns) else some (setOut p ns)
/-- the numbers behind a line's first word, on the reference's side -/
def numsS (ws : List ByteArray) : Option (List Int) := if 1 < ws.length ∧ 32 < ws.length then none else decsB ws.tail
/-- the reference's step -/
def stepR (p : PatchD) (line : ByteArray) : Option PatchD :=
  let w := partsB line
  match numsS w with
  | none => (readN line).map (addNode p)
  | some ns =>
    if w.headD ⟨#[]⟩ = wPatch ∧ ns.length = 1 then some (setIn p (ns.getD 0 0))
    else if w.headD ⟨#[]⟩ = wValues then some (addTable p ns)
    else if w.headD ⟨#[]⟩ = wOut then some (setOut p ns)
    else (readN line).map (addNode p)
def foldP (f : PatchD → ByteArray → Option PatchD) (ls : List ByteArray) (p : PatchD) : Option PatchD := ls.foldl (fun o l => o.bind fun p => f p l) (some p)
theorem foldP_snoc (f : PatchD → ByteArray → Option PatchD) (ls : List ByteArray) (l : ByteArray) (p : PatchD) : foldP f (ls ++ [l]) p = (foldP f ls p).bind fun p => f p l := by simp [foldP, List.foldl_append]
theorem foldP_cons (f : PatchD → ByteArray → Option PatchD) (l : ByteArray) (ls : List ByteArray) {p q : PatchD} (h : f p l = some q) : foldP f (l :: ls) p = foldP f ls q := by
  unfold foldP; rw [List.foldl_cons]; show List.foldl _ (f p l) ls = _; rw [h]
theorem foldP_none (f : PatchD → ByteArray → Option PatchD) (ls : List ByteArray) : ls.foldl (fun o l => o.bind fun p => f p l) none = none := by
  induction ls with
  | nil => rfl
  | cons l ls ih => exact ih
theorem foldP_stop {f : PatchD → ByteArray → Option PatchD} {ls : List ByteArray} {k : Nat} {p : PatchD} (h : foldP f (ls.take k) p = none) : foldP f ls p = none := by
  have e : ls = ls.take k ++ ls.drop k := (List.take_append_drop k ls).symm
  unfold foldP at *
  rw [e, List.foldl_append, h]
  exact foldP_none f _
theorem foldP_append (f : PatchD → ByteArray → Option PatchD) (ls ms : List ByteArray) {p q : PatchD} (h : foldP f ls p = some q) : foldP f (ls ++ ms) p = foldP f ms q := by
  unfold foldP at *; rw [List.foldl_append, h]
def zP : PatchD := ⟨0, [], [], []⟩
/-- .. checked -/
def checkP (s : ByteArray) (o : Option PatchD) : Option PatchD := o.bind fun p => if okB p = true ∧ bs (patchStr p) = s then some p else none
def readPI (s : ByteArray) : Option PatchD := checkP s (foldP stepI (linesB (trimN s)) zP)
def readPS (s : ByteArray) : Option PatchD := if 31 < (linesB s).length then none else checkP s (foldP stepR ((linesB s).take ((linesB s).length - 1)) zP)
theorem checkP_iff {s : ByteArray} {o : Option PatchD} {x : PatchD} : checkP s o = some x ↔ o = some x ∧ okB x = true ∧ bs (patchStr x) = s := by
  unfold checkP
  cases o with
  | none => simp
  | some p =>
    show (if _ then some p else none) = some x ↔ _
    constructor
    · intro h
      split at h
      · rename_i hc
        obtain rfl := Option.some.inj h
        exact ⟨rfl, hc⟩
      · cases h
    · rintro ⟨h, hc⟩
      obtain rfl := Option.some.inj h
      rw [if_pos hc]
/-! ### the lines of a valid patch's text -/
theorem numStr_join (xs : List Int) : numStr xs = Lib.join (xs.map Lib.itoa) [32] := rfl
theorem nl_itoa (n : Int) : (10 : UInt8) ∉ Lib.itoa n := itoa_no (by decide)
theorem mem_join {c : UInt8} (hc : c ≠ 32) : ∀ ws : List (List UInt8), (∀ w ∈ ws, c ∉ w) → c ∉ Lib.join ws [32]
  | [], _ => by simp [Lib.join_nil]
  | [w], h => by rw [Lib.join_one]; exact h w (by simp)
  | w :: v :: ws, h => by
    have ih := mem_join hc (v :: ws) fun u hu => h u (by simp [hu])
    have e : Lib.join (w :: v :: ws) [32] = w ++ 32 :: Lib.join (v :: ws) [32] := by
      rw [Lib.join_cons, Lib.join_cons]
      simp [Lib.joinTail]
    rw [e, List.mem_append, List.mem_cons]
    rintro (h1 | h1 | h1)
    · exact h w (by simp) h1
    · exact hc h1
    · exact ih h1
theorem nl_num (xs : List Int) : (10 : UInt8) ∉ numStr xs := by
  rw [numStr_join]
  exact mem_join (by decide) _ fun w hw => by obtain ⟨n, -, rfl⟩ := List.mem_map.1 hw; exact nl_itoa n
theorem nl_spaced {s : List UInt8} (hs : (10 : UInt8) ∉ s) (xs : List Int) : (10 : UInt8) ∉ spacedStr s xs := by
  unfold spacedStr
  rw [List.mem_append]
  rintro (h | h)
  · exact hs h
  · split at h
    · cases h
    · rcases List.mem_cons.1 h with h | h
      · exact absurd h (by decide)
      · exact nl_num xs h
theorem nl_nm {i : Nat} (hi : i < 17) : (10 : UInt8) ∉ nmL i := by
  rcases seventeen hi with rfl | rfl | rfl | rfl | rfl | rfl | rfl | rfl | rfl | rfl | rfl | rfl | rfl | rfl | rfl | rfl | rfl <;> decide
theorem nl_node {x : NodeD} {t : Int} (h : nodeB x t = true) : (10 : UInt8) ∉ nodeStr x := by
  obtain ⟨i, hi, he⟩ := nodeB_kind h
  have e : (x.kind - 1).toNat = i := by omega
  unfold nodeStr
  rw [e, nodeStr_eq]
  have h1 : (10 : UInt8) ∉ (if kLo i ≤ kHi i then 32 :: Lib.itoa x.a else []) := by
    split
    · rw [List.mem_cons]; rintro (h | h)
      · exact absurd h (by decide)
      · exact nl_itoa _ h
    · simp
  have h2 : (10 : UInt8) ∉ (if kBb i = true then 32 :: Lib.itoa x.b else []) := by
    split
    · rw [List.mem_cons]; rintro (h | h)
      · exact absurd h (by decide)
      · exact nl_itoa _ h
    · simp
  have h3 : (10 : UInt8) ∉ (if x.src = [] then [] else [32, 111, 102, 32] ++ numStr x.src) := by
    split
    · simp
    · rw [List.mem_append]; rintro (h | h)
      · exact absurd h (by decide)
      · exact nl_num _ h
  simp only [List.mem_append]
  rintro (((h | h) | h) | h)
  · exact nl_nm hi h
  · exact h1 h
  · exact h2 h
  · exact h3 h
theorem nl_lines {x : PatchD} (h : okB x = true) : ∀ l ∈ linesP x, (10 : UInt8) ∉ l := by
  obtain ⟨h1, h2, h3, h4, h5, h6, h7⟩ := okB_parts h
  intro l hl
  unfold linesP at hl
  simp only [List.mem_cons, List.mem_append, List.mem_map, List.mem_singleton, List.not_mem_nil, or_false] at hl
  rcases hl with rfl | (⟨t, ht, rfl⟩ | ⟨n, hn, rfl⟩) | rfl
  · rw [List.mem_append]
    rintro (h | h)
    · exact absurd h (by decide)
    · exact nl_itoa _ h
  · exact nl_spaced (by decide) _
  · exact nl_node (h5 n hn)
  · exact nl_spaced (by decide) _
theorem cutC_join (c : UInt8) : ∀ (ls : List (List UInt8)) (l : List UInt8), (∀ m ∈ l :: ls, c ∉ m) → cutC c [] (Lib.join (l :: ls) [c]) = l :: ls
  | [], l, h => by rw [Lib.join_one, cutC_none c l [] (h l (by simp))]; rfl
  | m :: ls, l, h => by
    have ih := cutC_join c ls m fun u hu => h u (by simp at hu ⊢; exact .inr hu)
    have e : Lib.join (l :: m :: ls) [c] = l ++ c :: Lib.join (m :: ls) [c] := by
      rw [Lib.join_cons, Lib.join_cons]
      simp [Lib.joinTail]
    rw [e, cutC_at c l _ _ (h l (by simp)), ih]
    rfl
theorem lines_trim {x : PatchD} (h : okB x = true) : linesB (trimN (bs (patchStr x))) = (linesP x).map bs := by
  have e : Lib.trimSuffix (patchStr x) [10] = Lib.join (linesP x) [10] := by
    unfold patchStr Lib.trimSuffix
    have hs : Lib.hasSuffix (Lib.join (linesP x) [10] ++ [10]) [10] = true := by
      unfold Lib.hasSuffix
      simp
    rw [if_pos hs]
    simp
  have h2 : (trimN (bs (patchStr x))).data.toList = Lib.join (linesP x) [10] := by
    unfold trimN
    rw [bs_list, e]
  unfold linesB
  rw [h2]
  have hn := nl_lines h
  unfold linesP at hn ⊢
  rw [List.append_assoc, cutC_join 10 _ _ (by rw [List.append_assoc] at hn; exact hn)]
theorem lines_all {x : PatchD} (h : okB x = true) : linesB (bs (patchStr x)) = (linesP x ++ [[]]).map bs := by
  unfold linesB
  rw [bs_list, patchStr_catL]
  unfold catL
  rw [cutC_cat 10 _ (nl_lines h)]
/-! ### steps at such lines -/
theorem spaced_join (s : List UInt8) (xs : List Int) : spacedStr s xs = Lib.join (s :: xs.map Lib.itoa) [32] := by
  unfold spacedStr numStr
  cases xs with
  | nil => simp [Lib.join_one]
  | cons x xs =>
    rw [if_neg (by simp), List.map_cons]
    conv => rhs; rw [Lib.join_cons]
    conv => lhs; rw [Lib.join_cons]
    simp [Lib.joinTail]
theorem words_spaced {s : List UInt8} (h0 : (32 : UInt8) ∉ s) (h1 : s ≠ []) (xs : List Int) :
    wordsB (bs (spacedStr s xs)) = bs s :: xs.map (fun x => bs (Lib.itoa x)) ∧ partsB (bs (spacedStr s xs)) = bs s :: xs.map (fun x => bs (Lib.itoa x)) := by
  have hw : ∀ w ∈ s :: xs.map Lib.itoa, (32 : UInt8) ∉ w ∧ w ≠ [] := fun w hw => by
    rcases List.mem_cons.1 hw with rfl | hw
    · exact ⟨h0, h1⟩
    · obtain ⟨n, -, rfl⟩ := List.mem_map.1 hw
      exact itoa_ok n
  have e := words_join (ws := s :: xs.map Lib.itoa) (by simp) hw
  have e2 := parts_join (ws := s :: xs.map Lib.itoa) (by simp) hw
  rw [spaced_join]
  refine ⟨?_, ?_⟩
  · rw [e]; simp
  · rw [e2, e]; simp
theorem stepI_num {s : List UInt8} (h0 : (32 : UInt8) ∉ s) (h1 : s ≠ []) {xs : List Int} (hx : ∀ x ∈ xs, small18 x) (p : PatchD) (hk : ¬ (bs s ≠ wPatch ∧ bs s ≠ wValues ∧ bs s ≠ wOut)) :
    stepI p (bs (spacedStr s xs)) = if bs s = wPatch then (if xs.length = 1 then some (setIn p (xs.getD 0 0)) else none) else if bs s = wValues then some (addTable p xs) else some (setOut p xs) := by
  unfold stepI
  rw [(words_spaced h0 h1 xs).1]
  simp only
  rw [if_neg hk, decsB_itoa xs hx]
theorem stepR_num {s : List UInt8} (h0 : (32 : UInt8) ∉ s) (h1 : s ≠ []) {xs : List Int} (hx : ∀ x ∈ xs, small18 x) (hl : xs.length ≤ 31) (p : PatchD) :
    stepR p (bs (spacedStr s xs)) = if bs s = wPatch ∧ xs.length = 1 then some (setIn p (xs.getD 0 0)) else if bs s = wValues then some (addTable p xs) else if bs s = wOut then some (setOut p xs) else (readN (bs (spacedStr s xs))).map (addNode p) := by
  unfold stepR
  rw [(words_spaced h0 h1 xs).2]
  have e : numsS (bs s :: xs.map fun x => bs (Lib.itoa x)) = some xs := by
    unfold numsS
    rw [if_neg (by simp; omega), List.tail_cons, decsB_itoa xs hx]
  simp only [e, List.headD_cons]
  rfl
theorem wPatch_bs : bs [112, 97, 116, 99, 104] = wPatch := rfl
theorem wValues_bs : bs [118, 97, 108, 117, 101, 115] = wValues := rfl
theorem wOut_bs : bs [111, 117, 116] = wOut := rfl
theorem patch_line (n : Int) : [112, 97, 116, 99, 104, 32] ++ Lib.itoa n = spacedStr [112, 97, 116, 99, 104] [n] := by
  rw [spaced_join]
  simp [Lib.join_cons, Lib.joinTail]
theorem nm_other {i : Nat} (hi : i < 17) : bs (nmL i) ≠ wPatch ∧ bs (nmL i) ≠ wValues ∧ bs (nmL i) ≠ wOut := by
  have h : nmL i ≠ [112, 97, 116, 99, 104] ∧ nmL i ≠ [118, 97, 108, 117, 101, 115] ∧ nmL i ≠ [111, 117, 116] := by
    rcases seventeen hi with rfl | rfl | rfl | rfl | rfl | rfl | rfl | rfl | rfl | rfl | rfl | rfl | rfl | rfl | rfl | rfl | rfl <;> decide
  exact ⟨fun e => h.1 (bs_inj e), fun e => h.2.1 (bs_inj e), fun e => h.2.2 (bs_inj e)⟩
theorem nodeB_four {x : NodeD} {t : Int} (h : nodeB x t = true) (ht : t ≤ 4) : nodeB x 4 = true := by
  unfold nodeB at h ⊢
  rw [Bool.and_eq_true] at h ⊢
  refine ⟨h.1, ?_⟩
  have := h.2
  rw [Bool.or_eq_true] at this ⊢
  rcases this with h | h
  · exact .inl h
  · exact .inr (by rw [decide_eq_true_iff] at h ⊢; omega)
theorem stepI_node {x : NodeD} (h : nodeB x 4 = true) (p : PatchD) : stepI p (bs (nodeStr x)) = some (addNode p x) := by
  obtain ⟨i, hi, he⟩ := nodeB_kind h
  have e : (x.kind - 1).toNat = i := by omega
  have hr : readN (bs (nodeStr x)) = some x := (readN_iff _ _).2 ⟨h, rfl⟩
  unfold stepI
  have hw : wordsB (bs (nodeStr x)) = bs (nmL i) :: ((numsN i x.a x.b).map (fun x => bs (Lib.itoa x)) ++ (if x.src = [] then [] else ofB :: x.src.map fun x => bs (Lib.itoa x))) := by
    have := words_node hi x.a x.b x.src
    unfold nodeStr
    rw [e]
    exact this
  rw [hw]
  simp only
  rw [if_pos (nm_other hi), hr]
  rfl
theorem head_parts {a r : List UInt8} (ha : (32 : UInt8) ∉ a) (hr : r = [] ∨ ∃ r', r = 32 :: r') : (partsB (bs (a ++ r))).headD ⟨#[]⟩ = bs a := by
  rw [partsB_cut, bs_list]
  rcases hr with rfl | ⟨r', rfl⟩
  · rw [List.append_nil, cutAt_none a [] ha]; rfl
  · rw [cutAt_at a r' [] ha]; rfl
theorem stepR_node {x : NodeD} (h : nodeB x 4 = true) (p : PatchD) : stepR p (bs (nodeStr x)) = some (addNode p x) := by
  obtain ⟨i, hi, he⟩ := nodeB_kind h
  have e : (x.kind - 1).toNat = i := by omega
  have hr : readN (bs (nodeStr x)) = some x := (readN_iff _ _).2 ⟨h, rfl⟩
  have hh : (partsB (bs (nodeStr x))).headD ⟨#[]⟩ = bs (nmL i) := by
    unfold nodeStr
    rw [e, nodeStr_eq, List.append_assoc, List.append_assoc]
    refine head_parts (nmL_ok hi).1 ?_
    by_cases h1 : kLo i ≤ kHi i
    · exact .inr ⟨_, by rw [if_pos h1]; rfl⟩
    · rw [if_neg h1, List.nil_append]
      by_cases h2 : kBb i = true
      · exact .inr ⟨_, by rw [if_pos h2]; rfl⟩
      · rw [if_neg h2, List.nil_append]
        by_cases h3 : x.src = []
        · exact .inl (by rw [if_pos h3])
        · exact .inr ⟨_, by rw [if_neg h3]; rfl⟩
  obtain ⟨n1, n2, n3⟩ := nm_other hi
  unfold stepR
  simp only [hh]
  cases numsS (partsB (bs (nodeStr x))) with
  | none => rw [hr]; rfl
  | some ns =>
    simp only
    rw [if_neg (fun h => n1 h.1), if_neg n2, if_neg n3, hr]
    rfl
/-! ### the whole text -/
theorem fold_tables {f : PatchD → ByteArray → Option PatchD} : ∀ (ts : List (List Int)) (p : PatchD), (∀ t ∈ ts, ∀ q, f q (bs (spacedStr [118, 97, 108, 117, 101, 115] t)) = some (addTable q t)) →
    foldP f ((ts.map (spacedStr [118, 97, 108, 117, 101, 115])).map bs) p = some { p with tables := p.tables ++ ts }
  | [], p, _ => by simp [foldP]
  | t :: ts, p, h => by
    rw [List.map_cons, List.map_cons, foldP_cons f _ _ (h t (by simp) p), fold_tables ts (addTable p t) fun u hu => h u (by simp [hu])]
    simp [addTable]
theorem fold_nodes {f : PatchD → ByteArray → Option PatchD} : ∀ (ns : List NodeD) (p : PatchD), (∀ n ∈ ns, ∀ q, f q (bs (nodeStr n)) = some (addNode q n)) →
    foldP f ((ns.map nodeStr).map bs) p = some { p with nodes := p.nodes ++ ns }
  | [], p, _ => by simp [foldP]
  | t :: ts, p, h => by
    rw [List.map_cons, List.map_cons, foldP_cons f _ _ (h t (by simp) p), fold_nodes ts (addNode p t) fun u hu => h u (by simp [hu])]
    simp [addNode]
theorem fold_lines {f : PatchD → ByteArray → Option PatchD} (x : PatchD) (h1 : ∀ q, f q (bs (spacedStr [112, 97, 116, 99, 104] [x.inputs])) = some (setIn q x.inputs))
    (h2 : ∀ t ∈ x.tables, ∀ q, f q (bs (spacedStr [118, 97, 108, 117, 101, 115] t)) = some (addTable q t)) (h3 : ∀ n ∈ x.nodes, ∀ q, f q (bs (nodeStr n)) = some (addNode q n))
    (h4 : ∀ q, f q (bs (spacedStr [111, 117, 116] x.outputs)) = some (setOut q x.outputs)) : foldP f ((linesP x).map bs) zP = some x := by
  unfold linesP
  rw [patch_line, List.map_cons, foldP_cons f _ _ (h1 zP), List.map_append, List.map_append]
  have e1 := fold_tables (f := f) x.tables (setIn zP x.inputs) h2
  rw [List.append_assoc, foldP_append f _ _ e1, foldP_append f _ _ (fold_nodes (f := f) x.nodes _ h3)]
  rw [List.map_cons, List.map_nil, foldP_cons f _ _ (h4 _)]
  rfl
theorem smp_small {x : Int} (h : isSmp x = true) : small18 x := by
  have := inB_iff.1 (show inB x (-2147483648) 2147483647 = true from h)
  unfold small18; omega
theorem ok_small {x : PatchD} (h : okB x = true) : small18 x.inputs ∧ (∀ t ∈ x.tables, ∀ y ∈ t, small18 y) ∧ (∀ t ∈ x.tables, t.length ≤ 16) ∧ (∀ y ∈ x.outputs, small18 y) ∧ x.outputs.length ≤ 4 ∧ (∀ n ∈ x.nodes, nodeB n 4 = true) := by
  obtain ⟨h1, h2, h3, h4, h5, h6, h7⟩ := okB_parts h
  have hf : formedB x = true := by
    unfold okB at h
    simp only [Bool.and_eq_true] at h
    exact h.1
  obtain ⟨f1, f2, f3, f4, f5, f6⟩ := formed_iff.1 hf
  unfold tablesB at f2
  simp only [Bool.and_eq_true, decide_eq_true_eq] at f2
  have ht : ∀ t ∈ x.tables, (t.length = 2 ∨ t.length = 4 ∨ t.length = 8 ∨ t.length = 16) ∧ t.all isSmp = true := fun t ht => by
    have := List.all_eq_true.1 f2.1 t ht
    unfold tblB at this
    simp only [Bool.and_eq_true, Bool.or_eq_true, beq_iff_eq, decide_eq_true_eq] at this
    exact ⟨by omega, this.2⟩
  refine ⟨by unfold small18; omega, fun t hh y hy => smp_small (List.all_eq_true.1 (ht t hh).2 y hy), fun t hh => by have := (ht t hh).1; omega, fun y hy => ?_, h7, fun n hn => nodeB_four (h5 n hn) (by omega)⟩
  have := f6 y hy
  unfold small18; omega
theorem foldI_text {x : PatchD} (h : okB x = true) : foldP stepI ((linesP x).map bs) zP = some x := by
  obtain ⟨s1, s2, s3, s4, s5, s6⟩ := ok_small h
  refine fold_lines x (fun q => ?_) (fun t ht q => ?_) (fun n hn q => stepI_node (s6 n hn) q) (fun q => ?_)
  · rw [stepI_num (by decide) (by decide) (by intro y hy; rw [List.mem_singleton.1 hy]; exact s1) q (fun h => h.1 rfl), if_pos wPatch_bs]
    rfl
  · rw [stepI_num (by decide) (by decide) (s2 t ht) q (fun h => h.2.1 rfl), if_neg (by decide), if_pos wValues_bs]
  · rw [stepI_num (by decide) (by decide) s4 q (fun h => h.2.2 rfl), if_neg (by decide), if_neg (by decide)]
theorem foldR_text {x : PatchD} (h : okB x = true) : foldP stepR ((linesP x).map bs) zP = some x := by
  obtain ⟨s1, s2, s3, s4, s5, s6⟩ := ok_small h
  refine fold_lines x (fun q => ?_) (fun t ht q => ?_) (fun n hn q => stepR_node (s6 n hn) q) (fun q => ?_)
  · rw [stepR_num (by decide) (by decide) (by intro y hy; rw [List.mem_singleton.1 hy]; exact s1) (by simp) q, if_pos ⟨rfl, rfl⟩]
    rfl
  · rw [stepR_num (by decide) (by decide) (s2 t ht) (by have := s3 t ht; omega) q, if_neg (fun h => absurd h.1 (by decide)), if_pos wValues_bs]
  · rw [stepR_num (by decide) (by decide) s4 (by omega) q, if_neg (fun h => absurd h.1 (by decide)), if_neg (by decide), if_pos wOut_bs]
theorem readPI_iff (s : ByteArray) (x : PatchD) : readPI s = some x ↔ okB x = true ∧ bs (patchStr x) = s := by
  unfold readPI
  rw [checkP_iff]
  constructor
  · exact fun h => h.2
  · rintro ⟨h, rfl⟩
    exact ⟨by rw [lines_trim h]; exact foldI_text h, h, rfl⟩
theorem readPS_iff (s : ByteArray) (x : PatchD) : readPS s = some x ↔ okB x = true ∧ bs (patchStr x) = s := by
  unfold readPS
  constructor
  · intro h
    split at h
    · cases h
    · exact (checkP_iff.1 h).2
  · rintro ⟨h, rfl⟩
    have hl := lines_n h
    rw [lines_all h, List.length_map, List.length_append, List.length_singleton, if_neg (by omega), checkP_iff]
    refine ⟨?_, h, rfl⟩
    rw [Nat.add_sub_cancel, List.map_append]
    rw [List.take_left' (by simp)]
    exact foldR_text h
theorem readP_eq (s : ByteArray) : readPS s = readPI s := by
  apply Option.ext
  intro x
  rw [readPS_iff, readPI_iff]
end Go.Proofs.YtdcacmmglkcliaaGreatDoor
