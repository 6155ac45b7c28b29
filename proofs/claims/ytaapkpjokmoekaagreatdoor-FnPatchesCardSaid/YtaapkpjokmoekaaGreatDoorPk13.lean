/-
  Several texts in one: TxtG, TxtP, TxtQ, TxtR, RpM, TxtF.
-/
import Derived.Test.YtaapkpjokmoekaaGreatDoorPk12
import Derived.Test.YtaapkpjokmoekaaGreatDoorPk5
namespace Go.Proofs.YtaapkpjokmoekaaGreatDoor
open Go.ChangeShapes Go.WideShapes Go.ChangeAt Go.RowKit Go.Sort
set_option linter.unusedVariables false
set_option linter.unusedSimpArgs false

/-- one word of a node, behind its kind -/
def stepS (i : Nat) (x : ByteArray) (o : Bool) (a b : Int) (f : List Int) : Option (Bool × Int × Int × List Int) :=
  if x = ofB then some (true, a, b, f) else
  match readDec x.data.toList with
  | none => none
  | some n => some (if o = true then (o, a, b, f ++ [n]) else if i = 1 then (o, n, b, f) else if i = 2 then (o, a, n, f) else (o, a, b, f))
def foldS : Nat → List ByteArray → Bool → Int → Int → List Int → Option (Bool × Int × Int × List Int)
  | _, [], o, a, b, f => some (o, a, b, f)
  | i, x :: ws, o, a, b, f => if i < 7 then (match stepS i x o a b f with
    | none => none
    | some (o, a, b, f) => foldS (i + 1) ws o a b f) else some (o, a, b, f)
def specN (s : ByteArray) : Option NodeD :=
  match foldS 1 (partsB s).tail false 0 0 [] with
  | none => none
  | some (_, a, b, f) => if nodeB ⟨kindNamed ((partsB s).headD ⟨#[]⟩), a, b, f⟩ 4 = true ∧ bs (nodeStr ⟨kindNamed ((partsB s).headD ⟨#[]⟩), a, b, f⟩) = s then some ⟨kindNamed ((partsB s).headD ⟨#[]⟩), a, b, f⟩ else none
theorem foldS_of (i : Nat) (x : ByteArray) (ws : List ByteArray) (o : Bool) (a b : Int) (f : List Int) (hi : i < 7) (hx : x = ofB) : foldS i (x :: ws) o a b f = foldS (i + 1) ws true a b f := by
  rw [foldS, if_pos hi, stepS, if_pos hx]
theorem foldS_none (i : Nat) (x : ByteArray) (ws : List ByteArray) (o : Bool) (a b : Int) (f : List Int) (hi : i < 7) (hx : x ≠ ofB) (hr : readDec x.data.toList = none) : foldS i (x :: ws) o a b f = none := by
  rw [foldS, if_pos hi, stepS, if_neg hx, hr]
theorem foldS_some (i : Nat) (x : ByteArray) (ws : List ByteArray) (o : Bool) (a b : Int) (f : List Int) {n : Int} (hi : i < 7) (hx : x ≠ ofB) (hr : readDec x.data.toList = some n) :
    foldS i (x :: ws) o a b f = if o = true then foldS (i + 1) ws o a b (f ++ [n]) else if i = 1 then foldS (i + 1) ws o n b f else if i = 2 then foldS (i + 1) ws o a n f else foldS (i + 1) ws o a b f := by
  rw [foldS, if_pos hi, stepS, if_neg hx, hr]
  by_cases h1 : o = true
  · simp only [if_pos h1]
  · by_cases h2 : i = 1
    · simp only [if_neg h1, if_pos h2]
    · by_cases h3 : i = 2
      · simp only [if_neg h1, if_neg h2, if_pos h3]
      · simp only [if_neg h1, if_neg h2, if_neg h3]
theorem foldS_end (i : Nat) (ws : List ByteArray) (o : Bool) (a b : Int) (f : List Int) (h : ws = [] ∨ ¬ i < 7) : foldS i ws o a b f = some (o, a, b, f) := by
  cases ws with
  | nil => rfl
  | cons x ws =>
    rw [foldS, if_neg (h.resolve_left (by simp))]
theorem itoa_list (n : Int) : (bs (Lib.itoa n)).data.toList = Lib.itoa n := bs_list _
theorem foldS_src : ∀ (fs : List Int) (i : Nat) (a b : Int) (f : List Int), i + fs.length ≤ 7 → (∀ x ∈ fs, small18 x) → foldS i (fs.map fun x => bs (Lib.itoa x)) true a b f = some (true, a, b, f ++ fs)
  | [], i, a, b, f, _, _ => by simp [foldS]
  | x :: fs, i, a, b, f, hi, hs => by
    simp only [List.length_cons] at hi
    rw [List.map_cons, foldS_some i _ _ _ a b f (n := x) (by omega) (itoa_of x) (by rw [itoa_list]; exact readDec_itoa (hs x (by simp))), if_pos rfl, foldS_src fs (i + 1) a b _ (by omega) fun y hy => hs y (by simp [hy])]
    simp
theorem foldS_num (i : Nat) (x : Int) (ws : List ByteArray) (a b : Int) (hi : i < 7) (hx : small18 x) :
    foldS i (bs (Lib.itoa x) :: ws) false a b [] = if i = 1 then foldS (i + 1) ws false x b [] else if i = 2 then foldS (i + 1) ws false a x [] else foldS (i + 1) ws false a b [] := by
  rw [foldS_some i _ _ _ a b [] (n := x) hi (itoa_of x) (by rw [itoa_list]; exact readDec_itoa hx), if_neg (by decide)]
theorem parts_join {ws : List (List UInt8)} (h0 : ws ≠ []) (h : ∀ w ∈ ws, (32 : UInt8) ∉ w ∧ w ≠ []) : partsB (bs (Lib.join ws [32])) = wordsB (bs (Lib.join ws [32])) := by
  rw [words_join h0 h]
  match ws, h0 with
  | w :: ws, _ =>
    have hk := splitK_join ws w (h w (by simp)).1 fun v hv => (h v (by simp [hv])).1
    rw [partsB_cut, bs_list, ← splitK_cut _ _ (Nat.le_refl _), hk]
theorem node_facts {i : Nat} (hi : i < 17) {a b : Int} {src : List Int} (hx : nodeB ⟨(i : Int) + 1, a, b, src⟩ 4 = true) :
    (small18 a ∧ small18 b ∧ ∀ f ∈ src, small18 f) ∧ (¬ kLo i ≤ kHi i → a = 0) ∧ (kBb i = false → b = 0) := by
  unfold nodeB at hx
  simp only [Bool.and_eq_true] at hx
  obtain ⟨⟨⟨⟨-, hab⟩, hs⟩, -⟩, -⟩ := hx
  have e : ((i : Int) + 1 - 1).toNat = i := by omega
  rw [e] at hab
  unfold abB at hab
  simp only [Bool.and_eq_true] at hab
  refine ⟨⟨?_, ?_, fun f hf => ?_⟩, fun h => ?_, fun h => ?_⟩
  · have h1 := hab.1
    split at h1
    · have h2 := inB_iff.1 h1
      have h3 : -2147483648 ≤ kLo i ∧ kHi i ≤ 2147483647 := by
        rcases seventeen hi with rfl | rfl | rfl | rfl | rfl | rfl | rfl | rfl | rfl | rfl | rfl | rfl | rfl | rfl | rfl | rfl | rfl <;> decide
      unfold small18; omega
    · have : a = 0 := by simpa using h1
      unfold small18; omega
  · have h1 := hab.2
    split at h1
    · have h2 := inB_iff.1 h1
      unfold small18; omega
    · have : b = 0 := by simpa using h1
      unfold small18; omega
  · have := inB_iff.1 (List.all_eq_true.1 hs f hf)
    unfold small18; omega
  · have := hab.1; rw [if_neg h] at this; simpa using this
  · have := hab.2; rw [h] at this; simpa using this
theorem specN_of {x : NodeD} (hx : nodeB x 4 = true) : specN (bs (nodeStr x)) = some x := by
  obtain ⟨b1, b2, b3, b4⟩ := nodeB_bounds hx
  obtain ⟨i, hi, he⟩ := nodeB_kind hx
  obtain ⟨k, a, b, src⟩ := x
  simp only at he b1 b2 b3 b4
  subst he
  obtain ⟨⟨sa, sb, sf⟩, ha0, hb0⟩ := node_facts hi hx
  have hAB : kBb i = true → kLo i ≤ kHi i := by
    rcases seventeen hi with rfl | rfl | rfl | rfl | rfl | rfl | rfl | rfl | rfl | rfl | rfl | rfl | rfl | rfl | rfl | rfl | rfl <;> decide
  have es : nodeStr ⟨(i : Int) + 1, a, b, src⟩ = Lib.join (wordsN i a b src) [32] := by
    have e : ((i : Int) + 1 - 1).toNat = i := by omega
    unfold nodeStr
    simp only [e]
  have hw := words_node hi a b src
  have hp : partsB (bs (Lib.join (wordsN i a b src) [32])) = bs (nmL i) :: ((numsN i a b).map (fun x => bs (Lib.itoa x)) ++ (if src = [] then [] else ofB :: src.map fun x => bs (Lib.itoa x))) := by
    rw [← hw]
    by_cases hs : src = []
    · have e : wordsN i a b src = nmL i :: (numsN i a b).map Lib.itoa := by
        unfold wordsN numsN
        rw [if_pos hs]
        by_cases h1 : kLo i ≤ kHi i <;> by_cases h2 : kBb i = true <;> simp [h1, h2]
      rw [e]
      exact parts_join (by simp) (fun w hw => by
        rcases List.mem_cons.1 hw with rfl | hw
        · exact nmL_ok hi
        · obtain ⟨n, -, rfl⟩ := List.mem_map.1 hw
          exact itoa_ok n)
    · have e : wordsN i a b src = (nmL i :: ((numsN i a b).map Lib.itoa ++ [[111, 102]])) ++ [numStr src] := by
        unfold wordsN numsN
        rw [if_neg hs]
        by_cases h1 : kLo i ≤ kHi i <;> by_cases h2 : kBb i = true <;> simp [h1, h2]
      rw [e]
      unfold numStr
      rw [join_flat _ _ (by simpa using hs)]
      exact parts_join (by simp) (fun w hw => by
        simp only [List.cons_append, List.mem_cons, List.mem_append, List.mem_map, List.mem_singleton, List.not_mem_nil, or_false] at hw
        rcases hw with rfl | (⟨n, -, rfl⟩ | rfl) | ⟨n, -, rfl⟩
        · exact nmL_ok hi
        · exact itoa_ok n
        · decide
        · exact itoa_ok n)
  have hfold : ∃ o, foldS 1 ((numsN i a b).map (fun x => bs (Lib.itoa x)) ++ (if src = [] then [] else ofB :: src.map fun x => bs (Lib.itoa x))) false 0 0 [] = some (o, a, b, src) := by
    have fin : ∀ j, j + 1 + src.length ≤ 7 → ∃ o, foldS j (if src = [] then [] else ofB :: src.map fun x => bs (Lib.itoa x)) false a b [] = some (o, a, b, src) := by
      intro j hj
      by_cases hs : src = []
      · rw [if_pos hs, hs]; exact ⟨false, rfl⟩
      · rw [if_neg hs, foldS_of j _ _ _ _ _ _ (by omega) rfl, foldS_src _ _ _ _ _ (by omega) sf]
        exact ⟨true, by simp⟩
    unfold numsN
    by_cases h1 : kLo i ≤ kHi i
    · by_cases h2 : kBb i = true
      · rw [if_pos h1, if_pos h2]
        simp only [List.cons_append, List.nil_append, List.map_cons, List.map_nil]
        rw [foldS_num 1 a _ 0 0 (by omega) sa, if_pos rfl, foldS_num 2 b _ a 0 (by omega) sb, if_neg (by decide), if_pos rfl]
        exact fin 3 (by omega)
      · have eb := hb0 (by simpa using h2)
        rw [if_pos h1, if_neg h2]
        simp only [List.cons_append, List.nil_append, List.map_cons, List.map_nil, List.append_nil]
        rw [foldS_num 1 a _ 0 0 (by omega) sa, if_pos rfl]
        have := fin 2 (by omega)
        rwa [eb] at this ⊢
    · have ea := ha0 h1
      have h2 : ¬ kBb i = true := fun h => h1 (hAB h)
      have eb := hb0 (by simpa using h2)
      rw [if_neg h1, if_neg h2]
      simp only [List.nil_append, List.map_nil]
      have := fin 1 (by omega)
      rwa [eb, ea] at this ⊢
  obtain ⟨o, hf⟩ := hfold
  have hk : kindNamed (bs (nmL i)) = (i : Int) + 1 := by rw [← kNm_bs, kindNamed_self hi]
  unfold specN
  rw [es, hp]
  simp only [List.tail_cons, List.headD_cons, hf, hk]
  rw [if_pos ⟨hx, by rw [es]⟩]
theorem specN_iff (s : ByteArray) (x : NodeD) : specN s = some x ↔ nodeB x 4 = true ∧ bs (nodeStr x) = s := by
  constructor
  · intro h
    unfold specN at h
    split at h
    · cases h
    · split at h
      · rename_i hc
        obtain rfl := Option.some.inj h
        exact hc
      · cases h
  · rintro ⟨hx, rfl⟩
    exact specN_of hx
theorem specN_eq (s : ByteArray) : specN s = readN s := by
  apply Option.ext
  intro x
  rw [specN_iff, readN_iff]
theorem cutAt_len : ∀ (l cur x : List UInt8), x ∈ cutAt cur l → x.length ≤ cur.length + l.length
  | [], cur, x, h => by simp [cutAt] at h; subst h; simp
  | c :: l, cur, x, h => by
    unfold cutAt at h
    split at h
    · rcases List.mem_cons.1 h with rfl | h
      · simp
      · have := cutAt_len l [] x h
        simp at this ⊢; omega
    · have := cutAt_len l _ x h
      simp at this ⊢; omega
theorem partsB_size {s x : ByteArray} (h : x ∈ partsB s) : x.size ≤ s.size := by
  rw [partsB_cut] at h
  obtain ⟨l, hl, rfl⟩ := List.mem_map.1 h
  have h1 := cutAt_len _ _ _ hl
  rw [bs_size]
  have : s.data.toList.length = s.size := Array.length_toList
  simp at h1
  omega
theorem partsB_ne (s : ByteArray) : 1 ≤ (partsB s).length := by rw [partsB_length]; omega
end Go.Proofs.YtaapkpjokmoekaaGreatDoor

namespace Go.Proofs.YtaapkpjokmoekaaGreatDoor
open Go.ChangeShapes Go.WideShapes Go.ChangeAt Go.RowKit Go.Sort
set_option linter.unusedVariables false
set_option linter.unusedSimpArgs false

/-- a word with numbers behind it -/
def spacedStr (s : List UInt8) (xs : List Int) : List UInt8 := s ++ (if xs = [] then [] else 32 :: numStr xs)
theorem spaced_len {s : List UInt8} {xs : List Int} (h : AllI xs) : (spacedStr s xs).length ≤ s.length + 1 + 22 * xs.length := by
  have := numStr_length h
  unfold spacedStr
  split <;> simp only [List.length_append, List.length_cons, List.length_nil] <;> omega
/-- the lines of a patch's text -/
def linesP (x : PatchD) : List (List UInt8) := ([112, 97, 116, 99, 104, 32] ++ Lib.itoa x.inputs) :: (x.tables.map (spacedStr [118, 97, 108, 117, 101, 115]) ++ x.nodes.map nodeStr ++ [spacedStr [111, 117, 116] x.outputs])
def patchStr (x : PatchD) : List UInt8 := Lib.join (linesP x) [10] ++ [10]
theorem patchStr_cat : ∀ (ls : List (List UInt8)) (l : List UInt8), Lib.join (l :: ls) [10] ++ [10] = ((l :: ls).map (· ++ [10])).flatten
  | [], l => by simp [Lib.join_one]
  | m :: ls, l => by
    have ih := patchStr_cat ls m
    rw [Lib.join_cons] at ih
    rw [Lib.join_cons, List.map_cons, List.flatten_cons, ← ih]
    simp [Lib.joinTail]
theorem join_le (m : Nat) : ∀ ss : List (List UInt8), (∀ l ∈ ss, l.length ≤ m) → (Lib.join ss [10]).length ≤ ss.length * (m + 1)
  | [], _ => by simp [Lib.join_nil]
  | l :: ss, h => by
    rw [Lib.join_length]
    have : ∀ ts : List (List UInt8), (∀ l ∈ ts, l.length ≤ m) → Lib.lens ts ≤ ts.length * m := by
      intro ts
      induction ts with
      | nil => intro _; simp [Lib.lens]
      | cons t ts ih =>
        intro ht
        have h1 := ht t (by simp)
        have h2 := ih fun l hl => ht l (by simp [hl])
        simp only [Lib.lens, List.map_cons, List.sum_cons, List.length_cons, Nat.add_mul, Nat.one_mul] at h2 ⊢
        omega
    have h3 := this _ h
    simp only [List.length_cons, List.length_nil, Nat.add_mul, Nat.mul_add, Nat.one_mul, Nat.mul_one] at h3 ⊢
    omega
theorem okB_parts {x : PatchD} (h : okB x = true) : (0 ≤ x.inputs ∧ x.inputs ≤ 4) ∧ x.tables.length ≤ 4 ∧ (∀ t ∈ x.tables, AllI t ∧ t.length ≤ 256) ∧ x.nodes.length ≤ 24 ∧ (∀ n ∈ x.nodes, nodeB n x.tables.length = true) ∧ AllI x.outputs ∧ x.outputs.length ≤ 4 := by
  have hf : formedB x = true := by
    unfold okB at h
    simp only [Bool.and_eq_true] at h
    exact h.1
  obtain ⟨h1, h2, h3, h4, h5, h6⟩ := formed_iff.1 hf
  unfold tablesB at h2
  simp only [Bool.and_eq_true, decide_eq_true_eq] at h2
  refine ⟨h1, h2.2, ?_, h3, ?_, ?_, h4⟩
  · intro t ht
    have := List.all_eq_true.1 h2.1 t ht
    unfold tblB at this
    simp only [Bool.and_eq_true, Bool.or_eq_true, beq_iff_eq, decide_eq_true_eq] at this
    obtain ⟨hl, ha⟩ := this
    refine ⟨fun y hy => ?_, by omega⟩
    have := inB_iff.1 (show inB y (-2147483648) 2147483647 = true from List.all_eq_true.1 ha y hy)
    unfold I64; omega
  · intro n hn
    have := h5 n hn
    unfold ndB at this
    simp only [Bool.and_eq_true] at this
    exact this.1.1
  · intro y hy
    have := h6 y hy
    unfold I64; omega
theorem nodeStr_le {x : NodeD} {t : Int} (h : nodeB x t = true) : (nodeStr x).length ≤ 200 := by
  obtain ⟨h1, h2, h3, h4⟩ := nodeB_bounds h
  obtain ⟨i, hi, he⟩ := nodeB_kind h
  have e : (x.kind - 1).toNat = i := by omega
  unfold nodeStr
  rw [e]
  exact nodeStr_len hi h1 h2 h3 h4
theorem lines_le {x : PatchD} (h : okB x = true) : ∀ l ∈ linesP x, l.length ≤ 6000 := by
  obtain ⟨h1, h2, h3, h4, h5, h6, h7⟩ := okB_parts h
  intro l hl
  unfold linesP at hl
  simp only [List.mem_cons, List.mem_append, List.mem_map, List.mem_singleton, List.not_mem_nil, or_false] at hl
  rcases hl with rfl | (⟨t, ht, rfl⟩ | ⟨n, hn, rfl⟩) | rfl
  · have := Lib.itoa_length_le x.inputs (by omega) (by omega)
    simp only [List.length_append, List.length_cons, List.length_nil]
    omega
  · have := spaced_len (s := [118, 97, 108, 117, 101, 115]) (h3 t ht).1
    have := (h3 t ht).2
    simp only [List.length_cons, List.length_nil] at *
    omega
  · have := nodeStr_le (h5 n hn)
    omega
  · have := spaced_len (s := [111, 117, 116]) h6
    simp only [List.length_cons, List.length_nil] at *
    omega
theorem lines_n {x : PatchD} (h : okB x = true) : (linesP x).length ≤ 30 := by
  obtain ⟨h1, h2, h3, h4, h5, h6, h7⟩ := okB_parts h
  unfold linesP
  simp
  omega
set_option maxHeartbeats 1000000 in
theorem spaced_any {p : Option Addr} {c : Nat} {xs : List Int} (s : List UInt8) (w : World) (h : RdI w p xs) (hI : AllI xs) (hn : xs.length ≤ 1048576) (hs : s.length ≤ 100) (hT : TxtT w) :
    Calls Tryz.prog 58 #[.string (bs s), .slice p xs.length c] w fun e w' => e = .returned (.string (bs (spacedStr s xs))) ∧ Below w.heap.size w w' := by
  by_cases h0 : xs = []
  · subst h0
    have HR : Hid (spacedStr s [] = s) := by simp [Hid, spacedStr]
    clear hs
    go_enter Tryz.func58, Tryz.ntmps58
    go_wp2_with fail
    go_ret
    exact ⟨by rw [HR.out]; rfl, Below.refl _ _⟩
  · have NT := Lib.hid (numbersText_any (c := c) w h hI hn hT)
    have HR : Hid (bs (spacedStr s xs) = bs s ++ ⟨#[32]⟩ ++ bs (numStr xs)) := by
      unfold Hid spacedStr
      rw [if_neg h0, show (ByteArray.mk #[32]) = bs [32] from rfl, bs_app, bs_app, List.append_assoc]
      rfl
    have hl : ¬ (xs.length : Int) = 0 := by have := List.length_pos_iff.2 h0; omega
    have z1 : (bs s).size ≤ 100 := by rw [bs_size]; exact hs
    have z2 : (bs (numStr xs)).size ≤ 23068672 := by have := numStr_length hI; rw [bs_size]; omega
    have z3 : (bs s ++ ByteArray.mk #[32]).size ≤ 101 := by
      have e1 : (ByteArray.mk #[32]).size = 1 := rfl
      rw [ByteArray.size_append, e1]; omega
    clear h h0 hI hT hs hn
    go_enter Tryz.func58, Tryz.ntmps58
    go_wp2_with (first | (go_at_call 90; refine NT.out.mono ?_; rintro e w1 ⟨rfl, hb⟩) | fail)
    go_ret
    exact ⟨by rw [HR.out]; rfl, hb⟩
end Go.Proofs.YtaapkpjokmoekaaGreatDoor

namespace Go.Proofs.YtaapkpjokmoekaaGreatDoor
open Go.ChangeShapes Go.WideShapes Go.ChangeAt Go.RowKit Go.Sort
set_option linter.unusedVariables false
set_option linter.unusedSimpArgs false

set_option maxHeartbeats 8000000 in
set_option maxRecDepth 100000 in
theorem patchText_v {v : Value} {x : PatchD} (w : World) (h : VPatch w v x) (hx : okB x = true) (hT : TxtT w) :
    Calls Tryz.prog 25 #[v] w fun e w' => e = .returned (.string (bs (patchStr x))) ∧ Below w.heap.size w w' := by
  obtain ⟨q1, q2, q3, q4, q5, q6, q7⟩ := okB_parts hx
  have hjl : (Lib.join (linesP x) [10]).length ≤ 200000 := by
    have h1 := join_le 6000 _ (lines_le hx)
    have h2 := lines_n hx
    have : (linesP x).length * (6000 + 1) ≤ 30 * 6001 := Nat.mul_le_mul h2 (Nat.le_refl _)
    omega
  have hn30 := lines_n hx
  obtain ⟨p1, c1, p2, c2, p3, c3, rfl, r1, r2, r3⟩ := h
  obtain ⟨E0, hE0⟩ : ∃ E, E = w.alloc (.cells #[.int .i64 x.inputs, .slice p1 x.tables.length c1, .slice p2 x.nodes.length c2, .slice p3 x.outputs.length c3] 28) := ⟨_, rfl⟩
  have hB0 : Below w.heap.size w E0 := by rw [hE0]; exact (Below.refl _ _).alloc (Nat.le_refl _) _
  have ba : Box E0 w.heap.size [.int .i64 x.inputs, .slice p1 x.tables.length c1, .slice p2 x.nodes.length c2, .slice p3 x.outputs.length c3] 28 := by rw [hE0]; exact Box.newAt w [.int .i64 x.inputs, .slice p1 x.tables.length c1, .slice p2 x.nodes.length c2, .slice p3 x.outputs.length c3] _ rfl
  have HE0 := Lib.hid hE0
  have HB0 := Lib.hid hB0
  have HS0 : Hid (w.heap.size ≤ E0.heap.size) := hB0.size
  have HT := Lib.hid (hT.below hB0)
  have H1 := Lib.hid (r1.below hB0)
  have H2 := Lib.hid (r2.below hB0)
  have H3 := Lib.hid (r3.below hB0)
  have HBA := Lib.hid ba
  have D0 : Hid (Calls Tryz.prog 57 #[.int .i64 x.inputs] E0 fun e w' => e = .returned (.string (bs (Lib.itoa x.inputs))) ∧ Below E0.heap.size E0 w') := decimal_any _ (by omega) (by omega) E0 HT.out
  have HI : (bs (Lib.itoa x.inputs)).size ≤ 21 := by rw [bs_size]; exact Lib.itoa_length_le _ (by omega) (by omega)
  have HH : Hid (ByteArray.mk #[112, 97, 116, 99, 104, 32] ++ bs (Lib.itoa x.inputs) = bs ([112, 97, 116, 99, 104, 32] ++ Lib.itoa x.inputs)) := bs_app [112, 97, 116, 99, 104, 32] (Lib.itoa x.inputs)
  have SV : Hid (∀ W k, Below E0.heap.size E0 W → (hk : k < x.tables.length) → ∀ q c, RdI W q x.tables[k] → Calls Tryz.prog 58 #[.string ⟨#[118, 97, 108, 117, 101, 115]⟩, .slice q x.tables[k].length c] W fun e w' => e = .returned (.string (bs (spacedStr [118, 97, 108, 117, 101, 115] x.tables[k]))) ∧ Below W.heap.size W w') := fun W k hW hk q c hr => by
    have ht := q3 _ (List.getElem_mem hk)
    exact spaced_any (c := c) [118, 97, 108, 117, 101, 115] W hr ht.1 (by omega) (by simp) (HT.out.below hW)
  have SO : Hid (∀ W, Below E0.heap.size E0 W → Calls Tryz.prog 58 #[.string ⟨#[111, 117, 116]⟩, .slice p3 x.outputs.length c3] W fun e w' => e = .returned (.string (bs (spacedStr [111, 117, 116] x.outputs))) ∧ Below W.heap.size W w') := fun W hW =>
    spaced_any (c := c3) [111, 117, 116] W (H3.out.below hW) q6 (by omega) (by simp) (HT.out.below hW)
  have NT : Hid (∀ W k, Below E0.heap.size E0 W → (hk : k < x.nodes.length) → ∀ v, VNode W v x.nodes[k] → Calls Tryz.prog 59 #[v] W fun e w' => e = .returned (.string (bs (nodeStr x.nodes[k]))) ∧ Below W.heap.size W w') := fun W k hW hk v hv => nodeText_v W hv (q5 _ (List.getElem_mem hk)) (HT.out.below hW)
  have JN : Hid (∀ W B v ss, ss = linesP x → OwnV B W 9 v (ss.map fun l => Value.string (bs l)) → Calls Tryz.prog 60 #[v, .string ⟨#[10]⟩] W fun e w' => e = .returned (.string (bs (Lib.join (linesP x) [10]))) ∧ Below W.heap.size W w') := fun W B v ss e h => by
    subst e
    exact join_any [10] W h (by omega) (by omega)
  have HJ : (bs (Lib.join (linesP x) [10])).size ≤ 200000 := by rw [bs_size]; exact hjl
  have HF : Hid (bs (patchStr x) = bs (Lib.join (linesP x) [10]) ++ ⟨#[10]⟩) := by
    unfold Hid patchStr
    rw [show (ByteArray.mk #[10]) = bs [10] from rfl, bs_app]
  have LE : Hid (∀ s, s = linesP x ↔ s = ([112, 97, 116, 99, 104, 32] ++ Lib.itoa x.inputs) :: (x.tables.map (spacedStr [118, 97, 108, 117, 101, 115]) ++ x.nodes.map nodeStr ++ [spacedStr [111, 117, 116] x.outputs])) := fun s => Iff.rfl
  have hz1 := ba.cell 0 rfl
  have hz2 := ba.cell 1 rfl
  have hz3 := ba.cell 2 rfl
  have hz4 := ba.cell 3 rfl
  have N1 : x.tables.length ≤ 4 := q2
  have N2 : x.nodes.length ≤ 24 := q4
  have e6 : (ByteArray.mk #[112, 97, 116, 99, 104, 32]).size = 6 := rfl
  clear hE0 hB0 hT r1 r2 r3 ba q1 q2 q3 q4 q5 q6 q7 hx hjl hn30
  obtain ⟨hd, hhd⟩ : ∃ l, l = [112, 97, 116, 99, 104, 32] ++ Lib.itoa x.inputs := ⟨_, rfl⟩
  rw [← hhd] at HH LE
  generalize bs (Lib.itoa x.inputs) = NI at *
  clear hhd
  obtain ⟨LS, hLS⟩ : ∃ s, s = linesP x := ⟨_, rfl⟩
  obtain ⟨J, hJ⟩ : ∃ s, s = bs (Lib.join (linesP x) [10]) := ⟨_, rfl⟩
  rw [← hJ] at JN HJ HF
  rw [← hLS] at JN LE
  clear hJ hLS
  go_enter Tryz.func25, Tryz.ntmps25
  go_upto_region 1 with fail
  rw [← HE0.out]
  go_upto_region 2 with (first
    | (go_at_call 57; refine D0.out.mono ?_; rintro e E1 ⟨rfl, hb⟩)
    | fail)
  rw [HH.out]
  have hs1 : E0.heap.size ≤ E1.heap.size := hb.size
  have ho : OwnV E0.heap.size (E1.alloc (.cells #[.string (bs hd)] 9)) 9 (.slice (some ⟨E1.heap.size, 0, none⟩) 1 1) ([hd].map fun l => Value.string (bs l)) := OwnW.lit E1 [hd] hs1 (by simp [maxLen])
  have hb := hb.alloc hs1 (.cells #[.string (bs hd)] 9)
  generalize E1.alloc (.cells #[.string (bs hd)] 9) = E2 at *
  have hz1 := (HBA.out.below hb).cell 1 rfl
  have hz2 := (HBA.out.below hb).cell 2 rfl
  have hz3 := (HBA.out.below hb).cell 3 rfl
  have hgl := (HBA.out.below hb).lt
  have HO := Lib.hid ho
  clear ho D0 HH HI e6
  go_wp2_with fail
  go_loopw [3, 16] (fun v i wr => ∃ (k : Nat) (u : Value), k ≤ x.tables.length ∧ v = u ∧ i = .int .i64 (k : Int) ∧ Hid (OwnV E0.heap.size wr 9 u (([hd] ++ (x.tables.take k).map (spacedStr [118, 97, 108, 117, 101, 115])).map fun l => Value.string (bs l))) ∧ Below E0.heap.size E0 wr) (fun _ i _ => ((x.tables.length : Int) - intOf i).toNat)
  case atStart => exact ⟨0, _, Nat.zero_le _, rfl, rfl, by simpa using HO, hb⟩
  case round =>
    obtain ⟨k, v, hk, hv, rfl, HK, hbel⟩ := hrel
    obtain rfl := hv.symm
    clear HO hz1 hz2 hz3 hz4 hgl hb
    have hsz := hbel.size
    by_cases hkt : k < x.tables.length
    · have hr : RdII wr p1 x.tables := H1.out.below hbel
      obtain ⟨b, o, rfl, hb, hc⟩ := hr.pos hkt
      obtain ⟨q, c, hck, hrq⟩ := hc k hkt
      have SK := Lib.hid (SV.out wr k hbel hkt q c hrq)
      have HM : Hid (([hd] ++ (x.tables.take (k + 1)).map (spacedStr [118, 97, 108, 117, 101, 115])) = ([hd] ++ (x.tables.take k).map (spacedStr [118, 97, 108, 117, 101, 115])) ++ [spacedStr [118, 97, 108, 117, 101, 115] x.tables[k]]) := by
        unfold Hid
        rw [List.take_succ_eq_append_getElem hkt, List.map_append, List.append_assoc]
        rfl
      have HLl : Hid ((([hd] ++ (x.tables.take k).map (spacedStr [118, 97, 108, 117, 101, 115])).map fun l => Value.string (bs l)).length < 1099511627776) := by unfold Hid; simp; omega
      generalize x.tables[k] = tb at hck SK HM hrq
      clear hc hr
      go_wp2_with (first
        | (go_at_call 58; refine SK.out.mono ?_; rintro e w1 ⟨rfl, hB1⟩; have hown1 : OwnV _ _ _ _ _ := OwnV.below HK.out hB1; have hb1 : Below E0.heap.size E0 w1 := hbel.trans (hB1.mono hsz); have hz1 := hb1.size)
        | (at_builtin; refine wpList_append_val rfl _ _ rfl 16 (.string ByteArray.empty) Tryz.underlying80 infoS rfl (by omega) rfl hown1 rfl rfl hb1 HLl.out hz1 (Nat.le_refl _) ?_; intro v' w2 ho2 hb2 hz2 hk2)
        | fail)
      go_roundw
      case rel => exact ⟨k + 1, _, by omega, rfl, by go_num, by unfold Hid; rw [HM.out]; simpa using ho2, hb2⟩
      case measure => simp [intOf] <;> omega
    · obtain rfl : k = x.tables.length := by omega
      have HK' : Hid (OwnV E0.heap.size wr 9 v (([hd] ++ x.tables.map (spacedStr [118, 97, 108, 117, 101, 115])).map fun l => Value.string (bs l))) := by have := HK.out; rwa [List.take_length] at this
      clear HK
      obtain ⟨LT, hLT⟩ : ∃ l, l = [hd] ++ x.tables.map (spacedStr [118, 97, 108, 117, 101, 115]) := ⟨_, rfl⟩
      rw [← hLT] at HK'
      have HLT : Hid (LT = [hd] ++ x.tables.map (spacedStr [118, 97, 108, 117, 101, 115])) := hLT
      have HLN : Hid (LT.length ≤ 5) := by unfold Hid; rw [hLT]; simp; omega
      clear hLT
      obtain ⟨wi, rfl⟩ : ∃ wi : World, wi = wr := ⟨_, rfl⟩
      have hz3 := (HBA.out.below hbel).cell 2 rfl
      have hgl := (HBA.out.below hbel).lt
      go_wp2_with fail
      go_loopw [3, 29] (fun v i wr => ∃ (k : Nat) (u : Value), k ≤ x.nodes.length ∧ v = u ∧ i = .int .i64 (k : Int) ∧ Hid (OwnV E0.heap.size wr 9 u ((LT ++ (x.nodes.take k).map nodeStr).map fun l => Value.string (bs l))) ∧ Below E0.heap.size E0 wr) (fun _ i _ => ((x.nodes.length : Int) - intOf i).toNat)
      case atStart => exact ⟨0, _, Nat.zero_le _, rfl, rfl, by simpa using HK', hbel⟩
      case round =>
        obtain ⟨k, v, hk, hv, rfl, HK, hbel⟩ := hrel
        obtain rfl := hv.symm
        clear HK' hz3 hgl
        have hsz := hbel.size
        by_cases hkt : k < x.nodes.length
        · have hr : RdNodeS wr p2 x.nodes := H2.out.below hbel
          obtain ⟨b, o, rfl, hb, hc⟩ := hr.pos hkt
          have hP := hc k hkt
          obtain ⟨z0, z1, z2, q, c, z3, hrq⟩ := hP
          have HM : Hid ((LT ++ (x.nodes.take (k + 1)).map nodeStr) = (LT ++ (x.nodes.take k).map nodeStr) ++ [nodeStr x.nodes[k]]) := by
            unfold Hid
            rw [List.take_succ_eq_append_getElem hkt, List.map_append, List.append_assoc]
            rfl
          have HLl : Hid (((LT ++ (x.nodes.take k).map nodeStr).map fun l => Value.string (bs l)).length < 1099511627776) := by
            have := HLN.out
            unfold Hid; simp; omega
          have NK : Hid (∀ W, Below wr.heap.size wr W → Calls Tryz.prog 59 #[.agg #[.int .i64 x.nodes[k].kind, .int .i64 x.nodes[k].a, .int .i64 x.nodes[k].b, .slice q x.nodes[k].src.length c]] W fun e w' => e = .returned (.string (bs (nodeStr x.nodes[k]))) ∧ Below W.heap.size W w') := fun W hW => NT.out W k (hbel.trans (hW.mono hsz)) hkt _ ⟨q, c, rfl, hrq.below hW⟩
          generalize x.nodes[k] = nd at z0 z1 z2 z3 NK HM hrq
          clear hc hr
          have hba0 : Below wr.heap.size wr (wr.alloc (.cells #[.int .i64 nd.kind, .int .i64 nd.a, .int .i64 nd.b, .slice q nd.src.length c] 35)) := (Below.refl _ _).alloc (Nat.le_refl _) _
          have NK1 := Lib.hid (NK.out _ hba0)
          go_wp2_with (first
            | (go_at_call 59; refine NK1.out.mono ?_; rintro e w1 ⟨rfl, hB1⟩; have hbx := hba0.trans (hB1.mono hba0.size); have hown1 : OwnV _ _ _ _ _ := OwnV.below HK.out hbx; have hb1 : Below E0.heap.size E0 w1 := hbel.trans (hbx.mono hsz); have hz1 := hb1.size)
            | (at_builtin; refine wpList_append_val rfl _ _ rfl 16 (.string ByteArray.empty) Tryz.underlying80 infoS rfl (by omega) rfl hown1 rfl rfl hb1 HLl.out hz1 (Nat.le_refl _) ?_; intro v' w2 ho2 hb2 hz2 hk2)
            | fail)
          go_roundw
          case rel => exact ⟨k + 1, _, by omega, rfl, by go_num, by unfold Hid; rw [HM.out]; simpa using ho2, hb2⟩
          case measure => simp [intOf] <;> omega
        · obtain rfl : k = x.nodes.length := by omega
          have HK' : Hid (OwnV E0.heap.size wr 9 v ((LT ++ x.nodes.map nodeStr).map fun l => Value.string (bs l))) := by have := HK.out; rwa [List.take_length] at this
          have HLl : Hid (((LT ++ x.nodes.map nodeStr).map fun l => Value.string (bs l)).length < 1099511627776) := by
            have := HLN.out
            unfold Hid; simp; omega
          clear HK
          obtain ⟨wi, rfl⟩ : ∃ wi : World, wi = wr := ⟨_, rfl⟩
          have hz4 := (HBA.out.below hbel).cell 3 rfl
          have hgl := (HBA.out.below hbel).lt
          have SK := Lib.hid (SO.out wi hbel)
          have FIN : Hid (∀ s, s = (LT ++ x.nodes.map nodeStr) ++ [spacedStr [111, 117, 116] x.outputs] → s = LS) := fun s hs => (LE.out s).2 (by rw [hs, HLT.out]; simp)
          go_wp2_with (first
            | (go_at_call 58; refine SK.out.mono ?_; rintro e w1 ⟨rfl, hB1⟩; have hown1 : OwnV _ _ _ _ _ := OwnV.below HK'.out hB1; have hb1 : Below E0.heap.size E0 w1 := hbel.trans (hB1.mono hsz); have hz1 := hb1.size)
            | (at_builtin; refine wpList_append_val rfl _ _ rfl 16 (.string ByteArray.empty) Tryz.underlying80 infoS rfl (by omega) rfl hown1 rfl rfl hb1 HLl.out hz1 (Nat.le_refl _) ?_; intro v' w2 ho2 hb2 hz2 hk2; have HO2 : Hid (OwnV E0.heap.size w2 9 v' (((LT ++ x.nodes.map nodeStr) ++ [spacedStr [111, 117, 116] x.outputs]).map fun l => Value.string (bs l))) := (by unfold Hid; simpa using ho2); clear ho2)
            | (go_at_call 60; refine (JN.out _ _ _ _ (FIN.out _ rfl) HO2.out).mono ?_; rintro e w3 ⟨rfl, hB3⟩)
            | fail)
          go_ret
          exact ⟨by rw [HF.out]; rfl, HB0.out.trans ((hb2.trans (hB3.mono hb2.size)).mono HS0.out)⟩
end Go.Proofs.YtaapkpjokmoekaaGreatDoor

namespace Go.Proofs.YtaapkpjokmoekaaGreatDoor
open Go.ChangeShapes Go.WideShapes Go.ChangeAt Go.RowKit Go.Sort
set_option linter.unusedVariables false
set_option linter.unusedSimpArgs false

/-- lines, each with its end -/
def catL (ls : List (List UInt8)) : List UInt8 := (ls.map (· ++ [10])).flatten
theorem catL_snoc (ls : List (List UInt8)) (l : List UInt8) : catL (ls ++ [l]) = catL ls ++ (l ++ [10]) := by simp [catL]
theorem catL_le (m : Nat) : ∀ ls : List (List UInt8), (∀ l ∈ ls, l.length ≤ m) → (catL ls).length ≤ ls.length * (m + 1)
  | [], _ => by simp [catL]
  | l :: ls, h => by
    have h1 := h l (by simp)
    have h2 := catL_le m ls fun y hy => h y (by simp [hy])
    simp only [catL, List.map_cons, List.flatten_cons, List.length_append, List.length_cons, List.length_nil, Nat.add_mul, Nat.one_mul, Nat.mul_add, Nat.mul_one] at h2 ⊢
    omega
theorem patchStr_catL (x : PatchD) : patchStr x = catL (linesP x) := by
  unfold patchStr linesP catL
  exact patchStr_cat _ _
def patchRes (x : PatchD) : ByteArray := if okB x = true then bs (patchStr x) else ⟨#[]⟩
theorem implPatchText_v {v : Value} {x : PatchD} (w : World) (h : VPatch w v x) (hT : TxtT w) :
    Calls Tryz.prog 10 #[v] w fun e w' => e = .returned (.string (patchRes x)) ∧ Below w.heap.size w w' := by
  have hv := h
  obtain ⟨p1, c1, p2, c2, p3, c3, rfl, -, -, -⟩ := hv
  obtain ⟨E0, hE0⟩ : ∃ E, E = w.alloc (.cells #[.int .i64 x.inputs, .slice p1 x.tables.length c1, .slice p2 x.nodes.length c2, .slice p3 x.outputs.length c3] 28) := ⟨_, rfl⟩
  have hB0 : Below w.heap.size w E0 := by rw [hE0]; exact (Below.refl _ _).alloc (Nat.le_refl _) _
  have ba : Box E0 w.heap.size [.int .i64 x.inputs, .slice p1 x.tables.length c1, .slice p2 x.nodes.length c2, .slice p3 x.outputs.length c3] 28 := by rw [hE0]; exact Box.newAt w [.int .i64 x.inputs, .slice p1 x.tables.length c1, .slice p2 x.nodes.length c2, .slice p3 x.outputs.length c3] _ rfl
  have HE0 := Lib.hid hE0
  have z0 := ba.cell 0 rfl
  have z1 := ba.cell 1 rfl
  have z2 := ba.cell 2 rfl
  have z3 := ba.cell 3 rfl
  clear hE0
  have ON := Lib.hid (isPatch_v E0 (h.below hB0))
  cases hx : okB x
  · rw [hx] at ON
    have HR : Hid (patchRes x = ⟨#[]⟩) := by unfold Hid patchRes; rw [if_neg (by rw [hx]; decide)]
    go_enter Tryz.func10, Tryz.ntmps10
    go_upto_region 1 with fail
    rw [← HE0.out]
    go_wp2_with (first | (go_at_call 22; refine ON.out.mono ?_; rintro e w1 ⟨rfl, hb⟩) | fail)
    go_ret
    exact ⟨by rw [HR.out]; rfl, hB0.trans (hb.mono hB0.size)⟩
  · rw [hx] at ON
    have HR : Hid (patchRes x = bs (patchStr x)) := by unfold Hid patchRes; rw [if_pos hx]
    have NT : Hid (∀ W, Below E0.heap.size E0 W → Calls Tryz.prog 25 #[.agg #[.int .i64 x.inputs, .slice p1 x.tables.length c1, .slice p2 x.nodes.length c2, .slice p3 x.outputs.length c3]] W fun e w' => e = .returned (.string (bs (patchStr x))) ∧ Below W.heap.size W w') := fun W hW => patchText_v W ((h.below hB0).below hW) hx ((hT.below hB0).below hW)
    go_enter Tryz.func10, Tryz.ntmps10
    go_upto_region 1 with fail
    rw [← HE0.out]
    go_wp2_with (first | (go_at_call 22; refine ON.out.mono ?_; rintro e w1 ⟨rfl, hb⟩; have bb := ba.below hb; have y0 := bb.cell 0 rfl; have y1 := bb.cell 1 rfl; have y2 := bb.cell 2 rfl; have y3 := bb.cell 3 rfl) | (go_at_call 25; refine (NT.out _ hb).mono ?_; rintro e w2 ⟨rfl, hb2⟩) | fail)
    go_ret
    exact ⟨by rw [HR.out]; rfl, hB0.trans ((hb.trans (hb2.mono hb.size)).mono hB0.size)⟩
end Go.Proofs.YtaapkpjokmoekaaGreatDoor

namespace Go.Proofs.YtaapkpjokmoekaaGreatDoor
set_option linter.unusedVariables false
set_option linter.unusedSimpArgs false

/-- the parts of a row of bytes between bytes c; cur stands ahead -/
def cutC (c : UInt8) : List UInt8 → List UInt8 → List (List UInt8)
  | cur, [] => [cur]
  | cur, d :: r => if d = c then cur :: cutC c [] r else cutC c (cur ++ [d]) r
theorem cutC_none (c : UInt8) : ∀ (r cur : List UInt8), c ∉ r → cutC c cur r = [cur ++ r]
  | [], cur, _ => by simp [cutC]
  | d :: r, cur, h => by
    have hc : d ≠ c := fun e => h (by simp [e])
    rw [cutC, if_neg hc, cutC_none c r _ fun e => h (by simp [e])]
    simp
theorem cutC_at (c : UInt8) : ∀ (a b cur : List UInt8), c ∉ a → cutC c cur (a ++ c :: b) = (cur ++ a) :: cutC c [] b
  | [], b, cur, _ => by simp [cutC]
  | d :: a, b, cur, h => by
    have hc : d ≠ c := fun e => h (by simp [e])
    rw [List.cons_append, cutC, if_neg hc, cutC_at c a b _ fun e => h (by simp [e])]
    simp
theorem cutC_cat (c : UInt8) : ∀ ls : List (List UInt8), (∀ l ∈ ls, c ∉ l) → cutC c [] ((ls.map (· ++ [c])).flatten) = ls ++ [[]]
  | [], _ => rfl
  | l :: ls, h => by
    have ih := cutC_cat c ls fun m hm => h m (by simp [hm])
    rw [List.map_cons, List.flatten_cons, List.append_assoc, List.singleton_append, cutC_at c l _ _ (h l (by simp)), ih]
    rfl
theorem cutC_len (c : UInt8) : ∀ l cur : List UInt8, (cutC c cur l).length ≤ l.length + 1
  | [], cur => by simp [cutC]
  | d :: l, cur => by
    rw [cutC]
    split
    · have := cutC_len c l []; simp; omega
    · have := cutC_len c l (cur ++ [d]); simp; omega
theorem cutC_size (c : UInt8) : ∀ (l cur x : List UInt8), x ∈ cutC c cur l → x.length ≤ cur.length + l.length
  | [], cur, x, h => by simp [cutC] at h; simp [h]
  | d :: l, cur, x, h => by
    rw [cutC] at h
    split at h
    · rcases List.mem_cons.1 h with rfl | h
      · simp
      · have := cutC_size c l [] x h; simp at this ⊢; omega
    · have := cutC_size c l (cur ++ [d]) x h; simp at this ⊢; omega
theorem cutC_ne (c : UInt8) : ∀ l cur : List UInt8, cutC c cur l ≠ []
  | [], cur => by simp [cutC]
  | d :: l, cur => by
    rw [cutC]
    split
    · simp
    · exact cutC_ne c l _
theorem splitK_cutC (c : UInt8) : ∀ (n : Nat) (l : List UInt8), l.length ≤ n → Lib.splitK [c] 0 (Lib.count l [c]) l = cutC c [] l
  | n, l, hn => by
    by_cases h : c ∈ l
    · obtain ⟨a, b, rfl, ha⟩ := List.eq_append_cons_of_mem h
      have hi := index_at a b c ha
      match n, hn with
      | 0, hn => simp at hn
      | n + 1, hn =>
        have ih := splitK_cutC c n b (by simp at hn; omega)
        rw [Lib.count_hit (by simp) hi]
        have ed : (a ++ c :: b).drop (a.length + [c].length) = b := by simp
        rw [ed, Nat.add_comm 1, Lib.splitK, if_neg (by rw [hi]; simp), hi]
        have et : ((a.length : Nat) : Int).toNat = a.length := by omega
        rw [et, ed, ih, cutC_at c a b _ ha]
        simp
    · rw [Lib.count_miss (index_none l c h), cutC_none c l _ h]
      rfl
/-- the lines of a text -/
def linesB (s : ByteArray) : List ByteArray := (cutC 10 [] s.data.toList).map bs
theorem linesB_split (s : ByteArray) : Lib.splitB ⟨#[10]⟩ 0 (Lib.countB s ⟨#[10]⟩) s = linesB s := by
  have hp : (Lib.splitB ⟨#[10]⟩ 0 (Lib.countB s ⟨#[10]⟩) s).map (·.data.toList) = cutC 10 [] s.data.toList := by
    rw [Lib.splitB_data]
    exact splitK_cutC 10 _ _ (Nat.le_refl _)
  unfold linesB
  rw [← hp, List.map_map]
  conv => lhs; rw [← List.map_id (Lib.splitB _ _ _ _)]
  exact List.map_congr_left fun x _ => (bs_data x).symm
theorem linesB_length (s : ByteArray) : (linesB s).length = Lib.countB s ⟨#[10]⟩ + 1 := by rw [← linesB_split]; exact Lib.splitB_all _ (by decide) 0 _ s rfl
theorem linesB_le (s : ByteArray) : (linesB s).length ≤ s.size + 1 := by
  unfold linesB
  rw [List.length_map]
  have := cutC_len 10 s.data.toList []
  simpa using this
theorem linesB_size {s x : ByteArray} (h : x ∈ linesB s) : x.size ≤ s.size := by
  unfold linesB at h
  obtain ⟨l, hl, rfl⟩ := List.mem_map.1 h
  have := cutC_size 10 _ _ _ hl
  simp at this
  show (bs l).data.size ≤ s.data.size
  simpa [bs] using this
theorem linesB_ne (s : ByteArray) : linesB s ≠ [] := by
  unfold linesB
  intro h
  exact cutC_ne 10 _ _ (List.map_eq_nil_iff.1 h)
def trimN (s : ByteArray) : ByteArray := ⟨(Lib.trimSuffix s.data.toList [10]).toArray⟩
theorem trimN_size (s : ByteArray) : (trimN s).size ≤ s.size := by
  unfold trimN Lib.trimSuffix
  split
  · show ((s.data.toList.take _).toArray).size ≤ s.data.size
    simp [List.size_toArray]
  · show (s.data.toList.toArray).size ≤ s.data.size
    simp
/-! ### one line -/
def wPatch : ByteArray := ⟨#[112, 97, 116, 99, 104]⟩
def wValues : ByteArray := ⟨#[118, 97, 108, 117, 101, 115]⟩
def wOut : ByteArray := ⟨#[111, 117, 116]⟩
def addNode (p : PatchD) (n : NodeD) : PatchD := { p with nodes := p.nodes ++ [n] }
def addTable (p : PatchD) (t : List Int) : PatchD := { p with tables := p.tables ++ [t] }
def setOut (p : PatchD) (t : List Int) : PatchD := { p with outputs := t }
def setIn (p : PatchD) (n : Int) : PatchD := { p with inputs := n }
/-- the program's step -/
def stepI (p : PatchD) (line : ByteArray) : Option PatchD :=
  match wordsB line with
  | [] => none
  | k :: ws =>
    if k ≠ wPatch ∧ k ≠ wValues ∧ k ≠ wOut then (readN line).map (addNode p)
    else match decsB ws with
      | none => none
      | some ns => if k = wPatch then (if ns.length = 1 then some (setIn p (ns.getD 0 0)) else none) else if k = wValues then some (addTable p ns) else some (setOut p ns)
/-- the numbers behind a line's first word, on the reference's side -/
def numsS (ws : List ByteArray) : Option (List Int) := if 1 < ws.length ∧ 32 < ws.length then none else decsB ws.tail
/-- the reference's step -/
def stepR (p : PatchD) (line : ByteArray) : Option PatchD :=
  let w := partsB line
  match numsS w with
  | none => (readN line).map (addNode p)
  | some ns =>
    if w.headD ⟨#[]⟩ = wPatch ∧ ns.length = 1 then some (setIn p (ns.getD 0 0))
    else if w.headD ⟨#[]⟩ = wValues then some (addTable p ns)
    else if w.headD ⟨#[]⟩ = wOut then some (setOut p ns)
    else (readN line).map (addNode p)
def foldP (f : PatchD → ByteArray → Option PatchD) (ls : List ByteArray) (p : PatchD) : Option PatchD := ls.foldl (fun o l => o.bind fun p => f p l) (some p)
theorem foldP_snoc (f : PatchD → ByteArray → Option PatchD) (ls : List ByteArray) (l : ByteArray) (p : PatchD) : foldP f (ls ++ [l]) p = (foldP f ls p).bind fun p => f p l := by simp [foldP, List.foldl_append]
theorem foldP_cons (f : PatchD → ByteArray → Option PatchD) (l : ByteArray) (ls : List ByteArray) {p q : PatchD} (h : f p l = some q) : foldP f (l :: ls) p = foldP f ls q := by
  unfold foldP; rw [List.foldl_cons]; show List.foldl _ (f p l) ls = _; rw [h]
theorem foldP_none (f : PatchD → ByteArray → Option PatchD) (ls : List ByteArray) : ls.foldl (fun o l => o.bind fun p => f p l) none = none := by
  induction ls with
  | nil => rfl
  | cons l ls ih => exact ih
theorem foldP_stop {f : PatchD → ByteArray → Option PatchD} {ls : List ByteArray} {k : Nat} {p : PatchD} (h : foldP f (ls.take k) p = none) : foldP f ls p = none := by
  have e : ls = ls.take k ++ ls.drop k := (List.take_append_drop k ls).symm
  unfold foldP at *
  rw [e, List.foldl_append, h]
  exact foldP_none f _
theorem foldP_append (f : PatchD → ByteArray → Option PatchD) (ls ms : List ByteArray) {p q : PatchD} (h : foldP f ls p = some q) : foldP f (ls ++ ms) p = foldP f ms q := by
  unfold foldP at *; rw [List.foldl_append, h]
def zP : PatchD := ⟨0, [], [], []⟩
/-- .. checked -/
def checkP (s : ByteArray) (o : Option PatchD) : Option PatchD := o.bind fun p => if okB p = true ∧ bs (patchStr p) = s then some p else none
def readPI (s : ByteArray) : Option PatchD := checkP s (foldP stepI (linesB (trimN s)) zP)
def readPS (s : ByteArray) : Option PatchD := if 31 < (linesB s).length then none else checkP s (foldP stepR ((linesB s).take ((linesB s).length - 1)) zP)
theorem checkP_iff {s : ByteArray} {o : Option PatchD} {x : PatchD} : checkP s o = some x ↔ o = some x ∧ okB x = true ∧ bs (patchStr x) = s := by
  unfold checkP
  cases o with
  | none => simp
  | some p =>
    show (if _ then some p else none) = some x ↔ _
    constructor
    · intro h
      split at h
      · rename_i hc
        obtain rfl := Option.some.inj h
        exact ⟨rfl, hc⟩
      · cases h
    · rintro ⟨h, hc⟩
      obtain rfl := Option.some.inj h
      rw [if_pos hc]
/-! ### the lines of a valid patch's text -/
theorem numStr_join (xs : List Int) : numStr xs = Lib.join (xs.map Lib.itoa) [32] := rfl
theorem nl_itoa (n : Int) : (10 : UInt8) ∉ Lib.itoa n := itoa_no (by decide)
theorem mem_join {c : UInt8} (hc : c ≠ 32) : ∀ ws : List (List UInt8), (∀ w ∈ ws, c ∉ w) → c ∉ Lib.join ws [32]
  | [], _ => by simp [Lib.join_nil]
  | [w], h => by rw [Lib.join_one]; exact h w (by simp)
  | w :: v :: ws, h => by
    have ih := mem_join hc (v :: ws) fun u hu => h u (by simp [hu])
    have e : Lib.join (w :: v :: ws) [32] = w ++ 32 :: Lib.join (v :: ws) [32] := by
      rw [Lib.join_cons, Lib.join_cons]
      simp [Lib.joinTail]
    rw [e, List.mem_append, List.mem_cons]
    rintro (h1 | h1 | h1)
    · exact h w (by simp) h1
    · exact hc h1
    · exact ih h1
theorem nl_num (xs : List Int) : (10 : UInt8) ∉ numStr xs := by
  rw [numStr_join]
  exact mem_join (by decide) _ fun w hw => by obtain ⟨n, -, rfl⟩ := List.mem_map.1 hw; exact nl_itoa n
theorem nl_spaced {s : List UInt8} (hs : (10 : UInt8) ∉ s) (xs : List Int) : (10 : UInt8) ∉ spacedStr s xs := by
  unfold spacedStr
  rw [List.mem_append]
  rintro (h | h)
  · exact hs h
  · split at h
    · cases h
    · rcases List.mem_cons.1 h with h | h
      · exact absurd h (by decide)
      · exact nl_num xs h
theorem nl_nm {i : Nat} (hi : i < 17) : (10 : UInt8) ∉ nmL i := by
  rcases seventeen hi with rfl | rfl | rfl | rfl | rfl | rfl | rfl | rfl | rfl | rfl | rfl | rfl | rfl | rfl | rfl | rfl | rfl <;> decide
theorem nl_node {x : NodeD} {t : Int} (h : nodeB x t = true) : (10 : UInt8) ∉ nodeStr x := by
  obtain ⟨i, hi, he⟩ := nodeB_kind h
  have e : (x.kind - 1).toNat = i := by omega
  unfold nodeStr
  rw [e, nodeStr_eq]
  have h1 : (10 : UInt8) ∉ (if kLo i ≤ kHi i then 32 :: Lib.itoa x.a else []) := by
    split
    · rw [List.mem_cons]; rintro (h | h)
      · exact absurd h (by decide)
      · exact nl_itoa _ h
    · simp
  have h2 : (10 : UInt8) ∉ (if kBb i = true then 32 :: Lib.itoa x.b else []) := by
    split
    · rw [List.mem_cons]; rintro (h | h)
      · exact absurd h (by decide)
      · exact nl_itoa _ h
    · simp
  have h3 : (10 : UInt8) ∉ (if x.src = [] then [] else [32, 111, 102, 32] ++ numStr x.src) := by
    split
    · simp
    · rw [List.mem_append]; rintro (h | h)
      · exact absurd h (by decide)
      · exact nl_num _ h
  simp only [List.mem_append]
  rintro (((h | h) | h) | h)
  · exact nl_nm hi h
  · exact h1 h
  · exact h2 h
  · exact h3 h
theorem nl_lines {x : PatchD} (h : okB x = true) : ∀ l ∈ linesP x, (10 : UInt8) ∉ l := by
  obtain ⟨h1, h2, h3, h4, h5, h6, h7⟩ := okB_parts h
  intro l hl
  unfold linesP at hl
  simp only [List.mem_cons, List.mem_append, List.mem_map, List.mem_singleton, List.not_mem_nil, or_false] at hl
  rcases hl with rfl | (⟨t, ht, rfl⟩ | ⟨n, hn, rfl⟩) | rfl
  · rw [List.mem_append]
    rintro (h | h)
    · exact absurd h (by decide)
    · exact nl_itoa _ h
  · exact nl_spaced (by decide) _
  · exact nl_node (h5 n hn)
  · exact nl_spaced (by decide) _
theorem cutC_join (c : UInt8) : ∀ (ls : List (List UInt8)) (l : List UInt8), (∀ m ∈ l :: ls, c ∉ m) → cutC c [] (Lib.join (l :: ls) [c]) = l :: ls
  | [], l, h => by rw [Lib.join_one, cutC_none c l [] (h l (by simp))]; rfl
  | m :: ls, l, h => by
    have ih := cutC_join c ls m fun u hu => h u (by simp at hu ⊢; exact .inr hu)
    have e : Lib.join (l :: m :: ls) [c] = l ++ c :: Lib.join (m :: ls) [c] := by
      rw [Lib.join_cons, Lib.join_cons]
      simp [Lib.joinTail]
    rw [e, cutC_at c l _ _ (h l (by simp)), ih]
    rfl
theorem lines_trim {x : PatchD} (h : okB x = true) : linesB (trimN (bs (patchStr x))) = (linesP x).map bs := by
  have e : Lib.trimSuffix (patchStr x) [10] = Lib.join (linesP x) [10] := by
    unfold patchStr Lib.trimSuffix
    have hs : Lib.hasSuffix (Lib.join (linesP x) [10] ++ [10]) [10] = true := by
      unfold Lib.hasSuffix
      simp
    rw [if_pos hs]
    simp
  have h2 : (trimN (bs (patchStr x))).data.toList = Lib.join (linesP x) [10] := by
    unfold trimN
    rw [bs_list, e]
  unfold linesB
  rw [h2]
  have hn := nl_lines h
  unfold linesP at hn ⊢
  rw [List.append_assoc, cutC_join 10 _ _ (by rw [List.append_assoc] at hn; exact hn)]
theorem lines_all {x : PatchD} (h : okB x = true) : linesB (bs (patchStr x)) = (linesP x ++ [[]]).map bs := by
  unfold linesB
  rw [bs_list, patchStr_catL]
  unfold catL
  rw [cutC_cat 10 _ (nl_lines h)]
/-! ### steps at such lines -/
theorem spaced_join (s : List UInt8) (xs : List Int) : spacedStr s xs = Lib.join (s :: xs.map Lib.itoa) [32] := by
  unfold spacedStr numStr
  cases xs with
  | nil => simp [Lib.join_one]
  | cons x xs =>
    rw [if_neg (by simp), List.map_cons]
    conv => rhs; rw [Lib.join_cons]
    conv => lhs; rw [Lib.join_cons]
    simp [Lib.joinTail]
theorem words_spaced {s : List UInt8} (h0 : (32 : UInt8) ∉ s) (h1 : s ≠ []) (xs : List Int) :
    wordsB (bs (spacedStr s xs)) = bs s :: xs.map (fun x => bs (Lib.itoa x)) ∧ partsB (bs (spacedStr s xs)) = bs s :: xs.map (fun x => bs (Lib.itoa x)) := by
  have hw : ∀ w ∈ s :: xs.map Lib.itoa, (32 : UInt8) ∉ w ∧ w ≠ [] := fun w hw => by
    rcases List.mem_cons.1 hw with rfl | hw
    · exact ⟨h0, h1⟩
    · obtain ⟨n, -, rfl⟩ := List.mem_map.1 hw
      exact itoa_ok n
  have e := words_join (ws := s :: xs.map Lib.itoa) (by simp) hw
  have e2 := parts_join (ws := s :: xs.map Lib.itoa) (by simp) hw
  rw [spaced_join]
  refine ⟨?_, ?_⟩
  · rw [e]; simp
  · rw [e2, e]; simp
theorem stepI_num {s : List UInt8} (h0 : (32 : UInt8) ∉ s) (h1 : s ≠ []) {xs : List Int} (hx : ∀ x ∈ xs, small18 x) (p : PatchD) (hk : ¬ (bs s ≠ wPatch ∧ bs s ≠ wValues ∧ bs s ≠ wOut)) :
    stepI p (bs (spacedStr s xs)) = if bs s = wPatch then (if xs.length = 1 then some (setIn p (xs.getD 0 0)) else none) else if bs s = wValues then some (addTable p xs) else some (setOut p xs) := by
  unfold stepI
  rw [(words_spaced h0 h1 xs).1]
  simp only
  rw [if_neg hk, decsB_itoa xs hx]
theorem stepR_num {s : List UInt8} (h0 : (32 : UInt8) ∉ s) (h1 : s ≠ []) {xs : List Int} (hx : ∀ x ∈ xs, small18 x) (hl : xs.length ≤ 31) (p : PatchD) :
    stepR p (bs (spacedStr s xs)) = if bs s = wPatch ∧ xs.length = 1 then some (setIn p (xs.getD 0 0)) else if bs s = wValues then some (addTable p xs) else if bs s = wOut then some (setOut p xs) else (readN (bs (spacedStr s xs))).map (addNode p) := by
  unfold stepR
  rw [(words_spaced h0 h1 xs).2]
  have e : numsS (bs s :: xs.map fun x => bs (Lib.itoa x)) = some xs := by
    unfold numsS
    rw [if_neg (by simp; omega), List.tail_cons, decsB_itoa xs hx]
  simp only [e, List.headD_cons]
  rfl
theorem wPatch_bs : bs [112, 97, 116, 99, 104] = wPatch := rfl
theorem wValues_bs : bs [118, 97, 108, 117, 101, 115] = wValues := rfl
theorem wOut_bs : bs [111, 117, 116] = wOut := rfl
theorem patch_line (n : Int) : [112, 97, 116, 99, 104, 32] ++ Lib.itoa n = spacedStr [112, 97, 116, 99, 104] [n] := by
  rw [spaced_join]
  simp [Lib.join_cons, Lib.joinTail]
theorem nm_other {i : Nat} (hi : i < 17) : bs (nmL i) ≠ wPatch ∧ bs (nmL i) ≠ wValues ∧ bs (nmL i) ≠ wOut := by
  have h : nmL i ≠ [112, 97, 116, 99, 104] ∧ nmL i ≠ [118, 97, 108, 117, 101, 115] ∧ nmL i ≠ [111, 117, 116] := by
    rcases seventeen hi with rfl | rfl | rfl | rfl | rfl | rfl | rfl | rfl | rfl | rfl | rfl | rfl | rfl | rfl | rfl | rfl | rfl <;> decide
  exact ⟨fun e => h.1 (bs_inj e), fun e => h.2.1 (bs_inj e), fun e => h.2.2 (bs_inj e)⟩
theorem nodeB_four {x : NodeD} {t : Int} (h : nodeB x t = true) (ht : t ≤ 4) : nodeB x 4 = true := by
  unfold nodeB at h ⊢
  rw [Bool.and_eq_true] at h ⊢
  refine ⟨h.1, ?_⟩
  have := h.2
  rw [Bool.or_eq_true] at this ⊢
  rcases this with h | h
  · exact .inl h
  · exact .inr (by rw [decide_eq_true_iff] at h ⊢; omega)
theorem stepI_node {x : NodeD} (h : nodeB x 4 = true) (p : PatchD) : stepI p (bs (nodeStr x)) = some (addNode p x) := by
  obtain ⟨i, hi, he⟩ := nodeB_kind h
  have e : (x.kind - 1).toNat = i := by omega
  have hr : readN (bs (nodeStr x)) = some x := (readN_iff _ _).2 ⟨h, rfl⟩
  unfold stepI
  have hw : wordsB (bs (nodeStr x)) = bs (nmL i) :: ((numsN i x.a x.b).map (fun x => bs (Lib.itoa x)) ++ (if x.src = [] then [] else ofB :: x.src.map fun x => bs (Lib.itoa x))) := by
    have := words_node hi x.a x.b x.src
    unfold nodeStr
    rw [e]
    exact this
  rw [hw]
  simp only
  rw [if_pos (nm_other hi), hr]
  rfl
theorem head_parts {a r : List UInt8} (ha : (32 : UInt8) ∉ a) (hr : r = [] ∨ ∃ r', r = 32 :: r') : (partsB (bs (a ++ r))).headD ⟨#[]⟩ = bs a := by
  rw [partsB_cut, bs_list]
  rcases hr with rfl | ⟨r', rfl⟩
  · rw [List.append_nil, cutAt_none a [] ha]; rfl
  · rw [cutAt_at a r' [] ha]; rfl
theorem stepR_node {x : NodeD} (h : nodeB x 4 = true) (p : PatchD) : stepR p (bs (nodeStr x)) = some (addNode p x) := by
  obtain ⟨i, hi, he⟩ := nodeB_kind h
  have e : (x.kind - 1).toNat = i := by omega
  have hr : readN (bs (nodeStr x)) = some x := (readN_iff _ _).2 ⟨h, rfl⟩
  have hh : (partsB (bs (nodeStr x))).headD ⟨#[]⟩ = bs (nmL i) := by
    unfold nodeStr
    rw [e, nodeStr_eq, List.append_assoc, List.append_assoc]
    refine head_parts (nmL_ok hi).1 ?_
    by_cases h1 : kLo i ≤ kHi i
    · exact .inr ⟨_, by rw [if_pos h1]; rfl⟩
    · rw [if_neg h1, List.nil_append]
      by_cases h2 : kBb i = true
      · exact .inr ⟨_, by rw [if_pos h2]; rfl⟩
      · rw [if_neg h2, List.nil_append]
        by_cases h3 : x.src = []
        · exact .inl (by rw [if_pos h3])
        · exact .inr ⟨_, by rw [if_neg h3]; rfl⟩
  obtain ⟨n1, n2, n3⟩ := nm_other hi
  unfold stepR
  simp only [hh]
  cases numsS (partsB (bs (nodeStr x))) with
  | none => rw [hr]; rfl
  | some ns =>
    simp only
    rw [if_neg (fun h => n1 h.1), if_neg n2, if_neg n3, hr]
    rfl
/-! ### the whole text -/
theorem fold_tables {f : PatchD → ByteArray → Option PatchD} : ∀ (ts : List (List Int)) (p : PatchD), (∀ t ∈ ts, ∀ q, f q (bs (spacedStr [118, 97, 108, 117, 101, 115] t)) = some (addTable q t)) →
    foldP f ((ts.map (spacedStr [118, 97, 108, 117, 101, 115])).map bs) p = some { p with tables := p.tables ++ ts }
  | [], p, _ => by simp [foldP]
  | t :: ts, p, h => by
    rw [List.map_cons, List.map_cons, foldP_cons f _ _ (h t (by simp) p), fold_tables ts (addTable p t) fun u hu => h u (by simp [hu])]
    simp [addTable]
theorem fold_nodes {f : PatchD → ByteArray → Option PatchD} : ∀ (ns : List NodeD) (p : PatchD), (∀ n ∈ ns, ∀ q, f q (bs (nodeStr n)) = some (addNode q n)) →
    foldP f ((ns.map nodeStr).map bs) p = some { p with nodes := p.nodes ++ ns }
  | [], p, _ => by simp [foldP]
  | t :: ts, p, h => by
    rw [List.map_cons, List.map_cons, foldP_cons f _ _ (h t (by simp) p), fold_nodes ts (addNode p t) fun u hu => h u (by simp [hu])]
    simp [addNode]
theorem fold_lines {f : PatchD → ByteArray → Option PatchD} (x : PatchD) (h1 : ∀ q, f q (bs (spacedStr [112, 97, 116, 99, 104] [x.inputs])) = some (setIn q x.inputs))
    (h2 : ∀ t ∈ x.tables, ∀ q, f q (bs (spacedStr [118, 97, 108, 117, 101, 115] t)) = some (addTable q t)) (h3 : ∀ n ∈ x.nodes, ∀ q, f q (bs (nodeStr n)) = some (addNode q n))
    (h4 : ∀ q, f q (bs (spacedStr [111, 117, 116] x.outputs)) = some (setOut q x.outputs)) : foldP f ((linesP x).map bs) zP = some x := by
  unfold linesP
  rw [patch_line, List.map_cons, foldP_cons f _ _ (h1 zP), List.map_append, List.map_append]
  have e1 := fold_tables (f := f) x.tables (setIn zP x.inputs) h2
  rw [List.append_assoc, foldP_append f _ _ e1, foldP_append f _ _ (fold_nodes (f := f) x.nodes _ h3)]
  rw [List.map_cons, List.map_nil, foldP_cons f _ _ (h4 _)]
  rfl
theorem smp_small {x : Int} (h : isSmp x = true) : small18 x := by
  have := inB_iff.1 (show inB x (-2147483648) 2147483647 = true from h)
  unfold small18; omega
theorem ok_small {x : PatchD} (h : okB x = true) : small18 x.inputs ∧ (∀ t ∈ x.tables, ∀ y ∈ t, small18 y) ∧ (∀ t ∈ x.tables, t.length ≤ 16) ∧ (∀ y ∈ x.outputs, small18 y) ∧ x.outputs.length ≤ 4 ∧ (∀ n ∈ x.nodes, nodeB n 4 = true) := by
  obtain ⟨h1, h2, h3, h4, h5, h6, h7⟩ := okB_parts h
  have hf : formedB x = true := by
    unfold okB at h
    simp only [Bool.and_eq_true] at h
    exact h.1
  obtain ⟨f1, f2, f3, f4, f5, f6⟩ := formed_iff.1 hf
  unfold tablesB at f2
  simp only [Bool.and_eq_true, decide_eq_true_eq] at f2
  have ht : ∀ t ∈ x.tables, (t.length = 2 ∨ t.length = 4 ∨ t.length = 8 ∨ t.length = 16) ∧ t.all isSmp = true := fun t ht => by
    have := List.all_eq_true.1 f2.1 t ht
    unfold tblB at this
    simp only [Bool.and_eq_true, Bool.or_eq_true, beq_iff_eq, decide_eq_true_eq] at this
    exact ⟨by omega, this.2⟩
  refine ⟨by unfold small18; omega, fun t hh y hy => smp_small (List.all_eq_true.1 (ht t hh).2 y hy), fun t hh => by have := (ht t hh).1; omega, fun y hy => ?_, h7, fun n hn => nodeB_four (h5 n hn) (by omega)⟩
  have := f6 y hy
  unfold small18; omega
theorem foldI_text {x : PatchD} (h : okB x = true) : foldP stepI ((linesP x).map bs) zP = some x := by
  obtain ⟨s1, s2, s3, s4, s5, s6⟩ := ok_small h
  refine fold_lines x (fun q => ?_) (fun t ht q => ?_) (fun n hn q => stepI_node (s6 n hn) q) (fun q => ?_)
  · rw [stepI_num (by decide) (by decide) (by intro y hy; rw [List.mem_singleton.1 hy]; exact s1) q (fun h => h.1 rfl), if_pos wPatch_bs]
    rfl
  · rw [stepI_num (by decide) (by decide) (s2 t ht) q (fun h => h.2.1 rfl), if_neg (by decide), if_pos wValues_bs]
  · rw [stepI_num (by decide) (by decide) s4 q (fun h => h.2.2 rfl), if_neg (by decide), if_neg (by decide)]
theorem foldR_text {x : PatchD} (h : okB x = true) : foldP stepR ((linesP x).map bs) zP = some x := by
  obtain ⟨s1, s2, s3, s4, s5, s6⟩ := ok_small h
  refine fold_lines x (fun q => ?_) (fun t ht q => ?_) (fun n hn q => stepR_node (s6 n hn) q) (fun q => ?_)
  · rw [stepR_num (by decide) (by decide) (by intro y hy; rw [List.mem_singleton.1 hy]; exact s1) (by simp) q, if_pos ⟨rfl, rfl⟩]
    rfl
  · rw [stepR_num (by decide) (by decide) (s2 t ht) (by have := s3 t ht; omega) q, if_neg (fun h => absurd h.1 (by decide)), if_pos wValues_bs]
  · rw [stepR_num (by decide) (by decide) s4 (by omega) q, if_neg (fun h => absurd h.1 (by decide)), if_neg (by decide), if_pos wOut_bs]
theorem readPI_iff (s : ByteArray) (x : PatchD) : readPI s = some x ↔ okB x = true ∧ bs (patchStr x) = s := by
  unfold readPI
  rw [checkP_iff]
  constructor
  · exact fun h => h.2
  · rintro ⟨h, rfl⟩
    exact ⟨by rw [lines_trim h]; exact foldI_text h, h, rfl⟩
theorem readPS_iff (s : ByteArray) (x : PatchD) : readPS s = some x ↔ okB x = true ∧ bs (patchStr x) = s := by
  unfold readPS
  constructor
  · intro h
    split at h
    · cases h
    · exact (checkP_iff.1 h).2
  · rintro ⟨h, rfl⟩
    have hl := lines_n h
    rw [lines_all h, List.length_map, List.length_append, List.length_singleton, if_neg (by omega), checkP_iff]
    refine ⟨?_, h, rfl⟩
    rw [Nat.add_sub_cancel, List.map_append]
    rw [List.take_left' (by simp)]
    exact foldR_text h
theorem readP_eq (s : ByteArray) : readPS s = readPI s := by
  apply Option.ext
  intro x
  rw [readPS_iff, readPI_iff]
end Go.Proofs.YtaapkpjokmoekaaGreatDoor

namespace Go.Proofs.YtaapkpjokmoekaaGreatDoor
open Go.ChangeShapes Go.WideShapes Go.ChangeAt Go.RowKit Go.Sort
set_option linter.unusedVariables false
set_option linter.unusedSimpArgs false

def nodeRd (s : ByteArray) : NodeD := (readN s).getD ⟨0, 0, 0, []⟩
def okRd (s : ByteArray) : Bool := (readN s).isSome
/-- the node that was read, in memory of its own, and whether there is one -/
def RetNd (w : World) (s : ByteArray) (e : Ending) (w' : World) : Prop := ∃ u L, e = .returned (.tuple #[u, .bool (okRd s)]) ∧ OwnNode w.heap.size w' u (nodeRd s) L ∧ Dis L ∧ Below w.heap.size w w'
theorem retNd_none {w w' : World} {s : ByteArray} (h : readN s = none) (hb : Below w.heap.size w w') : RetNd w s (.returned (.tuple #[.agg #[.int .i64 0, .int .i64 0, .int .i64 0, .slice none 0 0], .bool false])) w' := by
  have h1 : okRd s = false := by unfold okRd; rw [h]; rfl
  have h2 : nodeRd s = ⟨0, 0, 0, []⟩ := by unfold nodeRd; rw [h]; rfl
  exact ⟨_, [.slice none 0 0], by rw [h1], by rw [h2]; exact ⟨_, _, rfl, rfl, OwnLI.nilu _ _⟩, List.pairwise_singleton _ _, hb⟩
theorem retNd_some {w w' : World} {s : ByteArray} {x : NodeD} {u : Value} (h : readN s = some x) (hu : OwnI w.heap.size w' u x.src) (hb : Below w.heap.size w w') : RetNd w s (.returned (.tuple #[.agg #[.int .i64 x.kind, .int .i64 x.a, .int .i64 x.b, u], .bool true])) w' := by
  have h1 : okRd s = true := by unfold okRd; rw [h]; rfl
  have h2 : nodeRd s = x := by unfold nodeRd; rw [h]; rfl
  exact ⟨_, [u], by rw [h1], by rw [h2]; exact ⟨u, _, rfl, rfl, hu, rfl⟩, List.pairwise_singleton _ _, hb⟩
theorem OwnI.typ {B : Nat} {w : World} {v : Value} {xs : List Int} (h : OwnI B w v xs) : OwnV B w 2 v (xs.map (Value.int .i64)) := by simpa [OwnV, OwnI] using h
theorem OwnV.notBox {B : Nat} {w : World} {E T : TypeId} {v : Value} {L cs : List Value} {g : Nat} (h : OwnV B w E v L) (hb : Box w g cs T) (hT : E ≠ T) : v.ownBlock ≠ Option.some g := by
  intro e
  rcases OwnV.cases h with ⟨rfl, -⟩ | ⟨k, cap, rfl, -, -, ⟨cur, hc⟩, -⟩
  · simp [Value.ownBlock] at e
  · have hk : k = g := by simpa [Value.ownBlock] using e
    subst hk
    unfold Box at hb
    rw [hc] at hb
    simp at hb
    exact hT hb.2
theorem OwnV.notOwn {B B' : Nat} {w : World} {E T : TypeId} {v u : Value} {L L' : List Value} (h : OwnV B w E v L) (h' : OwnV B' w T u L') (hT : E ≠ T) {k : Nat} (hk : v.ownBlock = Option.some k) : u.ownBlock ≠ Option.some k := by
  intro e
  rcases OwnV.cases h with ⟨rfl, -⟩ | ⟨k1, cap, rfl, -, -, ⟨cur, hc⟩, -⟩
  · simp [Value.ownBlock] at hk
  · rcases OwnV.cases h' with ⟨rfl, -⟩ | ⟨k2, cap', rfl, -, -, ⟨cur', hc'⟩, -⟩
    · simp [Value.ownBlock] at e
    · have e1 : k1 = k := by simpa [Value.ownBlock] using hk
      have e2 : k2 = k := by simpa [Value.ownBlock] using e
      subst e1 e2
      rw [hc] at hc'
      simp at hc'
      exact hT hc'.2
/-- while a node is read: the result's box, the node's box, its inputs, the words -/
structure RN (w0 w : World) (r g : Nat) (k a b : Int) (u : Value) (f : List Int) (uw : Value) (L : List Value) : Prop where
  res : Box w r [.int .i64 0, .int .i64 0, .int .i64 0, .slice none 0 0] 35
  box : Box w g [.int .i64 k, .int .i64 a, .int .i64 b, u] 35
  own : OwnI w0.heap.size w u f
  wd : OwnV w0.heap.size w 9 uw L
  bel : Below w0.heap.size w0 w
  hr : w0.heap.size ≤ r
  hg : r < g
section
variable {w0 w : World} {r g : Nat} {k a b : Int} {u : Value} {f : List Int} {uw : Value} {L : List Value}
theorem RN.below {w' : World} (h : RN w0 w r g k a b u f uw L) (hb : Below w.heap.size w w') : RN w0 w' r g k a b u f uw L :=
  ⟨h.res.below hb, h.box.below hb, h.own.below hb, h.wd.below hb, h.bel.trans (hb.mono h.bel.size), h.hr, h.hg⟩
theorem RN.setBox (h : RN w0 w r g k a b u f uw L) (i : Nat) (v : Value) : Box (w.setCell ⟨g, i, none⟩ v) r [.int .i64 0, .int .i64 0, .int .i64 0, .slice none 0 0] 35 ∧ OwnI w0.heap.size (w.setCell ⟨g, i, none⟩ v) u f ∧ OwnV w0.heap.size (w.setCell ⟨g, i, none⟩ v) 9 uw L ∧ Below w0.heap.size w0 (w.setCell ⟨g, i, none⟩ v) := by
  have n1 := h.own.typ.notBox h.box (by decide)
  have n2 := h.wd.notBox h.box (by decide)
  exact ⟨h.res.other (by show r ≠ g; have := h.hg; omega) _, h.own.keep fun j hj => Below.heap_setCell _ _ _ _ (fun e => n1 (by rw [hj, e])), h.wd.keep fun j hj => Below.heap_setCell _ _ _ _ (fun e => n2 (by rw [hj, e])), h.bel.setCell (p := ⟨g, i, none⟩) (by show w0.heap.size ≤ g; have := h.hr; have := h.hg; omega) _⟩
theorem RN.setA (h : RN w0 w r g k a b u f uw L) (n : Int) : RN w0 (w.setCell ⟨g, 1, none⟩ (.int .i64 n)) r g k n b u f uw L := by
  obtain ⟨h1, h2, h3, h4⟩ := h.setBox 1 (.int .i64 n)
  exact ⟨h1, by simpa using h.box.set 1 (.int .i64 n), h2, h3, h4, h.hr, h.hg⟩
theorem RN.setB (h : RN w0 w r g k a b u f uw L) (n : Int) : RN w0 (w.setCell ⟨g, 2, none⟩ (.int .i64 n)) r g k a n u f uw L := by
  obtain ⟨h1, h2, h3, h4⟩ := h.setBox 2 (.int .i64 n)
  exact ⟨h1, by simpa using h.box.set 2 (.int .i64 n), h2, h3, h4, h.hr, h.hg⟩
theorem RN.from (h : RN w0 w r g k a b u f uw L) {u' : Value} {f' : List Int} (hu : OwnI w0.heap.size w u' f') : RN w0 (w.setCell ⟨g, 3, none⟩ u') r g k a b u' f' uw L := by
  obtain ⟨h1, h2, h3, h4⟩ := h.setBox 3 u'
  have n1 := hu.typ.notBox h.box (by decide)
  exact ⟨h1, by simpa using h.box.set 3 u', hu.keep fun j hj => Below.heap_setCell _ _ _ _ (fun e => n1 (by rw [hj, e])), h3, h4, h.hr, h.hg⟩
theorem RN.grow (h : RN w0 w r g k a b u f uw L) {w' : World} {u' : Value} {f' : List Int} (hu : OwnI w0.heap.size w' u' f') (hk : ∀ j, j < w.heap.size → u.ownBlock ≠ Option.some j → w'.heap[j]? = w.heap[j]?) (hb : Below w0.heap.size w0 w') :
    (w'.cell? ⟨g, 3, none⟩ = Option.some u ∧ w'.frozen? ⟨g, 3, none⟩ = false) ∧ RN w0 (w'.setCell ⟨g, 3, none⟩ u') r g k a b u' f' uw L := by
  have n1 := h.own.typ.notBox h.box (by decide)
  have n3 := h.own.typ.notBox h.res (by decide)
  have bx := h.box.keep (hk g h.box.lt n1)
  have rs := h.res.keep (hk r h.res.lt n3)
  have wd : OwnV w0.heap.size w' 9 uw L := h.wd.keep fun j hj => hk j (h.wd.lt hj).2 (h.wd.notOwn h.own.typ (by decide) hj)
  have n1' := hu.typ.notBox bx (by decide)
  have n2 := wd.notBox bx (by decide)
  exact ⟨⟨bx.cell 3 rfl, bx.frozen 3⟩, rs.other (by show r ≠ g; have := h.hg; omega) _, by simpa using bx.set 3 u', hu.keep fun j hj => Below.heap_setCell _ _ _ _ (fun e => n1' (by rw [hj, e])), wd.keep fun j hj => Below.heap_setCell _ _ _ _ (fun e => n2 (by rw [hj, e])), hb.setCell (p := ⟨g, 3, none⟩) (by show w0.heap.size ≤ g; have := h.hr; have := h.hg; omega) _, h.hr, h.hg⟩
theorem RN.exit (h : RN w0 w r g k a b u f uw L) (x0 x1 x2 x3 : Value) :
    ∃ W', W' = (((w.setCell ⟨r, 0, none⟩ x0).setCell ⟨r, 1, none⟩ x1).setCell ⟨r, 2, none⟩ x2).setCell ⟨r, 3, none⟩ x3 ∧ Box W' r [x0, x1, x2, x3] 35 ∧ Below w0.heap.size w0 W' ∧ OwnI w0.heap.size W' u f := by
  have n3 := h.own.typ.notBox h.res (by decide)
  have b3 := (((h.res.set 0 x0).set 1 x1).set 2 x2).set 3 x3
  have hb : Below w0.heap.size w0 ((((w.setCell ⟨r, 0, none⟩ x0).setCell ⟨r, 1, none⟩ x1).setCell ⟨r, 2, none⟩ x2).setCell ⟨r, 3, none⟩ x3) :=
    (((h.bel.setCell (p := ⟨r, 0, none⟩) h.hr _).setCell (p := ⟨r, 1, none⟩) h.hr _).setCell (p := ⟨r, 2, none⟩) h.hr _).setCell (p := ⟨r, 3, none⟩) h.hr _
  refine ⟨_, rfl, by simpa using b3, hb, ?_⟩
  refine h.own.keep fun j hj => ?_
  have hne : j ≠ r := fun e => n3 (by rw [hj, e])
  exact (Below.heap_setCell _ _ _ _ hne).trans ((Below.heap_setCell _ _ _ _ hne).trans ((Below.heap_setCell _ _ _ _ hne).trans (Below.heap_setCell _ _ _ _ hne)))
theorem RN.pnode {c : Nat} {p : Option Addr} (h : RN w0 w r g k a b (.slice p f.length c) f uw L) : PNode w g 0 ⟨k, a, b, f⟩ := by
  obtain ⟨q, d, e, hr⟩ := h.own.rd
  obtain ⟨rfl, -, -⟩ := (Value.slice.injEq _ _ _ _ _ _).mp e
  exact PNode.box (x := ⟨k, a, b, f⟩) h.box hr
end
theorem not_of {x : ByteArray} (h : x ≠ ofB) : (x.toList == [111, 102]) = false := by
  rw [beq_eq_false_iff_ne]
  intro e
  apply h
  apply str_ext
  rw [e, ByteArray.toList_eq]
  rfl
end Go.Proofs.YtaapkpjokmoekaaGreatDoor
