/-
  The text of a valid patch, on both sides.
-/
import Derived.Test.YtdcacmmglkcliaaGreatDoorTxtV
import Derived.Test.YtdcacmmglkcliaaGreatDoorPatV
namespace Go.Proofs.YtdcacmmglkcliaaGreatDoor
open Go.ChangeShapes Go.WideShapes Go.ChangeAt Go.RowKit Go.Sort
set_option linter.unusedVariables false
set_option linter.unusedSimpArgs false

/-- a word with numbers behind it -/
def spacedStr (s : List UInt8) (xs : List Int) : List UInt8 := s ++ (if xs = [] then [] else 32 :: numStr xs)
theorem spaced_len {s : List UInt8} {xs : List Int} (h : AllI xs) : (spacedStr s xs).length ≤ s.length + 1 + 22 * xs.length := by
  have := numStr_length h
  unfold spacedStr
  split <;> simp only [List.length_append, List.length_cons, List.length_nil] <;> omega
/-- the lines of a patch's text -/
def linesP (x : PatchD) : List (List UInt8) := ([112, 97, 116, 99, 104, 32] ++ Lib.itoa x.inputs) :: (x.tables.map (spacedStr [118, 97, 108, 117, 101, 115]) ++ x.nodes.map nodeStr ++ [spacedStr [111, 117, 116] x.outputs])
def patchStr (x : PatchD) : List UInt8 := Lib.join (linesP x) [10] ++ [10]
theorem patchStr_cat : ∀ (ls : List (List UInt8)) (l : List UInt8), Lib.join (l :: ls) [10] ++ [10] = ((l :: ls).map (· ++ [10])).flatten
  | [], l => by simp [Lib.join_one]
  | m :: ls, l => by
    have ih := patchStr_cat ls m
    rw [Lib.join_cons] at ih
    rw [Lib.join_cons, List.map_cons, List.flatten_cons, ← ih]
    simp [Lib.joinTail]
theorem join_le (m : Nat) : ∀ ss : List (List UInt8), (∀ l ∈ ss, l.length ≤ m) → (Lib.join ss [10]).length ≤ ss.length * (m + 1)
  | [], _ => by simp [Lib.join_nil]
  | l :: ss, h => by
    rw [Lib.join_length]
    have : ∀ ts : List (List UInt8), (∀ l ∈ ts, l.length ≤ m) → Lib.lens ts ≤ ts.length * m := by
      intro ts
      induction ts with
      | nil => intro _; simp [Lib.lens]
      | cons t ts ih =>
        intro ht
        have h1 := ht t (by simp)
        have h2 := ih fun l hl => ht l (by simp [hl])
        simp only [Lib.lens, List.map_cons, List.sum_cons, List.length_cons, Nat.add_mul, Nat.one_mul] at h2 ⊢
        omega
    have h3 := this _ h
    simp only [List.length_cons, List.length_nil, Nat.add_mul, Nat.mul_add, Nat.one_mul, Nat.mul_one] at h3 ⊢
    omega
theorem okB_parts {x : PatchD} (h : okB x = true) : (0 ≤ x.inputs ∧ x.inputs ≤ 4) ∧ x.tables.length ≤ 4 ∧ (∀ t ∈ x.tables, AllI t ∧ t.length ≤ 256) ∧ x.nodes.length ≤ 24 ∧ (∀ n ∈ x.nodes, nodeB n x.tables.length = true) ∧ AllI x.outputs ∧ x.outputs.length ≤ 4 := by
  have hf : formedB x = true := by
    unfold okB at h
    simp only [Bool.and_eq_true] at h
    exact h.1
  obtain ⟨h1, h2, h3, h4, h5, h6⟩ := formed_iff.1 hf
  unfold tablesB at h2
  simp only [Bool.and_eq_true, decide_eq_true_eq] at h2
  refine ⟨h1, h2.2, ?_, h3, ?_, ?_, h4⟩
  · intro t ht
    have := List.all_eq_true.1 h2.1 t ht
    unfold tblB at this
    simp only [Bool.and_eq_true, Bool.or_eq_true, beq_iff_eq, decide_eq_true_eq] at this
    obtain ⟨hl, ha⟩ := this
    refine ⟨fun y hy => ?_, by omega⟩
    have := inB_iff.1 (show inB y (-2147483648) 2147483647 = true from List.all_eq_true.1 ha y hy)
    unfold I64; omega
  · intro n hn
    have := h5 n hn
    unfold ndB at this
    simp only [Bool.and_eq_true] at this
    exact this.1.1
  · intro y hy
    have := h6 y hy
    unfold I64; omega
theorem nodeStr_le {x : NodeD} {t : Int} (h : nodeB x t = true) : (nodeStr x).length ≤ 200 := by
  obtain ⟨h1, h2, h3, h4⟩ := nodeB_bounds h
  obtain ⟨i, hi, he⟩ := nodeB_kind h
  have e : (x.kind - 1).toNat = i := by omega
  unfold nodeStr
  rw [e]
  exact nodeStr_len hi h1 h2 h3 h4
theorem lines_le {x : PatchD} (h : okB x = true) : ∀ l ∈ linesP x, l.length ≤ 6000 := by
  obtain ⟨h1, h2, h3, h4, h5, h6, h7⟩ := okB_parts h
  intro l hl
  unfold linesP at hl
  simp only [List.mem_cons, List.mem_append, List.mem_map, List.mem_singleton, List.not_mem_nil, or_false] at hl
  rcases hl with rfl | (⟨t, ht, rfl⟩ | ⟨n, hn, rfl⟩) | rfl
  · have := Lib.itoa_length_le x.inputs (by omega) (by omega)
    simp only [List.length_append, List.length_cons, List.length_nil]
    omega
  · have := spaced_len (s := [118, 97, 108, 117, 101, 115]) (h3 t ht).1
    have := (h3 t ht).2
    simp only [List.length_cons, List.length_nil] at *
    omega
  · have := nodeStr_le (h5 n hn)
    omega
  · have := spaced_len (s := [111, 117, 116]) h6
    simp only [List.length_cons, List.length_nil] at *
    omega
theorem lines_n {x : PatchD} (h : okB x = true) : (linesP x).length ≤ 30 := by
  obtain ⟨h1, h2, h3, h4, h5, h6, h7⟩ := okB_parts h
  unfold linesP
  simp
  omega
set_option maxHeartbeats 1000000 in
theorem spaced_any {p : Option Addr} {c : Nat} {xs : List Int} (s : List UInt8) (w : World) (h : RdI w p xs) (hI : AllI xs) (hn : xs.length ≤ 1048576) (hs : s.length ≤ 100) (hT : TxtT w) :
    Calls Tryz.prog 99 #[.string (bs s), .slice p xs.length c] w fun e w' => e = .returned (.string (bs (spacedStr s xs))) ∧ Below w.heap.size w w' := by
  by_cases h0 : xs = []
  · subst h0
    have HR : Hid (spacedStr s [] = s) := by simp [Hid, spacedStr]
    clear hs
    go_enter Tryz.func99, Tryz.ntmps99
    go_wp2_with fail
    go_ret
    exact ⟨by rw [HR.out]; rfl, Below.refl _ _⟩
  · have NT := Lib.hid (numbersText_any (c := c) w h hI hn hT)
    have HR : Hid (bs (spacedStr s xs) = bs s ++ ⟨#[32]⟩ ++ bs (numStr xs)) := by
      unfold Hid spacedStr
      rw [if_neg h0, show (ByteArray.mk #[32]) = bs [32] from rfl, bs_app, bs_app, List.append_assoc]
      rfl
    have hl : ¬ (xs.length : Int) = 0 := by have := List.length_pos_iff.2 h0; omega
    have z1 : (bs s).size ≤ 100 := by rw [bs_size]; exact hs
    have z2 : (bs (numStr xs)).size ≤ 23068672 := by have := numStr_length hI; rw [bs_size]; omega
    have z3 : (bs s ++ ByteArray.mk #[32]).size ≤ 101 := by
      have e1 : (ByteArray.mk #[32]).size = 1 := rfl
      rw [ByteArray.size_append, e1]; omega
    clear h h0 hI hT hs hn
    go_enter Tryz.func99, Tryz.ntmps99
    go_wp2_with (first | (go_at_call 83; refine NT.out.mono ?_; rintro e w1 ⟨rfl, hb⟩) | fail)
    go_ret
    exact ⟨by rw [HR.out]; rfl, hb⟩
set_option maxHeartbeats 1000000 in
theorem l07Line_any {p : Option Addr} {c : Nat} {xs : List Int} (s : List UInt8) (w : World) (h : RdI w p xs) (hI : AllI xs) (hn : xs.length ≤ 1048576) (hs : s.length ≤ 100) :
    Calls Tryz.prog 95 #[.string (bs s), .slice p xs.length c] w fun e w' => e = .returned (.string (bs (spacedStr s xs ++ [10]))) ∧ Below w.heap.size w w' := by
  have e10 : (ByteArray.mk #[10]).size = 1 := rfl
  have e1 : (ByteArray.mk #[32]).size = 1 := rfl
  by_cases h0 : xs = []
  · subst h0
    have HR : Hid (bs (spacedStr s [] ++ [10]) = bs s ++ ⟨#[10]⟩) := by
      unfold Hid spacedStr
      rw [if_pos rfl, show (ByteArray.mk #[10]) = bs [10] from rfl, bs_app, List.append_nil]
    have z1 : (bs s).size ≤ 100 := by rw [bs_size]; exact hs
    clear hs
    go_enter Tryz.func95, Tryz.ntmps95
    go_wp2_with fail
    go_ret
    exact ⟨by rw [HR.out]; rfl, Below.refl _ _⟩
  · have NT := Lib.hid (l03Text_any (c := c) w h hI hn)
    have HR : Hid (bs (spacedStr s xs ++ [10]) = bs s ++ (⟨#[32]⟩ ++ bs (numStr xs)) ++ ⟨#[10]⟩) := by
      unfold Hid spacedStr
      rw [if_neg h0, show (ByteArray.mk #[32]) = bs [32] from rfl, show (ByteArray.mk #[10]) = bs [10] from rfl, bs_app, bs_app, bs_app]
      rfl
    have hl : (0 : Int) < (xs.length : Int) := by have := List.length_pos_iff.2 h0; omega
    have z1 : (bs s).size ≤ 100 := by rw [bs_size]; exact hs
    have z2 : (bs (numStr xs)).size ≤ 23068672 := by have := numStr_length hI; rw [bs_size]; omega
    have z3 : (ByteArray.mk #[32] ++ bs (numStr xs)).size ≤ 23068673 := by rw [ByteArray.size_append, e1]; omega
    have z4 : (bs s ++ (ByteArray.mk #[32] ++ bs (numStr xs))).size ≤ 23068773 := by rw [ByteArray.size_append]; omega
    clear h h0 hI hs hn e1
    go_enter Tryz.func95, Tryz.ntmps95
    go_wp2_with (first | (go_at_call 115; refine NT.out.mono ?_; rintro e w1 ⟨rfl, hb⟩) | fail)
    go_ret
    exact ⟨by rw [HR.out]; rfl, hb⟩
end Go.Proofs.YtdcacmmglkcliaaGreatDoor
