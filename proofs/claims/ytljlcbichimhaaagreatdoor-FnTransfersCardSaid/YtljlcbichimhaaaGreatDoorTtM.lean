/-
  Transfer functions as texts: the words of a text; no program in sight.
-/
import Derived.Test.YtljlcbichimhaaaGreatDoorTxtW
import Derived.Test.YtljlcbichimhaaaGreatDoorTrM
namespace Go.Proofs.YtljlcbichimhaaaGreatDoor
set_option linter.unusedVariables false
set_option linter.unusedSimpArgs false

theorem splitK_join : ∀ (ws : List (List UInt8)) (w : List UInt8), (32 : UInt8) ∉ w → (∀ v ∈ ws, (32 : UInt8) ∉ v) → Lib.splitK [32] 0 (Lib.count (Lib.join (w :: ws) [32]) [32]) (Lib.join (w :: ws) [32]) = w :: ws
  | [], w, hw, _ => by
    rw [Lib.join_one, Lib.count_miss (index_none w 32 hw)]
    rfl
  | v :: ws, w, hw, h => by
    have e : Lib.join (w :: v :: ws) [32] = w ++ 32 :: Lib.join (v :: ws) [32] := by
      rw [Lib.join_cons, Lib.join_cons]
      simp [Lib.joinTail]
    have hi := index_at w (Lib.join (v :: ws) [32]) 32 hw
    have ih := splitK_join ws v (h v (by simp)) fun u hu => h u (by simp [hu])
    rw [e, Lib.count_hit (by simp) hi]
    have ed : (w ++ 32 :: Lib.join (v :: ws) [32]).drop (w.length + [(32 : UInt8)].length) = Lib.join (v :: ws) [32] := by simp
    rw [ed, Nat.add_comm 1, Lib.splitK, if_neg (by rw [hi]; simp), hi]
    have et : ((w.length : Nat) : Int).toNat = w.length := by omega
    rw [et, ed, ih]
    simp
theorem bs_data (x : ByteArray) : bs x.data.toList = x := by
  unfold bs
  apply ByteArray.ext
  simp
/-- the words of joined words -/
theorem words_join {ws : List (List UInt8)} (h0 : ws ≠ []) (h : ∀ w ∈ ws, (32 : UInt8) ∉ w ∧ w ≠ []) : wordsB (bs (Lib.join ws [32])) = ws.map bs := by
  match ws, h0 with
  | w :: ws, _ =>
    have hk := splitK_join ws w (h w (by simp)).1 fun v hv => (h v (by simp [hv])).1
    have hp : (partsB (bs (Lib.join (w :: ws) [32]))).map (·.data.toList) = w :: ws := by
      unfold partsB
      rw [Lib.splitB_data]
      have : Lib.countB (bs (Lib.join (w :: ws) [32])) ⟨#[32]⟩ = Lib.count (Lib.join (w :: ws) [32]) [32] := by
        unfold Lib.countB
        rw [bs_list]
      rw [this, bs_list]
      exact hk
    have hpb : partsB (bs (Lib.join (w :: ws) [32])) = (w :: ws).map bs := by
      have key : ∀ P : List ByteArray, P = (P.map (·.data.toList)).map bs := fun P => by
        rw [List.map_map]
        conv => lhs; rw [← List.map_id P]
        exact List.map_congr_left fun x _ => (bs_data x).symm
      rw [key (partsB _), hp]
    unfold wordsB
    rw [hpb, List.filter_eq_self]
    intro x hx
    obtain ⟨v, hv, rfl⟩ := List.mem_map.1 hx
    have := (h v hv).2
    unfold nzB
    simp only [ne_eq, decide_eq_true_eq]
    intro e
    exact this (bs_inj (m := []) e)
theorem decsB_itoa : ∀ xs : List Int, (∀ x ∈ xs, small18 x) → decsB (xs.map fun x => bs (Lib.itoa x)) = some xs
  | [], _ => rfl
  | x :: xs, h => by
    have ih := decsB_itoa xs fun y hy => h y (by simp [hy])
    unfold decsB at ih ⊢
    rw [List.map_cons, List.mapM_cons, bs_list, readDec_itoa (h x (by simp)), ih]
    rfl
def numW : List UInt8 := [110, 117, 109]
def denW : List UInt8 := [100, 101, 110]
/-- the words of a transfer function's text -/
def wordsT (a b : List Int) : List (List UInt8) := (numW :: a.map Lib.itoa) ++ denW :: b.map Lib.itoa
/-- the text -/
def trStr (a b : List Int) : List UInt8 := [110, 117, 109, 32] ++ numStr a ++ [32, 100, 101, 110, 32] ++ numStr b
theorem joinTail_app (A B : List (List UInt8)) : Lib.joinTail [32] (A ++ B) = Lib.joinTail [32] A ++ Lib.joinTail [32] B := by simp [Lib.joinTail]
theorem join_step {A : List (List UInt8)} (x : List UInt8) (h : A ≠ []) : Lib.join (x :: A) [32] = x ++ 32 :: Lib.join A [32] := by
  obtain ⟨a, A, rfl⟩ := List.exists_cons_of_ne_nil h
  rw [Lib.join_cons, Lib.join_cons]
  simp [Lib.joinTail]
theorem join_app {A B : List (List UInt8)} (hA : A ≠ []) (hB : B ≠ []) : Lib.join (A ++ B) [32] = Lib.join A [32] ++ 32 :: Lib.join B [32] := by
  obtain ⟨a, A, rfl⟩ := List.exists_cons_of_ne_nil hA
  obtain ⟨b, B, rfl⟩ := List.exists_cons_of_ne_nil hB
  rw [List.cons_append, Lib.join_cons, Lib.join_cons, Lib.join_cons, joinTail_app]
  simp [Lib.joinTail]
theorem trStr_join {a b : List Int} (ha : a ≠ []) (hb : b ≠ []) : trStr a b = Lib.join (wordsT a b) [32] := by
  unfold trStr wordsT numStr
  have h1 : a.map Lib.itoa ≠ [] := by simpa using ha
  have h2 : b.map Lib.itoa ≠ [] := by simpa using hb
  rw [join_app (by simp) (by simp), join_step numW h1, join_step denW h2]
  simp [numW, denW]
theorem itoa_noB (n : Int) : (32 : UInt8) ∉ Lib.itoa n ∧ (100 : UInt8) ∉ Lib.itoa n ∧ Lib.itoa n ≠ [] := ⟨itoa_no (by decide), itoa_no (by decide), itoa_ne n⟩
theorem trStr_words {a b : List Int} (ha : a ≠ []) (hb : b ≠ []) : wordsB (bs (trStr a b)) = (wordsT a b).map bs := by
  rw [trStr_join ha hb]
  refine words_join (by simp [wordsT]) fun w hw => ?_
  unfold wordsT at hw
  simp only [List.mem_append, List.mem_cons, List.mem_map] at hw
  rcases hw with (rfl | ⟨n, -, rfl⟩) | rfl | ⟨n, -, rfl⟩
  · exact ⟨by decide, by decide⟩
  · exact ⟨(itoa_noB n).1, (itoa_noB n).2.2⟩
  · exact ⟨by decide, by decide⟩
  · exact ⟨(itoa_noB n).1, (itoa_noB n).2.2⟩
theorem itoa_noden (n : Int) : Lib.itoa n ≠ denW := fun h => (itoa_noB n).2.1 (by rw [h]; decide)
theorem wordsT_length (a b : List Int) : (wordsT a b).length = a.length + b.length + 2 := by simp [wordsT]; omega
theorem wordsT_den (a b : List Int) : (wordsT a b)[a.length + 1]? = some denW := by
  unfold wordsT
  rw [List.getElem?_append_right (by simp)]
  simp
theorem wordsT_noden {a b : List Int} {k : Nat} {x : List UInt8} (h : (wordsT a b)[k]? = some x) (hk : k ≠ a.length + 1) : x ≠ denW := by
  unfold wordsT at h
  by_cases h1 : k < a.length + 1
  · rw [List.getElem?_append_left (by simp; omega)] at h
    cases k with
    | zero => simp at h; subst h; decide
    | succ k =>
      simp only [List.getElem?_cons_succ, List.getElem?_map, Option.map_eq_some_iff] at h
      obtain ⟨n, -, rfl⟩ := h
      exact itoa_noden n
  · rw [List.getElem?_append_right (by simp; omega)] at h
    obtain ⟨j, hj⟩ : ∃ j, k - (numW :: a.map Lib.itoa).length = j + 1 := ⟨k - (a.length + 1) - 1, by simp; omega⟩
    rw [hj] at h
    simp only [List.getElem?_cons_succ, List.getElem?_map, Option.map_eq_some_iff] at h
    obtain ⟨n, -, rfl⟩ := h
    exact itoa_noden n
theorem wordsT_num (a b : List Int) : ((wordsT a b).drop 1).take a.length = a.map Lib.itoa := by
  unfold wordsT
  rw [List.cons_append, List.drop_succ_cons, List.drop_zero]
  have : a.length = (a.map Lib.itoa).length := by simp
  rw [this, List.take_left]
theorem wordsT_dens (a b : List Int) : (wordsT a b).drop (a.length + 2) = b.map Lib.itoa := by
  unfold wordsT
  have : a.length + 2 = (numW :: a.map Lib.itoa).length + 1 := by simp
  rw [this, List.drop_append]
  simp
theorem smp_small {x : Int} (h : isSmp x = true) : small18 x := by
  have := isSmp_iff.1 h
  unfold small18
  omega
theorem allS_I {xs : List Int} (h : AllS xs) : AllI xs := fun x hx => by
  have := isSmp_iff.1 (h x hx)
  unfold I64
  omega
theorem decsB_nums {xs : List Int} (h : AllS xs) : decsB ((xs.map Lib.itoa).map bs) = some xs := by
  rw [List.map_map]
  exact decsB_itoa xs fun x hx => smp_small (h x hx)
theorem trStr_size {a b : List Int} (ha : AllS a) (hb : AllS b) (hla : a.length ≤ 65) (hlb : b.length ≤ 65) : (numStr a).length ≤ 1430 ∧ (numStr b).length ≤ 1430 ∧ (bs (trStr a b)).size ≤ 3000 := by
  have h1 := numStr_length (allS_I ha)
  have h2 := numStr_length (allS_I hb)
  refine ⟨by omega, by omega, ?_⟩
  rw [bs_size]
  unfold trStr
  simp
  omega
end Go.Proofs.YtljlcbichimhaaaGreatDoor
