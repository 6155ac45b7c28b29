/-
  Texts parted again (for seats without nodes).
-/
import Derived.Test.YtlaleoljeijkcaaGreatDoorTxtW
namespace Go.Proofs.YtlaleoljeijkcaaGreatDoor
set_option linter.unusedVariables false
set_option linter.unusedSimpArgs false

theorem splitK_join : ∀ (ws : List (List UInt8)) (w : List UInt8), (32 : UInt8) ∉ w → (∀ v ∈ ws, (32 : UInt8) ∉ v) → Lib.splitK [32] 0 (Lib.count (Lib.join (w :: ws) [32]) [32]) (Lib.join (w :: ws) [32]) = w :: ws
  | [], w, hw, _ => by
    rw [Lib.join_one, Lib.count_miss (index_none w 32 hw)]
    rfl
  | v :: ws, w, hw, h => by
    have e : Lib.join (w :: v :: ws) [32] = w ++ 32 :: Lib.join (v :: ws) [32] := by
      rw [Lib.join_cons, Lib.join_cons]
      simp [Lib.joinTail]
    have hi := index_at w (Lib.join (v :: ws) [32]) 32 hw
    have ih := splitK_join ws v (h v (by simp)) fun u hu => h u (by simp [hu])
    rw [e, Lib.count_hit (by simp) hi]
    have ed : (w ++ 32 :: Lib.join (v :: ws) [32]).drop (w.length + [(32 : UInt8)].length) = Lib.join (v :: ws) [32] := by simp
    rw [ed, Nat.add_comm 1, Lib.splitK, if_neg (by rw [hi]; simp), hi]
    have et : ((w.length : Nat) : Int).toNat = w.length := by omega
    rw [et, ed, ih]
    simp
theorem bs_data (x : ByteArray) : bs x.data.toList = x := by
  unfold bs
  apply ByteArray.ext
  simp
theorem words_join {ws : List (List UInt8)} (h0 : ws ≠ []) (h : ∀ w ∈ ws, (32 : UInt8) ∉ w ∧ w ≠ []) : wordsB (bs (Lib.join ws [32])) = ws.map bs := by
  match ws, h0 with
  | w :: ws, _ =>
    have hk := splitK_join ws w (h w (by simp)).1 fun v hv => (h v (by simp [hv])).1
    have hp : (partsB (bs (Lib.join (w :: ws) [32]))).map (·.data.toList) = w :: ws := by
      unfold partsB
      rw [Lib.splitB_data]
      have : Lib.countB (bs (Lib.join (w :: ws) [32])) ⟨#[32]⟩ = Lib.count (Lib.join (w :: ws) [32]) [32] := by
        unfold Lib.countB
        rw [bs_list]
      rw [this, bs_list]
      exact hk
    have hpb : partsB (bs (Lib.join (w :: ws) [32])) = (w :: ws).map bs := by
      have key : ∀ P : List ByteArray, P = (P.map (·.data.toList)).map bs := fun P => by
        rw [List.map_map]
        conv => lhs; rw [← List.map_id P]
        exact List.map_congr_left fun x _ => (bs_data x).symm
      rw [key (partsB _), hp]
    unfold wordsB
    rw [hpb, List.filter_eq_self]
    intro x hx
    obtain ⟨v, hv, rfl⟩ := List.mem_map.1 hx
    have := (h v hv).2
    unfold nzB
    simp only [ne_eq, decide_eq_true_eq]
    intro e
    exact this (bs_inj (m := []) e)
theorem itoa_ok (n : Int) : (32 : UInt8) ∉ Lib.itoa n ∧ Lib.itoa n ≠ [] := ⟨itoa_no (by decide), itoa_ne n⟩
theorem decsB_itoa : ∀ xs : List Int, (∀ x ∈ xs, small18 x) → decsB (xs.map fun x => bs (Lib.itoa x)) = some xs
  | [], _ => rfl
  | x :: xs, h => by
    have ih := decsB_itoa xs fun y hy => h y (by simp [hy])
    unfold decsB at ih ⊢
    rw [List.map_cons, List.mapM_cons, bs_list, readDec_itoa (h x (by simp)), ih]
    rfl
end Go.Proofs.YtlaleoljeijkcaaGreatDoor
