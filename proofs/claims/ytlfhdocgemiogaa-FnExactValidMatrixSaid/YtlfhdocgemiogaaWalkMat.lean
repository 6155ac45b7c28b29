/-
  The walks of the exact laws on matrices and linear systems.
-/
import Derived.Test.YtlfhdocgemiogaaSeq
import Derived.Test.YtlfhdocgemiogaaLawsInt
namespace Go.Proofs.Ytlfhdocgemiogaa
open Go.ChangeShapes Go.WideShapes Go.ChangeAt Go.RowKit
set_option linter.unusedVariables false

theorem small_of_szLL {left : Int} {xss : List (List Int)} (h : ¬ szLL left xss < 0) (h0 : 0 ≤ left) : (xss.length : Int) + lens xss ≤ left := by
  unfold szLL at h
  split at h
  · omega
  · omega
theorem szLL_neg {left : Int} {xss : List (List Int)} (h : szLL left xss < 0) (h0 : 0 ≤ left) : szLL left xss = -1 := by
  unfold szLL at *
  split at h
  · rename_i h'; rw [if_pos h']
  · omega
theorem szLL_pos {left : Int} {xss : List (List Int)} (h : ¬ szLL left xss < 0) : szLL left xss = left - ((xss.length : Int) + lens xss) := by
  unfold szLL at *
  split at h
  · omega
  · rename_i h'; rw [if_neg h']
theorem len_le_lens {xss : List (List Int)} {xs : List Int} (h : xs ∈ xss) : xs.length ≤ lens xss := by
  induction xss with
  | nil => cases h
  | cons x r ih =>
    rw [lens_cons]
    cases List.mem_cons.1 h with
    | inl e => subst e; omega
    | inr e => have := ih e; omega

set_option maxHeartbeats 800000 in
theorem fnExactValidMatrix_walk {p : Option Addr} {c : Nat} {xss : List (List Int)} (w : World) (h : RdII w p xss) (ha : ∀ xs ∈ xss, AllI xs) :
    Calls Try.prog 3 #[.slice p xss.length c] w fun e w' => e = .returned (.bool true) ∧ Below w.heap.size w w' := by
  by_cases hs : szLL 1048576 xss < 0
  · have HS := Lib.hid (szLL_neg hs (by omega))
    clear hs
    go_enter Try.func3, Try.ntmps3
    go_wp2_with (go_at_call 11; refine (szInt64SS_any _ _ h (by omega) (by omega)).mono ?_; rintro e w' ⟨rfl, rfl⟩; rw [HS.out])
    go_ret
    exact ⟨rfl, Below.refl _ _⟩
  · have hsm := small_of_szLL hs (by omega)
    have h1 : xss.length ≤ 1099511627776 := by omega
    have h2 : Hid (∀ xs ∈ xss, xs.length ≤ 1099511627776) := fun xs hx => by have := len_le_lens hx; omega
    have hpos : 0 ≤ szLL 1048576 xss := by omega
    clear hs
    go_enter Try.func3, Try.ntmps3
    go_wp2_with (go_at_call 11; refine (szInt64SS_any _ _ h (by omega) (by omega)).mono ?_; rintro e w' ⟨rfl, rfl⟩)
    refine (toInt64SS_any _ h h1 h2.out).mono ?_
    rintro e w1 ⟨v1, L1, rfl, ho1, hb1⟩
    obtain ⟨p1, c1, rfl, hr1⟩ := ho1.rd
    go_wp2_with (go_at_call 12; refine (specValidMatrix_any _ hr1).mono ?_; rintro e w' ⟨rfl, rfl⟩)
    have h' := h.below hb1
    refine (toInt64SS_any _ h' h1 h2.out).mono ?_
    rintro e w2 ⟨v2, L2, rfl, ho2, hb2⟩
    obtain ⟨p2, c2, rfl, hr2⟩ := ho2.rd
    have hb12 := hb1.trans (hb2.mono hb1.size)
    have h'' := h.below hb12
    go_wp2_with (go_at_call 14; refine (implValidMatrix_any _ hr2).mono ?_; rintro e w' ⟨rfl, rfl⟩)
    refine (toInt64SS_any _ h'' h1 h2.out).mono ?_
    rintro e w3 ⟨v3, L3, rfl, ho3, hb3⟩
    obtain ⟨p3, c3, rfl, hr3⟩ := ho3.rd
    have hr2' := hr2.below hb3
    have hb13 := hb12.trans (hb3.mono hb12.size)
    go_wp2_with fail
    refine (eqInt64SS_any _ hr2' hr3).mono ?_
    rintro e w4 ⟨rfl, hd⟩
    go_wp2_with fail
    go_ret
    exact ⟨rfl, hb13.trans (hd.below _)⟩
end Go.Proofs.Ytlfhdocgemiogaa
