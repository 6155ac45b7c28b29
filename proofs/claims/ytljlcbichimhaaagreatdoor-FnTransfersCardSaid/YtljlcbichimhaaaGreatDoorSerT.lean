/-
  Series: validity.
-/
import Derived.Test.YtljlcbichimhaaaGreatDoorSer
namespace Go.Proofs.YtljlcbichimhaaaGreatDoor
open Go.ChangeShapes Go.WideShapes Go.ChangeAt Go.RowKit
set_option linter.unusedVariables false
set_option linter.unusedSimpArgs false

theorem isPoly_true {p : Option Addr} {c : Nat} {xs : List Int} (w : World) (h : RdI w p xs) (hc : Canon xs) (ha : AllS xs) (hl : xs.length ≤ 65) :
    Calls Tryz.prog 71 #[.slice p xs.length c] w fun e w' => e = .returned (.bool true) ∧ w = w' := by
  have hall : xs.all isSmp = true := by rw [List.all_eq_true]; exact ha
  have HA := Lib.hid (areSamples_any (c := c) w h)
  rw [hall] at HA
  obtain ⟨h1, h2⟩ := hc
  by_cases e1 : xs.length = 1
  · rw [e1] at HA ⊢
    clear h2 hall h1 hl ha h e1
    go_enter Tryz.func71, Tryz.ntmps71
    go_wp2_with (go_at_call 52; refine HA.out.mono ?_; rintro e w' ⟨rfl, rfl⟩)
    go_ret
    exact ⟨rfl, rfl⟩
  · obtain ⟨n, hn⟩ : ∃ n, xs.length = n + 2 := ⟨xs.length - 2, by omega⟩
    have h3 := h2.resolve_left e1
    obtain ⟨b, o, rfl, hb, hck⟩ := h.pos (k := n + 1) (by omega)
    have hcl := hck (n + 1) (by omega)
    rw [show xs.length - 1 = n + 1 by omega, List.getD_eq_getElem?_getD, List.getElem?_eq_getElem (by omega)] at h3
    have h4 : xs[n + 1]'(by omega) ≠ 0 := h3
    generalize xs[n + 1]'(by omega) = x at hcl h4
    have q2 : (x != 0) = true := by rw [bne_iff_ne]; exact h4
    have q : (((n : Int) + 2) == 1) = false := by rw [beq_eq_false_iff_ne]; omega
    have e2 : ((n : Int) + 2 - 1) = (n : Int) + 1 := by omega
    have e3 : ((n : Int) + 1).toNat = n + 1 := by omega
    have hn65 : n + 2 ≤ 65 := by omega
    rw [hn] at HA ⊢
    clear h2 h3 h4 hck hall h1 hl ha h e1 hn
    go_enter Tryz.func71, Tryz.ntmps71
    go_wp2_with (go_at_call 52; refine HA.out.mono ?_; rintro e w' ⟨rfl, rfl⟩)
    go_ret
    exact ⟨rfl, rfl⟩
end Go.Proofs.YtljlcbichimhaaaGreatDoor
