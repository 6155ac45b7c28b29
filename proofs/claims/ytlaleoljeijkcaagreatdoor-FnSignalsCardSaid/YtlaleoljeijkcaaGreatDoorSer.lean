/-
  Series: what is drawn, quotients: contracts.
-/
import Derived.Test.YtlaleoljeijkcaaGreatDoorPoly
import Derived.Test.YtlaleoljeijkcaaGreatDoorSeq
import Derived.BigQuiet
namespace Go.Proofs.YtlaleoljeijkcaaGreatDoor
open Go.ChangeShapes Go.WideShapes Go.ChangeAt Go.RowKit
set_option linter.unusedVariables false
set_option linter.unusedSimpArgs false

theorem OwnI.off {B g : Nat} {w w' : World} {v : Value} {xs : List Int} (h : OwnI B w v xs) (ho : Off (· = g) w w') (hg : g < B) : OwnI B w' v xs :=
  h.keep fun k hk => ho.block k (h.lt hk).2 (by have := (h.lt hk).1; show ¬ k = g; omega)
theorem Off.after {S : Nat → Prop} {w a b : World} (h : Off S w a) (hb : Below w.heap.size a b) : Off S w b :=
  ⟨hb.os.trans h.os, hb.tape.trans h.tape, hb.output.trans h.output, Nat.le_trans h.size hb.size, fun k hk hs => (hb.block k hk).trans (h.block k hk hs)⟩
theorem AllS.snoc {xs : List Int} (h : AllS xs) {x : Int} (hx : isSmp x = true) : AllS (xs ++ [x]) := by
  intro y hy
  rcases List.mem_append.1 hy with h1 | h1
  · exact h y h1
  · rw [List.mem_singleton.1 h1]; exact hx
/-- a polynomial of its own, drawn -/
def DrewP (n g m : Nat) (w : World) (e : Ending) (w' : World) : Prop := ∃ v ys, e = .returned v ∧ Canon ys ∧ AllS ys ∧ ys.length ≤ n + 1 ∧ OwnI w.heap.size w' v ys ∧ SrcAt w' g m ∧ Off (· = g) w w'
theorem zerosG_any (n : Nat) (w : World) (hn : n ≤ 1048576) :
    Calls Tryz.prog 24 #[.int .i64 n] w fun e w' => e = .returned (.slice (some ⟨w.heap.size, 0, none⟩) n n) ∧ OwnI w.heap.size w' (.slice (some ⟨w.heap.size, 0, none⟩) n n) (List.replicate n 0) ∧ Below w.heap.size w w' := by
  have hmk := fun w => run_make_row' (P := Tryz.prog) 24 2 (.int .i64 0) 8 Tryz.underlying24 infoI rfl .i64 .i64 n (by omega) (by omega) w
  have h0 := OwnI.made (B := w.heap.size) w n (Nat.le_refl _) (by unfold maxLen; omega)
  go_enter Tryz.func24, Tryz.ntmps24
  go_wp2_with fail
  go_ret
  exact ⟨rfl, h0, (Below.refl _ _).alloc (Nat.le_refl _) _⟩
theorem at_any {p : Option Addr} {c : Nat} {xs : List Int} (i : Nat) (w : World) (h : RdI w p xs) (hi : i ≤ 1048576) :
    Calls Tryz.prog 38 #[.slice p xs.length c, .int .i64 (i : Int)] w fun e w' => e = .returned (.int .i64 (xs.getD i 0)) ∧ w = w' := by
  have hl := h.len
  unfold maxLen at hl
  have SZ := Lib.hid (sizeI_any p xs.length c w h.len)
  by_cases h1 : i < xs.length
  · obtain ⟨b, o, rfl, hb, hc⟩ := h.pos h1
    have hck := hc i h1
    have HG : Hid (xs.getD i 0 = xs[i]) := by unfold Hid; rw [List.getD_eq_getElem?_getD, List.getElem?_eq_getElem h1]; rfl
    rw [HG.out]
    generalize xs[i] = x at hck
    clear hc
    go_enter Tryz.func38, Tryz.ntmps38
    go_wp2_with (go_at_call 25; refine SZ.out.mono ?_; rintro e w' ⟨rfl, rfl⟩)
    go_ret
    exact ⟨rfl, rfl⟩
  · have HG : Hid (xs.getD i 0 = 0) := by unfold Hid; rw [List.getD_eq_getElem?_getD, List.getElem?_eq_none (by omega)]; rfl
    rw [HG.out]
    go_enter Tryz.func38, Tryz.ntmps38
    go_wp2_with (go_at_call 25; refine SZ.out.mono ?_; rintro e w' ⟨rfl, rfl⟩)
    go_ret
    exact ⟨rfl, rfl⟩
end Go.Proofs.YtlaleoljeijkcaaGreatDoor
