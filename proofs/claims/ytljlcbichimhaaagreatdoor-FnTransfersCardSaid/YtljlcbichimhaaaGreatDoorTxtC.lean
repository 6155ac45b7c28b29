/-
  The library's limit of short searches; a byte's place in a text; a text cut at a byte. (The same lemmas stand in XFrB: import one of the two.)
-/
import Derived.Test.YtljlcbichimhaaaGreatDoorShelf2
import Derived.Test.YtljlcbichimhaaaGreatDoorTxtM
import Derived.Test.YtljlcbichimhaaaGreatDoorOwn
import Derived.Lib.IndexMore
namespace Go.Proofs.YtljlcbichimhaaaGreatDoor
open Go.ChangeShapes Go.WideShapes Go.ChangeAt Go.RowKit Go.Sort
set_option linter.unusedVariables false
set_option linter.unusedSimpArgs false

/-- the library's limit of short searches holds some number -/
def TxtC (w : World) : Prop := ∃ m, w.cell? ⟨0, 0, none⟩ = some (.int .i64 m)
theorem TxtC.below {w w' : World} (h : TxtC w) (hb : Below w.heap.size w w') : TxtC w' := by
  obtain ⟨m, hm⟩ := h
  exact ⟨m, (hb.cell (World.block_lt_of_cell? w _ hm)).trans hm⟩
theorem txtC_of_shape {w : World} (h : w.ShapedOpen Tryz.prog) : TxtC w := Tryz.laysM146.s1_3 w h
theorem itoa_no {n : Int} {c : UInt8} (h : c.toNat < 45 ∨ (45 < c.toNat ∧ c.toNat < 48) ∨ 57 < c.toNat) : c ∉ Lib.itoa n := by
  intro hm
  unfold Lib.itoa at hm
  have key : ∀ u, c ∈ Lib.decDigits u → False := fun u hu => by
    have := decDigits_digit u c hu
    omega
  split at hm
  · rcases List.mem_cons.1 hm with rfl | hm
    · have : (45 : UInt8).toNat = 45 := rfl
      omega
    · exact key _ hm
  · exact key _ hm
theorem index_none : ∀ (l : List UInt8) (c : UInt8), c ∉ l → Lib.index l [c] = -1
  | [], c, _ => by simp [Lib.index]
  | b :: l, c, h => by
    have h1 : ¬ c = b := fun e => h (by simp [e])
    have h2 := index_none l c (fun e => h (by simp [e]))
    simp [Lib.index, List.isPrefixOf, h1, h2]
theorem index_at : ∀ (l r : List UInt8) (c : UInt8), c ∉ l → Lib.index (l ++ c :: r) [c] = l.length
  | [], r, c, _ => by simp [Lib.index, List.isPrefixOf]
  | b :: l, r, c, h => by
    have h1 : ¬ c = b := fun e => h (by simp [e])
    have h2 := index_at l r c (fun e => h (by simp [e]))
    have h3 : ¬ (l.length : Int) = -1 := by omega
    simp [Lib.index, List.isPrefixOf, h1, h2, h3]
theorem cut_none {l : List UInt8} {c : UInt8} (h : c ∉ l) : Lib.cut l [c] = (l, [], false) := by
  unfold Lib.cut
  rw [index_none l c h]
  rfl
theorem cut_at {l r : List UInt8} {c : UInt8} (h : c ∉ l) : Lib.cut (l ++ c :: r) [c] = (l, r, true) := by
  unfold Lib.cut
  rw [index_at l r c h, if_pos (by omega)]
  have e : ((l.length : Nat) : Int).toNat = l.length := by omega
  rw [e]
  simp
end Go.Proofs.YtljlcbichimhaaaGreatDoor
