/-
  The text of a node: contracts of both sides.
-/
import Derived.Test.YtdcacmmglkcliaaGreatDoorTxtO
namespace Go.Proofs.YtdcacmmglkcliaaGreatDoor
open Go.ChangeShapes Go.WideShapes Go.ChangeAt Go.RowKit Go.Sort
set_option linter.unusedVariables false

def nodeRes (x : NodeD) : ByteArray := if nodeB x 4 = true then bs (nodeStr x) else ⟨#[]⟩
theorem nodeB_kind {x : NodeD} {t : Int} (h : nodeB x t = true) : ∃ i : Nat, i < 17 ∧ x.kind = (i : Int) + 1 := by
  unfold nodeB at h
  simp only [Bool.and_eq_true] at h
  exact kind_of_in h.1.1.1.1
theorem nodeText_v {v : Value} {x : NodeD} {t : Int} (w : World) (h : VNode w v x) (hx : nodeB x t = true) (hT : TxtT w) :
    Calls Tryz.prog 40 #[v] w fun e w' => e = .returned (.string (bs (nodeStr x))) ∧ Below w.heap.size w w' := by
  obtain ⟨p, c, rfl, hr⟩ := h
  obtain ⟨h1, h2, h3, h4⟩ := nodeB_bounds hx
  obtain ⟨i, hi, he⟩ := nodeB_kind hx
  obtain ⟨k, a, b, src⟩ := x
  simp only at he hr h1 h2 h3 h4
  subst he
  have e : ((i : Int) + 1 - 1).toNat = i := by omega
  have := nodeText_in (c := c) i hi a b w hr h1 h2 h3 h4 hT
  unfold nodeStr
  simp only [e]
  exact this
theorem l06Text_v {b o : Nat} {x : NodeD} {t : Int} (w : World) (h : PNode w b o x) (hx : nodeB x t = true) :
    Calls Tryz.prog 91 #[.pointer (some ⟨b, o, none⟩)] w fun e w' => e = .returned (.string (bs (nodeStr x))) ∧ Below w.heap.size w w' := by
  obtain ⟨h1, h2, h3, h4⟩ := nodeB_bounds hx
  obtain ⟨i, hi, he⟩ := nodeB_kind hx
  obtain ⟨k, a, b', src⟩ := x
  simp only at he h1 h2 h3 h4
  subst he
  have e : ((i : Int) + 1 - 1).toNat = i := by omega
  have := l06Text_in i hi a b' w h h1 h2 h3 h4
  unfold nodeStr
  simp only [e]
  exact this
theorem implNodeText_v {v : Value} {x : NodeD} (w : World) (h : VNode w v x) (hT : TxtT w) :
    Calls Tryz.prog 9 #[v] w fun e w' => e = .returned (.string (nodeRes x)) ∧ Below w.heap.size w w' := by
  have hv := h
  obtain ⟨p, c, rfl, hr⟩ := hv
  obtain ⟨E0, hE0⟩ : ∃ E, E = w.alloc (.cells #[.int .i64 x.kind, .int .i64 x.a, .int .i64 x.b, .slice p x.src.length c] 26) := ⟨_, rfl⟩
  have hB0 : Below w.heap.size w E0 := by rw [hE0]; exact (Below.refl _ _).alloc (Nat.le_refl _) _
  have ba : Box E0 w.heap.size [.int .i64 x.kind, .int .i64 x.a, .int .i64 x.b, .slice p x.src.length c] 26 := by rw [hE0]; exact Box.newAt w [.int .i64 x.kind, .int .i64 x.a, .int .i64 x.b, .slice p x.src.length c] _ rfl
  have HE0 := Lib.hid hE0
  have z0 := ba.cell 0 rfl
  have z1 := ba.cell 1 rfl
  have z2 := ba.cell 2 rfl
  have z3 := ba.cell 3 rfl
  clear hE0
  have ON := Lib.hid (isNode_v 4 E0 (h.below hB0))
  cases hx : nodeB x 4
  · rw [hx] at ON
    have HR : Hid (nodeRes x = ⟨#[]⟩) := by unfold Hid nodeRes; rw [if_neg (by rw [hx]; decide)]
    go_enter Tryz.func9, Tryz.ntmps9
    go_upto_region 1 with fail
    rw [← HE0.out]
    go_wp2_with (first | (go_at_call 31; refine ON.out.mono ?_; rintro e w1 ⟨rfl, hb⟩) | fail)
    go_ret
    exact ⟨by rw [HR.out]; rfl, hB0.trans (hb.mono hB0.size)⟩
  · rw [hx] at ON
    have HR : Hid (nodeRes x = bs (nodeStr x)) := by unfold Hid nodeRes; rw [if_pos hx]
    have NT : Hid (∀ W, Below E0.heap.size E0 W → Calls Tryz.prog 40 #[.agg #[.int .i64 x.kind, .int .i64 x.a, .int .i64 x.b, .slice p x.src.length c]] W fun e w' => e = .returned (.string (bs (nodeStr x))) ∧ Below W.heap.size W w') := fun W hW => nodeText_v W ((h.below hB0).below hW) hx ((hT.below hB0).below hW)
    go_enter Tryz.func9, Tryz.ntmps9
    go_upto_region 1 with fail
    rw [← HE0.out]
    go_wp2_with (first | (go_at_call 31; refine ON.out.mono ?_; rintro e w1 ⟨rfl, hb⟩; have bb := ba.below hb; have y0 := bb.cell 0 rfl; have y1 := bb.cell 1 rfl; have y2 := bb.cell 2 rfl; have y3 := bb.cell 3 rfl) | (go_at_call 40; refine (NT.out _ hb).mono ?_; rintro e w2 ⟨rfl, hb2⟩) | fail)
    go_ret
    exact ⟨by rw [HR.out]; rfl, hB0.trans ((hb.trans (hb2.mono hb.size)).mono hB0.size)⟩
end Go.Proofs.YtdcacmmglkcliaaGreatDoor
