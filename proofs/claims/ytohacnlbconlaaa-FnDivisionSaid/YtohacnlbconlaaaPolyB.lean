/-
  Polynomials on the program's side: sums and differences: contracts.
-/
import Derived.Test.YtohacnlbconlaaaPolyA
namespace Go.Proofs.Ytohacnlbconlaaa
open Go.ChangeShapes Go.WideShapes Go.ChangeAt Go.RowKit
set_option linter.unusedVariables false

theorem atl_smp (a b : List Int) (f : Int) (n : Nat) : AllS (atl a b f n) := by
  intro x hx
  unfold atl at hx
  obtain ⟨j, -, rfl⟩ := List.mem_map.1 hx
  exact smp_isSmp _
def PolyV (xs : List Int) : Prop := Canon xs ∧ AllS xs ∧ xs.length ≤ 65
set_option maxHeartbeats 800000 in
theorem addPoly_any {u v : Value} {a b : List Int} (w : World) (h : RdP w u a) (h' : RdP w v b) (ha : PolyV a) (hb : PolyV b) :
    Calls Try.prog 17 #[u, v] w fun e w' => ∃ x, e = .returned (.tuple #[x, .int .i64 0]) ∧ OwnI w.heap.size w' x (trimL (atl a b 1 (max a.length b.length))) ∧ Below w.heap.size w w' := by
  obtain ⟨p, c, rfl, hr, hc⟩ := h
  obtain ⟨q, d, rfl, hr', hc'⟩ := h'
  have hB : Below w.heap.size w (w.alloc (.cells #[.slice p a.length c, .slice q b.length d] 24)) := (Below.refl _ _).alloc (Nat.le_refl _) _
  have AP := Lib.hid (arePolys_true (c := 2) _ (rdII_two hr hr' hc hc') (by
    intro xs hxs
    simp only [List.mem_cons, List.not_mem_nil, or_false] at hxs
    rcases hxs with rfl | rfl
    · exact ha
    · exact hb))
  have AT := Lib.hid (addTimes_any (c := c) (d := d) 1 _ (hr.below hB) (hr'.below hB) (by have := ha.2.2; omega) (by have := hb.2.2; omega) (.inl rfl) ha.2.1 hb.2.1)
  have HLn : Hid (max a.length b.length ≤ 65) := by have := ha.2.2; have := hb.2.2; unfold Hid; omega
  generalize hE : (w.alloc (.cells #[.slice p a.length c, .slice q b.length d] 24)) = E at *
  have HE := Lib.hid hE
  clear hE ha hb
  go_enter Try.func17, Try.ntmps17
  go_wp2_with fail
  rw [HE.out]
  refine AP.out.mono ?_
  rintro e w' ⟨rfl, rfl⟩
  go_wp2_with fail
  refine AT.out.mono ?_
  rintro e w2 ⟨x, rfl, ho, hb2⟩
  have hl : (atl a b 1 (max a.length b.length)).length ≤ 65 := by rw [atl_length]; exact HLn.out
  have hv := ho.rdP
  obtain ⟨xp, xc, rfl, xr, xcap⟩ := hv
  go_wp2_with fail
  refine (trim_any (c := xc) w2 xr (by omega) xcap).mono ?_
  rintro e w3 ⟨y, rfl, ho3, hb3⟩
  go_wp2_with fail
  refine bodyPost_ret (v := .tuple #[y, .int .i64 0]) (by simp [results, Try.results17, go_sem, *]) rfl ⟨_, rfl, ho3.mono (Nat.le_trans hB.size hb2.size), (hB.trans (hb2.mono hB.size)).trans (hb3.mono (Nat.le_trans hB.size hb2.size))⟩
set_option maxHeartbeats 800000 in
theorem subPoly_any {u v : Value} {a b : List Int} (w : World) (h : RdP w u a) (h' : RdP w v b) (ha : PolyV a) (hb : PolyV b) :
    Calls Try.prog 18 #[u, v] w fun e w' => ∃ x, e = .returned (.tuple #[x, .int .i64 0]) ∧ OwnI w.heap.size w' x (trimL (atl a b (-1) (max a.length b.length))) ∧ Below w.heap.size w w' := by
  obtain ⟨p, c, rfl, hr, hc⟩ := h
  obtain ⟨q, d, rfl, hr', hc'⟩ := h'
  have hB : Below w.heap.size w (w.alloc (.cells #[.slice p a.length c, .slice q b.length d] 24)) := (Below.refl _ _).alloc (Nat.le_refl _) _
  have AP := Lib.hid (arePolys_true (c := 2) _ (rdII_two hr hr' hc hc') (by
    intro xs hxs
    simp only [List.mem_cons, List.not_mem_nil, or_false] at hxs
    rcases hxs with rfl | rfl
    · exact ha
    · exact hb))
  have AT := Lib.hid (addTimes_any (c := c) (d := d) (-1) _ (hr.below hB) (hr'.below hB) (by have := ha.2.2; omega) (by have := hb.2.2; omega) (.inr rfl) ha.2.1 hb.2.1)
  have HLn : Hid (max a.length b.length ≤ 65) := by have := ha.2.2; have := hb.2.2; unfold Hid; omega
  generalize hE : (w.alloc (.cells #[.slice p a.length c, .slice q b.length d] 24)) = E at *
  have HE := Lib.hid hE
  clear hE ha hb
  go_enter Try.func18, Try.ntmps18
  go_wp2_with fail
  rw [HE.out]
  refine AP.out.mono ?_
  rintro e w' ⟨rfl, rfl⟩
  go_wp2_with fail
  refine AT.out.mono ?_
  rintro e w2 ⟨x, rfl, ho, hb2⟩
  have hl : (atl a b (-1) (max a.length b.length)).length ≤ 65 := by rw [atl_length]; exact HLn.out
  have hv := ho.rdP
  obtain ⟨xp, xc, rfl, xr, xcap⟩ := hv
  go_wp2_with fail
  refine (trim_any (c := xc) w2 xr (by omega) xcap).mono ?_
  rintro e w3 ⟨y, rfl, ho3, hb3⟩
  go_wp2_with fail
  refine bodyPost_ret (v := .tuple #[y, .int .i64 0]) (by simp [results, Try.results18, go_sem, *]) rfl ⟨_, rfl, ho3.mono (Nat.le_trans hB.size hb2.size), (hB.trans (hb2.mono hB.size)).trans (hb3.mono (Nat.le_trans hB.size hb2.size))⟩
theorem told_any (p : Option Addr) (n c : Nat) (w : World) (hn : n ≤ 65) :
    Calls Try.prog 48 #[.slice p n c] w fun e w' => e = .returned (.tuple #[.slice p n c, .int .i64 0]) ∧ w = w' := by
  go_enter Try.func48, Try.ntmps48
  go_wp2_with fail
  refine bodyPost_ret (v := .tuple #[.slice p n c, .int .i64 0]) (by simp [results, Try.results48, go_sem, *]) rfl ⟨rfl, rfl⟩
end Go.Proofs.Ytohacnlbconlaaa
