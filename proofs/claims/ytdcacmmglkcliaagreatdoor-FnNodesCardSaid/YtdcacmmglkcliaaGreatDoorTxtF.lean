/-
  A node is read: the reference's side.
-/
import Derived.Test.YtdcacmmglkcliaaGreatDoorTxtG
namespace Go.Proofs.YtdcacmmglkcliaaGreatDoor
open Go.ChangeShapes Go.WideShapes Go.ChangeAt Go.RowKit Go.Sort
set_option linter.unusedVariables false
set_option linter.unusedSimpArgs false

def nodeRd (s : ByteArray) : NodeD := (readN s).getD ⟨0, 0, 0, []⟩
def okRd (s : ByteArray) : Bool := (readN s).isSome
/-- the node that was read, in memory of its own, and whether there is one -/
def RetNd (w : World) (s : ByteArray) (e : Ending) (w' : World) : Prop := ∃ u L, e = .returned (.tuple #[u, .bool (okRd s)]) ∧ OwnNode w.heap.size w' u (nodeRd s) L ∧ Dis L ∧ Below w.heap.size w w'
theorem retNd_none {w w' : World} {s : ByteArray} (h : readN s = none) (hb : Below w.heap.size w w') : RetNd w s (.returned (.tuple #[.agg #[.int .i64 0, .int .i64 0, .int .i64 0, .slice none 0 0], .bool false])) w' := by
  have h1 : okRd s = false := by unfold okRd; rw [h]; rfl
  have h2 : nodeRd s = ⟨0, 0, 0, []⟩ := by unfold nodeRd; rw [h]; rfl
  exact ⟨_, [.slice none 0 0], by rw [h1], by rw [h2]; exact ⟨_, _, rfl, rfl, OwnLI.nilu _ _⟩, List.pairwise_singleton _ _, hb⟩
theorem retNd_some {w w' : World} {s : ByteArray} {x : NodeD} {u : Value} (h : readN s = some x) (hu : OwnI w.heap.size w' u x.src) (hb : Below w.heap.size w w') : RetNd w s (.returned (.tuple #[.agg #[.int .i64 x.kind, .int .i64 x.a, .int .i64 x.b, u], .bool true])) w' := by
  have h1 : okRd s = true := by unfold okRd; rw [h]; rfl
  have h2 : nodeRd s = x := by unfold nodeRd; rw [h]; rfl
  exact ⟨_, [u], by rw [h1], by rw [h2]; exact ⟨u, _, rfl, rfl, hu, rfl⟩, List.pairwise_singleton _ _, hb⟩
theorem OwnI.typ {B : Nat} {w : World} {v : Value} {xs : List Int} (h : OwnI B w v xs) : OwnV B w 2 v (xs.map (Value.int .i64)) := by simpa [OwnV, OwnI] using h
theorem OwnV.notBox {B : Nat} {w : World} {E T : TypeId} {v : Value} {L cs : List Value} {g : Nat} (h : OwnV B w E v L) (hb : Box w g cs T) (hT : E ≠ T) : v.ownBlock ≠ Option.some g := by
  intro e
  rcases OwnV.cases h with ⟨rfl, -⟩ | ⟨k, cap, rfl, -, -, ⟨cur, hc⟩, -⟩
  · simp [Value.ownBlock] at e
  · have hk : k = g := by simpa [Value.ownBlock] using e
    subst hk
    unfold Box at hb
    rw [hc] at hb
    simp at hb
    exact hT hb.2
theorem OwnV.notOwn {B B' : Nat} {w : World} {E T : TypeId} {v u : Value} {L L' : List Value} (h : OwnV B w E v L) (h' : OwnV B' w T u L') (hT : E ≠ T) {k : Nat} (hk : v.ownBlock = Option.some k) : u.ownBlock ≠ Option.some k := by
  intro e
  rcases OwnV.cases h with ⟨rfl, -⟩ | ⟨k1, cap, rfl, -, -, ⟨cur, hc⟩, -⟩
  · simp [Value.ownBlock] at hk
  · rcases OwnV.cases h' with ⟨rfl, -⟩ | ⟨k2, cap', rfl, -, -, ⟨cur', hc'⟩, -⟩
    · simp [Value.ownBlock] at e
    · have e1 : k1 = k := by simpa [Value.ownBlock] using hk
      have e2 : k2 = k := by simpa [Value.ownBlock] using e
      subst e1 e2
      rw [hc] at hc'
      simp at hc'
      exact hT hc'.2
/-- while a node is read: the result's box, the node's box, its inputs, the words -/
structure RN (w0 w : World) (r g : Nat) (k a b : Int) (u : Value) (f : List Int) (uw : Value) (L : List Value) : Prop where
  res : Box w r [.int .i64 0, .int .i64 0, .int .i64 0, .slice none 0 0] 26
  box : Box w g [.int .i64 k, .int .i64 a, .int .i64 b, u] 26
  own : OwnI w0.heap.size w u f
  wd : OwnV w0.heap.size w 9 uw L
  bel : Below w0.heap.size w0 w
  hr : w0.heap.size ≤ r
  hg : r < g
section
variable {w0 w : World} {r g : Nat} {k a b : Int} {u : Value} {f : List Int} {uw : Value} {L : List Value}
theorem RN.below {w' : World} (h : RN w0 w r g k a b u f uw L) (hb : Below w.heap.size w w') : RN w0 w' r g k a b u f uw L :=
  ⟨h.res.below hb, h.box.below hb, h.own.below hb, h.wd.below hb, h.bel.trans (hb.mono h.bel.size), h.hr, h.hg⟩
theorem RN.setBox (h : RN w0 w r g k a b u f uw L) (i : Nat) (v : Value) : Box (w.setCell ⟨g, i, none⟩ v) r [.int .i64 0, .int .i64 0, .int .i64 0, .slice none 0 0] 26 ∧ OwnI w0.heap.size (w.setCell ⟨g, i, none⟩ v) u f ∧ OwnV w0.heap.size (w.setCell ⟨g, i, none⟩ v) 9 uw L ∧ Below w0.heap.size w0 (w.setCell ⟨g, i, none⟩ v) := by
  have n1 := h.own.typ.notBox h.box (by decide)
  have n2 := h.wd.notBox h.box (by decide)
  exact ⟨h.res.other (by show r ≠ g; have := h.hg; omega) _, h.own.keep fun j hj => Below.heap_setCell _ _ _ _ (fun e => n1 (by rw [hj, e])), h.wd.keep fun j hj => Below.heap_setCell _ _ _ _ (fun e => n2 (by rw [hj, e])), h.bel.setCell (p := ⟨g, i, none⟩) (by show w0.heap.size ≤ g; have := h.hr; have := h.hg; omega) _⟩
theorem RN.setA (h : RN w0 w r g k a b u f uw L) (n : Int) : RN w0 (w.setCell ⟨g, 1, none⟩ (.int .i64 n)) r g k n b u f uw L := by
  obtain ⟨h1, h2, h3, h4⟩ := h.setBox 1 (.int .i64 n)
  exact ⟨h1, by simpa using h.box.set 1 (.int .i64 n), h2, h3, h4, h.hr, h.hg⟩
theorem RN.setB (h : RN w0 w r g k a b u f uw L) (n : Int) : RN w0 (w.setCell ⟨g, 2, none⟩ (.int .i64 n)) r g k a n u f uw L := by
  obtain ⟨h1, h2, h3, h4⟩ := h.setBox 2 (.int .i64 n)
  exact ⟨h1, by simpa using h.box.set 2 (.int .i64 n), h2, h3, h4, h.hr, h.hg⟩
theorem RN.from (h : RN w0 w r g k a b u f uw L) {u' : Value} {f' : List Int} (hu : OwnI w0.heap.size w u' f') : RN w0 (w.setCell ⟨g, 3, none⟩ u') r g k a b u' f' uw L := by
  obtain ⟨h1, h2, h3, h4⟩ := h.setBox 3 u'
  have n1 := hu.typ.notBox h.box (by decide)
  exact ⟨h1, by simpa using h.box.set 3 u', hu.keep fun j hj => Below.heap_setCell _ _ _ _ (fun e => n1 (by rw [hj, e])), h3, h4, h.hr, h.hg⟩
theorem RN.grow (h : RN w0 w r g k a b u f uw L) {w' : World} {u' : Value} {f' : List Int} (hu : OwnI w0.heap.size w' u' f') (hk : ∀ j, j < w.heap.size → u.ownBlock ≠ Option.some j → w'.heap[j]? = w.heap[j]?) (hb : Below w0.heap.size w0 w') :
    (w'.cell? ⟨g, 3, none⟩ = Option.some u ∧ w'.frozen? ⟨g, 3, none⟩ = false) ∧ RN w0 (w'.setCell ⟨g, 3, none⟩ u') r g k a b u' f' uw L := by
  have n1 := h.own.typ.notBox h.box (by decide)
  have n3 := h.own.typ.notBox h.res (by decide)
  have bx := h.box.keep (hk g h.box.lt n1)
  have rs := h.res.keep (hk r h.res.lt n3)
  have wd : OwnV w0.heap.size w' 9 uw L := h.wd.keep fun j hj => hk j (h.wd.lt hj).2 (h.wd.notOwn h.own.typ (by decide) hj)
  have n1' := hu.typ.notBox bx (by decide)
  have n2 := wd.notBox bx (by decide)
  exact ⟨⟨bx.cell 3 rfl, bx.frozen 3⟩, rs.other (by show r ≠ g; have := h.hg; omega) _, by simpa using bx.set 3 u', hu.keep fun j hj => Below.heap_setCell _ _ _ _ (fun e => n1' (by rw [hj, e])), wd.keep fun j hj => Below.heap_setCell _ _ _ _ (fun e => n2 (by rw [hj, e])), hb.setCell (p := ⟨g, 3, none⟩) (by show w0.heap.size ≤ g; have := h.hr; have := h.hg; omega) _, h.hr, h.hg⟩
theorem RN.exit (h : RN w0 w r g k a b u f uw L) (x0 x1 x2 x3 : Value) :
    ∃ W', W' = (((w.setCell ⟨r, 0, none⟩ x0).setCell ⟨r, 1, none⟩ x1).setCell ⟨r, 2, none⟩ x2).setCell ⟨r, 3, none⟩ x3 ∧ Box W' r [x0, x1, x2, x3] 26 ∧ Below w0.heap.size w0 W' ∧ OwnI w0.heap.size W' u f := by
  have n3 := h.own.typ.notBox h.res (by decide)
  have b3 := (((h.res.set 0 x0).set 1 x1).set 2 x2).set 3 x3
  have hb : Below w0.heap.size w0 ((((w.setCell ⟨r, 0, none⟩ x0).setCell ⟨r, 1, none⟩ x1).setCell ⟨r, 2, none⟩ x2).setCell ⟨r, 3, none⟩ x3) :=
    (((h.bel.setCell (p := ⟨r, 0, none⟩) h.hr _).setCell (p := ⟨r, 1, none⟩) h.hr _).setCell (p := ⟨r, 2, none⟩) h.hr _).setCell (p := ⟨r, 3, none⟩) h.hr _
  refine ⟨_, rfl, by simpa using b3, hb, ?_⟩
  refine h.own.keep fun j hj => ?_
  have hne : j ≠ r := fun e => n3 (by rw [hj, e])
  exact (Below.heap_setCell _ _ _ _ hne).trans ((Below.heap_setCell _ _ _ _ hne).trans ((Below.heap_setCell _ _ _ _ hne).trans (Below.heap_setCell _ _ _ _ hne)))
theorem RN.pnode {c : Nat} {p : Option Addr} (h : RN w0 w r g k a b (.slice p f.length c) f uw L) : PNode w g 0 ⟨k, a, b, f⟩ := by
  obtain ⟨q, d, e, hr⟩ := h.own.rd
  obtain ⟨rfl, -, -⟩ := (Value.slice.injEq _ _ _ _ _ _).mp e
  exact PNode.box (x := ⟨k, a, b, f⟩) h.box hr
end
theorem not_of {x : ByteArray} (h : x ≠ ofB) : (x.toList == [111, 102]) = false := by
  rw [beq_eq_false_iff_ne]
  intro e
  apply h
  apply str_ext
  rw [e, ByteArray.toList_eq]
  rfl
set_option maxHeartbeats 8000000 in
set_option maxRecDepth 100000 in
theorem specReadNode_v {s : ByteArray} (w : World) (hs : s.size ≤ 1048576) :
    Calls Tryz.prog 48 #[.string s] w (RetNd w s) := by
  obtain ⟨P, hP⟩ : ∃ P, P = partsB s := ⟨_, rfl⟩
  have hP1 : 1 ≤ P.length := by rw [hP]; exact partsB_ne s
  have HPs : Hid (∀ x ∈ P, x.size ≤ 1048576) := fun x hx => by rw [hP] at hx; have := partsB_size hx; omega
  have hPl : P.length ≤ 1048577 := by rw [hP]; have := partsB_le s; omega
  obtain ⟨r, hr⟩ : ∃ r, r = w.heap.size := ⟨_, rfl⟩
  obtain ⟨E0, hE0⟩ : ∃ E, E = w.alloc (.cells #[.int .i64 0, .int .i64 0, .int .i64 0, .slice none 0 0] 26) := ⟨_, rfl⟩
  have hB0 : Below w.heap.size w E0 := by rw [hE0]; exact (Below.refl _ _).alloc (Nat.le_refl _) _
  have q0 : Box E0 r [.int .i64 0, .int .i64 0, .int .i64 0, .slice none 0 0] 26 := by rw [hE0, hr]; exact Box.newAt w [.int .i64 0, .int .i64 0, .int .i64 0, .slice none 0 0] _ rfl
  have SP := Lib.hid (l01Split_any s E0 hs)
  rw [← hP] at SP
  have KN : Hid (∀ x W, Calls Tryz.prog 90 #[.string x] W fun e w' => e = .returned (.int .i64 (kindNamed x)) ∧ Below W.heap.size W w') := fun x W => specKindNamed_any x W
  have LN : Hid (∀ W x, x ∈ P → Calls Tryz.prog 89 #[.string x] W fun e w' => e = .returned (decV x.data.toList) ∧ Below W.heap.size W w') := fun W x hx => l01Number_any x (HPs.out x hx) W
  have HNone : Hid (∀ W', readN s = none → Below w.heap.size w W' → RetNd w s (.returned (.tuple #[.agg #[.int .i64 0, .int .i64 0, .int .i64 0, .slice none 0 0], .bool false])) W') := fun W' h hb => retNd_none h hb
  have HSome : Hid (∀ W' x u, readN s = some x → OwnI w.heap.size W' u x.src → Below w.heap.size w W' → RetNd w s (.returned (.tuple #[.agg #[.int .i64 x.kind, .int .i64 x.a, .int .i64 x.b, u], .bool true])) W') := fun W' x u h hu hb => retNd_some h hu hb
  have HSN : Hid (specN s = match foldS 1 P.tail false 0 0 [] with
    | none => none
    | some (_, a, b, f) => if nodeB ⟨kindNamed (P.headD ⟨#[]⟩), a, b, f⟩ 4 = true ∧ bs (nodeStr ⟨kindNamed (P.headD ⟨#[]⟩), a, b, f⟩) = s then some ⟨kindNamed (P.headD ⟨#[]⟩), a, b, f⟩ else none) := by rw [hP]; rfl
  have HEQ : Hid (specN s = readN s) := specN_eq s
  have HE0 := Lib.hid hE0
  have HRR := Lib.hid hr
  generalize RetNd w s = RR at *
  clear hE0 hP hr
  go_enter Tryz.func48, Tryz.ntmps48
  go_upto_region 2 with (first | (go_at_call 46; rw [← HE0.out]; refine SP.out.mono ?_; rintro e E1 ⟨uw, rfl, hw1, hb1⟩) | fail)
  have hB1 := hB0.trans (hb1.mono hB0.size)
  have q1 := q0.below hb1
  rcases OwnV.cases hw1 with ⟨-, h0⟩ | ⟨gw, cw, rfl, hBw, hgw, -, hrd⟩
  · exfalso
    have : P = [] := by simpa [strB] using h0
    rw [this] at hP1
    simp at hP1
  have hlenP : (strB P).length = P.length := by simp [strB]
  rw [hlenP]
  obtain ⟨k0, W0, hP0⟩ : ∃ k0 W0, P = k0 :: W0 := by
    cases hPc : P with
    | nil => rw [hPc] at hP1; simp at hP1
    | cons x y => exact ⟨x, y, rfl⟩
  have hc0 : E1.cell? ⟨gw, 0, none⟩ = some (.string k0) := by
    rcases hrd.cells with h0 | ⟨b, o, e1, hc⟩
    · rw [h0] at hlenP; simp at hlenP; omega
    · simp only [Option.some.injEq, Addr.mk.injEq, and_true] at e1
      obtain ⟨rfl, rfl⟩ := e1
      rw [show (⟨gw, 0, none⟩ : Addr) = ⟨gw, 0 + 0, none⟩ from rfl, hc 0 (by rw [hlenP]; omega)]
      simp [strB, hP0]
  have HK0 : Hid (P.headD ⟨#[]⟩ = k0) := by rw [hP0]; rfl
  have HTl : Hid (P.tail = P.drop 1) := by rw [hP0]; rfl
  clear hP0 hrd
  go_upto_region 3 with (first | (go_at_call 90; refine (KN.out _ _).mono ?_; rintro e E2 ⟨rfl, hb2⟩) | fail)
  obtain ⟨g, hg⟩ : ∃ g, g = E2.heap.size + 1 := ⟨_, rfl⟩
  obtain ⟨E4, hE4⟩ : ∃ E, E = (E2.alloc (.cells #[] 2)).alloc (.cells #[.int .i64 (kindNamed k0), .int .i64 0, .int .i64 0, .slice (some ⟨E2.heap.size, 0, none⟩) 0 0] 26) := ⟨_, rfl⟩
  have hB2 := hB1.trans (hb2.mono hB1.size)
  have hwr : w.heap.size < E2.heap.size := by
    have h1 := (q1.below hb2).lt
    rw [HRR.out] at h1
    exact h1
  have R0 : RN w E4 r g (kindNamed k0) 0 0 (.slice (some ⟨E2.heap.size, 0, none⟩) 0 0) [] (.slice (some ⟨gw, 0, none⟩) (strB P).length cw) (strB P) := by
    have o := (OwnI.lit (B := w.heap.size) E2 [] hB2.size (by simp [maxLen]))
    have hs1 : (E2.alloc (.cells #[] 2)).heap.size = E2.heap.size + 1 := by simp
    rw [hE4, hg]
    refine ⟨((q1.below hb2).alloc _).alloc _, ?_, o.alloc _, ?_, (hB2.alloc hB2.size _).alloc (by rw [hs1]; omega) _, by rw [HRR.out]; exact Nat.le_refl _, by rw [HRR.out]; omega⟩
    · rw [← hs1]; exact Box.new _ [.int .i64 (kindNamed k0), .int .i64 0, .int .i64 0, .slice (some ⟨E2.heap.size, 0, none⟩) 0 0] _
    · exact ((hw1.mono hB0.size).below hb2).below (((Below.refl _ _).alloc (Nat.le_refl _) _).alloc (by simp) _)
  have HG := Lib.hid hg
  have HE4 := Lib.hid hE4
  have HR0 := Lib.hid R0
  clear R0 hE4 hw1 hb1 hb2 hB1 hB2 hB0 q0 q1 hc0
  rw [← HG.out, ← HE4.out, ← HRR.out]
  clear hg
  go_wp2_with fail
  go_loopw [6, 7] (fun of i wr => ∃ (k : Nat) (o : Bool) (a b : Int) (u : Value) (f : List Int), 1 ≤ k ∧ k ≤ P.length ∧ of = .bool o ∧ i = .int .i64 (k : Int) ∧ Hid (f.length ≤ k) ∧ Hid (foldS 1 P.tail false 0 0 [] = foldS k (P.drop k) o a b f) ∧ Hid (RN w wr r g (kindNamed k0) a b u f (.slice (some ⟨gw, 0, none⟩) (strB P).length cw) (strB P))) (fun _ i _ => ((P.length : Int) - intOf i).toNat)
  case atStart => exact ⟨1, false, 0, 0, _, [], Nat.le_refl _, hP1, rfl, rfl, by simp [Hid], by unfold Hid; rw [HTl.out], HR0⟩
  case round =>
    obtain ⟨k, o, a, b, u, f, hk1, hk, rfl, rfl, HFL, HF, HRN⟩ := hrel
    clear HR0
    have hgw2 : gw < wr.heap.size := (HRN.out.wd.lt (k := gw) rfl).2
    have n0 := HRN.out.res.cell 0 rfl
    by_cases hkt : k < P.length ∧ k < 7
    · obtain ⟨hkt, hk7⟩ := hkt
      have hck : wr.cell? ⟨gw, k, none⟩ = some (.string P[k]) := by
        rcases OwnV.cases HRN.out.wd with ⟨h0, -⟩ | ⟨gw', cw', h1, -, -, -, hrd⟩
        · cases h0
        · simp only [Value.slice.injEq, Option.some.injEq, Addr.mk.injEq, and_true, true_and] at h1
          obtain ⟨rfl, rfl⟩ := h1
          rcases hrd.cells with h0 | ⟨b, o, e1, hc⟩
          · rw [h0] at hlenP; simp at hlenP; omega
          · simp only [Option.some.injEq, Addr.mk.injEq, and_true] at e1
            obtain ⟨rfl, rfl⟩ := e1
            have := hc k (by rw [hlenP]; omega)
            rw [Nat.zero_add] at this
            rw [this]
            simp [strB]
      have HD : Hid (P.drop k = P[k] :: P.drop (k + 1)) := List.drop_eq_getElem_cons hkt
      have L1 := Lib.hid (fun W => LN.out W P[k] (List.getElem_mem hkt))
      generalize P[k] = x at hck HD L1
      by_cases hx : x = ofB
      · have hck' : wr.cell? ⟨gw, k, none⟩ = some (.string ⟨#[111, 102]⟩) := by rw [hck, hx]; rfl
        have HF2 : Hid (foldS 1 P.tail false 0 0 [] = foldS (k + 1) (P.drop (k + 1)) true a b f) := by
          unfold Hid; rw [HF.out, HD.out, foldS_of k _ _ _ _ _ _ hk7 hx]
        clear hck hx
        go_wp2_with fail
        go_roundw
        case rel => exact ⟨k + 1, true, a, b, u, f, by omega, by omega, rfl, by go_num, by have := HFL.out; unfold Hid; omega, HF2, HRN⟩
        case measure => simp [intOf] <;> omega
      · have hne := not_of hx
        cases hr : readDec x.data.toList with
        | none =>
          have hnone : readN s = none := by
            rw [← HEQ.out, HSN.out, HF.out, HD.out, foldS_none k _ _ _ _ _ _ hk7 hx hr]
          have L2 : Hid (∀ W, Calls Tryz.prog 89 #[.string x] W fun e w' => e = .returned (.tuple #[.int .i64 0, .bool false]) ∧ Below W.heap.size W w') := fun W => by rw [← decV_none hr]; exact L1.out W
          clear L1 hr hx HD
          go_upto_region 10 with (first | (go_at_call 89; refine (L2.out _).mono ?_; rintro e w1 ⟨rfl, hb⟩) | fail)
          have R1 := HRN.out.below hb
          have u0 := R1.res.cell 0 rfl
          have u1 := R1.res.cell 1 rfl
          have u2 := R1.res.cell 2 rfl
          have u3 := R1.res.cell 3 rfl
          have v0 := R1.res.frozen 0
          have v1 := R1.res.frozen 1
          have v2 := R1.res.frozen 2
          have v3 := R1.res.frozen 3
          obtain ⟨W', hW, bx, be, -⟩ := R1.exit (.int .i64 0) (.int .i64 0) (.int .i64 0) (.slice none 0 0)
          have k0' := bx.cell 0 rfl
          have k1' := bx.cell 1 rfl
          have k2' := bx.cell 2 rfl
          have k3' := bx.cell 3 rfl
          have FIN := Lib.hid (HNone.out W' hnone be)
          have HW := Lib.hid hW
          clear hW bx be
          go_wp2_with fail
          rw [← HW.out]
          refine bodyPost_ret (v := .tuple #[.agg #[.int .i64 0, .int .i64 0, .int .i64 0, .slice none 0 0], .bool false]) (by simp [results, Tryz.results48, go_sem, *]) rfl ?_
          exact FIN.out
        | some n =>
          have L2 : Hid (∀ W, Calls Tryz.prog 89 #[.string x] W fun e w' => e = .returned (.tuple #[.int .i64 n, .bool true]) ∧ Below W.heap.size W w') := fun W => by rw [← decV_some hr]; exact L1.out W
          have HF1 := foldS_some k x (P.drop (k + 1)) o a b f hk7 hx hr
          rw [← HD.out, ← HF.out] at HF1
          have HF1 := Lib.hid HF1
          clear L1 hr hx HD HF
          go_upto_region 10 with (first | (go_at_call 89; refine (L2.out _).mono ?_; rintro e w1 ⟨rfl, hb⟩) | fail)
          have R1 := HRN.out.below hb
          clear hck hgw2 n0 hb HRN
          cases o with
          | true =>
            have y3 := R1.box.cell 3 rfl
            have hown1 := R1.own
            have hb1 := R1.bel
            have hz1 := hb1.size
            have hLn : Hid (f.length < 17592186044415) := by have := HFL.out; unfold Hid; omega
            have HR1 := Lib.hid R1
            clear R1
            go_wp2_with (first
              | (at_builtin; refine wpList_append_one rfl _ _ rfl rfl hown1 rfl hb1 hLn.out hz1 (Nat.le_refl _) ?_; intro v' w2 ho2 hb2 hz2 hk2; obtain ⟨⟨t0, t1⟩, R2⟩ := HR1.out.grow ho2 hk2 hb2; obtain ⟨q', c', hv', -⟩ := ho2.rd; subst hv'; have HR2 := Lib.hid R2; clear R2)
              | fail)
            go_roundw
            case rel => exact ⟨k + 1, true, a, b, _, f ++ [n], by omega, by omega, rfl, by go_num, by have := HFL.out; unfold Hid; simp; omega, by have := HF1.out; rw [if_pos rfl] at this; exact this, by have := HR2; rw [List.length_append] at this; exact this⟩
            case measure => simp [intOf] <;> omega
          | false =>
            have HF1' : Hid (foldS 1 P.tail false 0 0 [] = if k = 1 then foldS (k + 1) (P.drop (k + 1)) false n b f else if k = 2 then foldS (k + 1) (P.drop (k + 1)) false a n f else foldS (k + 1) (P.drop (k + 1)) false a b f) := by
              have := HF1.out; rwa [if_neg (by decide)] at this
            have y1 := R1.box.cell 1 rfl
            have y2 := R1.box.cell 2 rfl
            have x1 := R1.box.frozen 1
            have x2 := R1.box.frozen 2
            have HR1 := Lib.hid R1
            clear R1 HF1
            by_cases h1 : k = 1
            · subst h1
              go_wp2_with fail
              go_roundw
              case rel => exact ⟨2, false, n, b, u, f, by omega, by omega, rfl, by go_num, by have := HFL.out; unfold Hid; omega, by have := HF1'.out; rw [if_pos rfl] at this; exact this, HR1.out.setA n⟩
              case measure => simp [intOf] <;> omega
            · by_cases h2 : k = 2
              · subst h2
                go_wp2_with fail
                go_roundw
                case rel => exact ⟨3, false, a, n, u, f, by omega, by omega, rfl, by go_num, by have := HFL.out; unfold Hid; omega, by have := HF1'.out; rw [if_neg (by decide), if_pos rfl] at this; exact this, HR1.out.setB n⟩
                case measure => simp [intOf] <;> omega
              · have i1 : ¬ (k : Int) = 1 := by omega
                have i2 : ¬ (k : Int) = 2 := by omega
                go_wp2_with fail
                go_roundw
                case rel => exact ⟨k + 1, false, a, b, u, f, by omega, by omega, rfl, by go_num, by have := HFL.out; unfold Hid; omega, by have := HF1'.out; rw [if_neg h1, if_neg h2] at this; exact this, HR1⟩
                case measure => simp [intOf] <;> omega
    · have hend : foldS 1 P.tail false 0 0 [] = some (o, a, b, f) := by
        rw [HF.out, foldS_end]
        by_cases h : k < P.length
        · exact .inr fun h7 => hkt ⟨h, h7⟩
        · exact .inl (List.drop_eq_nil_of_le (by omega))
      have hsp := HSN.out
      rw [hend, HEQ.out, HK0.out] at hsp
      simp only [] at hsp
      have HSP := Lib.hid hsp
      have hcs : ¬ k < P.length ∨ (k < P.length ∧ ¬ k < 7) := by omega
      obtain ⟨q, c, hu, -⟩ := HRN.out.own.rd
      subst hu
      have PN := HRN.out.pnode
      have OK := Lib.hid (l06Ok_any 4 wr PN)
      clear hend hsp hkt HF HFL
      cases hx : nodeB ⟨kindNamed k0, a, b, f⟩ 4
      · rw [hx] at OK
        have hnone : readN s = none := by rw [HSP.out, if_neg (by rw [hx]; simp)]
        rcases hcs with h | ⟨h, h7⟩
        all_goals
          go_upto_region 19 with (first | (go_at_call 25; refine OK.out.mono ?_; rintro e w1 ⟨rfl, hb⟩) | fail)
          have R1 := HRN.out.below hb
          have u0 := R1.res.cell 0 rfl
          have u1 := R1.res.cell 1 rfl
          have u2 := R1.res.cell 2 rfl
          have u3 := R1.res.cell 3 rfl
          have v0 := R1.res.frozen 0
          have v1 := R1.res.frozen 1
          have v2 := R1.res.frozen 2
          have v3 := R1.res.frozen 3
          obtain ⟨W', hW, bx, be, -⟩ := R1.exit (.int .i64 0) (.int .i64 0) (.int .i64 0) (.slice none 0 0)
          have k0' := bx.cell 0 rfl
          have k1' := bx.cell 1 rfl
          have k2' := bx.cell 2 rfl
          have k3' := bx.cell 3 rfl
          have FIN := Lib.hid (HNone.out W' hnone be)
          have HW := Lib.hid hW
          clear hW bx be
          go_wp2_with fail
          rw [← HW.out]
          refine bodyPost_ret (v := .tuple #[.agg #[.int .i64 0, .int .i64 0, .int .i64 0, .slice none 0 0], .bool false]) (by simp [results, Tryz.results48, go_sem, *]) rfl ?_
          exact FIN.out
      · rw [hx] at OK
        have TX : Hid (∀ W, Below wr.heap.size wr W → Calls Tryz.prog 91 #[.pointer (some ⟨g, 0, none⟩)] W fun e w' => e = .returned (.string (bs (nodeStr ⟨kindNamed k0, a, b, f⟩))) ∧ Below W.heap.size W w') := fun W hW => l06Text_v W (PN.below hW) hx
        by_cases hq : bs (nodeStr ⟨kindNamed k0, a, b, f⟩) = s
        · have hsome : readN s = some ⟨kindNamed k0, a, b, f⟩ := by rw [HSP.out, if_pos ⟨hx, hq⟩]
          rw [hq] at TX
          clear hq
          rcases hcs with h | ⟨h, h7⟩
          all_goals
            go_upto_region 20 with (first | (go_at_call 25; refine OK.out.mono ?_; rintro e w1 ⟨rfl, hb⟩) | (go_at_call 91; refine (TX.out _ hb).mono ?_; rintro e w2 ⟨rfl, hb2⟩) | fail)
            have R1 := (HRN.out.below hb).below hb2
            have u0 := R1.res.cell 0 rfl
            have u1 := R1.res.cell 1 rfl
            have u2 := R1.res.cell 2 rfl
            have u3 := R1.res.cell 3 rfl
            have v0 := R1.res.frozen 0
            have v1 := R1.res.frozen 1
            have v2 := R1.res.frozen 2
            have v3 := R1.res.frozen 3
            have y0 := R1.box.cell 0 rfl
            have y1 := R1.box.cell 1 rfl
            have y2 := R1.box.cell 2 rfl
            have y3 := R1.box.cell 3 rfl
            obtain ⟨W', hW, bx, be, ou⟩ := R1.exit (.int .i64 (kindNamed k0)) (.int .i64 a) (.int .i64 b) (.slice q f.length c)
            have k0' := bx.cell 0 rfl
            have k1' := bx.cell 1 rfl
            have k2' := bx.cell 2 rfl
            have k3' := bx.cell 3 rfl
            have FIN := Lib.hid (HSome.out W' ⟨kindNamed k0, a, b, f⟩ _ hsome ou be)
            have HW := Lib.hid hW
            clear hW bx be ou
            go_wp2_with fail
            rw [← HW.out]
            refine bodyPost_ret (v := .tuple #[.agg #[.int .i64 (kindNamed k0), .int .i64 a, .int .i64 b, .slice q f.length c], .bool true]) (by simp [results, Tryz.results48, go_sem, *]) rfl ?_
            exact FIN.out
        · have hnone : readN s = none := by rw [HSP.out, if_neg fun h => hq h.2]
          have hqb := str_beq_false hq
          generalize bs (nodeStr ⟨kindNamed k0, a, b, f⟩) = ST at hqb TX
          clear hq
          rcases hcs with h | ⟨h, h7⟩
          all_goals
            go_upto_region 19 with (first | (go_at_call 25; refine OK.out.mono ?_; rintro e w1 ⟨rfl, hb⟩) | (go_at_call 91; refine (TX.out _ hb).mono ?_; rintro e w2 ⟨rfl, hb2⟩) | fail)
            have R1 := (HRN.out.below hb).below hb2
            have u0 := R1.res.cell 0 rfl
            have u1 := R1.res.cell 1 rfl
            have u2 := R1.res.cell 2 rfl
            have u3 := R1.res.cell 3 rfl
            have v0 := R1.res.frozen 0
            have v1 := R1.res.frozen 1
            have v2 := R1.res.frozen 2
            have v3 := R1.res.frozen 3
            obtain ⟨W', hW, bx, be, -⟩ := R1.exit (.int .i64 0) (.int .i64 0) (.int .i64 0) (.slice none 0 0)
            have k0' := bx.cell 0 rfl
            have k1' := bx.cell 1 rfl
            have k2' := bx.cell 2 rfl
            have k3' := bx.cell 3 rfl
            have FIN := Lib.hid (HNone.out W' hnone be)
            have HW := Lib.hid hW
            clear hW bx be
            go_wp2_with fail
            rw [← HW.out]
            refine bodyPost_ret (v := .tuple #[.agg #[.int .i64 0, .int .i64 0, .int .i64 0, .slice none 0 0], .bool false]) (by simp [results, Tryz.results48, go_sem, *]) rfl ?_
            exact FIN.out
end Go.Proofs.YtdcacmmglkcliaaGreatDoor
