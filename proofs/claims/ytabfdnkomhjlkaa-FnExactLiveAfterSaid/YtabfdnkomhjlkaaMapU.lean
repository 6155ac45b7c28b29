/-
  Maps that a call makes: from numbers to numbers and to truth values, told as functions.
-/
import Derived.Test.YtabfdnkomhjlkaaPvM
import Derived.Maps.RangeWalk
namespace Go.Proofs.Ytabfdnkomhjlkaa
open Go.ChangeShapes Go.WideShapes Go.ChangeAt Go.RowKit Go.Maps
set_option linter.unusedVariables false
set_option linter.unusedSimpArgs false

abbrev Wf (y : Int) : Prop := (Lit.int .i64 y).wf = true
theorem wf_of {y : Int} (h0 : -9223372036854775808 ≤ y) (h1 : y ≤ 9223372036854775807) : Wf y := by
  simp [Wf, Lit.wf, IntKind.min, IntKind.max, IntKind.signed, IntKind.bits]; omega
theorem keyedI : Keyed Try.prog 2 := int_keyed Try.underlying2
theorem zeroI (w : World) : (zeroValue 2).run Try.prog w = .ok (.int .i64 0) w := by kernel_rfl
theorem zeroBo (w : World) : (zeroValue 4).run Try.prog w = .ok (.bool false) w := by kernel_rfl
theorem keyI {y : Int} (h : Wf y) : keyOf Try.prog 2 (.int .i64 y) = some (.int .i64 y) := keyOf_int_mk Try.underlying2 h
/-- block b is a map of at most n entries that gives f -/
def MapI (w : World) (b n : Nat) (f : Int → Int) : Prop := ∃ D : DataW Unit, w.ownsMap Try.prog 2 (plainElem Try.prog 2) b n D ∧ ∀ y, Wf y → D.atKey (.int .i64 y) (.lit (.int .i64 0)) = .lit (.int .i64 (f y))
def MapB (w : World) (b n : Nat) (f : Int → Bool) : Prop := ∃ D : DataW Unit, w.ownsMap Try.prog 2 (plainElem Try.prog 4) b n D ∧ ∀ y, Wf y → D.atKey (.int .i64 y) (.lit (.bool false)) = .lit (.bool (f y))
theorem MapI.lt {w : World} {b n : Nat} {f : Int → Int} (h : MapI w b n f) : b < w.heap.size := by obtain ⟨D, h, _⟩ := h; exact h.lt
theorem MapB.lt {w : World} {b n : Nat} {f : Int → Bool} (h : MapB w b n f) : b < w.heap.size := by obtain ⟨D, h, _⟩ := h; exact h.lt
theorem owns_keep {H : Type} {P : Program} {k : TypeId} {R : Value → Option (DataW H × List MemPlace)} {w w' : World} {b n : Nat} {D : DataW H} (h : w.ownsMap P k R b n D) (hk : w'.heap[b]? = w.heap[b]?) : w'.ownsMap P k R b n D := by
  obtain ⟨es, clock, hb, r⟩ := h
  exact ⟨es, clock, hk.trans hb, r⟩
theorem MapI.keep {w w' : World} {b n : Nat} {f : Int → Int} (h : MapI w b n f) (hk : w'.heap[b]? = w.heap[b]?) : MapI w' b n f := by obtain ⟨D, h, r⟩ := h; exact ⟨D, owns_keep h hk, r⟩
theorem MapB.keep {w w' : World} {b n : Nat} {f : Int → Bool} (h : MapB w b n f) (hk : w'.heap[b]? = w.heap[b]?) : MapB w' b n f := by obtain ⟨D, h, r⟩ := h; exact ⟨D, owns_keep h hk, r⟩
theorem MapI.alloc {w : World} {b n : Nat} {f : Int → Int} (h : MapI w b n f) (o : Obj) : MapI (w.alloc o) b n f := h.keep (Below.heap_alloc _ _ _ h.lt)
theorem MapB.alloc {w : World} {b n : Nat} {f : Int → Bool} (h : MapB w b n f) (o : Obj) : MapB (w.alloc o) b n f := h.keep (Below.heap_alloc _ _ _ h.lt)
theorem MapI.mono {w : World} {b n n' : Nat} {f : Int → Int} (h : MapI w b n f) (hn : n ≤ n') : MapI w b n' f := by obtain ⟨D, h, r⟩ := h; exact ⟨D, h.mono hn, r⟩
theorem MapB.mono {w : World} {b n n' : Nat} {f : Int → Bool} (h : MapB w b n f) (hn : n ≤ n') : MapB w b n' f := by obtain ⟨D, h, r⟩ := h; exact ⟨D, h.mono hn, r⟩
theorem MapI.new (w : World) : MapI (w.alloc (.map #[] 0)) w.heap.size 0 (fun _ => 0) := ⟨_, World.ownsMap_made w _ _ _, fun _ _ => rfl⟩
theorem MapB.new (w : World) : MapB (w.alloc (.map #[] 0)) w.heap.size 0 (fun _ => false) := ⟨_, World.ownsMap_made w _ _ _, fun _ _ => rfl⟩
theorem plainElem_bool_inv {H : Type} {P : Program} {e : TypeId} (he : P.underlying e = some .bool) {v : Value} {z : DataW H × List MemPlace} (h : plainElem P e v = some z) : ∃ x, v = .bool x ∧ z = (.lit (.bool x), []) := by
  unfold plainElem at h
  rw [he] at h
  cases v <;> simp at h
  obtain rfl := h
  exact ⟨_, rfl, rfl⟩
theorem MapI.look {w : World} {b n : Nat} {f : Int → Int} (h : MapI w b n f) {y : Int} (hy : Wf y) : (Instr.lookup 77 (.map (some b)) (.int .i64 y) false).run Try.prog w = .ok (.int .i64 (f y)) w := by
  obtain ⟨D, h, r⟩ := h
  obtain ⟨c, hrun, hat, -⟩ := h.lookup_int keyedI Try.underlying77 Try.underlying2 (zeroI w) (keyI hy)
  rw [r y hy] at hat
  simp only [DataW.lit.injEq, Lit.int.injEq, true_and] at hat
  rw [hrun, hat]
theorem MapB.look {w : World} {b n : Nat} {f : Int → Bool} (h : MapB w b n f) {y : Int} (hy : Wf y) : (Instr.lookup 78 (.map (some b)) (.int .i64 y) false).run Try.prog w = .ok (.bool (f y)) w := by
  obtain ⟨D, h, r⟩ := h
  obtain ⟨v, ps, hrun, hv⟩ := h.lookup keyedI Try.underlying78 (zeroBo w) (plainElem_bool Try.underlying4 false) (keyI hy)
  obtain ⟨x, rfl, hx⟩ := plainElem_bool_inv Try.underlying4 hv
  simp only [Prod.mk.injEq] at hx
  have hat := hx.1
  rw [r y hy] at hat
  simp only [DataW.lit.injEq, Lit.bool.injEq] at hat
  rw [hrun, hat]
theorem isMap_of {H : Type} {P : Program} {k : TypeId} {R : Value → Option (DataW H × List MemPlace)} {w : World} {b n : Nat} {D : DataW H} (h : w.ownsMap P k R b n D) : IsMap D := by
  obtain ⟨es, clock, _, _, _, hD⟩ := h
  exact ⟨_, hD⟩
theorem at_put {D : DataW Unit} (hD : IsMap D) {k : Int} (hk : Wf k) (d z : DataW Unit) (y : Int) : (D.put (.int .i64 k) d).atKey (.int .i64 y) z = if y = k then d else D.atKey (.int .i64 y) z := by
  by_cases e : y = k
  · subst e
    rw [if_pos rfl]
    exact atKey_put_same hD (keyedI.key (keyI hk)) d z
  · rw [if_neg e]
    exact atKey_put_other (by intro h; simp only [Lit.int.injEq, true_and] at h; exact e h) d z
section
variable {ops : Array Oper} {rest : List Oper} {o : Oper} {a : Act} {Q : Exit → Act → World → Prop} {w : World}
theorem wpList_look {v : Value} (hw : Region.wanted o (yielded ops a.tmps) = true) (m x : Operand) (t : TypeId) (hop : o.op = Op.lookup t m x false) {mv kv : Value} (hm : a.eval m = mv) (hx : a.eval x = kv)
    (hrun : (Instr.lookup t mv kv false).run Try.prog w = .ok v w) (h : wpList Try.prog ops Q rest (a.put o.dst v) w) : wpList Try.prog ops Q (o :: rest) a w := by
  refine wpList_step fun K hK => ?_
  rw [if_pos hw]
  unfold Oper.wp
  simp [execOp, hop, hm, hx, hrun, Result.andThen]
  exact hK _ _ h
theorem wpList_putI (hg : o.guard = none) (m x v : Operand) (hop : o.op = Op.mapUpdate 77 m x v) {b n : Nat} {f : Int → Int} (hm : a.eval m = .map (some b)) (h : MapI w b n f) (hn : n < maxLen) {k c : Int}
    (hx : a.eval x = .int .i64 k) (hv : a.eval v = .int .i64 c) (hk : Wf k) (hc : Wf c) (hK : ∀ w', MapI w' b (n + 1) (up f k c) → w.grownBy w' (some b) → wpList Try.prog ops Q rest (a.put o.dst undef) w') : wpList Try.prog ops Q (o :: rest) a w := by
  obtain ⟨D, h, r⟩ := h
  refine wpList_mapUpdate_own w hg m x v _ hop 2 2 keyedI Try.underlying77 _ b n D hm h hn _ _ _ hx hv (keyI hk) _ [] (plainElem_int Try.underlying2 hc) fun w' h' hgr => hK w' ⟨_, h', fun y hy => ?_⟩ hgr
  rw [at_put (isMap_of h) hk, r y hy]
  unfold up
  split <;> rfl
theorem wpList_putB (hg : o.guard = none) (m x v : Operand) (hop : o.op = Op.mapUpdate 78 m x v) {b n : Nat} {f : Int → Bool} (hm : a.eval m = .map (some b)) (h : MapB w b n f) (hn : n < maxLen) {k : Int} {c : Bool}
    (hx : a.eval x = .int .i64 k) (hv : a.eval v = .bool c) (hk : Wf k) (hK : ∀ w', MapB w' b (n + 1) (up f k c) → w.grownBy w' (some b) → wpList Try.prog ops Q rest (a.put o.dst undef) w') : wpList Try.prog ops Q (o :: rest) a w := by
  obtain ⟨D, h, r⟩ := h
  refine wpList_mapUpdate_own w hg m x v _ hop 2 4 keyedI Try.underlying78 _ b n D hm h hn _ _ _ hx hv (keyI hk) _ [] (plainElem_bool Try.underlying4 c) fun w' h' hgr => hK w' ⟨_, h', fun y hy => ?_⟩ hgr
  rw [at_put (isMap_of h) hk, r y hy]
  unfold up
  split <;> rfl
end
/-- a loop over such a map under way -/
def RangesI (w : World) (b r n : Nat) (left : Int → Bool) (cnt : Nat) (f : Int → Int) : Prop :=
  ∃ (D : DataW Unit) (l : Lit → Bool), w.ranges Try.prog 2 (plainElem Try.prog 2) b r n D l cnt ∧ (∀ y, Wf y → D.atKey (.int .i64 y) (.lit (.int .i64 0)) = .lit (.int .i64 (f y))) ∧ ∀ y, left y = l (.int .i64 y)
theorem RangesI.left_eq {w : World} {b r n cnt : Nat} {left : Int → Bool} {f : Int → Int} (h : RangesI w b r n left cnt f) : w.rangeLeft b r = cnt := by obtain ⟨D, l, h, _⟩ := h; exact h.left_eq
theorem RangesI.lt {w : World} {b r n cnt : Nat} {left : Int → Bool} {f : Int → Int} (h : RangesI w b r n left cnt f) : r < w.heap.size := by obtain ⟨D, l, h, _⟩ := h; exact h.lt
section
variable {ops : Array Oper} {rest : List Oper} {o : Oper} {a : Act} {Q : Exit → Act → World → Prop} {w : World}
theorem wpList_rangeI (hg : o.guard = none) (m : Operand) (hop : o.op = Op.range 77 m) {b n : Nat} {f : Int → Int} (hm : a.eval m = .map (some b)) (h : MapI w b n f)
    (hK : ∀ w' left cnt, RangesI w' b w.heap.size n left cnt f → (∀ y, Wf y → f y ≠ 0 → left y = true) → w.grownBy w' none → w'.heap.size = w.heap.size + 1 → wpList Try.prog ops Q rest (a.put o.dst (.pointer (some ⟨w.heap.size, 0, none⟩))) w') :
    wpList Try.prog ops Q (o :: rest) a w := by
  obtain ⟨D, h, r⟩ := h
  refine wpList_range_own w hg m _ hop 2 2 keyedI Try.underlying77 _ b n D hm h fun w' h1 h2 h3 => hK w' (fun y => Maps.has D (.int .i64 y)) _ ⟨D, _, h1, r, fun _ => rfl⟩ (fun y hy hf => ?_) h2 h3
  cases e : Maps.has D (.int .i64 y)
  · have := atKey_of_not_has e (.lit (.int .i64 0))
    rw [r y hy] at this
    simp only [DataW.lit.injEq, Lit.int.injEq, true_and] at this
    exact absurd this hf
  · rfl
theorem wpList_nextI (hg : o.guard = none) (it : Operand) (hop : o.op = Op.next it false) {b r n cnt : Nat} {left : Int → Bool} {f : Int → Int} (hit : a.eval it = .pointer (some ⟨r, 0, none⟩)) (h : RangesI w b r n left cnt f)
    (hDone : (∀ y, left y = false) → wpList Try.prog ops Q rest (a.put o.dst (.tuple #[.bool false])) w)
    (hMore : ∀ x w1 left1 cnt1, Wf x → left x = true → RangesI w1 b r n left1 cnt1 f → (∀ y, y ≠ x → left1 y = left y) → cnt1 < cnt → w.grownBy w1 (some r) → w1.heap.size = w.heap.size →
      (Instr.entry (.pointer (some ⟨r, 0, none⟩))).run Try.prog w1 = .ok (.tuple #[.int .i64 x, .int .i64 (f x)]) w1 → wpList Try.prog ops Q rest (a.put o.dst (.tuple #[.bool true, .int .i64 x, .int .i64 (f x)])) w1) :
    wpList Try.prog ops Q (o :: rest) a w := by
  obtain ⟨D, l, h, hf, hl⟩ := h
  refine wpList_next_ranges_ii w hg it hop 2 2 .i64 .i64 keyedI Try.underlying2 Try.underlying2 b r n D l cnt hit h (fun _ h0 => hDone fun y => by rw [hl]; exact h0 _) ?_
  intro x c w1 cnt1 hwx hwc hlx hat hrg hlt hg1 hs1 hen
  have e := hat (.lit (.int .i64 0))
  rw [hf x hwx] at e
  simp only [DataW.lit.injEq, Lit.int.injEq, true_and] at e
  subst e
  refine hMore x w1 _ cnt1 hwx (by rw [hl]; exact hlx) ⟨D, _, hrg, hf, fun _ => rfl⟩ (fun y hy => ?_) hlt hg1 hs1 hen
  show (l (.int .i64 y) && !(Lit.int .i64 y).sameKey (.int .i64 x)) = left y
  rw [Maps.sameKey_ne (by intro h; simp only [Lit.int.injEq, true_and] at h; exact hy h), hl]
  simp
end
end Go.Proofs.Ytabfdnkomhjlkaa
