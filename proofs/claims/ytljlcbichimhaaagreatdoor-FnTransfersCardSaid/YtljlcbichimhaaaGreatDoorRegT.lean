/-
  A region that draws its order, by a plan: what reads is taken first, under a condition S that holds up to one store; what alone may come up is carried out.
-/
import Derived.StillTailTactics
import Derived.OrdersHeld
namespace Go.Proofs.YtljlcbichimhaaaGreatDoor
open Go
set_option linter.unusedVariables false
section
variable {P : Program} {ops : Array Oper} {md : Region.Mode} {Q : Exit → Act → World → Prop} {S S' : World → Prop}

/-- whatever order: S holds until operation s has come up -/
def wpC (P : Program) (md : Region.Mode) (ops : Array Oper) (Q : Exit → Act → World → Prop) (S : World → Prop) (s : Nat) : Nat → Array Bool → Act → World → Prop
  | 0, listed, a, w => Region.ready md ops listed = [] ∧ Q .normal a w
  | f + 1, listed, a, w => (Region.ready md ops listed = [] → Q .normal a w) ∧
    ∀ i ∈ Region.ready md ops listed, wpOp P ops Q i (fun a' w' => ((listed.setIfInBounds i true).getD s false = false → S w') ∧ wpC P md ops Q S s f (listed.setIfInBounds i true) a' w') a w
theorem wpAny_of_wpC {s : Nat} : ∀ (f : Nat) (listed : Array Bool) (a : Act) (w : World), wpC P md ops Q S s f listed a w → wpAny P md ops Q f listed a w
  | 0, _, _, _, h => h
  | f + 1, listed, a, w, h => ⟨h.1, fun i hi => wpOp_mono (fun a' w' h' => wpAny_of_wpC f _ a' w' h'.2) (h.2 i hi)⟩
structure ClosedL (md : Region.Mode) (ops : Array Oper) (listed : Array Bool) : Prop where
  size : listed.size = ops.size
  closed : ∀ j oj, ops[j]? = some oj → listed.getD j false = true → ∀ e ∈ oj.after, Region.binds md e = true → listed.getD e.on false = true
theorem ClosedL.set {i : Nat} {listed : Array Bool} (inv : ClosedL md ops listed) (hi : i ∈ Region.ready md ops listed) : ClosedL md ops (listed.setIfInBounds i true) := by
  obtain ⟨_, oi, hoi, hall⟩ := mem_ready.1 hi
  refine ⟨by simp [inv.size], fun j oj hj hl e he hb => ?_⟩
  by_cases hij : i = j
  · subst hij
    have : oj = oi := Option.some.inj (hj.symm.trans hoi)
    subst this
    exact getD_set_true (hall e he hb)
  · rw [getD_set_ne false hij] at hl
    exact getD_set_true (inv.closed j oj hj hl e he hb)
/-- while i has not come up, neither has s, which waits for it -/
theorem ClosedL.late {i s : Nat} {listed : Array Bool} (inv : ClosedL md ops listed) (hw : Region.waitsFor md ops s i = true) (hi : listed.getD i true = false) : listed.getD s false = false := by
  obtain ⟨os, hos, e, he, hb, hon⟩ := Region.waitsFor_spec hw
  cases h : listed.getD s false with
  | false => rfl
  | true =>
    have := inv.closed s os hos h e he hb
    rw [hon, getD_both hi] at this
    cases this
theorem getD_set_back {listed : Array Bool} {i s : Nat} (h : (listed.setIfInBounds i true).getD s false = false) : listed.getD s false = false := by
  cases h' : listed.getD s false with
  | false => rfl
  | true => rw [getD_set_true h'] at h; cases h
theorem wpC_first {s i : Nat} {oi : Oper} {v : Value} (hi : ops[i]? = some oi) (hsel : ∀ (j : Nat) (o : Oper) cs b, ops[j]? = some o → o.op ≠ .select cs b) (his : i ≠ s)
    (hS' : ∀ listed w, ClosedL md ops listed → listed.getD i true = false → (listed.getD s false = false → S w) → S' w) (hQ : ∀ c a w, Q (.panic c) (a.put oi.dst v) w → Q (.panic c) a w) :
    ∀ (f : Nat) (listed : Array Bool) (a : Act) (w : World), ClosedL md ops listed →
      (∀ j oj, ops[j]? = some oj → j ≠ i → listed.getD j true = false → (∀ e ∈ oj.after, Region.binds md e = true → e.on ≠ i) → oi.apart ops oj = true) →
      i ∈ Region.ready md ops listed → YieldsIf P ops S' oi v a → (listed.getD s false = false → S w) →
      wpC P md ops Q S s f (listed.setIfInBounds i true) (a.put oi.dst v) w → wpC P md ops Q S s (f + 1) listed a w := by
  intro f
  induction f with
  | zero =>
    intro listed a w inv _ hr hy hS H
    have hun := (mem_ready.1 hr).1
    refine ⟨fun h => (by rw [h] at hr; cases hr), fun j hj => ?_⟩
    by_cases hji : j = i
    · subst hji; exact hy.wpOp hi (hS' _ _ inv hun hS) ⟨fun h => hS (getD_set_back h), H⟩
    · have := ready_mono hj hji
      rw [H.1] at this
      cases this
  | succ f ih =>
    intro listed a w inv hfree hr hy hS H
    have hun := (mem_ready.1 hr).1
    refine ⟨fun h => (by rw [h] at hr; cases hr), fun j hj => ?_⟩
    by_cases hji : j = i
    · subst hji; exact hy.wpOp hi (hS' _ _ inv hun hS) ⟨fun h => hS (getD_set_back h), H⟩
    · have h1 := H.2 j (ready_mono hj hji)
      obtain ⟨hjun, oj, hoj, hall⟩ := mem_ready.1 hj
      have hnot : ∀ e ∈ oj.after, Region.binds md e = true → e.on ≠ i := fun e he hb heq => by
        have h1 := hall e he hb
        rw [heq, getD_both hun] at h1
        cases h1
      have h2 := wpOp_putIf hoj (hfree j oj hoj hji hjun hnot) (fun cs b => hsel i oi cs b hi) (fun cs b => hsel j oj cs b hoj) hQ hy h1
      have hfree' : ∀ k ok, ops[k]? = some ok → k ≠ i → (listed.setIfInBounds j true).getD k true = false →
          (∀ e ∈ ok.after, Region.binds md e = true → e.on ≠ i) → oi.apart ops ok = true := fun k ok hk hki hun hno => by
        refine hfree k ok hk hki ?_ hno
        by_cases hjk : j = k
        · subst hjk; exact hjun
        · rw [getD_set_ne true hjk] at hun; exact hun
      refine wpOp_mono (fun a' w' h3 => ?_) h2
      have h4 : (listed.setIfInBounds j true).getD s false = false → S w' := fun h => h3.2.1 (by
        rw [Array.setIfInBounds_comm _ _ (Ne.symm hji), getD_set_ne false his]; exact h)
      refine ⟨h4, ih (listed.setIfInBounds j true) a' w' (inv.set hj) hfree' (ready_mono hr (Ne.symm hji)) h3.1 h4 ?_⟩
      rw [Array.setIfInBounds_comm _ _ hji]
      exact h3.2.2

/-! ### a plan: 0: taken first, in whatever world · 1: taken first, under S · 2: alone, S behind it · 3: alone, from s on -/
def planB (md : Region.Mode) (ops : Array Oper) (s : Nat) : List (Nat × Nat) → Array Bool → Bool
  | [], listed => (Region.ready md ops listed).isEmpty
  | (i, 0) :: r, listed => decide (i ≠ s) && (Region.ready md ops listed).contains i && Region.free md ops listed i && planB md ops s r (listed.setIfInBounds i true)
  | (i, 1) :: r, listed => decide (i ≠ s) && Region.waitsFor md ops s i && (Region.ready md ops listed).contains i && Region.free md ops listed i && planB md ops s r (listed.setIfInBounds i true)
  | (i, 2) :: r, listed => decide (Region.ready md ops listed = [i]) && planB md ops s r (listed.setIfInBounds i true)
  | (i, _ + 3) :: r, listed => decide (Region.ready md ops listed = [i]) && (listed.setIfInBounds i true).getD s false && planB md ops s r (listed.setIfInBounds i true)
def wpPlan (P : Program) (ops : Array Oper) (Q : Exit → Act → World → Prop) (S : World → Prop) : List (Nat × Nat) → Act → World → Prop
  | [], a, w => Q .normal a w
  | (i, 0) :: r, a, w => ∃ oi v, ops[i]? = some oi ∧ YieldsIf P ops (fun _ => True) oi v a ∧ (∀ c a w, Q (.panic c) (a.put oi.dst v) w → Q (.panic c) a w) ∧ wpPlan P ops Q S r (a.put oi.dst v) w
  | (i, 1) :: r, a, w => ∃ oi v, ops[i]? = some oi ∧ YieldsIf P ops S oi v a ∧ (∀ c a w, Q (.panic c) (a.put oi.dst v) w → Q (.panic c) a w) ∧ wpPlan P ops Q S r (a.put oi.dst v) w
  | (i, 2) :: r, a, w => ∃ oi, ops[i]? = some oi ∧ Region.wanted oi (yielded ops a.tmps) = true ∧ oi.wp P a w (fun a' w' => S w' ∧ wpPlan P ops Q S r a' w') Q
  | (i, _ + 3) :: r, a, w => ∃ oi, ops[i]? = some oi ∧ Region.wanted oi (yielded ops a.tmps) = true ∧ oi.wp P a w (fun a' w' => wpPlan P ops Q S r a' w') Q
theorem wpC_of_plan {s : Nat} (hsel : Region.noSelect ops = true) :
    ∀ (r : List (Nat × Nat)) (listed : Array Bool) (a : Act) (w : World), ClosedL md ops listed → planB md ops s r listed = true → (listed.getD s false = false → S w) → wpPlan P ops Q S r a w →
      wpC P md ops Q S s r.length listed a w
  | [], listed, a, w, _, hB, _, h => ⟨by simpa [planB] using hB, h⟩
  | (i, 0) :: r, listed, a, w, inv, hB, hS, h => by
    obtain ⟨oi, v, hi, hy, hQ, h'⟩ := h
    simp only [planB, Bool.and_eq_true, decide_eq_true_eq] at hB
    obtain ⟨⟨⟨his, hr⟩, hf⟩, hB'⟩ := hB
    have hr' : i ∈ Region.ready md ops listed := by simpa using hr
    exact wpC_first (S' := fun _ => True) hi (Region.noSelect_spec hsel) his (fun _ _ _ _ _ => trivial) hQ r.length listed a w inv (Region.free_spec hi hf) hr' hy hS
      (wpC_of_plan hsel r _ _ _ (inv.set hr') hB' (fun h => hS (getD_set_back h)) h')
  | (i, 1) :: r, listed, a, w, inv, hB, hS, h => by
    obtain ⟨oi, v, hi, hy, hQ, h'⟩ := h
    simp only [planB, Bool.and_eq_true, decide_eq_true_eq] at hB
    obtain ⟨⟨⟨⟨his, hws⟩, hr⟩, hf⟩, hB'⟩ := hB
    have hr' : i ∈ Region.ready md ops listed := by simpa using hr
    exact wpC_first (S' := S) hi (Region.noSelect_spec hsel) his (fun listed w inv hun h => h (inv.late hws hun)) hQ r.length listed a w inv (Region.free_spec hi hf) hr' hy hS
      (wpC_of_plan hsel r _ _ _ (inv.set hr') hB' (fun h => hS (getD_set_back h)) h')
  | (i, 2) :: r, listed, a, w, inv, hB, hS, h => by
    obtain ⟨oi, hi, hw, h'⟩ := h
    simp only [planB, Bool.and_eq_true, decide_eq_true_eq] at hB
    obtain ⟨hr, hB'⟩ := hB
    refine ⟨fun h0 => (by rw [hr] at h0; cases h0), fun j hj => ?_⟩
    have hji : j = i := by rw [hr] at hj; simpa using hj
    subst hji
    unfold wpOp
    simp only [hi, hw, if_true]
    exact .inl (Oper.wp_mono (fun a' w' h3 => ⟨fun _ => h3.1, wpC_of_plan hsel r _ a' w' (inv.set hj) hB' (fun _ => h3.1) h3.2⟩) h')
  | (i, _ + 3) :: r, listed, a, w, inv, hB, hS, h => by
    obtain ⟨oi, hi, hw, h'⟩ := h
    simp only [planB, Bool.and_eq_true, decide_eq_true_eq] at hB
    obtain ⟨⟨hr, hd⟩, hB'⟩ := hB
    refine ⟨fun h0 => (by rw [hr] at h0; cases h0), fun j hj => ?_⟩
    have hji : j = i := by rw [hr] at hj; simpa using hj
    subst hji
    have hno : ∀ w', (listed.setIfInBounds j true).getD s false = false → S w' := fun w' h => by rw [hd] at h; cases h
    unfold wpOp
    simp only [hi, hw, if_true]
    exact .inl (Oper.wp_mono (fun a' w' h3 => ⟨hno w', wpC_of_plan hsel r _ a' w' (inv.set hj) hB' (hno w') h3⟩) h')
theorem wpPlan_take {i : Nat} {oi : Oper} {v : Value} {r : List (Nat × Nat)} {a : Act} {w : World} (hi : ops[i]? = some oi) (hw : Region.wanted oi (yielded ops a.tmps) = true) (hy : ∀ w, True → (execOp a.eval oi).run P w = .ok (.value v) w)
    (hQ : ∀ c a w, Q (.panic c) (a.put oi.dst v) w → Q (.panic c) a w) (h : wpPlan P ops Q S r (a.put oi.dst v) w) : wpPlan P ops Q S ((i, 0) :: r) a w := ⟨oi, v, hi, .inl ⟨hw, hy⟩, hQ, h⟩
theorem wpPlan_load {i : Nat} {oi : Oper} {v : Value} {r : List (Nat × Nat)} {a : Act} {w : World} (hi : ops[i]? = some oi) (hw : Region.wanted oi (yielded ops a.tmps) = true) (hy : ∀ w, S w → (execOp a.eval oi).run P w = .ok (.value v) w)
    (hQ : ∀ c a w, Q (.panic c) (a.put oi.dst v) w → Q (.panic c) a w) (h : wpPlan P ops Q S r (a.put oi.dst v) w) : wpPlan P ops Q S ((i, 1) :: r) a w := ⟨oi, v, hi, .inl ⟨hw, hy⟩, hQ, h⟩
theorem wpPlan_call {i : Nat} {oi : Oper} {r : List (Nat × Nat)} {a : Act} {w : World} (hi : ops[i]? = some oi) (hw : Region.wanted oi (yielded ops a.tmps) = true)
    (h : ∀ K : Act → World → Prop, (∀ a' w', S w' → wpPlan P ops Q S r a' w' → K a' w') → oi.wp P a w K Q) : wpPlan P ops Q S ((i, 2) :: r) a w :=
  ⟨oi, hi, hw, h _ fun a' w' h1 h2 => ⟨h1, h2⟩⟩
theorem wpPlan_store {i : Nat} {oi : Oper} {r : List (Nat × Nat)} {a : Act} {w : World} (hi : ops[i]? = some oi) (hw : Region.wanted oi (yielded ops a.tmps) = true)
    (h : ∀ K : Act → World → Prop, (∀ a' w', wpPlan P ops Q S r a' w' → K a' w') → oi.wp P a w K Q) : wpPlan P ops Q S ((i, 3) :: r) a w :=
  ⟨oi, hi, hw, h _ fun a' w' h2 => h2⟩
theorem wpPlan_nil {a : Act} {w : World} (h : Q .normal a w) : wpPlan P ops Q S [] a w := h
def regB (md : Region.Mode) (ops : Array Oper) (s : Nat) (r : List (Nat × Nat)) : Bool :=
  Region.noSelect ops && decide (r.length = ops.size) && planB md ops s r (Array.replicate ops.size false)
/-- the law -/
theorem wp_region_plan {id : Nat} {a : Act} {w : World} (S : World → Prop) (s : Nat) (r : List (Nat × Nat)) (hm : P.follows .mixedOrders = true) (hB : regB .any ops s r = true) (hS : S w.drew)
    (h : wpPlan P ops Q S r a w.drew) : (Code.region id ops true).wp P Q a w := by
  simp only [regB, Bool.and_eq_true, decide_eq_true_eq] at hB
  obtain ⟨⟨hsel, hlen⟩, hplan⟩ := hB
  have inv0 : ClosedL .any ops (Array.replicate ops.size false) := ⟨by simp, fun j oj _ hl => (by rw [getD_replicate_false] at hl; cases hl)⟩
  have H := wpC_of_plan (P := P) (Q := Q) (S := S) hsel r _ a w.drew inv0 hplan (fun _ => hS) h
  rw [hlen] at H
  exact wp_region_any hm (wpAny_of_wpC _ _ _ _ H)
end
end Go.Proofs.YtljlcbichimhaaaGreatDoor
