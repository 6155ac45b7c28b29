/-
  Programs: validity, in plain Lean: what both sides compute, and that it is one.
-/
import Derived.Test.YtabfdnkomhjlkaaTxtJ
import Derived.Test.YtabfdnkomhjlkaaTyProgram
namespace Go.Proofs.Ytabfdnkomhjlkaa
open Go.ChangeShapes Go.WideShapes Go.ChangeAt Go.RowKit
set_option linter.unusedVariables false
set_option linter.unusedSimpArgs false

def up {β : Type} (f : Int → β) (k : Int) (v : β) : Int → β := fun y => if y = k then v else f y
/-! ### nodes and stores, on the program's side -/
abbrev HsS := (Int → Int) × (Int → Bool)
def hsStep (s : HsS) (x : InstrD) : Option HsS :=
  if x.kind = 18 then (if s.1 x.node = 6 ∧ s.2 x.node = false then some (s.1, up s.2 x.node true) else none)
  else if s.1 x.node = 0 then some (up s.1 x.node x.kind, s.2) else none
def hsRun (l : List InstrD) : Option HsS := l.foldl (fun o x => o.bind fun s => hsStep s x) (some (fun _ => 0, fun _ => false))
/-! ### .. and on the reference's -/
abbrev PrS := List Int × List Int
def prStep (s : PrS) (x : InstrD) : Option PrS :=
  if x.kind = 18 then (if s.2.contains x.node then some (s.1, s.2.filter fun y => y != x.node) else none)
  else if s.1.contains x.node then none else some (s.1 ++ [x.node], if x.kind = 6 then s.2 ++ [x.node] else s.2)
def prRun (l : List InstrD) : Option PrS := l.foldl (fun o x => o.bind fun s => prStep s x) (some ([], []))
theorem fold_none {σ : Type} (f : σ → InstrD → Option σ) (l : List InstrD) : l.foldl (fun o x => o.bind fun s => f s x) none = none := by
  induction l with
  | nil => rfl
  | cons x l ih => exact ih
theorem hsRun_snoc (l : List InstrD) (x : InstrD) : hsRun (l ++ [x]) = (hsRun l).bind fun s => hsStep s x := by simp [hsRun, List.foldl_append]
theorem prRun_snoc (l : List InstrD) (x : InstrD) : prRun (l ++ [x]) = (prRun l).bind fun s => prStep s x := by simp [prRun, List.foldl_append]
theorem hsRun_stop {l : List InstrD} {k : Nat} (h : hsRun (l.take k) = none) : hsRun l = none := by
  have e : l = l.take k ++ l.drop k := (List.take_append_drop k l).symm
  unfold hsRun at *
  rw [e, List.foldl_append, h]
  exact fold_none hsStep _
theorem prRun_stop {l : List InstrD} {k : Nat} (h : prRun (l.take k) = none) : prRun l = none := by
  have e : l = l.take k ++ l.drop k := (List.take_append_drop k l).symm
  unfold prRun at *
  rw [e, List.foldl_append, h]
  exact fold_none prStep _
def hasB (l : List InstrD) : Bool := match hsRun l with
  | none => false
  | some s => l.all fun x => x.kind != 6 || s.2 x.node
def pairsB (l : List InstrD) : Bool := match prRun l with
  | none => false
  | some s => decide (s.2.length = 0)
/-- what holds of the program's state behind the instructions of l -/
structure HsOk (l : List InstrD) (s : HsS) : Prop where
  nz : ∀ x ∈ l, x.kind ≠ 0
  kept : ∀ x ∈ l, x.kind ≠ 18 → s.1 x.node = x.kind
  from_ : ∀ y, s.1 y ≠ 0 → ∃ x ∈ l, x.kind ≠ 18 ∧ x.node = y ∧ x.kind = s.1 y
  sto : ∀ y, s.2 y = true → s.1 y = 6
theorem HsOk.nil : HsOk [] (fun _ => 0, fun _ => false) := ⟨by simp, by simp, by simp, by simp⟩
theorem HsOk.snoc {l : List InstrD} {s s' : HsS} (h : HsOk l s) {x : InstrD} (h0 : x.kind ≠ 0) (hs : hsStep s x = some s') : HsOk (l ++ [x]) s' := by
  have hnz : ∀ z ∈ l ++ [x], z.kind ≠ 0 := fun z hz => by
    rcases List.mem_append.1 hz with hz | hz
    · exact h.nz z hz
    · rw [List.mem_singleton.1 hz]; exact h0
  unfold hsStep at hs
  by_cases k : x.kind = 18
  · rw [if_pos k] at hs
    split at hs
    · rename_i hc
      obtain rfl := Option.some.inj hs
      refine ⟨hnz, fun z hz hk => ?_, fun y hy => ?_, fun y hy => ?_⟩
      · rcases List.mem_append.1 hz with hz | hz
        · exact h.kept z hz hk
        · rw [List.mem_singleton.1 hz] at hk; exact absurd k hk
      · obtain ⟨z, hz, r⟩ := h.from_ y hy
        exact ⟨z, List.mem_append_left _ hz, r⟩
      · simp only [up] at hy
        split at hy
        · rename_i e; subst e; exact hc.1
        · exact h.sto y hy
    · cases hs
  · rw [if_neg k] at hs
    split at hs
    · rename_i hc
      obtain rfl := Option.some.inj hs
      refine ⟨hnz, fun z hz hk => ?_, fun y hy => ?_, fun y hy => ?_⟩
      · simp only [up]
        rcases List.mem_append.1 hz with hz | hz
        · have := h.kept z hz hk
          split
          · rename_i e
            rw [e, hc] at this
            exact absurd this.symm (h.nz z hz)
          · exact this
        · rw [List.mem_singleton.1 hz, if_pos rfl]
      · simp only [up] at hy ⊢
        split at hy
        · rename_i e
          exact ⟨x, by simp, k, e.symm, by rw [if_pos e]⟩
        · rename_i e
          obtain ⟨z, hz, r1, r2, r3⟩ := h.from_ y hy
          exact ⟨z, List.mem_append_left _ hz, r1, r2, by rw [if_neg e]; exact r3⟩
      · have := h.sto y hy
        simp only [up]
        split
        · rename_i e
          rw [e, hc] at this
          cases this
        · exact this
    · cases hs
/-- both sides' states -/
def Sim (a : PrS) (s : HsS) : Prop := (∀ y, a.1.contains y = !(s.1 y == 0)) ∧ (∀ y, a.2.contains y = (s.1 y == 6 && !s.2 y))
def SimO : Option PrS → Option HsS → Prop
  | some a, some s => Sim a s
  | none, none => True
  | _, _ => False
theorem sim_step {l : List InstrD} {a : PrS} {s : HsS} (h : HsOk l s) (hs : Sim a s) {x : InstrD} (h0 : x.kind ≠ 0) : SimO (prStep a x) (hsStep s x) := by
  obtain ⟨h1, h2⟩ := hs
  unfold prStep hsStep
  by_cases k : x.kind = 18
  · rw [if_pos k, if_pos k, h2]
    by_cases hc : s.1 x.node = 6 ∧ s.2 x.node = false
    · rw [if_pos hc, if_pos (by rw [hc.1, hc.2]; rfl)]
      refine ⟨h1, fun y => ?_⟩
      simp only [up]
      rw [Bool.eq_iff_iff, List.contains_iff_mem, List.mem_filter]
      have e := h2 y
      rw [Bool.eq_iff_iff, List.contains_iff_mem] at e
      rw [e]
      by_cases hy : y = x.node
      · simp [hy]
      · simp [hy]
    · rw [if_neg hc, if_neg (by
        intro e
        rw [Bool.and_eq_true, beq_iff_eq, Bool.not_eq_true'] at e
        exact hc e)]
      trivial
  · rw [if_neg k, if_neg k, h1]
    by_cases hc : s.1 x.node = 0
    · rw [if_pos hc, if_neg (by rw [hc]; simp)]
      have hst : s.2 x.node = false := by
        cases e : s.2 x.node
        · rfl
        · have := h.sto _ e; rw [hc] at this; cases this
      refine ⟨fun y => ?_, fun y => ?_⟩
      · simp only [up]
        have e := h1 y
        rw [Bool.eq_iff_iff, List.contains_iff_mem] at e
        rw [Bool.eq_iff_iff, List.contains_iff_mem, List.mem_append, List.mem_singleton, e]
        by_cases hy : y = x.node
        · simp [hy, h0]
        · simp [hy]
      · have e := h2 y
        rw [Bool.eq_iff_iff, List.contains_iff_mem] at e
        simp only [up]
        by_cases k6 : x.kind = 6
        · rw [if_pos k6, Bool.eq_iff_iff, List.contains_iff_mem, List.mem_append, List.mem_singleton, e]
          by_cases hy : y = x.node
          · subst hy; simp [k6, hst]
          · simp [hy]
        · rw [if_neg k6, Bool.eq_iff_iff, List.contains_iff_mem, e]
          by_cases hy : y = x.node
          · subst hy; simp [hc, k6]
          · simp [hy]
    · rw [if_neg hc, if_pos (by simp [hc])]
      trivial
theorem sim_run {l : List InstrD} (h0 : ∀ x ∈ l, x.kind ≠ 0) : ∀ k, k ≤ l.length → SimO (prRun (l.take k)) (hsRun (l.take k)) ∧ ∀ s, hsRun (l.take k) = some s → HsOk (l.take k) s
  | 0, _ => ⟨⟨by simp, by simp⟩, fun s hs => by obtain rfl := Option.some.inj hs; exact HsOk.nil⟩
  | k + 1, hk => by
    obtain ⟨h1, h2⟩ := sim_run h0 k (by omega)
    have hx : l[k].kind ≠ 0 := h0 _ (List.getElem_mem (by omega))
    rw [List.take_succ_eq_append_getElem (by omega), prRun_snoc, hsRun_snoc]
    cases e1 : hsRun (l.take k) with
    | none =>
      rw [e1] at h1
      cases e2 : prRun (l.take k) with
      | none => exact ⟨trivial, fun s hs => by cases hs⟩
      | some a => rw [e2] at h1; exact absurd h1 (by simp [SimO])
    | some s =>
      rw [e1] at h1
      cases e2 : prRun (l.take k) with
      | none => rw [e2] at h1; exact absurd h1 (by simp [SimO])
      | some a =>
        rw [e2] at h1
        exact ⟨sim_step (h2 s e1) h1 hx, fun s' hs' => (h2 s e1).snoc hx hs'⟩
theorem hsOk_run {l : List InstrD} (h0 : ∀ x ∈ l, x.kind ≠ 0) {s : HsS} (hs : hsRun l = some s) : HsOk l s := by
  have := (sim_run h0 l.length (Nat.le_refl _)).2
  rw [List.take_length] at this
  exact this s hs
theorem pairs_has {l : List InstrD} (h0 : ∀ x ∈ l, x.kind ≠ 0) : pairsB l = hasB l := by
  have h := sim_run h0 l.length (Nat.le_refl _)
  rw [List.take_length] at h
  obtain ⟨h1, h2⟩ := h
  unfold pairsB hasB
  cases e1 : hsRun l with
  | none =>
    rw [e1] at h1
    cases e2 : prRun l with
    | none => rfl
    | some a => rw [e2] at h1; exact absurd h1 (by simp [SimO])
  | some s =>
    rw [e1] at h1
    cases e2 : prRun l with
    | none => rw [e2] at h1; exact absurd h1 (by simp [SimO])
    | some a =>
      rw [e2] at h1
      have ok := h2 s e1
      obtain ⟨-, h3⟩ := h1
      show decide (a.2.length = 0) = l.all _
      rw [Bool.eq_iff_iff, decide_eq_true_iff, List.all_eq_true]
      constructor
      · intro hz x hx
        have he : a.2 = [] := List.eq_nil_of_length_eq_zero hz
        by_cases k6 : x.kind = 6
        · have e := h3 x.node
          rw [he, ok.kept x hx (by omega), k6] at e
          simp at e
          simp [e]
        · simp [k6]
      · intro hall
        cases ha : a.2 with
        | nil => rfl
        | cons y r =>
          have e := h3 y
          rw [ha] at e
          simp at e
          obtain ⟨x, hx, _, hn, hk⟩ := ok.from_ y (by rw [e.1]; decide)
          have := hall x hx
          rw [hn, hk, e.1, e.2] at this
          simp at this
/-! ### registers -/
def wrStep (h : List Int) (x : InstrD) : Option (List Int) := if x.src.all (fun f => h.contains f) then some (if x.kind = 18 then h else h ++ [x.dest]) else none
def wrRun (l : List InstrD) : Option (List Int) := l.foldl (fun o x => o.bind fun s => wrStep s x) (some [])
theorem wrRun_snoc (l : List InstrD) (x : InstrD) : wrRun (l ++ [x]) = (wrRun l).bind fun s => wrStep s x := by simp [wrRun, List.foldl_append]
theorem wrRun_stop {l : List InstrD} {k : Nat} (h : wrRun (l.take k) = none) : wrRun l = none := by
  have e : l = l.take k ++ l.drop k := (List.take_append_drop k l).symm
  unfold wrRun at *
  rw [e, List.foldl_append, h]
  exact fold_none wrStep _
def writtenB (l : List InstrD) (outs : List Int) : Bool := match wrRun l with
  | none => false
  | some h => outs.all fun f => h.contains f
theorem wr_in {l : List InstrD} {P : Int → Prop} (hd : ∀ x ∈ l, x.kind ≠ 18 → P x.dest) : ∀ k, k ≤ l.length → ∀ h, wrRun (l.take k) = some h → ∀ f ∈ h, P f
  | 0, _, h, hh, f, hf => by obtain rfl := Option.some.inj hh; cases hf
  | k + 1, hk, h, hh, f, hf => by
    rw [List.take_succ_eq_append_getElem (by omega), wrRun_snoc] at hh
    cases e : wrRun (l.take k) with
    | none => rw [e] at hh; cases hh
    | some g =>
      rw [e] at hh
      have hh' : wrStep g l[k] = some h := hh
      unfold wrStep at hh'
      split at hh'
      · have hh2 := Option.some.inj hh'
        split at hh2
        · subst hh2; exact wr_in hd k (by omega) g e f hf
        · rename_i k18
          subst hh2
          rcases List.mem_append.1 hf with h1 | h1
          · exact wr_in hd k (by omega) g e f h1
          · rw [List.mem_singleton.1 h1]; exact hd _ (List.getElem_mem _) k18
      · cases hh'
/-! ### programs -/
def insB (r t inputs : Int) (x : InstrD) : Bool := instrB x r t && !(x.kind == 1 && decide (inputs ≤ x.a))
def progB (x : ProgramD) : Bool :=
  inB x.inputs 0 4 && (inB x.registers 0 24 && (tablesB x.tables && (decide (x.code.length ≤ 48) && (decide (x.outputs.length ≤ 4) &&
    (x.code.all (insB x.registers x.tables.length x.inputs) && (pairsB x.code && writtenB x.code x.outputs))))))
theorem instr_kind {x : InstrD} {r t : Int} (h : instrB x r t = true) : x.kind ≠ 0 := by
  intro e
  unfold instrB at h
  rw [e, if_neg (by decide), if_neg (by decide)] at h
  simp only [Bool.and_eq_true] at h
  have := h.2.2.2
  unfold nodeB nodeOf at this
  rw [e] at this
  simp [inB] at this
theorem instr_node {x : InstrD} {r t : Int} (h : instrB x r t = true) : 0 ≤ x.node ∧ x.node ≤ 23 := by
  unfold instrB at h
  simp only [Bool.and_eq_true, inB_iff] at h
  exact h.1
theorem instr_src {x : InstrD} {r t : Int} (h : instrB x r t = true) : ∀ f ∈ x.src, 0 ≤ f ∧ f ≤ r - 1 := by
  unfold instrB at h
  simp only [Bool.and_eq_true, List.all_eq_true, inB_iff] at h
  exact h.2.1
theorem instr_dest {x : InstrD} {r t : Int} (h : instrB x r t = true) (hk : x.kind ≠ 18) : 0 ≤ x.dest ∧ x.dest ≤ r - 1 := by
  unfold instrB at h
  rw [if_neg hk] at h
  simp only [Bool.and_eq_true, inB_iff] at h
  exact h.2.2.1
theorem instr_bounds {x : InstrD} {r t : Int} (h : instrB x r t = true) : 1 ≤ x.kind ∧ x.kind ≤ 18 := by
  by_cases k : x.kind = 18
  · omega
  by_cases k6 : x.kind = 6
  · omega
  unfold instrB at h
  rw [if_neg k, if_neg k6] at h
  simp only [Bool.and_eq_true] at h
  have := h.2.2.2
  unfold nodeB nodeOf at this
  simp only [Bool.and_eq_true, inB_iff] at this
  omega
theorem insB_all {l : List InstrD} {r t i : Int} (h : l.all (insB r t i) = true) : ∀ x ∈ l, instrB x r t = true := fun x hx => by
  have := List.all_eq_true.1 h x hx
  unfold insB at this
  rw [Bool.and_eq_true] at this
  exact this.1
/-- the outputs of a valid program are registers -/
theorem written_outs {l : List InstrD} {r t i : Int} (h : l.all (insB r t i) = true) {outs : List Int} (hw : writtenB l outs = true) : outs.all (fun f => inB f 0 (r - 1)) = true := by
  unfold writtenB at hw
  cases e : wrRun l with
  | none => rw [e] at hw; cases hw
  | some g =>
    rw [e] at hw
    have hw' : outs.all (fun f => g.contains f) = true := hw
    rw [List.all_eq_true] at hw' ⊢
    intro f hf
    have hm := hw' f hf
    rw [List.contains_iff_mem] at hm
    have := wr_in (P := fun f => 0 ≤ f ∧ f ≤ r - 1) (fun x hx hk => instr_dest (insB_all h x hx) hk) l.length (Nat.le_refl _) g (by rw [List.take_length]; exact e) f hm
    exact inB_true this
theorem progB_has (x : ProgramD) : progB x =
  (inB x.inputs 0 4 && (inB x.registers 0 24 && (tablesB x.tables && (decide (x.code.length ≤ 48) && (decide (x.outputs.length ≤ 4) && (x.outputs.all (fun f => inB f 0 (x.registers - 1)) &&
    (x.code.all (insB x.registers x.tables.length x.inputs) && (hasB x.code && writtenB x.code x.outputs)))))))) := by
  unfold progB
  congr 5
  cases ha : x.code.all (insB x.registers x.tables.length x.inputs)
  · simp
  · rw [pairs_has (fun y hy => instr_kind (insB_all ha y hy))]
    cases hw : writtenB x.code x.outputs
    · simp
    · rw [written_outs ha hw]; rfl
end Go.Proofs.Ytabfdnkomhjlkaa
