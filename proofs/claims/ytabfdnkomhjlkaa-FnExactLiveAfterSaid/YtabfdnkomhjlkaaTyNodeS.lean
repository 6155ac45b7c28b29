/-
  Slices of nodes: how they lie in memory; contracts of the laws' helpers for them.
-/
import Derived.Test.YtabfdnkomhjlkaaPNode
import Derived.Lib.QuietBelow
namespace Go.Proofs.Ytabfdnkomhjlkaa
open Go.ChangeShapes Go.WideShapes Go.ChangeAt Go.RowKit Go.Sort
set_option linter.unusedVariables false

/-- the slice of nodes at p reads xs -/
structure RdNodeS (w : World) (p : Option Addr) (xs : List NodeD) : Prop where
  len : xs.length ≤ maxLen
  cells : xs = [] ∨ ∃ b o, p = some ⟨b, o, none⟩ ∧ ∀ i, (h : i < xs.length) → PNode w b (o + i * 4) xs[i]
theorem RdNodeS.pos {w : World} {p : Option Addr} {xs : List NodeD} (h : RdNodeS w p xs) {k : Nat} (hk : k < xs.length) :
    ∃ b o, p = some ⟨b, o, none⟩ ∧ b < w.heap.size ∧ ∀ i, (h : i < xs.length) → PNode w b (o + i * 4) xs[i] := by
  rcases h.cells with rfl | ⟨b, o, e, hc⟩
  · simp at hk
  · exact ⟨b, o, e, (hc k hk).lt, hc⟩
theorem RdNodeS.nil (w : World) (p : Option Addr) : RdNodeS w p [] := ⟨by simp [maxLen], .inl rfl⟩
theorem RdNodeS.below {w w' : World} {p : Option Addr} {xs : List NodeD} (h : RdNodeS w p xs) (hb : Below w.heap.size w w') : RdNodeS w' p xs := by
  refine ⟨h.len, ?_⟩
  rcases h.cells with rfl | ⟨b, o, e, hc⟩
  · exact .inl rfl
  · exact .inr ⟨b, o, e, fun i hi => (hc i hi).below hb⟩
def VNodeS (w : World) (v : Value) (xs : List NodeD) : Prop := ∃ p c, v = .slice p xs.length c ∧ RdNodeS w p xs
theorem VNodeS.below {w w' : World} {v : Value} {xs : List NodeD} (h : VNodeS w v xs) (hb : Below w.heap.size w w') : VNodeS w' v xs := by
  obtain ⟨p, c, rfl, hr⟩ := h
  exact ⟨p, c, rfl, hr.below hb⟩
/-- the cells of nodes, the values L in the place of their slices -/
def nodeCells : List NodeD → List Value → List Value
  | x :: xs, u :: us => .int .i64 x.kind :: .int .i64 x.a :: .int .i64 x.b :: u :: nodeCells xs us
  | _, _ => []
theorem nodeCells_length : ∀ (xs : List NodeD) (L : List Value), L.length = xs.length → (nodeCells xs L).length = xs.length * 4
  | [], L, h => by rw [nodeCells]; simp; intros; simp_all
  | x :: xs, [], h => by simp at h
  | x :: xs, u :: us, h => by
    rw [nodeCells]
    simp only [List.length_cons] at h ⊢
    rw [nodeCells_length xs us (by omega)]
    omega
theorem nodeCells_get : ∀ (xs : List NodeD) (L : List Value) (i : Nat) (h : i < xs.length) (hL : i < L.length),
    (nodeCells xs L)[i * 4]? = some (.int .i64 xs[i].kind) ∧ (nodeCells xs L)[i * 4 + 1]? = some (.int .i64 xs[i].a) ∧ (nodeCells xs L)[i * 4 + 2]? = some (.int .i64 xs[i].b) ∧ (nodeCells xs L)[i * 4 + 3]? = some L[i]
  | [], _, i, h, _ => by simp at h
  | _ :: _, [], i, _, h => by simp at h
  | x :: xs, u :: us, 0, _, _ => ⟨rfl, rfl, rfl, rfl⟩
  | x :: xs, u :: us, i + 1, h, hL => by
    have := nodeCells_get xs us i (by simpa using h) (by simpa using hL)
    rw [nodeCells, show (i + 1) * 4 = i * 4 + 1 + 1 + 1 + 1 by omega]
    simpa using this
theorem nodeCells_append : ∀ (xs ys : List NodeD) (L M : List Value), L.length = xs.length → nodeCells (xs ++ ys) (L ++ M) = nodeCells xs L ++ nodeCells ys M
  | [], ys, L, M, h => by
    have : L = [] := List.eq_nil_of_length_eq_zero h
    subst this
    simp [nodeCells]
  | x :: xs, ys, [], M, h => by simp at h
  | x :: xs, ys, u :: us, M, h => by
    rw [List.cons_append, List.cons_append, nodeCells, nodeCells, nodeCells_append xs ys us M (by simpa using h)]
    rfl
/-- sizes and marks -/
def wtNodeS (xs : List NodeD) : Nat := xs.length + lens (xs.map NodeD.src)
def cntNodeS (xs : List NodeD) : Nat := 3 * xs.length + lens (xs.map NodeD.src)
theorem cntNodeS_le (xs : List NodeD) : cntNodeS xs ≤ 6 * wtNodeS xs := by unfold cntNodeS wtNodeS; omega
def markNodeS (m : Int) : List NodeD → List NodeD
  | [] => []
  | x :: xs => ⟨m, m + 1, m + 1 + 1, markI (m + 1 + 1 + 1) x.src⟩ :: markNodeS (m + 1 + 1 + 1 + x.src.length) xs
theorem markNodeS_length : ∀ (xs : List NodeD) (m : Int), (markNodeS m xs).length = xs.length
  | [], _ => rfl
  | x :: xs, m => by rw [markNodeS, List.length_cons, List.length_cons, markNodeS_length xs]
end Go.Proofs.Ytabfdnkomhjlkaa
