/-
  The next state of a node: the reference's function, kind by kind; all kinds.
-/
import Derived.Test.YtdcacmmglkcliaaGreatDoorOutA
import Derived.Test.YtdcacmmglkcliaaGreatDoorCopy
import Derived.Deep.RegionLaw
namespace Go.Proofs.YtdcacmmglkcliaaGreatDoor
open Go.ChangeShapes Go.WideShapes Go.ChangeAt Go.RowKit Go.Sort
set_option linter.unusedVariables false

theorem bdrew (w : World) : Below w.heap.size w w.drew := ⟨rfl, rfl, rfl, Nat.le_refl _, fun _ _ => rfl⟩
theorem Below.drewR {B : Nat} {a w : World} (h : Below B a w) : Below B a w.drew := ⟨h.os, h.tape, h.output, h.size, h.block⟩
theorem RdI.tail {w : World} {b o : Nat} {xs : List Int} (h : RdI w (some ⟨b, o, none⟩) xs) : RdI w (some ⟨b, o + 1, none⟩) (xs.drop 1) := by
  have hl := h.len
  refine ⟨by rw [List.length_drop]; omega, ?_⟩
  rcases h.cells with rfl | ⟨b', o', e, hc⟩
  · exact .inl rfl
  · simp only [Option.some.injEq, Addr.mk.injEq, and_true] at e
    obtain ⟨rfl, rfl⟩ := e
    refine .inr ⟨b, o + 1, rfl, fun i hi => ?_⟩
    rw [List.length_drop] at hi
    rw [List.getElem_drop, show o + 1 + i = o + (1 + i) by omega]
    exact hc (1 + i) (by omega)
theorem RdI.tailc {w : World} {b o m k : Nat} {xs : List Int} (h : RdI w (some ⟨b, o, none⟩) xs) (hm : xs.length = m + 1) (hk : m ≤ k) : RdI w (if k = 0 then some ⟨b, o, none⟩ else some ⟨b, o + 1, none⟩) (xs.drop 1) := by
  split
  · have e : xs.drop 1 = [] := List.eq_nil_of_length_eq_zero (by rw [List.length_drop]; omega)
    rw [e]; exact RdI.nil _ _
  · exact h.tail
/-- append of one number that is read somewhere, as one step of a region that draws its order -/
theorem step_append_rd {ops : Array Oper} {o : Oper} {a : Act} {K : Act → World → Prop} {Q : Exit → Act → World → Prop} {E : Prop} {w : World} {y : Int} (hgd : o.guard = none) (s x : Operand)
    (ho : o.op = .call { callee := .builtin .append, args := #[s, x], argTypes := #[24, 24] })
    {B : Nat} {v : Value} {xs : List Int} (hs : a.eval s = v) (hown : OwnI B w v xs) {p : Option Addr} {c : Nat} (hr : RdI w p [y]) (hx : a.eval x = .slice p 1 c) (hlen : xs.length < 17592186044415) (hB : B ≤ w.heap.size)
    (h : ∀ q c w', OwnI B w' (.slice q (xs.length + 1) c) (xs ++ [y]) → w.os = w'.os → w.tape = w'.tape → w.output = w'.output → w.heap.size ≤ w'.heap.size → (∀ k, k < w.heap.size → v.ownBlock ≠ some k → w'.heap[k]? = w.heap[k]?) → K (a.put o.dst (.slice q (xs.length + 1) c)) w') :
    if Region.wanted o (yielded ops a.tmps) = true then Oper.wp Tryz.prog o a w K Q else E := by
  have hw : Region.wanted o (yielded ops a.tmps) = true := by simp [Region.wanted, hgd]
  rw [if_pos hw]
  obtain ⟨v', w', h1, h2, h3⟩ := run_append_int w o.type hown (c := c) hr (by simp only [List.length_cons, List.length_nil]; omega) hB
  obtain ⟨q, c, rfl, -⟩ := h2.rd
  have e : (xs ++ [y]).length = xs.length + 1 := by simp
  rw [e] at h1 h2
  unfold Oper.wp execOp
  simp only [List.length_cons, List.length_nil] at h1
  simp only [ho, resolve, invoke, builtin, Sem.run_bind, Sem.run_pure, Result.andThen_ok, List.map_toArray, List.map_cons, List.map_nil, hs, hx, h1]
  exact h q c w' h2 h3.os.symm h3.tape.symm h3.output.symm h3.size fun k hk hne => h3.block k hk (fun e => hne e.symm)
theorem below_step {w0 w w' : World} {v : Value} {xs : List Int} (h : Below w0.heap.size w0 w) (hown : OwnI w0.heap.size w v xs) (o1 : w.os = w'.os) (o2 : w.tape = w'.tape) (o3 : w.output = w'.output) (hs : w.heap.size ≤ w'.heap.size)
    (hk : ∀ k, k < w.heap.size → v.ownBlock ≠ some k → w'.heap[k]? = w.heap[k]?) : Below w0.heap.size w0 w' :=
  ⟨o1.symm.trans h.os, o2.symm.trans h.tape, o3.symm.trans h.output, Nat.le_trans h.size hs, fun k hkk => (hk k (Nat.lt_of_lt_of_le hkk h.size) fun e => by have := (hown.lt e).1; omega).trans (h.block k hkk)⟩
end Go.Proofs.YtdcacmmglkcliaaGreatDoor
