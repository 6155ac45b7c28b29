/-
  append of one value, as one step of a region that draws its order.
-/
import Derived.Test.YtonkdndpfnapjaaGreatOwn
import Derived.Deep.RegionLaw
namespace Go.Proofs.YtonkdndpfnapjaaGreat
open Go.ChangeShapes Go.WideShapes Go.ChangeAt Go.RowKit
set_option linter.unusedVariables false

/-- append of one value, as one step of a region that draws its order -/
theorem step_append_val {ops : Array Oper} {o : Oper} {a : Act} {K : Act → World → Prop} {Q : Exit → Act → World → Prop} {X : Prop} {w : World} {u : Value} {E T : Nat} (hgd : o.guard = none) (s x : Operand)
    (ho : o.op = .call { callee := .builtin .append, args := #[s, x], argTypes := #[T, T] }) (bytes : Nat) (z : Value) (hT : Tryz.prog.underlying T = some (.slice E)) (hinfo : (Tryz.prog.info? E).map (fun i => (i.zero, i.size, i.bytes)) = some (some z, 1, bytes)) (hz : z.cells.size = 1) (hby : bytes ≤ 64)
    {B : Nat} {v : Value} {L : List Value} (hs : a.eval s = v) (hown : OwnV B w E v L) (hx : a.eval x = .slice (some ⟨w.heap.size, 0, none⟩) 1 1) (h1 : u.oneCell' = true) (hlen : L.length < 1099511627776) (hB : B ≤ w.heap.size)
    (h : ∀ v' w', OwnV B w' E v' (L ++ [u]) → w.os = w'.os → w.tape = w'.tape → w.output = w'.output → w.heap.size ≤ w'.heap.size → (∀ k, k < w.heap.size → v.ownBlock ≠ some k → w'.heap[k]? = w.heap[k]?) → K (a.put o.dst v') w') :
    if Region.wanted o (yielded ops a.tmps) = true then Oper.wp Tryz.prog o a (w.alloc (.cells #[u] E)) K Q else X := by
  have hw : Region.wanted o (yielded ops a.tmps) = true := by simp [Region.wanted, hgd]
  rw [if_pos hw]
  obtain ⟨v', w', e1, e2, e3⟩ := run_append_val w o.type E T bytes z hT hinfo hz hby hown h1 hlen hB
  unfold Oper.wp execOp
  simp only [ho, resolve, invoke, builtin, Sem.run_bind, Sem.run_pure, Result.andThen_ok, List.map_toArray, List.map_cons, List.map_nil, hs, hx, e1]
  refine h v' w' e2 e3.os.symm e3.tape.symm e3.output.symm ?_ fun k hk hne => (e3.block k (by simp; omega) (fun e => hne e.symm)).trans (Below.heap_alloc _ _ _ hk)
  have := e3.size; simp at this; omega
end Go.Proofs.YtonkdndpfnapjaaGreat
