/-
  No cell of these rows narrows 'for every input' (looked for: loops, veiled, ifaces, maps, wideKeys, modest, calm, conditions, laid).
  DERIVED. THE GIVEN ROWS OF THIS SEAT. 8 by the template 'for every input the law returns true; each argument reads behind the call as it read before'; 0 by the template 'total and deterministic' (their statements: YtlfhdocgemiogaaTotals.lean).
  GIVEN WITH THE SEED: the statements are not yours to turn. If you find one false, say at which input.
  Laid BY PROGRAM, IN A SANDBOX (cutbox-rows.mjs): the forced cells as the released guide's own fill.sh prints them over the translation e29715307bcfab6e… (all of the seat's roots in one cut). By AI agents, Wed Nov 11 2026. No macro, syntax, notation, axiom, sorry.
-/
import Derived.Test.YtlfhdocgemiogaaChecked
import GoSem.Claim
import GoSem.ClaimJoined
import GoSem.ClaimMapViews
import Derived.JoinedTies
import Derived.KernelRfl
namespace Go.Proofs.Ytlfhdocgemiogaa
/- THE CELL 'sum', in the pinned program and in every row, IS THE sha256 OF THE DUMP (.gsa) THAT YtlfhdocgemiogaaProg.lean LOADS. Nothing in Lean hashes anything: it is a label: what it is worth is what the hold of that sum in a sandbox is worth. -/
noncomputable def Try.pinned : Pinned := { name := "ytlfhdocgemiogaa", sum := "e29715307bcfab6e1dd568503c78e56a7e5cd65d5a3b94a13c367f4ed8730332", checked := Try.checked }
namespace Rows
def none {H : Type} : Left H := { results := [], args := [] }

/-- 'laws.FnExactValidMatrix': WHATEVER THE INPUT: true; the input reads as it did. -/
def fnExactValidMatrixSpec : ChangeSpec := { name := "fnExactValidMatrix", fn := fun _ => fun
  | [d] => { results := [.lit (.bool true)], args := [d] }
  | _ => none }
def fnExactValidMatrixRow : OpenClaim := { program := "ytlfhdocgemiogaa", sum := "e29715307bcfab6e1dd568503c78e56a7e5cd65d5a3b94a13c367f4ed8730332", func := "loop.example/g00903/laws.FnExactValidMatrix", spec := "fnExactValidMatrix", apart := false }
def FnExactValidMatrixSaid : Prop := fnExactValidMatrixRow.holds Try.pinned (OpenSpec.ofChange fnExactValidMatrixSpec)

/-- ITS FALSE NEIGHBOUR: 'it returns false'. Refute it at one input. -/
def fnExactValidMatrixWrong : ChangeSpec := { name := "fnExactValidMatrix", fn := fun _ => fun
  | [d] => { results := [.lit (.bool false)], args := [d] }
  | _ => none }
def FnExactValidMatrixWrongFalsely : Prop := fnExactValidMatrixRow.holds Try.pinned (OpenSpec.ofChange fnExactValidMatrixWrong)

/-- 'laws.FnExactSameLinear': WHATEVER THE INPUT: true; the input reads as it did. -/
def fnExactSameLinearSpec : ChangeSpec := { name := "fnExactSameLinear", fn := fun _ => fun
  | [d1, d2] => { results := [.lit (.bool true)], args := [d1, d2] }
  | _ => none }
def fnExactSameLinearRow : OpenClaim := { program := "ytlfhdocgemiogaa", sum := "e29715307bcfab6e1dd568503c78e56a7e5cd65d5a3b94a13c367f4ed8730332", func := "loop.example/g00903/laws.FnExactSameLinear", spec := "fnExactSameLinear", apart := false }
def FnExactSameLinearSaid : Prop := fnExactSameLinearRow.holds Try.pinned (OpenSpec.ofChange fnExactSameLinearSpec)

/-- ITS FALSE NEIGHBOUR: 'it returns false'. Refute it at one input. -/
def fnExactSameLinearWrong : ChangeSpec := { name := "fnExactSameLinear", fn := fun _ => fun
  | [d1, d2] => { results := [.lit (.bool false)], args := [d1, d2] }
  | _ => none }
def FnExactSameLinearWrongFalsely : Prop := fnExactSameLinearRow.holds Try.pinned (OpenSpec.ofChange fnExactSameLinearWrong)

/-- 'laws.FnExactValidLinear': WHATEVER THE INPUT: true; the input reads as it did. -/
def fnExactValidLinearSpec : ChangeSpec := { name := "fnExactValidLinear", fn := fun _ => fun
  | [d] => { results := [.lit (.bool true)], args := [d] }
  | _ => none }
def fnExactValidLinearRow : OpenClaim := { program := "ytlfhdocgemiogaa", sum := "e29715307bcfab6e1dd568503c78e56a7e5cd65d5a3b94a13c367f4ed8730332", func := "loop.example/g00903/laws.FnExactValidLinear", spec := "fnExactValidLinear", apart := false }
def FnExactValidLinearSaid : Prop := fnExactValidLinearRow.holds Try.pinned (OpenSpec.ofChange fnExactValidLinearSpec)

/-- ITS FALSE NEIGHBOUR: 'it returns false'. Refute it at one input. -/
def fnExactValidLinearWrong : ChangeSpec := { name := "fnExactValidLinear", fn := fun _ => fun
  | [d] => { results := [.lit (.bool false)], args := [d] }
  | _ => none }
def FnExactValidLinearWrongFalsely : Prop := fnExactValidLinearRow.holds Try.pinned (OpenSpec.ofChange fnExactValidLinearWrong)

/-- 'laws.FnExactMulMatrix': WHATEVER THE INPUT: true; the input reads as it did. -/
def fnExactMulMatrixSpec : ChangeSpec := { name := "fnExactMulMatrix", fn := fun _ => fun
  | [d1, d2] => { results := [.lit (.bool true)], args := [d1, d2] }
  | _ => none }
def fnExactMulMatrixRow : OpenClaim := { program := "ytlfhdocgemiogaa", sum := "e29715307bcfab6e1dd568503c78e56a7e5cd65d5a3b94a13c367f4ed8730332", func := "loop.example/g00903/laws.FnExactMulMatrix", spec := "fnExactMulMatrix", apart := false }
def FnExactMulMatrixSaid : Prop := fnExactMulMatrixRow.holds Try.pinned (OpenSpec.ofChange fnExactMulMatrixSpec)

/-- ITS FALSE NEIGHBOUR: 'it returns false'. Refute it at one input. -/
def fnExactMulMatrixWrong : ChangeSpec := { name := "fnExactMulMatrix", fn := fun _ => fun
  | [d1, d2] => { results := [.lit (.bool false)], args := [d1, d2] }
  | _ => none }
def FnExactMulMatrixWrongFalsely : Prop := fnExactMulMatrixRow.holds Try.pinned (OpenSpec.ofChange fnExactMulMatrixWrong)

/-- 'laws.FnExactDeterminant': WHATEVER THE INPUT: true; the input reads as it did. -/
def fnExactDeterminantSpec : ChangeSpec := { name := "fnExactDeterminant", fn := fun _ => fun
  | [d] => { results := [.lit (.bool true)], args := [d] }
  | _ => none }
def fnExactDeterminantRow : OpenClaim := { program := "ytlfhdocgemiogaa", sum := "e29715307bcfab6e1dd568503c78e56a7e5cd65d5a3b94a13c367f4ed8730332", func := "loop.example/g00903/laws.FnExactDeterminant", spec := "fnExactDeterminant", apart := false }
def FnExactDeterminantSaid : Prop := fnExactDeterminantRow.holds Try.pinned (OpenSpec.ofChange fnExactDeterminantSpec)

/-- ITS FALSE NEIGHBOUR: 'it returns false'. Refute it at one input. -/
def fnExactDeterminantWrong : ChangeSpec := { name := "fnExactDeterminant", fn := fun _ => fun
  | [d] => { results := [.lit (.bool false)], args := [d] }
  | _ => none }
def FnExactDeterminantWrongFalsely : Prop := fnExactDeterminantRow.holds Try.pinned (OpenSpec.ofChange fnExactDeterminantWrong)

/-- 'laws.FnExactCharPoly': WHATEVER THE INPUT: true; the input reads as it did. -/
def fnExactCharPolySpec : ChangeSpec := { name := "fnExactCharPoly", fn := fun _ => fun
  | [d] => { results := [.lit (.bool true)], args := [d] }
  | _ => none }
def fnExactCharPolyRow : OpenClaim := { program := "ytlfhdocgemiogaa", sum := "e29715307bcfab6e1dd568503c78e56a7e5cd65d5a3b94a13c367f4ed8730332", func := "loop.example/g00903/laws.FnExactCharPoly", spec := "fnExactCharPoly", apart := false }
def FnExactCharPolySaid : Prop := fnExactCharPolyRow.holds Try.pinned (OpenSpec.ofChange fnExactCharPolySpec)

/-- ITS FALSE NEIGHBOUR: 'it returns false'. Refute it at one input. -/
def fnExactCharPolyWrong : ChangeSpec := { name := "fnExactCharPoly", fn := fun _ => fun
  | [d] => { results := [.lit (.bool false)], args := [d] }
  | _ => none }
def FnExactCharPolyWrongFalsely : Prop := fnExactCharPolyRow.holds Try.pinned (OpenSpec.ofChange fnExactCharPolyWrong)

/-- 'laws.FnExactStepLinear': WHATEVER THE INPUT: true; the input reads as it did. -/
def fnExactStepLinearSpec : ChangeSpec := { name := "fnExactStepLinear", fn := fun _ => fun
  | [d1, d2, d3] => { results := [.lit (.bool true)], args := [d1, d2, d3] }
  | _ => none }
def fnExactStepLinearRow : OpenClaim := { program := "ytlfhdocgemiogaa", sum := "e29715307bcfab6e1dd568503c78e56a7e5cd65d5a3b94a13c367f4ed8730332", func := "loop.example/g00903/laws.FnExactStepLinear", spec := "fnExactStepLinear", apart := false }
def FnExactStepLinearSaid : Prop := fnExactStepLinearRow.holds Try.pinned (OpenSpec.ofChange fnExactStepLinearSpec)

/-- ITS FALSE NEIGHBOUR: 'it returns false'. Refute it at one input. -/
def fnExactStepLinearWrong : ChangeSpec := { name := "fnExactStepLinear", fn := fun _ => fun
  | [d1, d2, d3] => { results := [.lit (.bool false)], args := [d1, d2, d3] }
  | _ => none }
def FnExactStepLinearWrongFalsely : Prop := fnExactStepLinearRow.holds Try.pinned (OpenSpec.ofChange fnExactStepLinearWrong)

/-- 'laws.FnDeterminant': WHATEVER THE INPUT: true; the input reads as it did. -/
def fnDeterminantSpec : ChangeSpec := { name := "fnDeterminant", fn := fun _ => fun
  | [d] => { results := [.lit (.bool true)], args := [d] }
  | _ => none }
def fnDeterminantRow : OpenClaim := { program := "ytlfhdocgemiogaa", sum := "e29715307bcfab6e1dd568503c78e56a7e5cd65d5a3b94a13c367f4ed8730332", func := "loop.example/g00903/laws.FnDeterminant", spec := "fnDeterminant", apart := false }
def FnDeterminantSaid : Prop := fnDeterminantRow.holds Try.pinned (OpenSpec.ofChange fnDeterminantSpec)

/-- ITS FALSE NEIGHBOUR: 'it returns false'. Refute it at one input. -/
def fnDeterminantWrong : ChangeSpec := { name := "fnDeterminant", fn := fun _ => fun
  | [d] => { results := [.lit (.bool false)], args := [d] }
  | _ => none }
def FnDeterminantWrongFalsely : Prop := fnDeterminantRow.holds Try.pinned (OpenSpec.ofChange fnDeterminantWrong)

/- THE SECOND FORM. 'bulk': how many values and letters a reading holds, each counted each time it is reached (what is shared counts as often as it is met; a slice's spare places count too). A statement '..UptoSaid' is the law's where the arguments, and the package variables that the reading takes, are together of bulk at most 1048576: NARROWER than '..Said'. Prove '..Said' where nothing that the law and all that it calls make is longer than what came in: it says more and counts as full. Else prove '..UptoSaid'. A law counts once. -/
mutual
def uptoBulk {H : Type} : DataW H → Nat
  | .lit (.string bytes) => bytes.length + 1
  | .lit _ => 1
  | .nil => 1
  | .ptr d => uptoBulk d + 1
  | .slice elems spare => uptoBulkAll elems + uptoBulkAll spare + 1
  | .agg parts => uptoBulkAll parts + 1
  | .iface _ d => uptoBulk d + 1
  | .map entries => uptoBulkEntries entries + 1
  | .held _ => 1
def uptoBulkAll {H : Type} : List (DataW H) → Nat
  | [] => 0
  | d :: r => uptoBulk d + uptoBulkAll r
def uptoBulkEntries {H : Type} : List (Lit × DataW H) → Nat
  | [] => 0
  | x :: r => uptoBulkEntry x + uptoBulkEntries r
def uptoBulkEntry {H : Type} : Lit × DataW H → Nat
  | (.string bytes, d) => bytes.length + uptoBulk d + 1
  | (_, d) => uptoBulk d + 1
 end
def uptoSmall : (H : Type) → List (DataW H) → Bool := fun _ ds => decide (uptoBulkAll ds ≤ 1048576)
def OpenSpec.upto (s : _root_.Go.ChangeSpec) : _root_.Go.OpenSpec := { _root_.Go.OpenSpec.ofChange s with cond := some uptoSmall }

/-- 'laws.FnExactValidMatrix', WHERE WHAT IT READS IS OF BULK AT MOST 1048576: true; the input reads as it did. -/
def fnExactValidMatrixUptoRow : OpenClaim := { program := "ytlfhdocgemiogaa", sum := "e29715307bcfab6e1dd568503c78e56a7e5cd65d5a3b94a13c367f4ed8730332", func := "loop.example/g00903/laws.FnExactValidMatrix", spec := "fnExactValidMatrix", apart := false, narrowed := true }
def FnExactValidMatrixUptoSaid : Prop := fnExactValidMatrixUptoRow.holds Try.pinned (OpenSpec.upto fnExactValidMatrixSpec)

/-- 'laws.FnExactSameLinear', WHERE WHAT IT READS IS OF BULK AT MOST 1048576: true; the input reads as it did. -/
def fnExactSameLinearUptoRow : OpenClaim := { program := "ytlfhdocgemiogaa", sum := "e29715307bcfab6e1dd568503c78e56a7e5cd65d5a3b94a13c367f4ed8730332", func := "loop.example/g00903/laws.FnExactSameLinear", spec := "fnExactSameLinear", apart := false, narrowed := true }
def FnExactSameLinearUptoSaid : Prop := fnExactSameLinearUptoRow.holds Try.pinned (OpenSpec.upto fnExactSameLinearSpec)

/-- 'laws.FnExactValidLinear', WHERE WHAT IT READS IS OF BULK AT MOST 1048576: true; the input reads as it did. -/
def fnExactValidLinearUptoRow : OpenClaim := { program := "ytlfhdocgemiogaa", sum := "e29715307bcfab6e1dd568503c78e56a7e5cd65d5a3b94a13c367f4ed8730332", func := "loop.example/g00903/laws.FnExactValidLinear", spec := "fnExactValidLinear", apart := false, narrowed := true }
def FnExactValidLinearUptoSaid : Prop := fnExactValidLinearUptoRow.holds Try.pinned (OpenSpec.upto fnExactValidLinearSpec)

/-- 'laws.FnExactMulMatrix', WHERE WHAT IT READS IS OF BULK AT MOST 1048576: true; the input reads as it did. -/
def fnExactMulMatrixUptoRow : OpenClaim := { program := "ytlfhdocgemiogaa", sum := "e29715307bcfab6e1dd568503c78e56a7e5cd65d5a3b94a13c367f4ed8730332", func := "loop.example/g00903/laws.FnExactMulMatrix", spec := "fnExactMulMatrix", apart := false, narrowed := true }
def FnExactMulMatrixUptoSaid : Prop := fnExactMulMatrixUptoRow.holds Try.pinned (OpenSpec.upto fnExactMulMatrixSpec)

/-- 'laws.FnExactDeterminant', WHERE WHAT IT READS IS OF BULK AT MOST 1048576: true; the input reads as it did. -/
def fnExactDeterminantUptoRow : OpenClaim := { program := "ytlfhdocgemiogaa", sum := "e29715307bcfab6e1dd568503c78e56a7e5cd65d5a3b94a13c367f4ed8730332", func := "loop.example/g00903/laws.FnExactDeterminant", spec := "fnExactDeterminant", apart := false, narrowed := true }
def FnExactDeterminantUptoSaid : Prop := fnExactDeterminantUptoRow.holds Try.pinned (OpenSpec.upto fnExactDeterminantSpec)

/-- 'laws.FnExactCharPoly', WHERE WHAT IT READS IS OF BULK AT MOST 1048576: true; the input reads as it did. -/
def fnExactCharPolyUptoRow : OpenClaim := { program := "ytlfhdocgemiogaa", sum := "e29715307bcfab6e1dd568503c78e56a7e5cd65d5a3b94a13c367f4ed8730332", func := "loop.example/g00903/laws.FnExactCharPoly", spec := "fnExactCharPoly", apart := false, narrowed := true }
def FnExactCharPolyUptoSaid : Prop := fnExactCharPolyUptoRow.holds Try.pinned (OpenSpec.upto fnExactCharPolySpec)

/-- 'laws.FnExactStepLinear', WHERE WHAT IT READS IS OF BULK AT MOST 1048576: true; the input reads as it did. -/
def fnExactStepLinearUptoRow : OpenClaim := { program := "ytlfhdocgemiogaa", sum := "e29715307bcfab6e1dd568503c78e56a7e5cd65d5a3b94a13c367f4ed8730332", func := "loop.example/g00903/laws.FnExactStepLinear", spec := "fnExactStepLinear", apart := false, narrowed := true }
def FnExactStepLinearUptoSaid : Prop := fnExactStepLinearUptoRow.holds Try.pinned (OpenSpec.upto fnExactStepLinearSpec)

/-- 'laws.FnDeterminant', WHERE WHAT IT READS IS OF BULK AT MOST 1048576: true; the input reads as it did. -/
def fnDeterminantUptoRow : OpenClaim := { program := "ytlfhdocgemiogaa", sum := "e29715307bcfab6e1dd568503c78e56a7e5cd65d5a3b94a13c367f4ed8730332", func := "loop.example/g00903/laws.FnDeterminant", spec := "fnDeterminant", apart := false, narrowed := true }
def FnDeterminantUptoSaid : Prop := fnDeterminantUptoRow.holds Try.pinned (OpenSpec.upto fnDeterminantSpec)

end Rows
end Go.Proofs.Ytlfhdocgemiogaa
