/-
  No cell of these rows narrows 'for every input' (looked for: loops, veiled, ifaces, maps, wideKeys, modest, calm, conditions, laid).
  DERIVED. THE GIVEN ROWS OF THIS SEAT. 8 by the template 'for every input the law returns true; each argument reads behind the call as it read before'; 0 by the template 'total and deterministic' (their statements: YtalomhakmfknjaaTotals.lean).
  GIVEN WITH THE SEED: the statements are not yours to turn. If you find one false, say at which input.
  Laid BY PROGRAM, IN A SANDBOX (cutbox-rows.mjs): the forced cells as the released guide's own fill.sh prints them over the translation d4ea103c28d1c0f5… (all of the seat's roots in one cut). By AI agents, Wed Nov 11 2026. No macro, syntax, notation, axiom, sorry.
-/
import Derived.Test.YtalomhakmfknjaaChecked
import GoSem.Claim
import GoSem.ClaimJoined
import GoSem.ClaimMapViews
import Derived.JoinedTies
import Derived.KernelRfl
namespace Go.Proofs.Ytalomhakmfknjaa
/- THE CELL 'sum', in the pinned program and in every row, IS THE sha256 OF THE DUMP (.gsa) THAT YtalomhakmfknjaaProg.lean LOADS. Nothing in Lean hashes anything: it is a label: what it is worth is what the hold of that sum in a sandbox is worth. -/
noncomputable def Try.pinned : Pinned := { name := "ytalomhakmfknjaa", sum := "d4ea103c28d1c0f5b3b84d9a3a6061bb8e458e07841df85e228c018b555573da", checked := Try.checked }
namespace Rows
def none {H : Type} : Left H := { results := [], args := [] }

/-- 'laws.FnExactStartState': WHATEVER THE INPUT: true; the input reads as it did. -/
def fnExactStartStateSpec : ChangeSpec := { name := "fnExactStartState", fn := fun _ => fun
  | [d] => { results := [.lit (.bool true)], args := [d] }
  | _ => none }
def fnExactStartStateRow : OpenClaim := { program := "ytalomhakmfknjaa", sum := "d4ea103c28d1c0f5b3b84d9a3a6061bb8e458e07841df85e228c018b555573da", func := "loop.example/g00903/laws.FnExactStartState", spec := "fnExactStartState", apart := false }
def FnExactStartStateSaid : Prop := fnExactStartStateRow.holds Try.pinned (OpenSpec.ofChange fnExactStartStateSpec)

/-- ITS FALSE NEIGHBOUR: 'it returns false'. Refute it at one input. -/
def fnExactStartStateWrong : ChangeSpec := { name := "fnExactStartState", fn := fun _ => fun
  | [d] => { results := [.lit (.bool false)], args := [d] }
  | _ => none }
def FnExactStartStateWrongFalsely : Prop := fnExactStartStateRow.holds Try.pinned (OpenSpec.ofChange fnExactStartStateWrong)

/-- 'laws.FnExactNeededNodes': WHATEVER THE INPUT: true; the input reads as it did. -/
def fnExactNeededNodesSpec : ChangeSpec := { name := "fnExactNeededNodes", fn := fun _ => fun
  | [d] => { results := [.lit (.bool true)], args := [d] }
  | _ => none }
def fnExactNeededNodesRow : OpenClaim := { program := "ytalomhakmfknjaa", sum := "d4ea103c28d1c0f5b3b84d9a3a6061bb8e458e07841df85e228c018b555573da", func := "loop.example/g00903/laws.FnExactNeededNodes", spec := "fnExactNeededNodes", apart := false }
def FnExactNeededNodesSaid : Prop := fnExactNeededNodesRow.holds Try.pinned (OpenSpec.ofChange fnExactNeededNodesSpec)

/-- ITS FALSE NEIGHBOUR: 'it returns false'. Refute it at one input. -/
def fnExactNeededNodesWrong : ChangeSpec := { name := "fnExactNeededNodes", fn := fun _ => fun
  | [d] => { results := [.lit (.bool false)], args := [d] }
  | _ => none }
def FnExactNeededNodesWrongFalsely : Prop := fnExactNeededNodesRow.holds Try.pinned (OpenSpec.ofChange fnExactNeededNodesWrong)

/-- 'laws.FnExactIsLinearPatch': WHATEVER THE INPUT: true; the input reads as it did. -/
def fnExactIsLinearPatchSpec : ChangeSpec := { name := "fnExactIsLinearPatch", fn := fun _ => fun
  | [d] => { results := [.lit (.bool true)], args := [d] }
  | _ => none }
def fnExactIsLinearPatchRow : OpenClaim := { program := "ytalomhakmfknjaa", sum := "d4ea103c28d1c0f5b3b84d9a3a6061bb8e458e07841df85e228c018b555573da", func := "loop.example/g00903/laws.FnExactIsLinearPatch", spec := "fnExactIsLinearPatch", apart := false }
def FnExactIsLinearPatchSaid : Prop := fnExactIsLinearPatchRow.holds Try.pinned (OpenSpec.ofChange fnExactIsLinearPatchSpec)

/-- ITS FALSE NEIGHBOUR: 'it returns false'. Refute it at one input. -/
def fnExactIsLinearPatchWrong : ChangeSpec := { name := "fnExactIsLinearPatch", fn := fun _ => fun
  | [d] => { results := [.lit (.bool false)], args := [d] }
  | _ => none }
def FnExactIsLinearPatchWrongFalsely : Prop := fnExactIsLinearPatchRow.holds Try.pinned (OpenSpec.ofChange fnExactIsLinearPatchWrong)

/-- 'laws.FnExactStateCount': WHATEVER THE INPUT: true; the input reads as it did. -/
def fnExactStateCountSpec : ChangeSpec := { name := "fnExactStateCount", fn := fun _ => fun
  | [d] => { results := [.lit (.bool true)], args := [d] }
  | _ => none }
def fnExactStateCountRow : OpenClaim := { program := "ytalomhakmfknjaa", sum := "d4ea103c28d1c0f5b3b84d9a3a6061bb8e458e07841df85e228c018b555573da", func := "loop.example/g00903/laws.FnExactStateCount", spec := "fnExactStateCount", apart := false }
def FnExactStateCountSaid : Prop := fnExactStateCountRow.holds Try.pinned (OpenSpec.ofChange fnExactStateCountSpec)

/-- ITS FALSE NEIGHBOUR: 'it returns false'. Refute it at one input. -/
def fnExactStateCountWrong : ChangeSpec := { name := "fnExactStateCount", fn := fun _ => fun
  | [d] => { results := [.lit (.bool false)], args := [d] }
  | _ => none }
def FnExactStateCountWrongFalsely : Prop := fnExactStateCountRow.holds Try.pinned (OpenSpec.ofChange fnExactStateCountWrong)

/-- 'laws.FnExactTrimPatch': WHATEVER THE INPUT: true; the input reads as it did. -/
def fnExactTrimPatchSpec : ChangeSpec := { name := "fnExactTrimPatch", fn := fun _ => fun
  | [d] => { results := [.lit (.bool true)], args := [d] }
  | _ => none }
def fnExactTrimPatchRow : OpenClaim := { program := "ytalomhakmfknjaa", sum := "d4ea103c28d1c0f5b3b84d9a3a6061bb8e458e07841df85e228c018b555573da", func := "loop.example/g00903/laws.FnExactTrimPatch", spec := "fnExactTrimPatch", apart := false }
def FnExactTrimPatchSaid : Prop := fnExactTrimPatchRow.holds Try.pinned (OpenSpec.ofChange fnExactTrimPatchSpec)

/-- ITS FALSE NEIGHBOUR: 'it returns false'. Refute it at one input. -/
def fnExactTrimPatchWrong : ChangeSpec := { name := "fnExactTrimPatch", fn := fun _ => fun
  | [d] => { results := [.lit (.bool false)], args := [d] }
  | _ => none }
def FnExactTrimPatchWrongFalsely : Prop := fnExactTrimPatchRow.holds Try.pinned (OpenSpec.ofChange fnExactTrimPatchWrong)

/-- 'laws.FnExactChainPatches': WHATEVER THE INPUT: true; the input reads as it did. -/
def fnExactChainPatchesSpec : ChangeSpec := { name := "fnExactChainPatches", fn := fun _ => fun
  | [d1, d2] => { results := [.lit (.bool true)], args := [d1, d2] }
  | _ => none }
def fnExactChainPatchesRow : OpenClaim := { program := "ytalomhakmfknjaa", sum := "d4ea103c28d1c0f5b3b84d9a3a6061bb8e458e07841df85e228c018b555573da", func := "loop.example/g00903/laws.FnExactChainPatches", spec := "fnExactChainPatches", apart := false }
def FnExactChainPatchesSaid : Prop := fnExactChainPatchesRow.holds Try.pinned (OpenSpec.ofChange fnExactChainPatchesSpec)

/-- ITS FALSE NEIGHBOUR: 'it returns false'. Refute it at one input. -/
def fnExactChainPatchesWrong : ChangeSpec := { name := "fnExactChainPatches", fn := fun _ => fun
  | [d1, d2] => { results := [.lit (.bool false)], args := [d1, d2] }
  | _ => none }
def FnExactChainPatchesWrongFalsely : Prop := fnExactChainPatchesRow.holds Try.pinned (OpenSpec.ofChange fnExactChainPatchesWrong)

/-- 'laws.FnExactStepNode': WHATEVER THE INPUT: true; the input reads as it did. -/
def fnExactStepNodeSpec : ChangeSpec := { name := "fnExactStepNode", fn := fun _ => fun
  | [d1, d2, d3, d4] => { results := [.lit (.bool true)], args := [d1, d2, d3, d4] }
  | _ => none }
def fnExactStepNodeRow : OpenClaim := { program := "ytalomhakmfknjaa", sum := "d4ea103c28d1c0f5b3b84d9a3a6061bb8e458e07841df85e228c018b555573da", func := "loop.example/g00903/laws.FnExactStepNode", spec := "fnExactStepNode", apart := false }
def FnExactStepNodeSaid : Prop := fnExactStepNodeRow.holds Try.pinned (OpenSpec.ofChange fnExactStepNodeSpec)

/-- ITS FALSE NEIGHBOUR: 'it returns false'. Refute it at one input. -/
def fnExactStepNodeWrong : ChangeSpec := { name := "fnExactStepNode", fn := fun _ => fun
  | [d1, d2, d3, d4] => { results := [.lit (.bool false)], args := [d1, d2, d3, d4] }
  | _ => none }
def FnExactStepNodeWrongFalsely : Prop := fnExactStepNodeRow.holds Try.pinned (OpenSpec.ofChange fnExactStepNodeWrong)

/-- 'laws.FnExactNodeValues': WHATEVER THE INPUT: true; the input reads as it did. -/
def fnExactNodeValuesSpec : ChangeSpec := { name := "fnExactNodeValues", fn := fun _ => fun
  | [d1, d2, d3] => { results := [.lit (.bool true)], args := [d1, d2, d3] }
  | _ => none }
def fnExactNodeValuesRow : OpenClaim := { program := "ytalomhakmfknjaa", sum := "d4ea103c28d1c0f5b3b84d9a3a6061bb8e458e07841df85e228c018b555573da", func := "loop.example/g00903/laws.FnExactNodeValues", spec := "fnExactNodeValues", apart := false }
def FnExactNodeValuesSaid : Prop := fnExactNodeValuesRow.holds Try.pinned (OpenSpec.ofChange fnExactNodeValuesSpec)

/-- ITS FALSE NEIGHBOUR: 'it returns false'. Refute it at one input. -/
def fnExactNodeValuesWrong : ChangeSpec := { name := "fnExactNodeValues", fn := fun _ => fun
  | [d1, d2, d3] => { results := [.lit (.bool false)], args := [d1, d2, d3] }
  | _ => none }
def FnExactNodeValuesWrongFalsely : Prop := fnExactNodeValuesRow.holds Try.pinned (OpenSpec.ofChange fnExactNodeValuesWrong)

/- THE SECOND FORM. 'bulk': how many values and letters a reading holds, each counted each time it is reached (what is shared counts as often as it is met; a slice's spare places count too). A statement '..UptoSaid' is the law's where the arguments, and the package variables that the reading takes, are together of bulk at most 1048576: NARROWER than '..Said'. Prove '..Said' where nothing that the law and all that it calls make is longer than what came in: it says more and counts as full. Else prove '..UptoSaid'. A law counts once. -/
mutual
def uptoBulk {H : Type} : DataW H → Nat
  | .lit (.string bytes) => bytes.length + 1
  | .lit _ => 1
  | .nil => 1
  | .ptr d => uptoBulk d + 1
  | .slice elems spare => uptoBulkAll elems + uptoBulkAll spare + 1
  | .agg parts => uptoBulkAll parts + 1
  | .iface _ d => uptoBulk d + 1
  | .map entries => uptoBulkEntries entries + 1
  | .held _ => 1
def uptoBulkAll {H : Type} : List (DataW H) → Nat
  | [] => 0
  | d :: r => uptoBulk d + uptoBulkAll r
def uptoBulkEntries {H : Type} : List (Lit × DataW H) → Nat
  | [] => 0
  | x :: r => uptoBulkEntry x + uptoBulkEntries r
def uptoBulkEntry {H : Type} : Lit × DataW H → Nat
  | (.string bytes, d) => bytes.length + uptoBulk d + 1
  | (_, d) => uptoBulk d + 1
 end
def uptoSmall : (H : Type) → List (DataW H) → Bool := fun _ ds => decide (uptoBulkAll ds ≤ 1048576)
def OpenSpec.upto (s : _root_.Go.ChangeSpec) : _root_.Go.OpenSpec := { _root_.Go.OpenSpec.ofChange s with cond := some uptoSmall }

/-- 'laws.FnExactStartState', WHERE WHAT IT READS IS OF BULK AT MOST 1048576: true; the input reads as it did. -/
def fnExactStartStateUptoRow : OpenClaim := { program := "ytalomhakmfknjaa", sum := "d4ea103c28d1c0f5b3b84d9a3a6061bb8e458e07841df85e228c018b555573da", func := "loop.example/g00903/laws.FnExactStartState", spec := "fnExactStartState", apart := false, narrowed := true }
def FnExactStartStateUptoSaid : Prop := fnExactStartStateUptoRow.holds Try.pinned (OpenSpec.upto fnExactStartStateSpec)

/-- 'laws.FnExactNeededNodes', WHERE WHAT IT READS IS OF BULK AT MOST 1048576: true; the input reads as it did. -/
def fnExactNeededNodesUptoRow : OpenClaim := { program := "ytalomhakmfknjaa", sum := "d4ea103c28d1c0f5b3b84d9a3a6061bb8e458e07841df85e228c018b555573da", func := "loop.example/g00903/laws.FnExactNeededNodes", spec := "fnExactNeededNodes", apart := false, narrowed := true }
def FnExactNeededNodesUptoSaid : Prop := fnExactNeededNodesUptoRow.holds Try.pinned (OpenSpec.upto fnExactNeededNodesSpec)

/-- 'laws.FnExactIsLinearPatch', WHERE WHAT IT READS IS OF BULK AT MOST 1048576: true; the input reads as it did. -/
def fnExactIsLinearPatchUptoRow : OpenClaim := { program := "ytalomhakmfknjaa", sum := "d4ea103c28d1c0f5b3b84d9a3a6061bb8e458e07841df85e228c018b555573da", func := "loop.example/g00903/laws.FnExactIsLinearPatch", spec := "fnExactIsLinearPatch", apart := false, narrowed := true }
def FnExactIsLinearPatchUptoSaid : Prop := fnExactIsLinearPatchUptoRow.holds Try.pinned (OpenSpec.upto fnExactIsLinearPatchSpec)

/-- 'laws.FnExactStateCount', WHERE WHAT IT READS IS OF BULK AT MOST 1048576: true; the input reads as it did. -/
def fnExactStateCountUptoRow : OpenClaim := { program := "ytalomhakmfknjaa", sum := "d4ea103c28d1c0f5b3b84d9a3a6061bb8e458e07841df85e228c018b555573da", func := "loop.example/g00903/laws.FnExactStateCount", spec := "fnExactStateCount", apart := false, narrowed := true }
def FnExactStateCountUptoSaid : Prop := fnExactStateCountUptoRow.holds Try.pinned (OpenSpec.upto fnExactStateCountSpec)

/-- 'laws.FnExactTrimPatch', WHERE WHAT IT READS IS OF BULK AT MOST 1048576: true; the input reads as it did. -/
def fnExactTrimPatchUptoRow : OpenClaim := { program := "ytalomhakmfknjaa", sum := "d4ea103c28d1c0f5b3b84d9a3a6061bb8e458e07841df85e228c018b555573da", func := "loop.example/g00903/laws.FnExactTrimPatch", spec := "fnExactTrimPatch", apart := false, narrowed := true }
def FnExactTrimPatchUptoSaid : Prop := fnExactTrimPatchUptoRow.holds Try.pinned (OpenSpec.upto fnExactTrimPatchSpec)

/-- 'laws.FnExactChainPatches', WHERE WHAT IT READS IS OF BULK AT MOST 1048576: true; the input reads as it did. -/
def fnExactChainPatchesUptoRow : OpenClaim := { program := "ytalomhakmfknjaa", sum := "d4ea103c28d1c0f5b3b84d9a3a6061bb8e458e07841df85e228c018b555573da", func := "loop.example/g00903/laws.FnExactChainPatches", spec := "fnExactChainPatches", apart := false, narrowed := true }
def FnExactChainPatchesUptoSaid : Prop := fnExactChainPatchesUptoRow.holds Try.pinned (OpenSpec.upto fnExactChainPatchesSpec)

/-- 'laws.FnExactStepNode', WHERE WHAT IT READS IS OF BULK AT MOST 1048576: true; the input reads as it did. -/
def fnExactStepNodeUptoRow : OpenClaim := { program := "ytalomhakmfknjaa", sum := "d4ea103c28d1c0f5b3b84d9a3a6061bb8e458e07841df85e228c018b555573da", func := "loop.example/g00903/laws.FnExactStepNode", spec := "fnExactStepNode", apart := false, narrowed := true }
def FnExactStepNodeUptoSaid : Prop := fnExactStepNodeUptoRow.holds Try.pinned (OpenSpec.upto fnExactStepNodeSpec)

/-- 'laws.FnExactNodeValues', WHERE WHAT IT READS IS OF BULK AT MOST 1048576: true; the input reads as it did. -/
def fnExactNodeValuesUptoRow : OpenClaim := { program := "ytalomhakmfknjaa", sum := "d4ea103c28d1c0f5b3b84d9a3a6061bb8e458e07841df85e228c018b555573da", func := "loop.example/g00903/laws.FnExactNodeValues", spec := "fnExactNodeValues", apart := false, narrowed := true }
def FnExactNodeValuesUptoSaid : Prop := fnExactNodeValuesUptoRow.holds Try.pinned (OpenSpec.upto fnExactNodeValuesSpec)

end Rows
end Go.Proofs.Ytalomhakmfknjaa
