/-
  No cell of these rows narrows 'for every input' (looked for: loops, veiled, ifaces, maps, wideKeys, modest, calm, conditions, laid).
  DERIVED. THE GIVEN ROWS OF THIS SEAT. 4 by the template 'for every input the law returns true; each argument reads behind the call as it read before'; 0 by the template 'total and deterministic' (their statements: YtdgceilmlblnhaaTotals.lean).
  GIVEN WITH THE SEED: the statements are not yours to turn. If you find one false, say at which input.
  Laid BY PROGRAM, IN A SANDBOX (cutbox-rows.mjs): the forced cells as the released guide's own fill.sh prints them over the translation 19db862d77d5929f… (all of the seat's roots in one cut). By AI agents, Wed Nov 11 2026. No macro, syntax, notation, axiom, sorry.
-/
import Derived.Test.YtdgceilmlblnhaaChecked
import GoSem.Claim
import GoSem.ClaimJoined
import GoSem.ClaimMapViews
import Derived.JoinedTies
import Derived.KernelRfl
namespace Go.Proofs.Ytdgceilmlblnhaa
/- THE CELL 'sum', in the pinned program and in every row, IS THE sha256 OF THE DUMP (.gsa) THAT YtdgceilmlblnhaaProg.lean LOADS. Nothing in Lean hashes anything: it is a label: what it is worth is what the hold of that sum in a sandbox is worth. -/
noncomputable def Try.pinned : Pinned := { name := "ytdgceilmlblnhaa", sum := "19db862d77d5929f1cc4af09d8b53a9223b6effa3599ef8ee5afcc10514dd0f9", checked := Try.checked }
namespace Rows
def none {H : Type} : Left H := { results := [], args := [] }

/-- 'laws.FnExactValidNode': WHATEVER THE INPUT: true; the input reads as it did. -/
def fnExactValidNodeSpec : ChangeSpec := { name := "fnExactValidNode", fn := fun _ => fun
  | [d1, d2] => { results := [.lit (.bool true)], args := [d1, d2] }
  | _ => none }
def fnExactValidNodeRow : OpenClaim := { program := "ytdgceilmlblnhaa", sum := "19db862d77d5929f1cc4af09d8b53a9223b6effa3599ef8ee5afcc10514dd0f9", func := "loop.example/g00903/laws.FnExactValidNode", spec := "fnExactValidNode", apart := false }
def FnExactValidNodeSaid : Prop := fnExactValidNodeRow.holds Try.pinned (OpenSpec.ofChange fnExactValidNodeSpec)

/-- ITS FALSE NEIGHBOUR: 'it returns false'. Refute it at one input. -/
def fnExactValidNodeWrong : ChangeSpec := { name := "fnExactValidNode", fn := fun _ => fun
  | [d1, d2] => { results := [.lit (.bool false)], args := [d1, d2] }
  | _ => none }
def FnExactValidNodeWrongFalsely : Prop := fnExactValidNodeRow.holds Try.pinned (OpenSpec.ofChange fnExactValidNodeWrong)

/-- 'laws.FnExactStateSize': WHATEVER THE INPUT: true; the input reads as it did. -/
def fnExactStateSizeSpec : ChangeSpec := { name := "fnExactStateSize", fn := fun _ => fun
  | [d] => { results := [.lit (.bool true)], args := [d] }
  | _ => none }
def fnExactStateSizeRow : OpenClaim := { program := "ytdgceilmlblnhaa", sum := "19db862d77d5929f1cc4af09d8b53a9223b6effa3599ef8ee5afcc10514dd0f9", func := "loop.example/g00903/laws.FnExactStateSize", spec := "fnExactStateSize", apart := false }
def FnExactStateSizeSaid : Prop := fnExactStateSizeRow.holds Try.pinned (OpenSpec.ofChange fnExactStateSizeSpec)

/-- ITS FALSE NEIGHBOUR: 'it returns false'. Refute it at one input. -/
def fnExactStateSizeWrong : ChangeSpec := { name := "fnExactStateSize", fn := fun _ => fun
  | [d] => { results := [.lit (.bool false)], args := [d] }
  | _ => none }
def FnExactStateSizeWrongFalsely : Prop := fnExactStateSizeRow.holds Try.pinned (OpenSpec.ofChange fnExactStateSizeWrong)

/-- 'laws.FnExactStartNode': WHATEVER THE INPUT: true; the input reads as it did. -/
def fnExactStartNodeSpec : ChangeSpec := { name := "fnExactStartNode", fn := fun _ => fun
  | [d] => { results := [.lit (.bool true)], args := [d] }
  | _ => none }
def fnExactStartNodeRow : OpenClaim := { program := "ytdgceilmlblnhaa", sum := "19db862d77d5929f1cc4af09d8b53a9223b6effa3599ef8ee5afcc10514dd0f9", func := "loop.example/g00903/laws.FnExactStartNode", spec := "fnExactStartNode", apart := false }
def FnExactStartNodeSaid : Prop := fnExactStartNodeRow.holds Try.pinned (OpenSpec.ofChange fnExactStartNodeSpec)

/-- ITS FALSE NEIGHBOUR: 'it returns false'. Refute it at one input. -/
def fnExactStartNodeWrong : ChangeSpec := { name := "fnExactStartNode", fn := fun _ => fun
  | [d] => { results := [.lit (.bool false)], args := [d] }
  | _ => none }
def FnExactStartNodeWrongFalsely : Prop := fnExactStartNodeRow.holds Try.pinned (OpenSpec.ofChange fnExactStartNodeWrong)

/-- 'laws.FnExactStepNode': WHATEVER THE INPUT: true; the input reads as it did. -/
def fnExactStepNodeSpec : ChangeSpec := { name := "fnExactStepNode", fn := fun _ => fun
  | [d1, d2, d3, d4] => { results := [.lit (.bool true)], args := [d1, d2, d3, d4] }
  | _ => none }
def fnExactStepNodeRow : OpenClaim := { program := "ytdgceilmlblnhaa", sum := "19db862d77d5929f1cc4af09d8b53a9223b6effa3599ef8ee5afcc10514dd0f9", func := "loop.example/g00903/laws.FnExactStepNode", spec := "fnExactStepNode", apart := false }
def FnExactStepNodeSaid : Prop := fnExactStepNodeRow.holds Try.pinned (OpenSpec.ofChange fnExactStepNodeSpec)

/-- ITS FALSE NEIGHBOUR: 'it returns false'. Refute it at one input. -/
def fnExactStepNodeWrong : ChangeSpec := { name := "fnExactStepNode", fn := fun _ => fun
  | [d1, d2, d3, d4] => { results := [.lit (.bool false)], args := [d1, d2, d3, d4] }
  | _ => none }
def FnExactStepNodeWrongFalsely : Prop := fnExactStepNodeRow.holds Try.pinned (OpenSpec.ofChange fnExactStepNodeWrong)

/- THE SECOND FORM. 'bulk': how many values and letters a reading holds, each counted each time it is reached (what is shared counts as often as it is met; a slice's spare places count too). A statement '..UptoSaid' is the law's where the arguments, and the package variables that the reading takes, are together of bulk at most 1048576: NARROWER than '..Said'. Prove '..Said' where nothing that the law and all that it calls make is longer than what came in: it says more and counts as full. Else prove '..UptoSaid'. A law counts once. -/
mutual
def uptoBulk {H : Type} : DataW H → Nat
  | .lit (.string bytes) => bytes.length + 1
  | .lit _ => 1
  | .nil => 1
  | .ptr d => uptoBulk d + 1
  | .slice elems spare => uptoBulkAll elems + uptoBulkAll spare + 1
  | .agg parts => uptoBulkAll parts + 1
  | .iface _ d => uptoBulk d + 1
  | .map entries => uptoBulkEntries entries + 1
  | .held _ => 1
def uptoBulkAll {H : Type} : List (DataW H) → Nat
  | [] => 0
  | d :: r => uptoBulk d + uptoBulkAll r
def uptoBulkEntries {H : Type} : List (Lit × DataW H) → Nat
  | [] => 0
  | x :: r => uptoBulkEntry x + uptoBulkEntries r
def uptoBulkEntry {H : Type} : Lit × DataW H → Nat
  | (.string bytes, d) => bytes.length + uptoBulk d + 1
  | (_, d) => uptoBulk d + 1
 end
def uptoSmall : (H : Type) → List (DataW H) → Bool := fun _ ds => decide (uptoBulkAll ds ≤ 1048576)
def OpenSpec.upto (s : _root_.Go.ChangeSpec) : _root_.Go.OpenSpec := { _root_.Go.OpenSpec.ofChange s with cond := some uptoSmall }

/-- 'laws.FnExactValidNode', WHERE WHAT IT READS IS OF BULK AT MOST 1048576: true; the input reads as it did. -/
def fnExactValidNodeUptoRow : OpenClaim := { program := "ytdgceilmlblnhaa", sum := "19db862d77d5929f1cc4af09d8b53a9223b6effa3599ef8ee5afcc10514dd0f9", func := "loop.example/g00903/laws.FnExactValidNode", spec := "fnExactValidNode", apart := false, narrowed := true }
def FnExactValidNodeUptoSaid : Prop := fnExactValidNodeUptoRow.holds Try.pinned (OpenSpec.upto fnExactValidNodeSpec)

/-- 'laws.FnExactStateSize', WHERE WHAT IT READS IS OF BULK AT MOST 1048576: true; the input reads as it did. -/
def fnExactStateSizeUptoRow : OpenClaim := { program := "ytdgceilmlblnhaa", sum := "19db862d77d5929f1cc4af09d8b53a9223b6effa3599ef8ee5afcc10514dd0f9", func := "loop.example/g00903/laws.FnExactStateSize", spec := "fnExactStateSize", apart := false, narrowed := true }
def FnExactStateSizeUptoSaid : Prop := fnExactStateSizeUptoRow.holds Try.pinned (OpenSpec.upto fnExactStateSizeSpec)

/-- 'laws.FnExactStartNode', WHERE WHAT IT READS IS OF BULK AT MOST 1048576: true; the input reads as it did. -/
def fnExactStartNodeUptoRow : OpenClaim := { program := "ytdgceilmlblnhaa", sum := "19db862d77d5929f1cc4af09d8b53a9223b6effa3599ef8ee5afcc10514dd0f9", func := "loop.example/g00903/laws.FnExactStartNode", spec := "fnExactStartNode", apart := false, narrowed := true }
def FnExactStartNodeUptoSaid : Prop := fnExactStartNodeUptoRow.holds Try.pinned (OpenSpec.upto fnExactStartNodeSpec)

/-- 'laws.FnExactStepNode', WHERE WHAT IT READS IS OF BULK AT MOST 1048576: true; the input reads as it did. -/
def fnExactStepNodeUptoRow : OpenClaim := { program := "ytdgceilmlblnhaa", sum := "19db862d77d5929f1cc4af09d8b53a9223b6effa3599ef8ee5afcc10514dd0f9", func := "loop.example/g00903/laws.FnExactStepNode", spec := "fnExactStepNode", apart := false, narrowed := true }
def FnExactStepNodeUptoSaid : Prop := fnExactStepNodeUptoRow.holds Try.pinned (OpenSpec.upto fnExactStepNodeSpec)

end Rows
end Go.Proofs.Ytdgceilmlblnhaa
