/-
  No cell of these rows narrows 'for every input' (looked for: loops, veiled, ifaces, maps, wideKeys, modest, calm, conditions, laid).
  DERIVED. THE GIVEN ROWS OF THIS SEAT. 4 by the template 'for every input the law returns true; each argument reads behind the call as it read before'; 0 by the template 'total and deterministic' (their statements: YtonkdndpfnapjaaGreatTotals.lean).
  GIVEN WITH THE SEED: the statements are not yours to turn. If you find one false, say at which input.
  Laid BY PROGRAM, IN A SANDBOX (cutbox-rows.mjs): the forced cells as the released guide's own fill.sh prints them over the translation 6f83f76f088500a8… (all of the seat's roots in one cut). By AI agents, Wed Nov 11 2026. No macro, syntax, notation, axiom, sorry.
-/
import Derived.Test.YtonkdndpfnapjaaGreatChecked
import GoSem.Claim
import GoSem.ClaimJoined
import GoSem.ClaimMapViews
import Derived.JoinedTies
import Derived.KernelRfl
namespace Go.Proofs.YtonkdndpfnapjaaGreat
/- THE CELL 'sum', in the pinned program and in every row, IS THE sha256 OF THE DUMP (.gsa) THAT YtonkdndpfnapjaaGreatProg.lean LOADS. Nothing in Lean hashes anything: it is a label: what it is worth is what the hold of that sum in a sandbox is worth. -/
noncomputable def Tryz.pinned : Pinned := { name := "ytonkdndpfnapjaagreat", sum := "6f83f76f088500a890abcf5f2bfe5f9837c698cb73e725250709ff3e43d310cb", checked := Tryz.checked }
namespace Rows
def none {H : Type} : Left H := { results := [], args := [] }

/-- 'laws.FnExactSavedNodes': WHATEVER THE INPUT: true; the input reads as it did. -/
def fnExactSavedNodesSpec : ChangeSpec := { name := "fnExactSavedNodes", fn := fun _ => fun
  | [d] => { results := [.lit (.bool true)], args := [d] }
  | _ => none }
def fnExactSavedNodesRow : OpenClaim := { program := "ytonkdndpfnapjaagreat", sum := "6f83f76f088500a890abcf5f2bfe5f9837c698cb73e725250709ff3e43d310cb", func := "loop.example/g00903/laws.FnExactSavedNodes", spec := "fnExactSavedNodes", unfollowed := true, recurses := true, apart := false }
def FnExactSavedNodesSaid : Prop := fnExactSavedNodesRow.holds Tryz.pinned (OpenSpec.ofChange fnExactSavedNodesSpec)

/-- ITS FALSE NEIGHBOUR: 'it returns false'. Refute it at one input. -/
def fnExactSavedNodesWrong : ChangeSpec := { name := "fnExactSavedNodes", fn := fun _ => fun
  | [d] => { results := [.lit (.bool false)], args := [d] }
  | _ => none }
def FnExactSavedNodesWrongFalsely : Prop := fnExactSavedNodesRow.holds Tryz.pinned (OpenSpec.ofChange fnExactSavedNodesWrong)

/-- 'laws.FnExactApplyRewrite': WHATEVER THE INPUT: true; the input reads as it did. -/
def fnExactApplyRewriteSpec : ChangeSpec := { name := "fnExactApplyRewrite", fn := fun _ => fun
  | [d1, d2] => { results := [.lit (.bool true)], args := [d1, d2] }
  | _ => none }
def fnExactApplyRewriteRow : OpenClaim := { program := "ytonkdndpfnapjaagreat", sum := "6f83f76f088500a890abcf5f2bfe5f9837c698cb73e725250709ff3e43d310cb", func := "loop.example/g00903/laws.FnExactApplyRewrite", spec := "fnExactApplyRewrite", unfollowed := true, recurses := true, apart := false }
def FnExactApplyRewriteSaid : Prop := fnExactApplyRewriteRow.holds Tryz.pinned (OpenSpec.ofChange fnExactApplyRewriteSpec)

/-- ITS FALSE NEIGHBOUR: 'it returns false'. Refute it at one input. -/
def fnExactApplyRewriteWrong : ChangeSpec := { name := "fnExactApplyRewrite", fn := fun _ => fun
  | [d1, d2] => { results := [.lit (.bool false)], args := [d1, d2] }
  | _ => none }
def FnExactApplyRewriteWrongFalsely : Prop := fnExactApplyRewriteRow.holds Tryz.pinned (OpenSpec.ofChange fnExactApplyRewriteWrong)

/-- 'laws.FnExactRewritesOf': WHATEVER THE INPUT: true; the input reads as it did. -/
def fnExactRewritesOfSpec : ChangeSpec := { name := "fnExactRewritesOf", fn := fun _ => fun
  | [d] => { results := [.lit (.bool true)], args := [d] }
  | _ => none }
def fnExactRewritesOfRow : OpenClaim := { program := "ytonkdndpfnapjaagreat", sum := "6f83f76f088500a890abcf5f2bfe5f9837c698cb73e725250709ff3e43d310cb", func := "loop.example/g00903/laws.FnExactRewritesOf", spec := "fnExactRewritesOf", unfollowed := true, recurses := true, apart := false }
def FnExactRewritesOfSaid : Prop := fnExactRewritesOfRow.holds Tryz.pinned (OpenSpec.ofChange fnExactRewritesOfSpec)

/-- ITS FALSE NEIGHBOUR: 'it returns false'. Refute it at one input. -/
def fnExactRewritesOfWrong : ChangeSpec := { name := "fnExactRewritesOf", fn := fun _ => fun
  | [d] => { results := [.lit (.bool false)], args := [d] }
  | _ => none }
def FnExactRewritesOfWrongFalsely : Prop := fnExactRewritesOfRow.holds Tryz.pinned (OpenSpec.ofChange fnExactRewritesOfWrong)

/-- 'laws.FnExactOptimizePatch': WHATEVER THE INPUT: true; the input reads as it did. -/
def fnExactOptimizePatchSpec : ChangeSpec := { name := "fnExactOptimizePatch", fn := fun _ => fun
  | [d] => { results := [.lit (.bool true)], args := [d] }
  | _ => none }
def fnExactOptimizePatchRow : OpenClaim := { program := "ytonkdndpfnapjaagreat", sum := "6f83f76f088500a890abcf5f2bfe5f9837c698cb73e725250709ff3e43d310cb", func := "loop.example/g00903/laws.FnExactOptimizePatch", spec := "fnExactOptimizePatch", unfollowed := true, recurses := true, apart := false }
def FnExactOptimizePatchSaid : Prop := fnExactOptimizePatchRow.holds Tryz.pinned (OpenSpec.ofChange fnExactOptimizePatchSpec)

/-- ITS FALSE NEIGHBOUR: 'it returns false'. Refute it at one input. -/
def fnExactOptimizePatchWrong : ChangeSpec := { name := "fnExactOptimizePatch", fn := fun _ => fun
  | [d] => { results := [.lit (.bool false)], args := [d] }
  | _ => none }
def FnExactOptimizePatchWrongFalsely : Prop := fnExactOptimizePatchRow.holds Tryz.pinned (OpenSpec.ofChange fnExactOptimizePatchWrong)

/- THE SECOND FORM. 'bulk': how many values and letters a reading holds, each counted each time it is reached (what is shared counts as often as it is met; a slice's spare places count too). A statement '..UptoSaid' is the law's where the arguments, and the package variables that the reading takes, are together of bulk at most 1048576: NARROWER than '..Said'. Prove '..Said' where nothing that the law and all that it calls make is longer than what came in: it says more and counts as full. Else prove '..UptoSaid'. A law counts once. -/
mutual
def uptoBulk {H : Type} : DataW H → Nat
  | .lit (.string bytes) => bytes.length + 1
  | .lit _ => 1
  | .nil => 1
  | .ptr d => uptoBulk d + 1
  | .slice elems spare => uptoBulkAll elems + uptoBulkAll spare + 1
  | .agg parts => uptoBulkAll parts + 1
  | .iface _ d => uptoBulk d + 1
  | .map entries => uptoBulkEntries entries + 1
  | .held _ => 1
def uptoBulkAll {H : Type} : List (DataW H) → Nat
  | [] => 0
  | d :: r => uptoBulk d + uptoBulkAll r
def uptoBulkEntries {H : Type} : List (Lit × DataW H) → Nat
  | [] => 0
  | x :: r => uptoBulkEntry x + uptoBulkEntries r
def uptoBulkEntry {H : Type} : Lit × DataW H → Nat
  | (.string bytes, d) => bytes.length + uptoBulk d + 1
  | (_, d) => uptoBulk d + 1
 end
def uptoSmall : (H : Type) → List (DataW H) → Bool := fun _ ds => decide (uptoBulkAll ds ≤ 1048576)
def OpenSpec.upto (s : _root_.Go.ChangeSpec) : _root_.Go.OpenSpec := { _root_.Go.OpenSpec.ofChange s with cond := some uptoSmall }

/-- 'laws.FnExactSavedNodes', WHERE WHAT IT READS IS OF BULK AT MOST 1048576: true; the input reads as it did. -/
def fnExactSavedNodesUptoRow : OpenClaim := { program := "ytonkdndpfnapjaagreat", sum := "6f83f76f088500a890abcf5f2bfe5f9837c698cb73e725250709ff3e43d310cb", func := "loop.example/g00903/laws.FnExactSavedNodes", spec := "fnExactSavedNodes", unfollowed := true, recurses := true, apart := false, narrowed := true }
def FnExactSavedNodesUptoSaid : Prop := fnExactSavedNodesUptoRow.holds Tryz.pinned (OpenSpec.upto fnExactSavedNodesSpec)

/-- 'laws.FnExactApplyRewrite', WHERE WHAT IT READS IS OF BULK AT MOST 1048576: true; the input reads as it did. -/
def fnExactApplyRewriteUptoRow : OpenClaim := { program := "ytonkdndpfnapjaagreat", sum := "6f83f76f088500a890abcf5f2bfe5f9837c698cb73e725250709ff3e43d310cb", func := "loop.example/g00903/laws.FnExactApplyRewrite", spec := "fnExactApplyRewrite", unfollowed := true, recurses := true, apart := false, narrowed := true }
def FnExactApplyRewriteUptoSaid : Prop := fnExactApplyRewriteUptoRow.holds Tryz.pinned (OpenSpec.upto fnExactApplyRewriteSpec)

/-- 'laws.FnExactRewritesOf', WHERE WHAT IT READS IS OF BULK AT MOST 1048576: true; the input reads as it did. -/
def fnExactRewritesOfUptoRow : OpenClaim := { program := "ytonkdndpfnapjaagreat", sum := "6f83f76f088500a890abcf5f2bfe5f9837c698cb73e725250709ff3e43d310cb", func := "loop.example/g00903/laws.FnExactRewritesOf", spec := "fnExactRewritesOf", unfollowed := true, recurses := true, apart := false, narrowed := true }
def FnExactRewritesOfUptoSaid : Prop := fnExactRewritesOfUptoRow.holds Tryz.pinned (OpenSpec.upto fnExactRewritesOfSpec)

/-- 'laws.FnExactOptimizePatch', WHERE WHAT IT READS IS OF BULK AT MOST 1048576: true; the input reads as it did. -/
def fnExactOptimizePatchUptoRow : OpenClaim := { program := "ytonkdndpfnapjaagreat", sum := "6f83f76f088500a890abcf5f2bfe5f9837c698cb73e725250709ff3e43d310cb", func := "loop.example/g00903/laws.FnExactOptimizePatch", spec := "fnExactOptimizePatch", unfollowed := true, recurses := true, apart := false, narrowed := true }
def FnExactOptimizePatchUptoSaid : Prop := fnExactOptimizePatchUptoRow.holds Tryz.pinned (OpenSpec.upto fnExactOptimizePatchSpec)

end Rows
end Go.Proofs.YtonkdndpfnapjaaGreat
