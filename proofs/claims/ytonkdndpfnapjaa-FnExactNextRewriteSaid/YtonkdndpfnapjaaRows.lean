/-
  No cell of these rows narrows 'for every input' (looked for: loops, veiled, ifaces, maps, wideKeys, modest, calm, conditions, laid).
  DERIVED. THE GIVEN ROWS OF THIS SEAT. 3 by the template 'for every input the law returns true; each argument reads behind the call as it read before'; 0 by the template 'total and deterministic' (their statements: YtonkdndpfnapjaaTotals.lean).
  GIVEN WITH THE SEED: the statements are not yours to turn. If you find one false, say at which input.
  Laid BY PROGRAM, IN A SANDBOX (cutbox-rows.mjs): the forced cells as the released guide's own fill.sh prints them over the translation 36eb6079e4cf383d… (all of the seat's roots in one cut). By AI agents, Wed Nov 11 2026. No macro, syntax, notation, axiom, sorry.
-/
import Derived.Test.YtonkdndpfnapjaaChecked
import GoSem.Claim
import GoSem.ClaimJoined
import GoSem.ClaimMapViews
import Derived.JoinedTies
import Derived.KernelRfl
namespace Go.Proofs.Ytonkdndpfnapjaa
/- THE CELL 'sum', in the pinned program and in every row, IS THE sha256 OF THE DUMP (.gsa) THAT YtonkdndpfnapjaaProg.lean LOADS. Nothing in Lean hashes anything: it is a label: what it is worth is what the hold of that sum in a sandbox is worth. -/
noncomputable def Try.pinned : Pinned := { name := "ytonkdndpfnapjaa", sum := "36eb6079e4cf383d5427cbe415af1b610325c97dfe6881fef0250f748332d3b5", checked := Try.checked }
namespace Rows
def none {H : Type} : Left H := { results := [], args := [] }

/-- 'laws.FnExactRuleAt': WHATEVER THE INPUT: true; the input reads as it did. -/
def fnExactRuleAtSpec : ChangeSpec := { name := "fnExactRuleAt", fn := fun _ => fun
  | [d1, d2] => { results := [.lit (.bool true)], args := [d1, d2] }
  | _ => none }
def fnExactRuleAtRow : OpenClaim := { program := "ytonkdndpfnapjaa", sum := "36eb6079e4cf383d5427cbe415af1b610325c97dfe6881fef0250f748332d3b5", func := "loop.example/g00903/laws.FnExactRuleAt", spec := "fnExactRuleAt", unfollowed := true, recurses := true, apart := false }
def FnExactRuleAtSaid : Prop := fnExactRuleAtRow.holds Try.pinned (OpenSpec.ofChange fnExactRuleAtSpec)

/-- ITS FALSE NEIGHBOUR: 'it returns false'. Refute it at one input. -/
def fnExactRuleAtWrong : ChangeSpec := { name := "fnExactRuleAt", fn := fun _ => fun
  | [d1, d2] => { results := [.lit (.bool false)], args := [d1, d2] }
  | _ => none }
def FnExactRuleAtWrongFalsely : Prop := fnExactRuleAtRow.holds Try.pinned (OpenSpec.ofChange fnExactRuleAtWrong)

/-- 'laws.FnExactIsOptimal': WHATEVER THE INPUT: true; the input reads as it did. -/
def fnExactIsOptimalSpec : ChangeSpec := { name := "fnExactIsOptimal", fn := fun _ => fun
  | [d] => { results := [.lit (.bool true)], args := [d] }
  | _ => none }
def fnExactIsOptimalRow : OpenClaim := { program := "ytonkdndpfnapjaa", sum := "36eb6079e4cf383d5427cbe415af1b610325c97dfe6881fef0250f748332d3b5", func := "loop.example/g00903/laws.FnExactIsOptimal", spec := "fnExactIsOptimal", unfollowed := true, recurses := true, apart := false }
def FnExactIsOptimalSaid : Prop := fnExactIsOptimalRow.holds Try.pinned (OpenSpec.ofChange fnExactIsOptimalSpec)

/-- ITS FALSE NEIGHBOUR: 'it returns false'. Refute it at one input. -/
def fnExactIsOptimalWrong : ChangeSpec := { name := "fnExactIsOptimal", fn := fun _ => fun
  | [d] => { results := [.lit (.bool false)], args := [d] }
  | _ => none }
def FnExactIsOptimalWrongFalsely : Prop := fnExactIsOptimalRow.holds Try.pinned (OpenSpec.ofChange fnExactIsOptimalWrong)

/-- 'laws.FnExactNextRewrite': WHATEVER THE INPUT: true; the input reads as it did. -/
def fnExactNextRewriteSpec : ChangeSpec := { name := "fnExactNextRewrite", fn := fun _ => fun
  | [d] => { results := [.lit (.bool true)], args := [d] }
  | _ => none }
def fnExactNextRewriteRow : OpenClaim := { program := "ytonkdndpfnapjaa", sum := "36eb6079e4cf383d5427cbe415af1b610325c97dfe6881fef0250f748332d3b5", func := "loop.example/g00903/laws.FnExactNextRewrite", spec := "fnExactNextRewrite", unfollowed := true, recurses := true, apart := false }
def FnExactNextRewriteSaid : Prop := fnExactNextRewriteRow.holds Try.pinned (OpenSpec.ofChange fnExactNextRewriteSpec)

/-- ITS FALSE NEIGHBOUR: 'it returns false'. Refute it at one input. -/
def fnExactNextRewriteWrong : ChangeSpec := { name := "fnExactNextRewrite", fn := fun _ => fun
  | [d] => { results := [.lit (.bool false)], args := [d] }
  | _ => none }
def FnExactNextRewriteWrongFalsely : Prop := fnExactNextRewriteRow.holds Try.pinned (OpenSpec.ofChange fnExactNextRewriteWrong)

/- THE SECOND FORM. 'bulk': how many values and letters a reading holds, each counted each time it is reached (what is shared counts as often as it is met; a slice's spare places count too). A statement '..UptoSaid' is the law's where the arguments, and the package variables that the reading takes, are together of bulk at most 1048576: NARROWER than '..Said'. Prove '..Said' where nothing that the law and all that it calls make is longer than what came in: it says more and counts as full. Else prove '..UptoSaid'. A law counts once. -/
mutual
def uptoBulk {H : Type} : DataW H → Nat
  | .lit (.string bytes) => bytes.length + 1
  | .lit _ => 1
  | .nil => 1
  | .ptr d => uptoBulk d + 1
  | .slice elems spare => uptoBulkAll elems + uptoBulkAll spare + 1
  | .agg parts => uptoBulkAll parts + 1
  | .iface _ d => uptoBulk d + 1
  | .map entries => uptoBulkEntries entries + 1
  | .held _ => 1
def uptoBulkAll {H : Type} : List (DataW H) → Nat
  | [] => 0
  | d :: r => uptoBulk d + uptoBulkAll r
def uptoBulkEntries {H : Type} : List (Lit × DataW H) → Nat
  | [] => 0
  | x :: r => uptoBulkEntry x + uptoBulkEntries r
def uptoBulkEntry {H : Type} : Lit × DataW H → Nat
  | (.string bytes, d) => bytes.length + uptoBulk d + 1
  | (_, d) => uptoBulk d + 1
 end
def uptoSmall : (H : Type) → List (DataW H) → Bool := fun _ ds => decide (uptoBulkAll ds ≤ 1048576)
def OpenSpec.upto (s : _root_.Go.ChangeSpec) : _root_.Go.OpenSpec := { _root_.Go.OpenSpec.ofChange s with cond := some uptoSmall }

/-- 'laws.FnExactRuleAt', WHERE WHAT IT READS IS OF BULK AT MOST 1048576: true; the input reads as it did. -/
def fnExactRuleAtUptoRow : OpenClaim := { program := "ytonkdndpfnapjaa", sum := "36eb6079e4cf383d5427cbe415af1b610325c97dfe6881fef0250f748332d3b5", func := "loop.example/g00903/laws.FnExactRuleAt", spec := "fnExactRuleAt", unfollowed := true, recurses := true, apart := false, narrowed := true }
def FnExactRuleAtUptoSaid : Prop := fnExactRuleAtUptoRow.holds Try.pinned (OpenSpec.upto fnExactRuleAtSpec)

/-- 'laws.FnExactIsOptimal', WHERE WHAT IT READS IS OF BULK AT MOST 1048576: true; the input reads as it did. -/
def fnExactIsOptimalUptoRow : OpenClaim := { program := "ytonkdndpfnapjaa", sum := "36eb6079e4cf383d5427cbe415af1b610325c97dfe6881fef0250f748332d3b5", func := "loop.example/g00903/laws.FnExactIsOptimal", spec := "fnExactIsOptimal", unfollowed := true, recurses := true, apart := false, narrowed := true }
def FnExactIsOptimalUptoSaid : Prop := fnExactIsOptimalUptoRow.holds Try.pinned (OpenSpec.upto fnExactIsOptimalSpec)

/-- 'laws.FnExactNextRewrite', WHERE WHAT IT READS IS OF BULK AT MOST 1048576: true; the input reads as it did. -/
def fnExactNextRewriteUptoRow : OpenClaim := { program := "ytonkdndpfnapjaa", sum := "36eb6079e4cf383d5427cbe415af1b610325c97dfe6881fef0250f748332d3b5", func := "loop.example/g00903/laws.FnExactNextRewrite", spec := "fnExactNextRewrite", unfollowed := true, recurses := true, apart := false, narrowed := true }
def FnExactNextRewriteUptoSaid : Prop := fnExactNextRewriteUptoRow.holds Try.pinned (OpenSpec.upto fnExactNextRewriteSpec)

end Rows
end Go.Proofs.Ytonkdndpfnapjaa
