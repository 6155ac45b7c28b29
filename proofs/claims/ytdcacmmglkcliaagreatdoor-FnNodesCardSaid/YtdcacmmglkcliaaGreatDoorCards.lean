/-
  DERIVED. GIVEN WITH THE SEED: THE CARDS: each row of YtdcacmmglkcliaaGreatDoorRows.lean that lists a variable, with what it lists TIED to the program's text (the seventh form; the later family's looks); each row that meets fmt, with fmt's text TOLD by the authors' own Lean function (tested against real Go, not proved from fmt's source: count such statements apart). THE CARD IS WHAT COUNTS. Prove the row's statement (the work); the ties are given (YtdcacmmglkcliaaGreatDoorTie.lean); close each card by the builder's one call (the guide's Derived/Test/ToyasCard.lean, 'card_holds'). Laid BY PROGRAM, IN A SANDBOX (cutbox-door.mjs). By AI agents, Wed Nov 11 2026. No macro, syntax, notation, axiom, sorry.
-/
import Derived.Test.YtdcacmmglkcliaaGreatDoorRows
import GoSem.ClaimSeven
namespace Go.Proofs.YtdcacmmglkcliaaGreatDoor
namespace Rows

/-- THE TIED CARD OF 'laws.FnNodes'. -/
def fnNodesCard : Claim7 := { stood := { row := fnNodesRow, standIns := [], harness := (true, "8b834454a2173420951111219f492a638878f931f0ad86d28e749ca043b3d088"), looks := true }, kinds := [], alts := [], laidByText := true, laidKinds := [.data, .data, .data, .data, .sentinel, .sentinel, .pinned], laidTests := true, laidLooks := .later }
def FnNodesCardSaid : Prop := Claim7.holds Tryz.pinned (.plain (OpenSpec.ofChange fnNodesSpec)) fnNodesCard

/-- THE TIED CARD OF 'laws.FnExactReadPatch'. -/
def fnExactReadPatchCard : Claim7 := { stood := { row := fnExactReadPatchRow, standIns := [], harness := (true, "8b834454a2173420951111219f492a638878f931f0ad86d28e749ca043b3d088"), looks := true }, kinds := [], alts := [], laidByText := true, laidKinds := [.data, .data, .data, .data, .sentinel, .sentinel, .pinned], laidTests := true, laidLooks := .later }
def FnExactReadPatchCardSaid : Prop := Claim7.holds Tryz.pinned (.plain (OpenSpec.ofChange fnExactReadPatchSpec)) fnExactReadPatchCard

/-- THE SECOND FORM's CARD OF 'laws.FnNodes'. -/
def fnNodesUptoCard : Claim7 := { stood := { row := fnNodesUptoRow, standIns := [], harness := (true, "8b834454a2173420951111219f492a638878f931f0ad86d28e749ca043b3d088"), looks := true }, kinds := [], alts := [], laidByText := true, laidKinds := [.data, .data, .data, .data, .sentinel, .sentinel, .pinned], laidTests := true, laidLooks := .later }
def FnNodesUptoCardSaid : Prop := Claim7.holds Tryz.pinned (.plain (OpenSpec.upto fnNodesSpec)) fnNodesUptoCard

/-- THE SECOND FORM's CARD OF 'laws.FnExactReadPatch'. -/
def fnExactReadPatchUptoCard : Claim7 := { stood := { row := fnExactReadPatchUptoRow, standIns := [], harness := (true, "8b834454a2173420951111219f492a638878f931f0ad86d28e749ca043b3d088"), looks := true }, kinds := [], alts := [], laidByText := true, laidKinds := [.data, .data, .data, .data, .sentinel, .sentinel, .pinned], laidTests := true, laidLooks := .later }
def FnExactReadPatchUptoCardSaid : Prop := Claim7.holds Tryz.pinned (.plain (OpenSpec.upto fnExactReadPatchSpec)) fnExactReadPatchUptoCard
end Rows
end Go.Proofs.YtdcacmmglkcliaaGreatDoor
