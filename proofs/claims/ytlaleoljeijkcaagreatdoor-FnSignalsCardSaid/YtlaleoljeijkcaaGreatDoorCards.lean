/-
  DERIVED. GIVEN WITH THE SEED: THE CARDS: each row of YtlaleoljeijkcaaGreatDoorRows.lean that lists a variable, with what it lists TIED to the program's text (the seventh form; the later family's looks); each row that meets fmt, with fmt's text TOLD by the authors' own Lean function (tested against real Go, not proved from fmt's source: count such statements apart). THE CARD IS WHAT COUNTS. Prove the row's statement (the work); the ties are given (YtlaleoljeijkcaaGreatDoorTie.lean); close each card by the builder's one call (the guide's Derived/Test/ToyasCard.lean, 'card_holds'). Laid BY PROGRAM, IN A SANDBOX (cutbox-door.mjs). By AI agents, Wed Nov 11 2026. No macro, syntax, notation, axiom, sorry.
-/
import Derived.Test.YtlaleoljeijkcaaGreatDoorRows
import GoSem.ClaimSeven
namespace Go.Proofs.YtlaleoljeijkcaaGreatDoor
namespace Rows

/-- THE TIED CARD OF 'laws.FnSignals'. -/
def fnSignalsCard : Claim7 := { stood := { row := fnSignalsRow, standIns := [], harness := (true, "e72b5937c9402e35fb54a6f6291f5cef477113310f7fb2126e3eb8d10cd6bfd9"), looks := true }, kinds := [], alts := [], laidByText := true, laidKinds := [.data, .data, .data, .data, .sentinel, .sentinel, .pinned], laidTests := true, laidLooks := .later }
def FnSignalsCardSaid : Prop := Claim7.holds Tryz.pinned (.plain (OpenSpec.ofChange fnSignalsSpec)) fnSignalsCard

/-- THE SECOND FORM's CARD OF 'laws.FnSignals'. -/
def fnSignalsUptoCard : Claim7 := { stood := { row := fnSignalsUptoRow, standIns := [], harness := (true, "e72b5937c9402e35fb54a6f6291f5cef477113310f7fb2126e3eb8d10cd6bfd9"), looks := true }, kinds := [], alts := [], laidByText := true, laidKinds := [.data, .data, .data, .data, .sentinel, .sentinel, .pinned], laidTests := true, laidLooks := .later }
def FnSignalsUptoCardSaid : Prop := Claim7.holds Tryz.pinned (.plain (OpenSpec.upto fnSignalsSpec)) fnSignalsUptoCard
end Rows
end Go.Proofs.YtlaleoljeijkcaaGreatDoor
