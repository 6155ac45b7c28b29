/-
  DERIVED. GIVEN WITH THE SEED: THE CARDS: each row of YtljlcbichimhaaaGreatDoorRows.lean that lists a variable, with what it lists TIED to the program's text (the seventh form; the later family's looks); each row that meets fmt, with fmt's text TOLD by the authors' own Lean function (tested against real Go, not proved from fmt's source: count such statements apart). THE CARD IS WHAT COUNTS. Prove the row's statement (the work); the ties are given (YtljlcbichimhaaaGreatDoorTie.lean); close each card by the builder's one call (the guide's Derived/Test/ToyasCard.lean, 'card_holds'). Laid BY PROGRAM, IN A SANDBOX (cutbox-door.mjs). By AI agents, Wed Nov 11 2026. No macro, syntax, notation, axiom, sorry.
-/
import Derived.Test.YtljlcbichimhaaaGreatDoorRows
import GoSem.ClaimSeven
namespace Go.Proofs.YtljlcbichimhaaaGreatDoor
namespace Rows

/-- THE TIED CARD OF 'laws.FnTransfers'. -/
def fnTransfersCard : Claim7 := { stood := { row := fnTransfersRow, standIns := [], harness := (true, "11dab5987ddb7230057555499629477bb8fdd90fe54756d1d19521422a70c393"), looks := true }, kinds := [], alts := [], laidByText := true, laidKinds := [.data, .data, .data, .data, .sentinel, .sentinel, .pinned], laidTests := true, laidLooks := .later }
def FnTransfersCardSaid : Prop := Claim7.holds Tryz.pinned (.plain (OpenSpec.ofChange fnTransfersSpec)) fnTransfersCard

/-- THE SECOND FORM's CARD OF 'laws.FnTransfers'. -/
def fnTransfersUptoCard : Claim7 := { stood := { row := fnTransfersUptoRow, standIns := [], harness := (true, "11dab5987ddb7230057555499629477bb8fdd90fe54756d1d19521422a70c393"), looks := true }, kinds := [], alts := [], laidByText := true, laidKinds := [.data, .data, .data, .data, .sentinel, .sentinel, .pinned], laidTests := true, laidLooks := .later }
def FnTransfersUptoCardSaid : Prop := Claim7.holds Tryz.pinned (.plain (OpenSpec.upto fnTransfersSpec)) fnTransfersUptoCard
end Rows
end Go.Proofs.YtljlcbichimhaaaGreatDoor
