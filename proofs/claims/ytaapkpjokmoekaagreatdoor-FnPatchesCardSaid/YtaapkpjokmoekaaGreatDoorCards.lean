/-
  DERIVED. GIVEN WITH THE SEED: THE CARDS: each row of YtaapkpjokmoekaaGreatDoorRows.lean that lists a variable, with what it lists TIED to the program's text (the seventh form; the later family's looks); each row that meets fmt, with fmt's text TOLD by the authors' own Lean function (tested against real Go, not proved from fmt's source: count such statements apart). THE CARD IS WHAT COUNTS. Prove the row's statement (the work); the ties are given (YtaapkpjokmoekaaGreatDoorTie.lean); close each card by the builder's one call (the guide's Derived/Test/ToyasCard.lean, 'card_holds'). Laid BY PROGRAM, IN A SANDBOX (cutbox-door.mjs). By AI agents, Wed Nov 11 2026. No macro, syntax, notation, axiom, sorry.
-/
import Derived.Test.YtaapkpjokmoekaaGreatDoorRows
import GoSem.ClaimSeven
namespace Go.Proofs.YtaapkpjokmoekaaGreatDoor
namespace Rows

/-- THE TIED CARD OF 'laws.FnPatches'. -/
def fnPatchesCard : Claim7 := { stood := { row := fnPatchesRow, standIns := [], harness := (true, "0bd135551fab8ee9a8b40b2c2d38cb134b5b97f3f1470902c04fd00a3ce6203c"), looks := true }, kinds := [], alts := [], laidByText := true, laidKinds := [.data, .data, .data, .data, .sentinel, .sentinel, .pinned], laidTests := true, laidLooks := .later }
def FnPatchesCardSaid : Prop := Claim7.holds Tryz.pinned (.plain (OpenSpec.ofChange fnPatchesSpec)) fnPatchesCard

/-- THE SECOND FORM's CARD OF 'laws.FnPatches'. -/
def fnPatchesUptoCard : Claim7 := { stood := { row := fnPatchesUptoRow, standIns := [], harness := (true, "0bd135551fab8ee9a8b40b2c2d38cb134b5b97f3f1470902c04fd00a3ce6203c"), looks := true }, kinds := [], alts := [], laidByText := true, laidKinds := [.data, .data, .data, .data, .sentinel, .sentinel, .pinned], laidTests := true, laidLooks := .later }
def FnPatchesUptoCardSaid : Prop := Claim7.holds Tryz.pinned (.plain (OpenSpec.upto fnPatchesSpec)) fnPatchesUptoCard
end Rows
end Go.Proofs.YtaapkpjokmoekaaGreatDoor
