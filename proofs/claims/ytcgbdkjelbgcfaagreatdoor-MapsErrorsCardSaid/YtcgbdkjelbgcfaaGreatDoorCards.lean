/-
  DERIVED. GIVEN WITH THE SEED: THE CARDS: each row of YtcgbdkjelbgcfaaGreatDoorRows.lean that lists a variable, with what it lists TIED to the program's text (the seventh form; the later family's looks); each row that meets fmt, with fmt's text TOLD by the authors' own Lean function (tested against real Go, not proved from fmt's source: count such statements apart). THE CARD IS WHAT COUNTS. Prove the row's statement (the work); the ties are given (YtcgbdkjelbgcfaaGreatDoorTie.lean); close each card by the builder's one call (the guide's Derived/Test/ToyasCard.lean, 'card_holds'). Laid BY PROGRAM, IN A SANDBOX (cutbox-door.mjs). By AI agents, Wed Nov 11 2026. No macro, syntax, notation, axiom, sorry.
-/
import Derived.Test.YtcgbdkjelbgcfaaGreatDoorRows
import GoSem.ClaimSeven
namespace Go.Proofs.YtcgbdkjelbgcfaaGreatDoor
namespace Rows

/-- THE TIED CARD OF 'crimplaw35.MapsErrors'. -/
def mapsErrorsCard : Claim7 := { stood := { row := mapsErrorsRow, standIns := [], harness := (true, "cb5f1f5b3ec8a0816e8061a465bc959272ba4e479333807baac80e4b9918bdeb"), looks := true }, kinds := [], alts := [], laidByText := true, laidKinds := [.data, .data, .data, .data, .sentinel, .sentinel, .data, .pinned], laidTests := true, laidLooks := .later }
def MapsErrorsCardSaid : Prop := Claim7.holds Tryz.pinned (.plain (OpenSpec.ofChange mapsErrorsSpec)) mapsErrorsCard

/-- THE SECOND FORM's CARD OF 'crimplaw35.MapsErrors'. -/
def mapsErrorsUptoCard : Claim7 := { stood := { row := mapsErrorsUptoRow, standIns := [], harness := (true, "cb5f1f5b3ec8a0816e8061a465bc959272ba4e479333807baac80e4b9918bdeb"), looks := true }, kinds := [], alts := [], laidByText := true, laidKinds := [.data, .data, .data, .data, .sentinel, .sentinel, .data, .pinned], laidTests := true, laidLooks := .later }
def MapsErrorsUptoCardSaid : Prop := Claim7.holds Tryz.pinned (.plain (OpenSpec.upto mapsErrorsSpec)) mapsErrorsUptoCard
end Rows
end Go.Proofs.YtcgbdkjelbgcfaaGreatDoor
