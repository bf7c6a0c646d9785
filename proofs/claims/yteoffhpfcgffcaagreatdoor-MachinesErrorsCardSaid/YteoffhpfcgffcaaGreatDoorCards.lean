/-
  DERIVED. GIVEN WITH THE SEED: THE CARDS: each row of YteoffhpfcgffcaaGreatDoorRows.lean that lists a variable, with what it lists TIED to the program's text (the seventh form; the later family's looks); each row that meets fmt, with fmt's text TOLD by the authors' own Lean function (tested against real Go, not proved from fmt's source: count such statements apart). THE CARD IS WHAT COUNTS. Prove the row's statement (the work); the ties are given (YteoffhpfcgffcaaGreatDoorTie.lean); close each card by the builder's one call (the guide's Derived/Test/ToyasCard.lean, 'card_holds'). Laid BY PROGRAM, IN A SANDBOX (cutbox-door.mjs). By AI agents, Wed Nov 11 2026. No macro, syntax, notation, axiom, sorry.
-/
import Derived.Test.YteoffhpfcgffcaaGreatDoorRows
import GoSem.ClaimSeven
namespace Go.Proofs.YteoffhpfcgffcaaGreatDoor
namespace Rows

/-- THE TIED CARD OF 'crimplaw41.MachinesErrors'. -/
def machinesErrorsCard : Claim7 := { stood := { row := machinesErrorsRow, standIns := [], harness := (true, "850fefdc549164721abca282fb0471234fdd31eb12d17b98403425df50063128"), looks := false }, kinds := [], alts := [], laidByText := true, laidKinds := [.data, .data, .data, .wider, .data], laidTests := true, laidLooks := .later }
def MachinesErrorsCardSaid : Prop := Claim7.holds Tryz.pinned (.plain (OpenSpec.ofChange machinesErrorsSpec)) machinesErrorsCard

/-- THE SECOND FORM's CARD OF 'crimplaw41.MachinesErrors'. -/
def machinesErrorsUptoCard : Claim7 := { stood := { row := machinesErrorsUptoRow, standIns := [], harness := (true, "850fefdc549164721abca282fb0471234fdd31eb12d17b98403425df50063128"), looks := false }, kinds := [], alts := [], laidByText := true, laidKinds := [.data, .data, .data, .wider, .data], laidTests := true, laidLooks := .later }
def MachinesErrorsUptoCardSaid : Prop := Claim7.holds Tryz.pinned (.plain (OpenSpec.upto machinesErrorsSpec)) machinesErrorsUptoCard
end Rows
end Go.Proofs.YteoffhpfcgffcaaGreatDoor
