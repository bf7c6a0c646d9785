/-
  DERIVED. GIVEN WITH THE SEED: THE CARDS: each row of YtadnbldkegkjaaaGreatDoorRows.lean that lists a variable, with what it lists TIED to the program's text (the seventh form; the later family's looks); each row that meets fmt, with fmt's text TOLD by the authors' own Lean function (tested against real Go, not proved from fmt's source: count such statements apart). THE CARD IS WHAT COUNTS. Prove the row's statement (the work); the ties are given (YtadnbldkegkjaaaGreatDoorTie.lean); close each card by the builder's one call (the guide's Derived/Test/ToyasCard.lean, 'card_holds'). Laid BY PROGRAM, IN A SANDBOX (cutbox-door.mjs). By AI agents, Wed Nov 11 2026. No macro, syntax, notation, axiom, sorry.
-/
import Derived.Test.YtadnbldkegkjaaaGreatDoorRows
import GoSem.ClaimSeven
namespace Go.Proofs.YtadnbldkegkjaaaGreatDoor
namespace Rows

/-- THE TIED CARD OF 'crimplaw41.MachinesTime'. -/
def machinesTimeCard : Claim7 := { stood := { row := machinesTimeRow, standIns := [], harness := (true, "a552be1556cca85f1e865b1015cf9a0a9995366d1dbfbf3bcad05738fad7b51e"), looks := false }, kinds := [], alts := [], laidByText := true, laidKinds := [.wider, .data], laidTests := true, laidLooks := .later }
def MachinesTimeCardSaid : Prop := Claim7.holds Tryz.pinned (.plain (OpenSpec.ofChange machinesTimeSpec)) machinesTimeCard

/-- THE TIED CARD OF 'crimplaw41.MachinesFold'. -/
def machinesFoldCard : Claim7 := { stood := { row := machinesFoldRow, standIns := [], harness := (true, "a552be1556cca85f1e865b1015cf9a0a9995366d1dbfbf3bcad05738fad7b51e"), looks := false }, kinds := [], alts := [], laidByText := true, laidKinds := [.wider, .data], laidTests := true, laidLooks := .later }
def MachinesFoldCardSaid : Prop := Claim7.holds Tryz.pinned (.plain (OpenSpec.ofChange machinesFoldSpec)) machinesFoldCard

/-- THE TIED CARD OF 'crimplaw41.MachinesRun'. -/
def machinesRunCard : Claim7 := { stood := { row := machinesRunRow, standIns := [], harness := (true, "a552be1556cca85f1e865b1015cf9a0a9995366d1dbfbf3bcad05738fad7b51e"), looks := false }, kinds := [], alts := [], laidByText := true, laidKinds := [.wider, .data], laidTests := true, laidLooks := .later }
def MachinesRunCardSaid : Prop := Claim7.holds Tryz.pinned (.plain (OpenSpec.ofChange machinesRunSpec)) machinesRunCard

/-- THE SECOND FORM's CARD OF 'crimplaw41.MachinesTime'. -/
def machinesTimeUptoCard : Claim7 := { stood := { row := machinesTimeUptoRow, standIns := [], harness := (true, "a552be1556cca85f1e865b1015cf9a0a9995366d1dbfbf3bcad05738fad7b51e"), looks := false }, kinds := [], alts := [], laidByText := true, laidKinds := [.wider, .data], laidTests := true, laidLooks := .later }
def MachinesTimeUptoCardSaid : Prop := Claim7.holds Tryz.pinned (.plain (OpenSpec.upto machinesTimeSpec)) machinesTimeUptoCard

/-- THE SECOND FORM's CARD OF 'crimplaw41.MachinesFold'. -/
def machinesFoldUptoCard : Claim7 := { stood := { row := machinesFoldUptoRow, standIns := [], harness := (true, "a552be1556cca85f1e865b1015cf9a0a9995366d1dbfbf3bcad05738fad7b51e"), looks := false }, kinds := [], alts := [], laidByText := true, laidKinds := [.wider, .data], laidTests := true, laidLooks := .later }
def MachinesFoldUptoCardSaid : Prop := Claim7.holds Tryz.pinned (.plain (OpenSpec.upto machinesFoldSpec)) machinesFoldUptoCard

/-- THE SECOND FORM's CARD OF 'crimplaw41.MachinesRun'. -/
def machinesRunUptoCard : Claim7 := { stood := { row := machinesRunUptoRow, standIns := [], harness := (true, "a552be1556cca85f1e865b1015cf9a0a9995366d1dbfbf3bcad05738fad7b51e"), looks := false }, kinds := [], alts := [], laidByText := true, laidKinds := [.wider, .data], laidTests := true, laidLooks := .later }
def MachinesRunUptoCardSaid : Prop := Claim7.holds Tryz.pinned (.plain (OpenSpec.upto machinesRunSpec)) machinesRunUptoCard
end Rows
end Go.Proofs.YtadnbldkegkjaaaGreatDoor
