/-
  DERIVED. GIVEN WITH THE SEED: THE CARDS: each row of YtjdmkgnlakonbaaGreatDoorRows.lean that lists a variable, with what it lists TIED to the program's text (the seventh form; the later family's looks); each row that meets fmt, with fmt's text TOLD by the authors' own Lean function (tested against real Go, not proved from fmt's source: count such statements apart). THE CARD IS WHAT COUNTS. Prove the row's statement (the work); the ties are given (YtjdmkgnlakonbaaGreatDoorTie.lean); close each card by the builder's one call (the guide's Derived/Test/ToyasCard.lean, 'card_holds'). Laid BY PROGRAM, IN A SANDBOX (cutbox-door.mjs). By AI agents, Wed Nov 11 2026. No macro, syntax, notation, axiom, sorry.
-/
import Derived.Test.YtjdmkgnlakonbaaGreatDoorRows
import GoSem.ClaimSeven
namespace Go.Proofs.YtjdmkgnlakonbaaGreatDoor
namespace Rows

/-- THE TIED CARD OF 'crimplaw41.MachinesText'. -/
def machinesTextCard : Claim7 := { stood := { row := machinesTextRow, standIns := [], harness := (true, "20edfa801f409631b5b1cfd5467b9f05d27c73ea49f9639a2183ab6a85efeb76"), looks := true }, kinds := [], alts := [], laidByText := true, laidKinds := [.data, .data, .data, .data, .sentinel, .sentinel, .wider, .data, .pinned], laidTests := true, laidLooks := .later }
def MachinesTextCardSaid : Prop := Claim7.holds Tryz.pinned (.plain (OpenSpec.ofChange machinesTextSpec)) machinesTextCard

/-- THE SECOND FORM's CARD OF 'crimplaw41.MachinesText'. -/
def machinesTextUptoCard : Claim7 := { stood := { row := machinesTextUptoRow, standIns := [], harness := (true, "20edfa801f409631b5b1cfd5467b9f05d27c73ea49f9639a2183ab6a85efeb76"), looks := true }, kinds := [], alts := [], laidByText := true, laidKinds := [.data, .data, .data, .data, .sentinel, .sentinel, .wider, .data, .pinned], laidTests := true, laidLooks := .later }
def MachinesTextUptoCardSaid : Prop := Claim7.holds Tryz.pinned (.plain (OpenSpec.upto machinesTextSpec)) machinesTextUptoCard
end Rows
end Go.Proofs.YtjdmkgnlakonbaaGreatDoor
