/-
  DERIVED. GIVEN WITH THE SEED: THE CARDS: each row of YtdkijcmhjeaofaaGreatDoorRows.lean that lists a variable, with what it lists TIED to the program's text (the seventh form; the later family's looks); each row that meets fmt, with fmt's text TOLD by the authors' own Lean function (tested against real Go, not proved from fmt's source: count such statements apart). THE CARD IS WHAT COUNTS. Prove the row's statement (the work); the ties are given (YtdkijcmhjeaofaaGreatDoorTie.lean); close each card by the builder's one call (the guide's Derived/Test/ToyasCard.lean, 'card_holds'). Laid BY PROGRAM, IN A SANDBOX (cutbox-door.mjs). By AI agents, Wed Nov 11 2026. No macro, syntax, notation, axiom, sorry.
-/
import Derived.Test.YtdkijcmhjeaofaaGreatDoorRows
import GoSem.ClaimSeven
namespace Go.Proofs.YtdkijcmhjeaofaaGreatDoor
namespace Rows

/-- THE TIED CARD OF 'crimplaw37.BookletsSections'. -/
def bookletsSectionsCard : Claim7 := { stood := { row := bookletsSectionsRow, standIns := [], harness := (true, "1aa3e006d7cab86359ad62251efbae3854add79cf6e193b8c7e6f4d340276107"), looks := false }, kinds := [], alts := [], laidByText := true, laidKinds := [.wider, .data], laidTests := true, laidLooks := .later }
def BookletsSectionsCardSaid : Prop := Claim7.holds Tryz.pinned (.plain (OpenSpec.ofChange bookletsSectionsSpec)) bookletsSectionsCard

/-- THE TIED CARD OF 'crimplaw36.SignaturesHalves'. -/
def signaturesHalvesCard : Claim7 := { stood := { row := signaturesHalvesRow, standIns := [], harness := (true, "1aa3e006d7cab86359ad62251efbae3854add79cf6e193b8c7e6f4d340276107"), looks := false }, kinds := [], alts := [], laidByText := true, laidKinds := [.data, .data, .data, .wider, .data], laidTests := true, laidLooks := .later }
def SignaturesHalvesCardSaid : Prop := Claim7.holds Tryz.pinned (.plain (OpenSpec.ofChange signaturesHalvesSpec)) signaturesHalvesCard

/-- THE SECOND FORM's CARD OF 'crimplaw37.BookletsSections'. -/
def bookletsSectionsUptoCard : Claim7 := { stood := { row := bookletsSectionsUptoRow, standIns := [], harness := (true, "1aa3e006d7cab86359ad62251efbae3854add79cf6e193b8c7e6f4d340276107"), looks := false }, kinds := [], alts := [], laidByText := true, laidKinds := [.wider, .data], laidTests := true, laidLooks := .later }
def BookletsSectionsUptoCardSaid : Prop := Claim7.holds Tryz.pinned (.plain (OpenSpec.upto bookletsSectionsSpec)) bookletsSectionsUptoCard

/-- THE SECOND FORM's CARD OF 'crimplaw36.SignaturesHalves'. -/
def signaturesHalvesUptoCard : Claim7 := { stood := { row := signaturesHalvesUptoRow, standIns := [], harness := (true, "1aa3e006d7cab86359ad62251efbae3854add79cf6e193b8c7e6f4d340276107"), looks := false }, kinds := [], alts := [], laidByText := true, laidKinds := [.data, .data, .data, .wider, .data], laidTests := true, laidLooks := .later }
def SignaturesHalvesUptoCardSaid : Prop := Claim7.holds Tryz.pinned (.plain (OpenSpec.upto signaturesHalvesSpec)) signaturesHalvesUptoCard
end Rows
end Go.Proofs.YtdkijcmhjeaofaaGreatDoor
