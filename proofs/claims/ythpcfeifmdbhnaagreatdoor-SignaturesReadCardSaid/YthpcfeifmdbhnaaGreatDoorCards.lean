/-
  DERIVED. GIVEN WITH THE SEED: THE CARDS: each row of YthpcfeifmdbhnaaGreatDoorRows.lean that lists a variable, with what it lists TIED to the program's text (the seventh form; the later family's looks); each row that meets fmt, with fmt's text TOLD by the authors' own Lean function (tested against real Go, not proved from fmt's source: count such statements apart). THE CARD IS WHAT COUNTS. Prove the row's statement (the work); the ties are given (YthpcfeifmdbhnaaGreatDoorTie.lean); close each card by the builder's one call (the guide's Derived/Test/ToyasCard.lean, 'card_holds'). Laid BY PROGRAM, IN A SANDBOX (cutbox-door.mjs). By AI agents, Wed Nov 11 2026. No macro, syntax, notation, axiom, sorry.
-/
import Derived.Test.YthpcfeifmdbhnaaGreatDoorRows
import GoSem.ClaimSeven
namespace Go.Proofs.YthpcfeifmdbhnaaGreatDoor
namespace Rows

/-- THE TIED CARD OF 'crimplaw36.SignaturesRead'. -/
def signaturesReadCard : Claim7 := { stood := { row := signaturesReadRow, standIns := [], harness := (true, "41d2a02f2d35a6b7b3e75f149e4e059b1192108526148384ccf43d690d844fd8"), looks := false }, kinds := [], alts := [], laidByText := true, laidKinds := [.data, .data, .data, .wider, .data], laidTests := true, laidLooks := .later }
def SignaturesReadCardSaid : Prop := Claim7.holds Tryz.pinned (.plain (OpenSpec.ofChange signaturesReadSpec)) signaturesReadCard

/-- THE TIED CARD OF 'crimplaw36.SignaturesForme'. -/
def signaturesFormeCard : Claim7 := { stood := { row := signaturesFormeRow, standIns := [], harness := (true, "41d2a02f2d35a6b7b3e75f149e4e059b1192108526148384ccf43d690d844fd8"), looks := false }, kinds := [], alts := [], laidByText := true, laidKinds := [.data, .data, .data, .wider, .data], laidTests := true, laidLooks := .later }
def SignaturesFormeCardSaid : Prop := Claim7.holds Tryz.pinned (.plain (OpenSpec.ofChange signaturesFormeSpec)) signaturesFormeCard

/-- THE TIED CARD OF 'crimplaw36.SignaturesErrors'. -/
def signaturesErrorsCard : Claim7 := { stood := { row := signaturesErrorsRow, standIns := [], harness := (true, "41d2a02f2d35a6b7b3e75f149e4e059b1192108526148384ccf43d690d844fd8"), looks := false }, kinds := [], alts := [], laidByText := true, laidKinds := [.data, .data, .data, .wider, .data], laidTests := true, laidLooks := .later }
def SignaturesErrorsCardSaid : Prop := Claim7.holds Tryz.pinned (.plain (OpenSpec.ofChange signaturesErrorsSpec)) signaturesErrorsCard

/-- THE SECOND FORM's CARD OF 'crimplaw36.SignaturesRead'. -/
def signaturesReadUptoCard : Claim7 := { stood := { row := signaturesReadUptoRow, standIns := [], harness := (true, "41d2a02f2d35a6b7b3e75f149e4e059b1192108526148384ccf43d690d844fd8"), looks := false }, kinds := [], alts := [], laidByText := true, laidKinds := [.data, .data, .data, .wider, .data], laidTests := true, laidLooks := .later }
def SignaturesReadUptoCardSaid : Prop := Claim7.holds Tryz.pinned (.plain (OpenSpec.upto signaturesReadSpec)) signaturesReadUptoCard

/-- THE SECOND FORM's CARD OF 'crimplaw36.SignaturesForme'. -/
def signaturesFormeUptoCard : Claim7 := { stood := { row := signaturesFormeUptoRow, standIns := [], harness := (true, "41d2a02f2d35a6b7b3e75f149e4e059b1192108526148384ccf43d690d844fd8"), looks := false }, kinds := [], alts := [], laidByText := true, laidKinds := [.data, .data, .data, .wider, .data], laidTests := true, laidLooks := .later }
def SignaturesFormeUptoCardSaid : Prop := Claim7.holds Tryz.pinned (.plain (OpenSpec.upto signaturesFormeSpec)) signaturesFormeUptoCard

/-- THE SECOND FORM's CARD OF 'crimplaw36.SignaturesErrors'. -/
def signaturesErrorsUptoCard : Claim7 := { stood := { row := signaturesErrorsUptoRow, standIns := [], harness := (true, "41d2a02f2d35a6b7b3e75f149e4e059b1192108526148384ccf43d690d844fd8"), looks := false }, kinds := [], alts := [], laidByText := true, laidKinds := [.data, .data, .data, .wider, .data], laidTests := true, laidLooks := .later }
def SignaturesErrorsUptoCardSaid : Prop := Claim7.holds Tryz.pinned (.plain (OpenSpec.upto signaturesErrorsSpec)) signaturesErrorsUptoCard
end Rows
end Go.Proofs.YthpcfeifmdbhnaaGreatDoor
