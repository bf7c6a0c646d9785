/-
  DERIVED. GIVEN WITH THE SEED: THE CARDS: each row of YtlgkpdfieaadaaaGreatDoorRows.lean that lists a variable, with what it lists TIED to the program's text (the seventh form; the later family's looks); each row that meets fmt, with fmt's text TOLD by the authors' own Lean function (tested against real Go, not proved from fmt's source: count such statements apart). THE CARD IS WHAT COUNTS. Prove the row's statement (the work); the ties are given (YtlgkpdfieaadaaaGreatDoorTie.lean); close each card by the builder's one call (the guide's Derived/Test/ToyasCard.lean, 'card_holds'). Laid BY PROGRAM, IN A SANDBOX (cutbox-door.mjs). By AI agents, Wed Nov 11 2026. No macro, syntax, notation, axiom, sorry.
-/
import Derived.Test.YtlgkpdfieaadaaaGreatDoorRows
import GoSem.ClaimSeven
namespace Go.Proofs.YtlgkpdfieaadaaaGreatDoor
namespace Rows

/-- THE TIED CARD OF 'crimplaw37.BookletsHalves'. -/
def bookletsHalvesCard : Claim7 := { stood := { row := bookletsHalvesRow, standIns := [], harness := (true, "e028374662c73678d7d812f6a7d9380a34f05063c5db19a6842149cf128f916e"), looks := false }, kinds := [], alts := [], laidByText := true, laidKinds := [.wider, .data], laidTests := true, laidLooks := .later }
def BookletsHalvesCardSaid : Prop := Claim7.holds Tryz.pinned (.plain (OpenSpec.ofChange bookletsHalvesSpec)) bookletsHalvesCard

/-- THE TIED CARD OF 'crimplaw37.BookletsBook'. -/
def bookletsBookCard : Claim7 := { stood := { row := bookletsBookRow, standIns := [], harness := (true, "e028374662c73678d7d812f6a7d9380a34f05063c5db19a6842149cf128f916e"), looks := false }, kinds := [], alts := [], laidByText := true, laidKinds := [.wider, .data], laidTests := true, laidLooks := .later }
def BookletsBookCardSaid : Prop := Claim7.holds Tryz.pinned (.plain (OpenSpec.ofChange bookletsBookSpec)) bookletsBookCard

/-- THE TIED CARD OF 'crimplaw37.BookletsErrors'. -/
def bookletsErrorsCard : Claim7 := { stood := { row := bookletsErrorsRow, standIns := [], harness := (true, "e028374662c73678d7d812f6a7d9380a34f05063c5db19a6842149cf128f916e"), looks := false }, kinds := [], alts := [], laidByText := true, laidKinds := [.wider, .data], laidTests := true, laidLooks := .later }
def BookletsErrorsCardSaid : Prop := Claim7.holds Tryz.pinned (.plain (OpenSpec.ofChange bookletsErrorsSpec)) bookletsErrorsCard

/-- THE SECOND FORM's CARD OF 'crimplaw37.BookletsHalves'. -/
def bookletsHalvesUptoCard : Claim7 := { stood := { row := bookletsHalvesUptoRow, standIns := [], harness := (true, "e028374662c73678d7d812f6a7d9380a34f05063c5db19a6842149cf128f916e"), looks := false }, kinds := [], alts := [], laidByText := true, laidKinds := [.wider, .data], laidTests := true, laidLooks := .later }
def BookletsHalvesUptoCardSaid : Prop := Claim7.holds Tryz.pinned (.plain (OpenSpec.upto bookletsHalvesSpec)) bookletsHalvesUptoCard

/-- THE SECOND FORM's CARD OF 'crimplaw37.BookletsBook'. -/
def bookletsBookUptoCard : Claim7 := { stood := { row := bookletsBookUptoRow, standIns := [], harness := (true, "e028374662c73678d7d812f6a7d9380a34f05063c5db19a6842149cf128f916e"), looks := false }, kinds := [], alts := [], laidByText := true, laidKinds := [.wider, .data], laidTests := true, laidLooks := .later }
def BookletsBookUptoCardSaid : Prop := Claim7.holds Tryz.pinned (.plain (OpenSpec.upto bookletsBookSpec)) bookletsBookUptoCard

/-- THE SECOND FORM's CARD OF 'crimplaw37.BookletsErrors'. -/
def bookletsErrorsUptoCard : Claim7 := { stood := { row := bookletsErrorsUptoRow, standIns := [], harness := (true, "e028374662c73678d7d812f6a7d9380a34f05063c5db19a6842149cf128f916e"), looks := false }, kinds := [], alts := [], laidByText := true, laidKinds := [.wider, .data], laidTests := true, laidLooks := .later }
def BookletsErrorsUptoCardSaid : Prop := Claim7.holds Tryz.pinned (.plain (OpenSpec.upto bookletsErrorsSpec)) bookletsErrorsUptoCard
end Rows
end Go.Proofs.YtlgkpdfieaadaaaGreatDoor
