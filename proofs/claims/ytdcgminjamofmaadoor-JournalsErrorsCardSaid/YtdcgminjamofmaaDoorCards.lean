/-
  DERIVED. GIVEN WITH THE SEED: THE CARDS: each row of YtdcgminjamofmaaDoorRows.lean that lists a variable, with what it lists TIED to the program's text (the seventh form; the later family's looks); each row that meets fmt, with fmt's text TOLD by the authors' own Lean function (tested against real Go, not proved from fmt's source: count such statements apart). THE CARD IS WHAT COUNTS. Prove the row's statement (the work); the ties are given (YtdcgminjamofmaaDoorTie.lean); close each card by the builder's one call (the guide's Derived/Test/ToyasCard.lean, 'card_holds'). Laid BY PROGRAM, IN A SANDBOX (cutbox-door.mjs). By AI agents, Wed Nov 11 2026. No macro, syntax, notation, axiom, sorry.
-/
import Derived.Test.YtdcgminjamofmaaDoorRows
import GoSem.ClaimSeven
namespace Go.Proofs.YtdcgminjamofmaaDoor
namespace Rows

/-- THE TIED CARD OF 'crimplaw42.JournalsReplay'. -/
def journalsReplayCard : Claim7 := { stood := { row := journalsReplayRow, standIns := [], harness := (true, "b6f344ec4a913bff6c326f886e2321c42e28b80a5351ec5346b75a205b5ec4fd"), looks := true }, kinds := [], alts := [], laidByText := true, laidKinds := [.sentinel, .sentinel, .sentinel, .sentinel, .sentinel], laidTests := true, laidLooks := .later }
def JournalsReplayCardSaid : Prop := Claim7.holds Tryd.pinned (.plain (OpenSpec.ofChange journalsReplaySpec)) journalsReplayCard

/-- THE TIED CARD OF 'crimplaw42.JournalsApart'. -/
def journalsApartCard : Claim7 := { stood := { row := journalsApartRow, standIns := [], harness := (true, "b6f344ec4a913bff6c326f886e2321c42e28b80a5351ec5346b75a205b5ec4fd"), looks := true }, kinds := [], alts := [], laidByText := true, laidKinds := [.sentinel, .sentinel, .sentinel, .sentinel, .sentinel], laidTests := true, laidLooks := .later }
def JournalsApartCardSaid : Prop := Claim7.holds Tryd.pinned (.plain (OpenSpec.ofChange journalsApartSpec)) journalsApartCard

/-- THE TIED CARD OF 'crimplaw42.JournalsDamage'. -/
def journalsDamageCard : Claim7 := { stood := { row := journalsDamageRow, standIns := [], harness := (true, "b6f344ec4a913bff6c326f886e2321c42e28b80a5351ec5346b75a205b5ec4fd"), looks := true }, kinds := [], alts := [], laidByText := true, laidKinds := [.sentinel, .sentinel, .sentinel, .sentinel, .sentinel], laidTests := true, laidLooks := .later }
def JournalsDamageCardSaid : Prop := Claim7.holds Tryd.pinned (.plain (OpenSpec.ofChange journalsDamageSpec)) journalsDamageCard

/-- THE TIED CARD OF 'crimplaw42.JournalsScan'. -/
def journalsScanCard : Claim7 := { stood := { row := journalsScanRow, standIns := [], harness := (true, "b6f344ec4a913bff6c326f886e2321c42e28b80a5351ec5346b75a205b5ec4fd"), looks := true }, kinds := [], alts := [], laidByText := true, laidKinds := [.sentinel, .sentinel, .sentinel, .sentinel, .sentinel], laidTests := true, laidLooks := .later }
def JournalsScanCardSaid : Prop := Claim7.holds Tryd.pinned (.plain (OpenSpec.ofChange journalsScanSpec)) journalsScanCard

/-- THE TIED CARD OF 'crimplaw42.JournalsBlocks'. -/
def journalsBlocksCard : Claim7 := { stood := { row := journalsBlocksRow, standIns := [], harness := (true, "b6f344ec4a913bff6c326f886e2321c42e28b80a5351ec5346b75a205b5ec4fd"), looks := true }, kinds := [], alts := [], laidByText := true, laidKinds := [.sentinel, .sentinel, .sentinel, .sentinel, .sentinel], laidTests := true, laidLooks := .later }
def JournalsBlocksCardSaid : Prop := Claim7.holds Tryd.pinned (.plain (OpenSpec.ofChange journalsBlocksSpec)) journalsBlocksCard

/-- THE TIED CARD OF 'crimplaw42.JournalsMerge'. -/
def journalsMergeCard : Claim7 := { stood := { row := journalsMergeRow, standIns := [], harness := (true, "b6f344ec4a913bff6c326f886e2321c42e28b80a5351ec5346b75a205b5ec4fd"), looks := true }, kinds := [], alts := [], laidByText := true, laidKinds := [.sentinel, .sentinel, .sentinel, .sentinel, .sentinel], laidTests := true, laidLooks := .later }
def JournalsMergeCardSaid : Prop := Claim7.holds Tryd.pinned (.plain (OpenSpec.ofChange journalsMergeSpec)) journalsMergeCard

/-- THE TIED CARD OF 'crimplaw42.JournalsErrors'. -/
def journalsErrorsCard : Claim7 := { stood := { row := journalsErrorsRow, standIns := [], harness := (true, "b6f344ec4a913bff6c326f886e2321c42e28b80a5351ec5346b75a205b5ec4fd"), looks := true }, kinds := [], alts := [], laidByText := true, laidKinds := [.sentinel, .sentinel, .sentinel, .sentinel, .sentinel], laidTests := true, laidLooks := .later }
def JournalsErrorsCardSaid : Prop := Claim7.holds Tryd.pinned (.plain (OpenSpec.ofChange journalsErrorsSpec)) journalsErrorsCard

/-- THE SECOND FORM's CARD OF 'crimplaw42.JournalsReplay'. -/
def journalsReplayUptoCard : Claim7 := { stood := { row := journalsReplayUptoRow, standIns := [], harness := (true, "b6f344ec4a913bff6c326f886e2321c42e28b80a5351ec5346b75a205b5ec4fd"), looks := true }, kinds := [], alts := [], laidByText := true, laidKinds := [.sentinel, .sentinel, .sentinel, .sentinel, .sentinel], laidTests := true, laidLooks := .later }
def JournalsReplayUptoCardSaid : Prop := Claim7.holds Tryd.pinned (.plain (OpenSpec.upto journalsReplaySpec)) journalsReplayUptoCard

/-- THE SECOND FORM's CARD OF 'crimplaw42.JournalsApart'. -/
def journalsApartUptoCard : Claim7 := { stood := { row := journalsApartUptoRow, standIns := [], harness := (true, "b6f344ec4a913bff6c326f886e2321c42e28b80a5351ec5346b75a205b5ec4fd"), looks := true }, kinds := [], alts := [], laidByText := true, laidKinds := [.sentinel, .sentinel, .sentinel, .sentinel, .sentinel], laidTests := true, laidLooks := .later }
def JournalsApartUptoCardSaid : Prop := Claim7.holds Tryd.pinned (.plain (OpenSpec.upto journalsApartSpec)) journalsApartUptoCard

/-- THE SECOND FORM's CARD OF 'crimplaw42.JournalsDamage'. -/
def journalsDamageUptoCard : Claim7 := { stood := { row := journalsDamageUptoRow, standIns := [], harness := (true, "b6f344ec4a913bff6c326f886e2321c42e28b80a5351ec5346b75a205b5ec4fd"), looks := true }, kinds := [], alts := [], laidByText := true, laidKinds := [.sentinel, .sentinel, .sentinel, .sentinel, .sentinel], laidTests := true, laidLooks := .later }
def JournalsDamageUptoCardSaid : Prop := Claim7.holds Tryd.pinned (.plain (OpenSpec.upto journalsDamageSpec)) journalsDamageUptoCard

/-- THE SECOND FORM's CARD OF 'crimplaw42.JournalsScan'. -/
def journalsScanUptoCard : Claim7 := { stood := { row := journalsScanUptoRow, standIns := [], harness := (true, "b6f344ec4a913bff6c326f886e2321c42e28b80a5351ec5346b75a205b5ec4fd"), looks := true }, kinds := [], alts := [], laidByText := true, laidKinds := [.sentinel, .sentinel, .sentinel, .sentinel, .sentinel], laidTests := true, laidLooks := .later }
def JournalsScanUptoCardSaid : Prop := Claim7.holds Tryd.pinned (.plain (OpenSpec.upto journalsScanSpec)) journalsScanUptoCard

/-- THE SECOND FORM's CARD OF 'crimplaw42.JournalsBlocks'. -/
def journalsBlocksUptoCard : Claim7 := { stood := { row := journalsBlocksUptoRow, standIns := [], harness := (true, "b6f344ec4a913bff6c326f886e2321c42e28b80a5351ec5346b75a205b5ec4fd"), looks := true }, kinds := [], alts := [], laidByText := true, laidKinds := [.sentinel, .sentinel, .sentinel, .sentinel, .sentinel], laidTests := true, laidLooks := .later }
def JournalsBlocksUptoCardSaid : Prop := Claim7.holds Tryd.pinned (.plain (OpenSpec.upto journalsBlocksSpec)) journalsBlocksUptoCard

/-- THE SECOND FORM's CARD OF 'crimplaw42.JournalsMerge'. -/
def journalsMergeUptoCard : Claim7 := { stood := { row := journalsMergeUptoRow, standIns := [], harness := (true, "b6f344ec4a913bff6c326f886e2321c42e28b80a5351ec5346b75a205b5ec4fd"), looks := true }, kinds := [], alts := [], laidByText := true, laidKinds := [.sentinel, .sentinel, .sentinel, .sentinel, .sentinel], laidTests := true, laidLooks := .later }
def JournalsMergeUptoCardSaid : Prop := Claim7.holds Tryd.pinned (.plain (OpenSpec.upto journalsMergeSpec)) journalsMergeUptoCard

/-- THE SECOND FORM's CARD OF 'crimplaw42.JournalsErrors'. -/
def journalsErrorsUptoCard : Claim7 := { stood := { row := journalsErrorsUptoRow, standIns := [], harness := (true, "b6f344ec4a913bff6c326f886e2321c42e28b80a5351ec5346b75a205b5ec4fd"), looks := true }, kinds := [], alts := [], laidByText := true, laidKinds := [.sentinel, .sentinel, .sentinel, .sentinel, .sentinel], laidTests := true, laidLooks := .later }
def JournalsErrorsUptoCardSaid : Prop := Claim7.holds Tryd.pinned (.plain (OpenSpec.upto journalsErrorsSpec)) journalsErrorsUptoCard
end Rows
end Go.Proofs.YtdcgminjamofmaaDoor
