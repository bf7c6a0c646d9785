/-
  NARROWER THAN 'FOR EVERY INPUT', by the rows' own cells (each row's printed sentence says how): JournalsReplay: laid · JournalsApart: laid · JournalsDamage: laid · JournalsScan: laid · JournalsBlocks: laid · JournalsMerge: laid · JournalsErrors: laid.
  DERIVED. THE GIVEN ROWS OF THIS SEAT. 7 by the template 'for every input the law returns true; each argument reads behind the call as it read before'; 0 by the template 'total and deterministic' (their statements: YtdcgminjamofmaaDoorTotals.lean).
  GIVEN WITH THE SEED: the statements are not yours to turn. If you find one false, say at which input.
  Laid BY PROGRAM, IN A SANDBOX (cutbox-rows.mjs): the forced cells as the released guide's own fill.sh prints them over the translation e6858415c0feda96… (all of the seat's roots in one cut). By AI agents, Wed Nov 11 2026. No macro, syntax, notation, axiom, sorry.
-/
import Derived.Test.YtdcgminjamofmaaDoorChecked
import GoSem.Claim
import GoSem.ClaimJoined
import GoSem.ClaimMapViews
import Derived.JoinedTies
import Derived.KernelRfl
namespace Go.Proofs.YtdcgminjamofmaaDoor
/- THE CELL 'sum', in the pinned program and in every row, IS THE sha256 OF THE DUMP (.gsa) THAT YtdcgminjamofmaaDoorProg.lean LOADS. Nothing in Lean hashes anything: it is a label: what it is worth is what the hold of that sum in a sandbox is worth. -/
noncomputable def Tryd.pinned : Pinned := { name := "ytdcgminjamofmaadoor", sum := "e6858415c0feda96141c0bc9f021b1101bd92d82a6507f44553d22a14e90f7ed", checked := Tryd.checked }
namespace Rows
def none {H : Type} : Left H := { results := [], args := [] }

/- WHAT THE LISTED PACKAGE-LEVEL VARIABLES READ AS WHEN THE CALL BEGINS. Each datum BY PROGRAM (the guide's laid-datum.mjs) off the statement by which the dump's own 'gosem.cut.vars' lays the variable. In a bare row this is a premise. The card (YtdcgminjamofmaaDoorCards.lean) ties it to the program's text. -/
def laid_crimp_journals_errArg {H : Type} : DataW H := .iface "*errors.errorString" (.ptr (.agg [.lit (.string [116, 104, 101, 32, 114, 101, 99, 111, 114, 100, 32, 105, 115, 32, 110, 111, 116, 32, 118, 97, 108, 105, 100, 44, 32, 111, 114, 32, 116, 111, 111, 32, 101, 97, 114, 108, 121])]))
def laid_crimp_journals_errThere {H : Type} : DataW H := .iface "*errors.errorString" (.ptr (.agg [.lit (.string [116, 104, 101, 114, 101, 32, 105, 115, 32, 115, 117, 99, 104, 32, 97, 32, 106, 111, 98])]))
def laid_crimp_journals_errNone {H : Type} : DataW H := .iface "*errors.errorString" (.ptr (.agg [.lit (.string [116, 104, 101, 114, 101, 32, 105, 115, 32, 110, 111, 32, 115, 117, 99, 104, 32, 106, 111, 98])]))
def laid_crimp_journals_errState {H : Type} : DataW H := .iface "*errors.errorString" (.ptr (.agg [.lit (.string [116, 104, 101, 32, 106, 111, 98, 32, 105, 115, 32, 110, 111, 116, 32, 115, 111, 32, 102, 97, 114, 44, 32, 111, 114, 32, 102, 117, 114, 116, 104, 101, 114])]))
def laid_crimp_journals_errLimit {H : Type} : DataW H := .iface "*errors.errorString" (.ptr (.agg [.lit (.string [97, 32, 110, 117, 109, 98, 101, 114, 32, 105, 115, 32, 116, 111, 111, 32, 103, 114, 101, 97, 116])]))

/-- 'crimplaw42.JournalsReplay': WHATEVER THE INPUT: true; the input reads as it did. -/
def journalsReplaySpec : ChangeSpec := { name := "journalsReplay", fn := fun _ => fun
  | [d1, d2] => { results := [.lit (.bool true)], args := [d1, d2] }
  | _ => none }
def journalsReplayRow : OpenClaim := { program := "ytdcgminjamofmaadoor", sum := "e6858415c0feda96141c0bc9f021b1101bd92d82a6507f44553d22a14e90f7ed", func := "crimp/crimplaw42.JournalsReplay", spec := "journalsReplay", inPlace := ["slices.overlaps[crimp/journals.Job]", "internal/reflectlite.TypeOf"], unfollowed := true, recurses := true, named := ["crimp/journals.errArg", "crimp/journals.errThere", "crimp/journals.errNone", "crimp/journals.errState", "crimp/journals.errLimit"], apart := false, laid := [("crimp/journals.errArg", laid_crimp_journals_errArg), ("crimp/journals.errThere", laid_crimp_journals_errThere), ("crimp/journals.errNone", laid_crimp_journals_errNone), ("crimp/journals.errState", laid_crimp_journals_errState), ("crimp/journals.errLimit", laid_crimp_journals_errLimit)] }
def JournalsReplaySaid : Prop := journalsReplayRow.holds Tryd.pinned (OpenSpec.ofChange journalsReplaySpec)

/-- ITS FALSE NEIGHBOUR: 'it returns false'. Refute it at one input. -/
def journalsReplayWrong : ChangeSpec := { name := "journalsReplay", fn := fun _ => fun
  | [d1, d2] => { results := [.lit (.bool false)], args := [d1, d2] }
  | _ => none }
def JournalsReplayWrongFalsely : Prop := journalsReplayRow.holds Tryd.pinned (OpenSpec.ofChange journalsReplayWrong)

/-- 'crimplaw42.JournalsApart': WHATEVER THE INPUT: true; the input reads as it did. -/
def journalsApartSpec : ChangeSpec := { name := "journalsApart", fn := fun _ => fun
  | [d1, d2] => { results := [.lit (.bool true)], args := [d1, d2] }
  | _ => none }
def journalsApartRow : OpenClaim := { program := "ytdcgminjamofmaadoor", sum := "e6858415c0feda96141c0bc9f021b1101bd92d82a6507f44553d22a14e90f7ed", func := "crimp/crimplaw42.JournalsApart", spec := "journalsApart", inPlace := ["slices.overlaps[crimp/journals.Job]", "internal/reflectlite.TypeOf"], unfollowed := true, recurses := true, named := ["crimp/journals.errArg", "crimp/journals.errThere", "crimp/journals.errNone", "crimp/journals.errState", "crimp/journals.errLimit"], apart := false, laid := [("crimp/journals.errArg", laid_crimp_journals_errArg), ("crimp/journals.errThere", laid_crimp_journals_errThere), ("crimp/journals.errNone", laid_crimp_journals_errNone), ("crimp/journals.errState", laid_crimp_journals_errState), ("crimp/journals.errLimit", laid_crimp_journals_errLimit)] }
def JournalsApartSaid : Prop := journalsApartRow.holds Tryd.pinned (OpenSpec.ofChange journalsApartSpec)

/-- ITS FALSE NEIGHBOUR: 'it returns false'. Refute it at one input. -/
def journalsApartWrong : ChangeSpec := { name := "journalsApart", fn := fun _ => fun
  | [d1, d2] => { results := [.lit (.bool false)], args := [d1, d2] }
  | _ => none }
def JournalsApartWrongFalsely : Prop := journalsApartRow.holds Tryd.pinned (OpenSpec.ofChange journalsApartWrong)

/-- 'crimplaw42.JournalsDamage': WHATEVER THE INPUT: true; the input reads as it did. -/
def journalsDamageSpec : ChangeSpec := { name := "journalsDamage", fn := fun _ => fun
  | [d1, d2, d3] => { results := [.lit (.bool true)], args := [d1, d2, d3] }
  | _ => none }
def journalsDamageRow : OpenClaim := { program := "ytdcgminjamofmaadoor", sum := "e6858415c0feda96141c0bc9f021b1101bd92d82a6507f44553d22a14e90f7ed", func := "crimp/crimplaw42.JournalsDamage", spec := "journalsDamage", inPlace := ["slices.overlaps[crimp/journals.Job]", "internal/reflectlite.TypeOf"], unfollowed := true, recurses := true, named := ["crimp/journals.errArg", "crimp/journals.errThere", "crimp/journals.errNone", "crimp/journals.errState", "crimp/journals.errLimit"], apart := false, laid := [("crimp/journals.errArg", laid_crimp_journals_errArg), ("crimp/journals.errThere", laid_crimp_journals_errThere), ("crimp/journals.errNone", laid_crimp_journals_errNone), ("crimp/journals.errState", laid_crimp_journals_errState), ("crimp/journals.errLimit", laid_crimp_journals_errLimit)] }
def JournalsDamageSaid : Prop := journalsDamageRow.holds Tryd.pinned (OpenSpec.ofChange journalsDamageSpec)

/-- ITS FALSE NEIGHBOUR: 'it returns false'. Refute it at one input. -/
def journalsDamageWrong : ChangeSpec := { name := "journalsDamage", fn := fun _ => fun
  | [d1, d2, d3] => { results := [.lit (.bool false)], args := [d1, d2, d3] }
  | _ => none }
def JournalsDamageWrongFalsely : Prop := journalsDamageRow.holds Tryd.pinned (OpenSpec.ofChange journalsDamageWrong)

/-- 'crimplaw42.JournalsScan': WHATEVER THE INPUT: true; the input reads as it did. -/
def journalsScanSpec : ChangeSpec := { name := "journalsScan", fn := fun _ => fun
  | [d1, d2] => { results := [.lit (.bool true)], args := [d1, d2] }
  | _ => none }
def journalsScanRow : OpenClaim := { program := "ytdcgminjamofmaadoor", sum := "e6858415c0feda96141c0bc9f021b1101bd92d82a6507f44553d22a14e90f7ed", func := "crimp/crimplaw42.JournalsScan", spec := "journalsScan", inPlace := ["slices.overlaps[crimp/journals.Job]", "internal/reflectlite.TypeOf"], unfollowed := true, recurses := true, named := ["crimp/journals.errArg", "crimp/journals.errThere", "crimp/journals.errNone", "crimp/journals.errState", "crimp/journals.errLimit"], apart := false, laid := [("crimp/journals.errArg", laid_crimp_journals_errArg), ("crimp/journals.errThere", laid_crimp_journals_errThere), ("crimp/journals.errNone", laid_crimp_journals_errNone), ("crimp/journals.errState", laid_crimp_journals_errState), ("crimp/journals.errLimit", laid_crimp_journals_errLimit)] }
def JournalsScanSaid : Prop := journalsScanRow.holds Tryd.pinned (OpenSpec.ofChange journalsScanSpec)

/-- ITS FALSE NEIGHBOUR: 'it returns false'. Refute it at one input. -/
def journalsScanWrong : ChangeSpec := { name := "journalsScan", fn := fun _ => fun
  | [d1, d2] => { results := [.lit (.bool false)], args := [d1, d2] }
  | _ => none }
def JournalsScanWrongFalsely : Prop := journalsScanRow.holds Tryd.pinned (OpenSpec.ofChange journalsScanWrong)

/-- 'crimplaw42.JournalsBlocks': WHATEVER THE INPUT: true; the input reads as it did. -/
def journalsBlocksSpec : ChangeSpec := { name := "journalsBlocks", fn := fun _ => fun
  | [d1, d2, d3] => { results := [.lit (.bool true)], args := [d1, d2, d3] }
  | _ => none }
def journalsBlocksRow : OpenClaim := { program := "ytdcgminjamofmaadoor", sum := "e6858415c0feda96141c0bc9f021b1101bd92d82a6507f44553d22a14e90f7ed", func := "crimp/crimplaw42.JournalsBlocks", spec := "journalsBlocks", inPlace := ["slices.overlaps[crimp/journals.Job]", "internal/reflectlite.TypeOf"], unfollowed := true, recurses := true, named := ["crimp/journals.errArg", "crimp/journals.errThere", "crimp/journals.errNone", "crimp/journals.errState", "crimp/journals.errLimit"], apart := false, laid := [("crimp/journals.errArg", laid_crimp_journals_errArg), ("crimp/journals.errThere", laid_crimp_journals_errThere), ("crimp/journals.errNone", laid_crimp_journals_errNone), ("crimp/journals.errState", laid_crimp_journals_errState), ("crimp/journals.errLimit", laid_crimp_journals_errLimit)] }
def JournalsBlocksSaid : Prop := journalsBlocksRow.holds Tryd.pinned (OpenSpec.ofChange journalsBlocksSpec)

/-- ITS FALSE NEIGHBOUR: 'it returns false'. Refute it at one input. -/
def journalsBlocksWrong : ChangeSpec := { name := "journalsBlocks", fn := fun _ => fun
  | [d1, d2, d3] => { results := [.lit (.bool false)], args := [d1, d2, d3] }
  | _ => none }
def JournalsBlocksWrongFalsely : Prop := journalsBlocksRow.holds Tryd.pinned (OpenSpec.ofChange journalsBlocksWrong)

/-- 'crimplaw42.JournalsMerge': WHATEVER THE INPUT: true; the input reads as it did. -/
def journalsMergeSpec : ChangeSpec := { name := "journalsMerge", fn := fun _ => fun
  | [d1, d2, d3] => { results := [.lit (.bool true)], args := [d1, d2, d3] }
  | _ => none }
def journalsMergeRow : OpenClaim := { program := "ytdcgminjamofmaadoor", sum := "e6858415c0feda96141c0bc9f021b1101bd92d82a6507f44553d22a14e90f7ed", func := "crimp/crimplaw42.JournalsMerge", spec := "journalsMerge", inPlace := ["slices.overlaps[crimp/journals.Job]", "internal/reflectlite.TypeOf"], unfollowed := true, recurses := true, named := ["crimp/journals.errArg", "crimp/journals.errThere", "crimp/journals.errNone", "crimp/journals.errState", "crimp/journals.errLimit"], apart := false, laid := [("crimp/journals.errArg", laid_crimp_journals_errArg), ("crimp/journals.errThere", laid_crimp_journals_errThere), ("crimp/journals.errNone", laid_crimp_journals_errNone), ("crimp/journals.errState", laid_crimp_journals_errState), ("crimp/journals.errLimit", laid_crimp_journals_errLimit)] }
def JournalsMergeSaid : Prop := journalsMergeRow.holds Tryd.pinned (OpenSpec.ofChange journalsMergeSpec)

/-- ITS FALSE NEIGHBOUR: 'it returns false'. Refute it at one input. -/
def journalsMergeWrong : ChangeSpec := { name := "journalsMerge", fn := fun _ => fun
  | [d1, d2, d3] => { results := [.lit (.bool false)], args := [d1, d2, d3] }
  | _ => none }
def JournalsMergeWrongFalsely : Prop := journalsMergeRow.holds Tryd.pinned (OpenSpec.ofChange journalsMergeWrong)

/-- 'crimplaw42.JournalsErrors': WHATEVER THE INPUT: true; the input reads as it did. -/
def journalsErrorsSpec : ChangeSpec := { name := "journalsErrors", fn := fun _ => fun
  | [d1, d2] => { results := [.lit (.bool true)], args := [d1, d2] }
  | _ => none }
def journalsErrorsRow : OpenClaim := { program := "ytdcgminjamofmaadoor", sum := "e6858415c0feda96141c0bc9f021b1101bd92d82a6507f44553d22a14e90f7ed", func := "crimp/crimplaw42.JournalsErrors", spec := "journalsErrors", inPlace := ["slices.overlaps[crimp/journals.Job]", "internal/reflectlite.TypeOf"], unfollowed := true, recurses := true, named := ["crimp/journals.errArg", "crimp/journals.errThere", "crimp/journals.errNone", "crimp/journals.errState", "crimp/journals.errLimit"], apart := false, laid := [("crimp/journals.errArg", laid_crimp_journals_errArg), ("crimp/journals.errThere", laid_crimp_journals_errThere), ("crimp/journals.errNone", laid_crimp_journals_errNone), ("crimp/journals.errState", laid_crimp_journals_errState), ("crimp/journals.errLimit", laid_crimp_journals_errLimit)] }
def JournalsErrorsSaid : Prop := journalsErrorsRow.holds Tryd.pinned (OpenSpec.ofChange journalsErrorsSpec)

/-- ITS FALSE NEIGHBOUR: 'it returns false'. Refute it at one input. -/
def journalsErrorsWrong : ChangeSpec := { name := "journalsErrors", fn := fun _ => fun
  | [d1, d2] => { results := [.lit (.bool false)], args := [d1, d2] }
  | _ => none }
def JournalsErrorsWrongFalsely : Prop := journalsErrorsRow.holds Tryd.pinned (OpenSpec.ofChange journalsErrorsWrong)

/- THE SECOND FORM. 'bulk': how many values and letters a reading holds, each counted each time it is reached (what is shared counts as often as it is met; a slice's spare places count too). A statement '..UptoSaid' is the law's where the arguments, and the package variables that the reading takes, are together of bulk at most 1048576: NARROWER than '..Said'. Prove '..Said' where nothing that the law and all that it calls make is longer than what came in: it says more and counts as full. Else prove '..UptoSaid'. A law counts once. -/
mutual
def uptoBulk {H : Type} : DataW H → Nat
  | .lit (.string bytes) => bytes.length + 1
  | .lit _ => 1
  | .nil => 1
  | .ptr d => uptoBulk d + 1
  | .slice elems spare => uptoBulkAll elems + uptoBulkAll spare + 1
  | .agg parts => uptoBulkAll parts + 1
  | .iface _ d => uptoBulk d + 1
  | .map entries => uptoBulkEntries entries + 1
  | .held _ => 1
def uptoBulkAll {H : Type} : List (DataW H) → Nat
  | [] => 0
  | d :: r => uptoBulk d + uptoBulkAll r
def uptoBulkEntries {H : Type} : List (Lit × DataW H) → Nat
  | [] => 0
  | x :: r => uptoBulkEntry x + uptoBulkEntries r
def uptoBulkEntry {H : Type} : Lit × DataW H → Nat
  | (.string bytes, d) => bytes.length + uptoBulk d + 1
  | (_, d) => uptoBulk d + 1
 end
def uptoSmall : (H : Type) → List (DataW H) → Bool := fun _ ds => decide (uptoBulkAll ds ≤ 1048576)
def OpenSpec.upto (s : _root_.Go.ChangeSpec) : _root_.Go.OpenSpec := { _root_.Go.OpenSpec.ofChange s with cond := some uptoSmall }

/-- 'crimplaw42.JournalsReplay', WHERE WHAT IT READS IS OF BULK AT MOST 1048576: true; the input reads as it did. -/
def journalsReplayUptoRow : OpenClaim := { program := "ytdcgminjamofmaadoor", sum := "e6858415c0feda96141c0bc9f021b1101bd92d82a6507f44553d22a14e90f7ed", func := "crimp/crimplaw42.JournalsReplay", spec := "journalsReplay", inPlace := ["slices.overlaps[crimp/journals.Job]", "internal/reflectlite.TypeOf"], unfollowed := true, recurses := true, named := ["crimp/journals.errArg", "crimp/journals.errThere", "crimp/journals.errNone", "crimp/journals.errState", "crimp/journals.errLimit"], apart := false, laid := [("crimp/journals.errArg", laid_crimp_journals_errArg), ("crimp/journals.errThere", laid_crimp_journals_errThere), ("crimp/journals.errNone", laid_crimp_journals_errNone), ("crimp/journals.errState", laid_crimp_journals_errState), ("crimp/journals.errLimit", laid_crimp_journals_errLimit)], narrowed := true }
def JournalsReplayUptoSaid : Prop := journalsReplayUptoRow.holds Tryd.pinned (OpenSpec.upto journalsReplaySpec)

/-- 'crimplaw42.JournalsApart', WHERE WHAT IT READS IS OF BULK AT MOST 1048576: true; the input reads as it did. -/
def journalsApartUptoRow : OpenClaim := { program := "ytdcgminjamofmaadoor", sum := "e6858415c0feda96141c0bc9f021b1101bd92d82a6507f44553d22a14e90f7ed", func := "crimp/crimplaw42.JournalsApart", spec := "journalsApart", inPlace := ["slices.overlaps[crimp/journals.Job]", "internal/reflectlite.TypeOf"], unfollowed := true, recurses := true, named := ["crimp/journals.errArg", "crimp/journals.errThere", "crimp/journals.errNone", "crimp/journals.errState", "crimp/journals.errLimit"], apart := false, laid := [("crimp/journals.errArg", laid_crimp_journals_errArg), ("crimp/journals.errThere", laid_crimp_journals_errThere), ("crimp/journals.errNone", laid_crimp_journals_errNone), ("crimp/journals.errState", laid_crimp_journals_errState), ("crimp/journals.errLimit", laid_crimp_journals_errLimit)], narrowed := true }
def JournalsApartUptoSaid : Prop := journalsApartUptoRow.holds Tryd.pinned (OpenSpec.upto journalsApartSpec)

/-- 'crimplaw42.JournalsDamage', WHERE WHAT IT READS IS OF BULK AT MOST 1048576: true; the input reads as it did. -/
def journalsDamageUptoRow : OpenClaim := { program := "ytdcgminjamofmaadoor", sum := "e6858415c0feda96141c0bc9f021b1101bd92d82a6507f44553d22a14e90f7ed", func := "crimp/crimplaw42.JournalsDamage", spec := "journalsDamage", inPlace := ["slices.overlaps[crimp/journals.Job]", "internal/reflectlite.TypeOf"], unfollowed := true, recurses := true, named := ["crimp/journals.errArg", "crimp/journals.errThere", "crimp/journals.errNone", "crimp/journals.errState", "crimp/journals.errLimit"], apart := false, laid := [("crimp/journals.errArg", laid_crimp_journals_errArg), ("crimp/journals.errThere", laid_crimp_journals_errThere), ("crimp/journals.errNone", laid_crimp_journals_errNone), ("crimp/journals.errState", laid_crimp_journals_errState), ("crimp/journals.errLimit", laid_crimp_journals_errLimit)], narrowed := true }
def JournalsDamageUptoSaid : Prop := journalsDamageUptoRow.holds Tryd.pinned (OpenSpec.upto journalsDamageSpec)

/-- 'crimplaw42.JournalsScan', WHERE WHAT IT READS IS OF BULK AT MOST 1048576: true; the input reads as it did. -/
def journalsScanUptoRow : OpenClaim := { program := "ytdcgminjamofmaadoor", sum := "e6858415c0feda96141c0bc9f021b1101bd92d82a6507f44553d22a14e90f7ed", func := "crimp/crimplaw42.JournalsScan", spec := "journalsScan", inPlace := ["slices.overlaps[crimp/journals.Job]", "internal/reflectlite.TypeOf"], unfollowed := true, recurses := true, named := ["crimp/journals.errArg", "crimp/journals.errThere", "crimp/journals.errNone", "crimp/journals.errState", "crimp/journals.errLimit"], apart := false, laid := [("crimp/journals.errArg", laid_crimp_journals_errArg), ("crimp/journals.errThere", laid_crimp_journals_errThere), ("crimp/journals.errNone", laid_crimp_journals_errNone), ("crimp/journals.errState", laid_crimp_journals_errState), ("crimp/journals.errLimit", laid_crimp_journals_errLimit)], narrowed := true }
def JournalsScanUptoSaid : Prop := journalsScanUptoRow.holds Tryd.pinned (OpenSpec.upto journalsScanSpec)

/-- 'crimplaw42.JournalsBlocks', WHERE WHAT IT READS IS OF BULK AT MOST 1048576: true; the input reads as it did. -/
def journalsBlocksUptoRow : OpenClaim := { program := "ytdcgminjamofmaadoor", sum := "e6858415c0feda96141c0bc9f021b1101bd92d82a6507f44553d22a14e90f7ed", func := "crimp/crimplaw42.JournalsBlocks", spec := "journalsBlocks", inPlace := ["slices.overlaps[crimp/journals.Job]", "internal/reflectlite.TypeOf"], unfollowed := true, recurses := true, named := ["crimp/journals.errArg", "crimp/journals.errThere", "crimp/journals.errNone", "crimp/journals.errState", "crimp/journals.errLimit"], apart := false, laid := [("crimp/journals.errArg", laid_crimp_journals_errArg), ("crimp/journals.errThere", laid_crimp_journals_errThere), ("crimp/journals.errNone", laid_crimp_journals_errNone), ("crimp/journals.errState", laid_crimp_journals_errState), ("crimp/journals.errLimit", laid_crimp_journals_errLimit)], narrowed := true }
def JournalsBlocksUptoSaid : Prop := journalsBlocksUptoRow.holds Tryd.pinned (OpenSpec.upto journalsBlocksSpec)

/-- 'crimplaw42.JournalsMerge', WHERE WHAT IT READS IS OF BULK AT MOST 1048576: true; the input reads as it did. -/
def journalsMergeUptoRow : OpenClaim := { program := "ytdcgminjamofmaadoor", sum := "e6858415c0feda96141c0bc9f021b1101bd92d82a6507f44553d22a14e90f7ed", func := "crimp/crimplaw42.JournalsMerge", spec := "journalsMerge", inPlace := ["slices.overlaps[crimp/journals.Job]", "internal/reflectlite.TypeOf"], unfollowed := true, recurses := true, named := ["crimp/journals.errArg", "crimp/journals.errThere", "crimp/journals.errNone", "crimp/journals.errState", "crimp/journals.errLimit"], apart := false, laid := [("crimp/journals.errArg", laid_crimp_journals_errArg), ("crimp/journals.errThere", laid_crimp_journals_errThere), ("crimp/journals.errNone", laid_crimp_journals_errNone), ("crimp/journals.errState", laid_crimp_journals_errState), ("crimp/journals.errLimit", laid_crimp_journals_errLimit)], narrowed := true }
def JournalsMergeUptoSaid : Prop := journalsMergeUptoRow.holds Tryd.pinned (OpenSpec.upto journalsMergeSpec)

/-- 'crimplaw42.JournalsErrors', WHERE WHAT IT READS IS OF BULK AT MOST 1048576: true; the input reads as it did. -/
def journalsErrorsUptoRow : OpenClaim := { program := "ytdcgminjamofmaadoor", sum := "e6858415c0feda96141c0bc9f021b1101bd92d82a6507f44553d22a14e90f7ed", func := "crimp/crimplaw42.JournalsErrors", spec := "journalsErrors", inPlace := ["slices.overlaps[crimp/journals.Job]", "internal/reflectlite.TypeOf"], unfollowed := true, recurses := true, named := ["crimp/journals.errArg", "crimp/journals.errThere", "crimp/journals.errNone", "crimp/journals.errState", "crimp/journals.errLimit"], apart := false, laid := [("crimp/journals.errArg", laid_crimp_journals_errArg), ("crimp/journals.errThere", laid_crimp_journals_errThere), ("crimp/journals.errNone", laid_crimp_journals_errNone), ("crimp/journals.errState", laid_crimp_journals_errState), ("crimp/journals.errLimit", laid_crimp_journals_errLimit)], narrowed := true }
def JournalsErrorsUptoSaid : Prop := journalsErrorsUptoRow.holds Tryd.pinned (OpenSpec.upto journalsErrorsSpec)

end Rows
end Go.Proofs.YtdcgminjamofmaaDoor
