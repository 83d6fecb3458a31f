/-
  DERIVED. GIVEN WITH THE SEED: THE CARDS: each row of YtkjhfnlnbjmahaaGreatDoorRows.lean that lists a variable, with what it lists TIED to the program's text (the seventh form; the later family's looks); each row that meets fmt, with fmt's text TOLD by the authors' own Lean function (tested against real Go, not proved from fmt's source: count such statements apart). THE CARD IS WHAT COUNTS. Prove the row's statement (the work); the ties are given (YtkjhfnlnbjmahaaGreatDoorTie.lean); close each card by the builder's one call (the guide's Derived/Test/ToyasCard.lean, 'card_holds'). Laid BY PROGRAM, IN A SANDBOX (cutbox-door.mjs). By AI agents, Wed Nov 11 2026. No macro, syntax, notation, axiom, sorry.
-/
import Derived.Test.YtkjhfnlnbjmahaaGreatDoorRows
import GoSem.ClaimSeven
namespace Go.Proofs.YtkjhfnlnbjmahaaGreatDoor
namespace Rows

/-- THE TIED CARD OF 'spillwaylaw06.HeadersHops'. -/
def headersHopsCard : Claim7 := { stood := { row := headersHopsRow, standIns := [], harness := (true, "751475210c747ade56b37e4f11ae21ff8572c9ba5aec1bca85b6b4ac98110b7f"), looks := false }, kinds := [], alts := [], laidByText := true, laidKinds := [.data, .pinned, .pinned], laidTests := true, laidLooks := .later }
def HeadersHopsCardSaid : Prop := Claim7.holds Tryz.pinned (.plain (OpenSpec.ofChange headersHopsSpec)) headersHopsCard

/-- THE TIED CARD OF 'spillwaylaw06.HeadersCase'. -/
def headersCaseCard : Claim7 := { stood := { row := headersCaseRow, standIns := [], harness := (true, "751475210c747ade56b37e4f11ae21ff8572c9ba5aec1bca85b6b4ac98110b7f"), looks := false }, kinds := [], alts := [], laidByText := true, laidKinds := [.data, .pinned, .pinned], laidTests := true, laidLooks := .later }
def HeadersCaseCardSaid : Prop := Claim7.holds Tryz.pinned (.plain (OpenSpec.ofChange headersCaseSpec)) headersCaseCard

/-- THE TIED CARD OF 'spillwaylaw06.HeadersLines'. -/
def headersLinesCard : Claim7 := { stood := { row := headersLinesRow, standIns := [], harness := (true, "751475210c747ade56b37e4f11ae21ff8572c9ba5aec1bca85b6b4ac98110b7f"), looks := false }, kinds := [], alts := [], laidByText := true, laidKinds := [.data, .pinned, .pinned], laidTests := true, laidLooks := .later }
def HeadersLinesCardSaid : Prop := Claim7.holds Tryz.pinned (.plain (OpenSpec.ofChange headersLinesSpec)) headersLinesCard

/-- THE TIED CARD OF 'spillwaylaw06.HeadersStreams'. -/
def headersStreamsCard : Claim7 := { stood := { row := headersStreamsRow, standIns := [], harness := (true, "751475210c747ade56b37e4f11ae21ff8572c9ba5aec1bca85b6b4ac98110b7f"), looks := false }, kinds := [], alts := [], laidByText := true, laidKinds := [.data, .pinned, .pinned], laidTests := true, laidLooks := .later }
def HeadersStreamsCardSaid : Prop := Claim7.holds Tryz.pinned (.plain (OpenSpec.ofChange headersStreamsSpec)) headersStreamsCard

/-- THE TIED CARD OF 'spillwaylaw06.HeadersReads'. -/
def headersReadsCard : Claim7 := { stood := { row := headersReadsRow, standIns := [], harness := (true, "751475210c747ade56b37e4f11ae21ff8572c9ba5aec1bca85b6b4ac98110b7f"), looks := false }, kinds := [], alts := [], laidByText := true, laidKinds := [.data, .pinned, .pinned], laidTests := true, laidLooks := .later }
def HeadersReadsCardSaid : Prop := Claim7.holds Tryz.pinned (.plain (OpenSpec.ofChange headersReadsSpec)) headersReadsCard

/-- THE TIED CARD OF 'spillwaylaw06.HeadersChecks'. -/
def headersChecksCard : Claim7 := { stood := { row := headersChecksRow, standIns := [], harness := (true, "751475210c747ade56b37e4f11ae21ff8572c9ba5aec1bca85b6b4ac98110b7f"), looks := false }, kinds := [], alts := [], laidByText := true, laidKinds := [.data, .pinned, .pinned], laidTests := true, laidLooks := .later }
def HeadersChecksCardSaid : Prop := Claim7.holds Tryz.pinned (.plain (OpenSpec.ofChange headersChecksSpec)) headersChecksCard

/-- THE TIED CARD OF 'spillwaylaw06.HeadersSets'. -/
def headersSetsCard : Claim7 := { stood := { row := headersSetsRow, standIns := [], harness := (true, "751475210c747ade56b37e4f11ae21ff8572c9ba5aec1bca85b6b4ac98110b7f"), looks := false }, kinds := [], alts := [], laidByText := true, laidKinds := [.data, .pinned, .pinned], laidTests := true, laidLooks := .later }
def HeadersSetsCardSaid : Prop := Claim7.holds Tryz.pinned (.plain (OpenSpec.ofChange headersSetsSpec)) headersSetsCard

/-- THE TIED CARD OF 'spillwaylaw06.HeadersChanges'. -/
def headersChangesCard : Claim7 := { stood := { row := headersChangesRow, standIns := [], harness := (true, "751475210c747ade56b37e4f11ae21ff8572c9ba5aec1bca85b6b4ac98110b7f"), looks := false }, kinds := [], alts := [], laidByText := true, laidKinds := [.data, .pinned, .pinned], laidTests := true, laidLooks := .later }
def HeadersChangesCardSaid : Prop := Claim7.holds Tryz.pinned (.plain (OpenSpec.ofChange headersChangesSpec)) headersChangesCard

/-- THE SECOND FORM's CARD OF 'spillwaylaw06.HeadersHops'. -/
def headersHopsUptoCard : Claim7 := { stood := { row := headersHopsUptoRow, standIns := [], harness := (true, "751475210c747ade56b37e4f11ae21ff8572c9ba5aec1bca85b6b4ac98110b7f"), looks := false }, kinds := [], alts := [], laidByText := true, laidKinds := [.data, .pinned, .pinned], laidTests := true, laidLooks := .later }
def HeadersHopsUptoCardSaid : Prop := Claim7.holds Tryz.pinned (.plain (OpenSpec.upto headersHopsSpec)) headersHopsUptoCard

/-- THE SECOND FORM's CARD OF 'spillwaylaw06.HeadersCase'. -/
def headersCaseUptoCard : Claim7 := { stood := { row := headersCaseUptoRow, standIns := [], harness := (true, "751475210c747ade56b37e4f11ae21ff8572c9ba5aec1bca85b6b4ac98110b7f"), looks := false }, kinds := [], alts := [], laidByText := true, laidKinds := [.data, .pinned, .pinned], laidTests := true, laidLooks := .later }
def HeadersCaseUptoCardSaid : Prop := Claim7.holds Tryz.pinned (.plain (OpenSpec.upto headersCaseSpec)) headersCaseUptoCard

/-- THE SECOND FORM's CARD OF 'spillwaylaw06.HeadersLines'. -/
def headersLinesUptoCard : Claim7 := { stood := { row := headersLinesUptoRow, standIns := [], harness := (true, "751475210c747ade56b37e4f11ae21ff8572c9ba5aec1bca85b6b4ac98110b7f"), looks := false }, kinds := [], alts := [], laidByText := true, laidKinds := [.data, .pinned, .pinned], laidTests := true, laidLooks := .later }
def HeadersLinesUptoCardSaid : Prop := Claim7.holds Tryz.pinned (.plain (OpenSpec.upto headersLinesSpec)) headersLinesUptoCard

/-- THE SECOND FORM's CARD OF 'spillwaylaw06.HeadersStreams'. -/
def headersStreamsUptoCard : Claim7 := { stood := { row := headersStreamsUptoRow, standIns := [], harness := (true, "751475210c747ade56b37e4f11ae21ff8572c9ba5aec1bca85b6b4ac98110b7f"), looks := false }, kinds := [], alts := [], laidByText := true, laidKinds := [.data, .pinned, .pinned], laidTests := true, laidLooks := .later }
def HeadersStreamsUptoCardSaid : Prop := Claim7.holds Tryz.pinned (.plain (OpenSpec.upto headersStreamsSpec)) headersStreamsUptoCard

/-- THE SECOND FORM's CARD OF 'spillwaylaw06.HeadersReads'. -/
def headersReadsUptoCard : Claim7 := { stood := { row := headersReadsUptoRow, standIns := [], harness := (true, "751475210c747ade56b37e4f11ae21ff8572c9ba5aec1bca85b6b4ac98110b7f"), looks := false }, kinds := [], alts := [], laidByText := true, laidKinds := [.data, .pinned, .pinned], laidTests := true, laidLooks := .later }
def HeadersReadsUptoCardSaid : Prop := Claim7.holds Tryz.pinned (.plain (OpenSpec.upto headersReadsSpec)) headersReadsUptoCard

/-- THE SECOND FORM's CARD OF 'spillwaylaw06.HeadersChecks'. -/
def headersChecksUptoCard : Claim7 := { stood := { row := headersChecksUptoRow, standIns := [], harness := (true, "751475210c747ade56b37e4f11ae21ff8572c9ba5aec1bca85b6b4ac98110b7f"), looks := false }, kinds := [], alts := [], laidByText := true, laidKinds := [.data, .pinned, .pinned], laidTests := true, laidLooks := .later }
def HeadersChecksUptoCardSaid : Prop := Claim7.holds Tryz.pinned (.plain (OpenSpec.upto headersChecksSpec)) headersChecksUptoCard

/-- THE SECOND FORM's CARD OF 'spillwaylaw06.HeadersSets'. -/
def headersSetsUptoCard : Claim7 := { stood := { row := headersSetsUptoRow, standIns := [], harness := (true, "751475210c747ade56b37e4f11ae21ff8572c9ba5aec1bca85b6b4ac98110b7f"), looks := false }, kinds := [], alts := [], laidByText := true, laidKinds := [.data, .pinned, .pinned], laidTests := true, laidLooks := .later }
def HeadersSetsUptoCardSaid : Prop := Claim7.holds Tryz.pinned (.plain (OpenSpec.upto headersSetsSpec)) headersSetsUptoCard

/-- THE SECOND FORM's CARD OF 'spillwaylaw06.HeadersChanges'. -/
def headersChangesUptoCard : Claim7 := { stood := { row := headersChangesUptoRow, standIns := [], harness := (true, "751475210c747ade56b37e4f11ae21ff8572c9ba5aec1bca85b6b4ac98110b7f"), looks := false }, kinds := [], alts := [], laidByText := true, laidKinds := [.data, .pinned, .pinned], laidTests := true, laidLooks := .later }
def HeadersChangesUptoCardSaid : Prop := Claim7.holds Tryz.pinned (.plain (OpenSpec.upto headersChangesSpec)) headersChangesUptoCard
end Rows
end Go.Proofs.YtkjhfnlnbjmahaaGreatDoor
