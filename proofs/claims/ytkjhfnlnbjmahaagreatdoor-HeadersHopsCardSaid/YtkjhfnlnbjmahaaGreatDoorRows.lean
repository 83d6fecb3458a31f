/-
  NARROWER THAN 'FOR EVERY INPUT', by the rows' own cells (each row's printed sentence says how): HeadersHops: laid · HeadersCase: laid · HeadersLines: laid · HeadersStreams: laid · HeadersReads: laid · HeadersChecks: laid · HeadersSets: laid · HeadersChanges: laid.
  DERIVED. THE GIVEN ROWS OF THIS SEAT. 8 by the template 'for every input the law returns true; each argument reads behind the call as it read before'; 0 by the template 'total and deterministic' (their statements: YtkjhfnlnbjmahaaGreatDoorTotals.lean).
  GIVEN WITH THE SEED: the statements are not yours to turn. If you find one false, say at which input.
  Laid BY PROGRAM, IN A SANDBOX (cutbox-rows.mjs): the forced cells as the released guide's own fill.sh prints them over the translation 64a44d174a92f46f… (all of the seat's roots in one cut). By AI agents, Wed Nov 11 2026. No macro, syntax, notation, axiom, sorry.
-/
import Derived.Test.YtkjhfnlnbjmahaaGreatDoorChecked
import GoSem.PinnedTables
import GoSem.Claim
import GoSem.ClaimJoined
import GoSem.ClaimMapViews
import Derived.JoinedTies
import Derived.KernelRfl
namespace Go.Proofs.YtkjhfnlnbjmahaaGreatDoor
/- THE CELL 'sum', in the pinned program and in every row, IS THE sha256 OF THE DUMP (.gsa) THAT YtkjhfnlnbjmahaaGreatDoorProg.lean LOADS. Nothing in Lean hashes anything: it is a label: what it is worth is what the hold of that sum in a sandbox is worth. -/
noncomputable def Tryz.pinned : Pinned := { name := "ytkjhfnlnbjmahaagreatdoor", sum := "64a44d174a92f46fb968d8afcfe2196041f80c5bd4020e0e619654a011a1528b", checked := Tryz.checked }
namespace Rows
def none {H : Type} : Left H := { results := [], args := [] }

/- WHAT THE LISTED PACKAGE-LEVEL VARIABLES READ AS WHEN THE CALL BEGINS. Each datum BY PROGRAM (the guide's laid-datum.mjs) off the statement by which the dump's own 'gosem.cut.vars' lays the variable. In a bare row this is a premise. The card (YtkjhfnlnbjmahaaGreatDoorCards.lean) ties it to the program's text. -/
def laid_unicode_utf8_acceptRanges {H : Type} : DataW H := .agg [.agg [.lit (.int .u8 128), .lit (.int .u8 191)], .agg [.lit (.int .u8 160), .lit (.int .u8 191)], .agg [.lit (.int .u8 128), .lit (.int .u8 159)], .agg [.lit (.int .u8 144), .lit (.int .u8 191)], .agg [.lit (.int .u8 128), .lit (.int .u8 143)], .agg [.lit (.int .u8 0), .lit (.int .u8 0)], .agg [.lit (.int .u8 0), .lit (.int .u8 0)], .agg [.lit (.int .u8 0), .lit (.int .u8 0)], .agg [.lit (.int .u8 0), .lit (.int .u8 0)], .agg [.lit (.int .u8 0), .lit (.int .u8 0)], .agg [.lit (.int .u8 0), .lit (.int .u8 0)], .agg [.lit (.int .u8 0), .lit (.int .u8 0)], .agg [.lit (.int .u8 0), .lit (.int .u8 0)], .agg [.lit (.int .u8 0), .lit (.int .u8 0)], .agg [.lit (.int .u8 0), .lit (.int .u8 0)], .agg [.lit (.int .u8 0), .lit (.int .u8 0)]]
/-- One of Go's own tables, pinned by name: the form's constant. -/
def laid_unicode_CaseRanges : DataW Unit := Go.Pinned.caseRanges
/-- One of Go's own tables, pinned by name: the form's constant. -/
def laid_unicode_utf8_first : DataW Unit := Go.Pinned.utf8First

/-- 'spillwaylaw06.HeadersHops': WHATEVER THE INPUT: true; the input reads as it did. -/
def headersHopsSpec : ChangeSpec := { name := "headersHops", fn := fun _ => fun
  | [d1, d2] => { results := [.lit (.bool true)], args := [d1, d2] }
  | _ => none }
def headersHopsRow : OpenClaim := { program := "ytkjhfnlnbjmahaagreatdoor", sum := "64a44d174a92f46fb968d8afcfe2196041f80c5bd4020e0e619654a011a1528b", func := "spillway/spillwaylaw06.HeadersHops", spec := "headersHops", inPlace := ["internal/bytealg.IndexByteString", "internal/bytealg.IndexString", "internal/bytealg.CountString", "internal/abi.NoEscape", "internal/bytealg.MakeNoZero", "internal/bytealg.IndexByte"], unfollowed := true, recurses := true, named := ["unicode/utf8.first", "unicode/utf8.acceptRanges", "internal/bytealg.MaxLen", "unicode.CaseRanges"], apart := false, laid := [("unicode/utf8.acceptRanges", laid_unicode_utf8_acceptRanges), ("unicode.CaseRanges", laid_unicode_CaseRanges), ("unicode/utf8.first", laid_unicode_utf8_first)] }
def HeadersHopsSaid : Prop := headersHopsRow.holds Tryz.pinned (OpenSpec.ofChange headersHopsSpec)

/-- ITS FALSE NEIGHBOUR: 'it returns false'. Refute it at one input. -/
def headersHopsWrong : ChangeSpec := { name := "headersHops", fn := fun _ => fun
  | [d1, d2] => { results := [.lit (.bool false)], args := [d1, d2] }
  | _ => none }
def HeadersHopsWrongFalsely : Prop := headersHopsRow.holds Tryz.pinned (OpenSpec.ofChange headersHopsWrong)

/-- 'spillwaylaw06.HeadersCase': WHATEVER THE INPUT: true; the input reads as it did. -/
def headersCaseSpec : ChangeSpec := { name := "headersCase", fn := fun _ => fun
  | [d1, d2] => { results := [.lit (.bool true)], args := [d1, d2] }
  | _ => none }
def headersCaseRow : OpenClaim := { program := "ytkjhfnlnbjmahaagreatdoor", sum := "64a44d174a92f46fb968d8afcfe2196041f80c5bd4020e0e619654a011a1528b", func := "spillway/spillwaylaw06.HeadersCase", spec := "headersCase", inPlace := ["internal/bytealg.IndexByteString", "internal/bytealg.IndexString", "internal/bytealg.CountString", "internal/abi.NoEscape", "internal/bytealg.MakeNoZero", "internal/bytealg.IndexByte"], unfollowed := true, recurses := true, named := ["unicode/utf8.first", "unicode/utf8.acceptRanges", "internal/bytealg.MaxLen", "unicode.CaseRanges"], apart := false, laid := [("unicode/utf8.acceptRanges", laid_unicode_utf8_acceptRanges), ("unicode.CaseRanges", laid_unicode_CaseRanges), ("unicode/utf8.first", laid_unicode_utf8_first)] }
def HeadersCaseSaid : Prop := headersCaseRow.holds Tryz.pinned (OpenSpec.ofChange headersCaseSpec)

/-- ITS FALSE NEIGHBOUR: 'it returns false'. Refute it at one input. -/
def headersCaseWrong : ChangeSpec := { name := "headersCase", fn := fun _ => fun
  | [d1, d2] => { results := [.lit (.bool false)], args := [d1, d2] }
  | _ => none }
def HeadersCaseWrongFalsely : Prop := headersCaseRow.holds Tryz.pinned (OpenSpec.ofChange headersCaseWrong)

/-- 'spillwaylaw06.HeadersLines': WHATEVER THE INPUT: true; the input reads as it did. -/
def headersLinesSpec : ChangeSpec := { name := "headersLines", fn := fun _ => fun
  | [d1, d2] => { results := [.lit (.bool true)], args := [d1, d2] }
  | _ => none }
def headersLinesRow : OpenClaim := { program := "ytkjhfnlnbjmahaagreatdoor", sum := "64a44d174a92f46fb968d8afcfe2196041f80c5bd4020e0e619654a011a1528b", func := "spillway/spillwaylaw06.HeadersLines", spec := "headersLines", inPlace := ["internal/bytealg.IndexByteString", "internal/bytealg.IndexString", "internal/bytealg.CountString", "internal/abi.NoEscape", "internal/bytealg.MakeNoZero", "internal/bytealg.IndexByte"], unfollowed := true, recurses := true, named := ["unicode/utf8.first", "unicode/utf8.acceptRanges", "internal/bytealg.MaxLen", "unicode.CaseRanges"], apart := false, laid := [("unicode/utf8.acceptRanges", laid_unicode_utf8_acceptRanges), ("unicode.CaseRanges", laid_unicode_CaseRanges), ("unicode/utf8.first", laid_unicode_utf8_first)] }
def HeadersLinesSaid : Prop := headersLinesRow.holds Tryz.pinned (OpenSpec.ofChange headersLinesSpec)

/-- ITS FALSE NEIGHBOUR: 'it returns false'. Refute it at one input. -/
def headersLinesWrong : ChangeSpec := { name := "headersLines", fn := fun _ => fun
  | [d1, d2] => { results := [.lit (.bool false)], args := [d1, d2] }
  | _ => none }
def HeadersLinesWrongFalsely : Prop := headersLinesRow.holds Tryz.pinned (OpenSpec.ofChange headersLinesWrong)

/-- 'spillwaylaw06.HeadersStreams': WHATEVER THE INPUT: true; the input reads as it did. -/
def headersStreamsSpec : ChangeSpec := { name := "headersStreams", fn := fun _ => fun
  | [d1, d2, d3] => { results := [.lit (.bool true)], args := [d1, d2, d3] }
  | _ => none }
def headersStreamsRow : OpenClaim := { program := "ytkjhfnlnbjmahaagreatdoor", sum := "64a44d174a92f46fb968d8afcfe2196041f80c5bd4020e0e619654a011a1528b", func := "spillway/spillwaylaw06.HeadersStreams", spec := "headersStreams", inPlace := ["internal/bytealg.IndexByteString", "internal/bytealg.IndexString", "internal/bytealg.CountString", "internal/abi.NoEscape", "internal/bytealg.MakeNoZero", "internal/bytealg.IndexByte"], unfollowed := true, recurses := true, named := ["unicode/utf8.first", "unicode/utf8.acceptRanges", "internal/bytealg.MaxLen", "unicode.CaseRanges"], apart := false, laid := [("unicode/utf8.acceptRanges", laid_unicode_utf8_acceptRanges), ("unicode.CaseRanges", laid_unicode_CaseRanges), ("unicode/utf8.first", laid_unicode_utf8_first)] }
def HeadersStreamsSaid : Prop := headersStreamsRow.holds Tryz.pinned (OpenSpec.ofChange headersStreamsSpec)

/-- ITS FALSE NEIGHBOUR: 'it returns false'. Refute it at one input. -/
def headersStreamsWrong : ChangeSpec := { name := "headersStreams", fn := fun _ => fun
  | [d1, d2, d3] => { results := [.lit (.bool false)], args := [d1, d2, d3] }
  | _ => none }
def HeadersStreamsWrongFalsely : Prop := headersStreamsRow.holds Tryz.pinned (OpenSpec.ofChange headersStreamsWrong)

/-- 'spillwaylaw06.HeadersReads': WHATEVER THE INPUT: true; the input reads as it did. -/
def headersReadsSpec : ChangeSpec := { name := "headersReads", fn := fun _ => fun
  | [d] => { results := [.lit (.bool true)], args := [d] }
  | _ => none }
def headersReadsRow : OpenClaim := { program := "ytkjhfnlnbjmahaagreatdoor", sum := "64a44d174a92f46fb968d8afcfe2196041f80c5bd4020e0e619654a011a1528b", func := "spillway/spillwaylaw06.HeadersReads", spec := "headersReads", inPlace := ["internal/bytealg.IndexByteString", "internal/bytealg.IndexString", "internal/bytealg.CountString", "internal/abi.NoEscape", "internal/bytealg.MakeNoZero", "internal/bytealg.IndexByte"], unfollowed := true, recurses := true, named := ["unicode/utf8.first", "unicode/utf8.acceptRanges", "internal/bytealg.MaxLen", "unicode.CaseRanges"], apart := false, laid := [("unicode/utf8.acceptRanges", laid_unicode_utf8_acceptRanges), ("unicode.CaseRanges", laid_unicode_CaseRanges), ("unicode/utf8.first", laid_unicode_utf8_first)] }
def HeadersReadsSaid : Prop := headersReadsRow.holds Tryz.pinned (OpenSpec.ofChange headersReadsSpec)

/-- ITS FALSE NEIGHBOUR: 'it returns false'. Refute it at one input. -/
def headersReadsWrong : ChangeSpec := { name := "headersReads", fn := fun _ => fun
  | [d] => { results := [.lit (.bool false)], args := [d] }
  | _ => none }
def HeadersReadsWrongFalsely : Prop := headersReadsRow.holds Tryz.pinned (OpenSpec.ofChange headersReadsWrong)

/-- 'spillwaylaw06.HeadersChecks': WHATEVER THE INPUT: true; the input reads as it did. -/
def headersChecksSpec : ChangeSpec := { name := "headersChecks", fn := fun _ => fun
  | [d1, d2] => { results := [.lit (.bool true)], args := [d1, d2] }
  | _ => none }
def headersChecksRow : OpenClaim := { program := "ytkjhfnlnbjmahaagreatdoor", sum := "64a44d174a92f46fb968d8afcfe2196041f80c5bd4020e0e619654a011a1528b", func := "spillway/spillwaylaw06.HeadersChecks", spec := "headersChecks", inPlace := ["internal/bytealg.IndexByteString", "internal/bytealg.IndexString", "internal/bytealg.CountString", "internal/abi.NoEscape", "internal/bytealg.MakeNoZero", "internal/bytealg.IndexByte"], unfollowed := true, recurses := true, named := ["unicode/utf8.first", "unicode/utf8.acceptRanges", "internal/bytealg.MaxLen", "unicode.CaseRanges"], apart := false, laid := [("unicode/utf8.acceptRanges", laid_unicode_utf8_acceptRanges), ("unicode.CaseRanges", laid_unicode_CaseRanges), ("unicode/utf8.first", laid_unicode_utf8_first)] }
def HeadersChecksSaid : Prop := headersChecksRow.holds Tryz.pinned (OpenSpec.ofChange headersChecksSpec)

/-- ITS FALSE NEIGHBOUR: 'it returns false'. Refute it at one input. -/
def headersChecksWrong : ChangeSpec := { name := "headersChecks", fn := fun _ => fun
  | [d1, d2] => { results := [.lit (.bool false)], args := [d1, d2] }
  | _ => none }
def HeadersChecksWrongFalsely : Prop := headersChecksRow.holds Tryz.pinned (OpenSpec.ofChange headersChecksWrong)

/-- 'spillwaylaw06.HeadersSets': WHATEVER THE INPUT: true; the input reads as it did. -/
def headersSetsSpec : ChangeSpec := { name := "headersSets", fn := fun _ => fun
  | [d1, d2, d3] => { results := [.lit (.bool true)], args := [d1, d2, d3] }
  | _ => none }
def headersSetsRow : OpenClaim := { program := "ytkjhfnlnbjmahaagreatdoor", sum := "64a44d174a92f46fb968d8afcfe2196041f80c5bd4020e0e619654a011a1528b", func := "spillway/spillwaylaw06.HeadersSets", spec := "headersSets", inPlace := ["internal/bytealg.IndexByteString", "internal/bytealg.IndexString", "internal/bytealg.CountString", "internal/abi.NoEscape", "internal/bytealg.MakeNoZero", "internal/bytealg.IndexByte"], unfollowed := true, recurses := true, named := ["unicode/utf8.first", "unicode/utf8.acceptRanges", "internal/bytealg.MaxLen", "unicode.CaseRanges"], apart := false, laid := [("unicode/utf8.acceptRanges", laid_unicode_utf8_acceptRanges), ("unicode.CaseRanges", laid_unicode_CaseRanges), ("unicode/utf8.first", laid_unicode_utf8_first)] }
def HeadersSetsSaid : Prop := headersSetsRow.holds Tryz.pinned (OpenSpec.ofChange headersSetsSpec)

/-- ITS FALSE NEIGHBOUR: 'it returns false'. Refute it at one input. -/
def headersSetsWrong : ChangeSpec := { name := "headersSets", fn := fun _ => fun
  | [d1, d2, d3] => { results := [.lit (.bool false)], args := [d1, d2, d3] }
  | _ => none }
def HeadersSetsWrongFalsely : Prop := headersSetsRow.holds Tryz.pinned (OpenSpec.ofChange headersSetsWrong)

/-- 'spillwaylaw06.HeadersChanges': WHATEVER THE INPUT: true; the input reads as it did. -/
def headersChangesSpec : ChangeSpec := { name := "headersChanges", fn := fun _ => fun
  | [d1, d2] => { results := [.lit (.bool true)], args := [d1, d2] }
  | _ => none }
def headersChangesRow : OpenClaim := { program := "ytkjhfnlnbjmahaagreatdoor", sum := "64a44d174a92f46fb968d8afcfe2196041f80c5bd4020e0e619654a011a1528b", func := "spillway/spillwaylaw06.HeadersChanges", spec := "headersChanges", inPlace := ["internal/bytealg.IndexByteString", "internal/bytealg.IndexString", "internal/bytealg.CountString", "internal/abi.NoEscape", "internal/bytealg.MakeNoZero", "internal/bytealg.IndexByte"], unfollowed := true, recurses := true, named := ["unicode/utf8.first", "unicode/utf8.acceptRanges", "internal/bytealg.MaxLen", "unicode.CaseRanges"], apart := false, laid := [("unicode/utf8.acceptRanges", laid_unicode_utf8_acceptRanges), ("unicode.CaseRanges", laid_unicode_CaseRanges), ("unicode/utf8.first", laid_unicode_utf8_first)] }
def HeadersChangesSaid : Prop := headersChangesRow.holds Tryz.pinned (OpenSpec.ofChange headersChangesSpec)

/-- ITS FALSE NEIGHBOUR: 'it returns false'. Refute it at one input. -/
def headersChangesWrong : ChangeSpec := { name := "headersChanges", fn := fun _ => fun
  | [d1, d2] => { results := [.lit (.bool false)], args := [d1, d2] }
  | _ => none }
def HeadersChangesWrongFalsely : Prop := headersChangesRow.holds Tryz.pinned (OpenSpec.ofChange headersChangesWrong)

/- THE SECOND FORM. 'bulk': how many values and letters a reading holds, each counted each time it is reached (what is shared counts as often as it is met; a slice's spare places count too). A statement '..UptoSaid' is the law's where the arguments, and the package variables that the reading takes, are together of bulk at most 1048576: NARROWER than '..Said'. Prove '..Said' where nothing that the law and all that it calls make is longer than what came in: it says more and counts as full. Else prove '..UptoSaid'. A law counts once. -/
mutual
def uptoBulk {H : Type} : DataW H → Nat
  | .lit (.string bytes) => bytes.length + 1
  | .lit _ => 1
  | .nil => 1
  | .ptr d => uptoBulk d + 1
  | .slice elems spare => uptoBulkAll elems + uptoBulkAll spare + 1
  | .agg parts => uptoBulkAll parts + 1
  | .iface _ d => uptoBulk d + 1
  | .map entries => uptoBulkEntries entries + 1
  | .held _ => 1
def uptoBulkAll {H : Type} : List (DataW H) → Nat
  | [] => 0
  | d :: r => uptoBulk d + uptoBulkAll r
def uptoBulkEntries {H : Type} : List (Lit × DataW H) → Nat
  | [] => 0
  | x :: r => uptoBulkEntry x + uptoBulkEntries r
def uptoBulkEntry {H : Type} : Lit × DataW H → Nat
  | (.string bytes, d) => bytes.length + uptoBulk d + 1
  | (_, d) => uptoBulk d + 1
 end
def uptoSmall : (H : Type) → List (DataW H) → Bool := fun _ ds => decide (uptoBulkAll ds ≤ 1048576)
def OpenSpec.upto (s : _root_.Go.ChangeSpec) : _root_.Go.OpenSpec := { _root_.Go.OpenSpec.ofChange s with cond := some uptoSmall }

/-- 'spillwaylaw06.HeadersHops', WHERE WHAT IT READS IS OF BULK AT MOST 1048576: true; the input reads as it did. -/
def headersHopsUptoRow : OpenClaim := { program := "ytkjhfnlnbjmahaagreatdoor", sum := "64a44d174a92f46fb968d8afcfe2196041f80c5bd4020e0e619654a011a1528b", func := "spillway/spillwaylaw06.HeadersHops", spec := "headersHops", inPlace := ["internal/bytealg.IndexByteString", "internal/bytealg.IndexString", "internal/bytealg.CountString", "internal/abi.NoEscape", "internal/bytealg.MakeNoZero", "internal/bytealg.IndexByte"], unfollowed := true, recurses := true, named := ["unicode/utf8.first", "unicode/utf8.acceptRanges", "internal/bytealg.MaxLen", "unicode.CaseRanges"], apart := false, laid := [("unicode/utf8.acceptRanges", laid_unicode_utf8_acceptRanges), ("unicode.CaseRanges", laid_unicode_CaseRanges), ("unicode/utf8.first", laid_unicode_utf8_first)], narrowed := true }
def HeadersHopsUptoSaid : Prop := headersHopsUptoRow.holds Tryz.pinned (OpenSpec.upto headersHopsSpec)

/-- 'spillwaylaw06.HeadersCase', WHERE WHAT IT READS IS OF BULK AT MOST 1048576: true; the input reads as it did. -/
def headersCaseUptoRow : OpenClaim := { program := "ytkjhfnlnbjmahaagreatdoor", sum := "64a44d174a92f46fb968d8afcfe2196041f80c5bd4020e0e619654a011a1528b", func := "spillway/spillwaylaw06.HeadersCase", spec := "headersCase", inPlace := ["internal/bytealg.IndexByteString", "internal/bytealg.IndexString", "internal/bytealg.CountString", "internal/abi.NoEscape", "internal/bytealg.MakeNoZero", "internal/bytealg.IndexByte"], unfollowed := true, recurses := true, named := ["unicode/utf8.first", "unicode/utf8.acceptRanges", "internal/bytealg.MaxLen", "unicode.CaseRanges"], apart := false, laid := [("unicode/utf8.acceptRanges", laid_unicode_utf8_acceptRanges), ("unicode.CaseRanges", laid_unicode_CaseRanges), ("unicode/utf8.first", laid_unicode_utf8_first)], narrowed := true }
def HeadersCaseUptoSaid : Prop := headersCaseUptoRow.holds Tryz.pinned (OpenSpec.upto headersCaseSpec)

/-- 'spillwaylaw06.HeadersLines', WHERE WHAT IT READS IS OF BULK AT MOST 1048576: true; the input reads as it did. -/
def headersLinesUptoRow : OpenClaim := { program := "ytkjhfnlnbjmahaagreatdoor", sum := "64a44d174a92f46fb968d8afcfe2196041f80c5bd4020e0e619654a011a1528b", func := "spillway/spillwaylaw06.HeadersLines", spec := "headersLines", inPlace := ["internal/bytealg.IndexByteString", "internal/bytealg.IndexString", "internal/bytealg.CountString", "internal/abi.NoEscape", "internal/bytealg.MakeNoZero", "internal/bytealg.IndexByte"], unfollowed := true, recurses := true, named := ["unicode/utf8.first", "unicode/utf8.acceptRanges", "internal/bytealg.MaxLen", "unicode.CaseRanges"], apart := false, laid := [("unicode/utf8.acceptRanges", laid_unicode_utf8_acceptRanges), ("unicode.CaseRanges", laid_unicode_CaseRanges), ("unicode/utf8.first", laid_unicode_utf8_first)], narrowed := true }
def HeadersLinesUptoSaid : Prop := headersLinesUptoRow.holds Tryz.pinned (OpenSpec.upto headersLinesSpec)

/-- 'spillwaylaw06.HeadersStreams', WHERE WHAT IT READS IS OF BULK AT MOST 1048576: true; the input reads as it did. -/
def headersStreamsUptoRow : OpenClaim := { program := "ytkjhfnlnbjmahaagreatdoor", sum := "64a44d174a92f46fb968d8afcfe2196041f80c5bd4020e0e619654a011a1528b", func := "spillway/spillwaylaw06.HeadersStreams", spec := "headersStreams", inPlace := ["internal/bytealg.IndexByteString", "internal/bytealg.IndexString", "internal/bytealg.CountString", "internal/abi.NoEscape", "internal/bytealg.MakeNoZero", "internal/bytealg.IndexByte"], unfollowed := true, recurses := true, named := ["unicode/utf8.first", "unicode/utf8.acceptRanges", "internal/bytealg.MaxLen", "unicode.CaseRanges"], apart := false, laid := [("unicode/utf8.acceptRanges", laid_unicode_utf8_acceptRanges), ("unicode.CaseRanges", laid_unicode_CaseRanges), ("unicode/utf8.first", laid_unicode_utf8_first)], narrowed := true }
def HeadersStreamsUptoSaid : Prop := headersStreamsUptoRow.holds Tryz.pinned (OpenSpec.upto headersStreamsSpec)

/-- 'spillwaylaw06.HeadersReads', WHERE WHAT IT READS IS OF BULK AT MOST 1048576: true; the input reads as it did. -/
def headersReadsUptoRow : OpenClaim := { program := "ytkjhfnlnbjmahaagreatdoor", sum := "64a44d174a92f46fb968d8afcfe2196041f80c5bd4020e0e619654a011a1528b", func := "spillway/spillwaylaw06.HeadersReads", spec := "headersReads", inPlace := ["internal/bytealg.IndexByteString", "internal/bytealg.IndexString", "internal/bytealg.CountString", "internal/abi.NoEscape", "internal/bytealg.MakeNoZero", "internal/bytealg.IndexByte"], unfollowed := true, recurses := true, named := ["unicode/utf8.first", "unicode/utf8.acceptRanges", "internal/bytealg.MaxLen", "unicode.CaseRanges"], apart := false, laid := [("unicode/utf8.acceptRanges", laid_unicode_utf8_acceptRanges), ("unicode.CaseRanges", laid_unicode_CaseRanges), ("unicode/utf8.first", laid_unicode_utf8_first)], narrowed := true }
def HeadersReadsUptoSaid : Prop := headersReadsUptoRow.holds Tryz.pinned (OpenSpec.upto headersReadsSpec)

/-- 'spillwaylaw06.HeadersChecks', WHERE WHAT IT READS IS OF BULK AT MOST 1048576: true; the input reads as it did. -/
def headersChecksUptoRow : OpenClaim := { program := "ytkjhfnlnbjmahaagreatdoor", sum := "64a44d174a92f46fb968d8afcfe2196041f80c5bd4020e0e619654a011a1528b", func := "spillway/spillwaylaw06.HeadersChecks", spec := "headersChecks", inPlace := ["internal/bytealg.IndexByteString", "internal/bytealg.IndexString", "internal/bytealg.CountString", "internal/abi.NoEscape", "internal/bytealg.MakeNoZero", "internal/bytealg.IndexByte"], unfollowed := true, recurses := true, named := ["unicode/utf8.first", "unicode/utf8.acceptRanges", "internal/bytealg.MaxLen", "unicode.CaseRanges"], apart := false, laid := [("unicode/utf8.acceptRanges", laid_unicode_utf8_acceptRanges), ("unicode.CaseRanges", laid_unicode_CaseRanges), ("unicode/utf8.first", laid_unicode_utf8_first)], narrowed := true }
def HeadersChecksUptoSaid : Prop := headersChecksUptoRow.holds Tryz.pinned (OpenSpec.upto headersChecksSpec)

/-- 'spillwaylaw06.HeadersSets', WHERE WHAT IT READS IS OF BULK AT MOST 1048576: true; the input reads as it did. -/
def headersSetsUptoRow : OpenClaim := { program := "ytkjhfnlnbjmahaagreatdoor", sum := "64a44d174a92f46fb968d8afcfe2196041f80c5bd4020e0e619654a011a1528b", func := "spillway/spillwaylaw06.HeadersSets", spec := "headersSets", inPlace := ["internal/bytealg.IndexByteString", "internal/bytealg.IndexString", "internal/bytealg.CountString", "internal/abi.NoEscape", "internal/bytealg.MakeNoZero", "internal/bytealg.IndexByte"], unfollowed := true, recurses := true, named := ["unicode/utf8.first", "unicode/utf8.acceptRanges", "internal/bytealg.MaxLen", "unicode.CaseRanges"], apart := false, laid := [("unicode/utf8.acceptRanges", laid_unicode_utf8_acceptRanges), ("unicode.CaseRanges", laid_unicode_CaseRanges), ("unicode/utf8.first", laid_unicode_utf8_first)], narrowed := true }
def HeadersSetsUptoSaid : Prop := headersSetsUptoRow.holds Tryz.pinned (OpenSpec.upto headersSetsSpec)

/-- 'spillwaylaw06.HeadersChanges', WHERE WHAT IT READS IS OF BULK AT MOST 1048576: true; the input reads as it did. -/
def headersChangesUptoRow : OpenClaim := { program := "ytkjhfnlnbjmahaagreatdoor", sum := "64a44d174a92f46fb968d8afcfe2196041f80c5bd4020e0e619654a011a1528b", func := "spillway/spillwaylaw06.HeadersChanges", spec := "headersChanges", inPlace := ["internal/bytealg.IndexByteString", "internal/bytealg.IndexString", "internal/bytealg.CountString", "internal/abi.NoEscape", "internal/bytealg.MakeNoZero", "internal/bytealg.IndexByte"], unfollowed := true, recurses := true, named := ["unicode/utf8.first", "unicode/utf8.acceptRanges", "internal/bytealg.MaxLen", "unicode.CaseRanges"], apart := false, laid := [("unicode/utf8.acceptRanges", laid_unicode_utf8_acceptRanges), ("unicode.CaseRanges", laid_unicode_CaseRanges), ("unicode/utf8.first", laid_unicode_utf8_first)], narrowed := true }
def HeadersChangesUptoSaid : Prop := headersChangesUptoRow.holds Tryz.pinned (OpenSpec.upto headersChangesSpec)

end Rows
end Go.Proofs.YtkjhfnlnbjmahaaGreatDoor
