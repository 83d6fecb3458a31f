/-
  DERIVED. GIVEN WITH THE SEED: THE CARDS: each row of YtfibpdlpnbnooaaGreatDoorRows.lean that lists a variable, with what it lists TIED to the program's text (the seventh form; the later family's looks); each row that meets fmt, with fmt's text TOLD by the authors' own Lean function (tested against real Go, not proved from fmt's source: count such statements apart). THE CARD IS WHAT COUNTS. Prove the row's statement (the work); the ties are given (YtfibpdlpnbnooaaGreatDoorTie.lean); close each card by the builder's one call (the guide's Derived/Test/ToyasCard.lean, 'card_holds'). Laid BY PROGRAM, IN A SANDBOX (cutbox-door.mjs). By AI agents, Wed Nov 11 2026. No macro, syntax, notation, axiom, sorry.
-/
import Derived.Test.YtfibpdlpnbnooaaGreatDoorRows
import GoSem.ClaimSeven
namespace Go.Proofs.YtfibpdlpnbnooaaGreatDoor
namespace Rows

/-- THE TIED CARD OF 'spillwaylaw08.ChunksDecodes'. -/
def chunksDecodesCard : Claim7 := { stood := { row := chunksDecodesRow, standIns := [], harness := (true, "b48c5866f1e252129b1b72136f7d2bc5afe6ae44910b894d9653caaf40f4c304"), looks := false }, kinds := [], alts := [], laidByText := true, laidKinds := [.data, .data, .data, .data, .pinned, .pinned], laidTests := true, laidLooks := .later }
def ChunksDecodesCardSaid : Prop := Claim7.holds Tryz.pinned (.plain (OpenSpec.ofChange chunksDecodesSpec)) chunksDecodesCard

/-- THE TIED CARD OF 'spillwaylaw08.ChunksEncodes'. -/
def chunksEncodesCard : Claim7 := { stood := { row := chunksEncodesRow, standIns := [], harness := (true, "b48c5866f1e252129b1b72136f7d2bc5afe6ae44910b894d9653caaf40f4c304"), looks := false }, kinds := [], alts := [], laidByText := true, laidKinds := [.data, .data, .data, .data, .pinned, .pinned], laidTests := true, laidLooks := .later }
def ChunksEncodesCardSaid : Prop := Claim7.holds Tryz.pinned (.plain (OpenSpec.ofChange chunksEncodesSpec)) chunksEncodesCard

/-- THE TIED CARD OF 'spillwaylaw08.ChunksBack'. -/
def chunksBackCard : Claim7 := { stood := { row := chunksBackRow, standIns := [], harness := (true, "b48c5866f1e252129b1b72136f7d2bc5afe6ae44910b894d9653caaf40f4c304"), looks := false }, kinds := [], alts := [], laidByText := true, laidKinds := [.data, .data, .data, .data, .pinned, .pinned], laidTests := true, laidLooks := .later }
def ChunksBackCardSaid : Prop := Claim7.holds Tryz.pinned (.plain (OpenSpec.ofChange chunksBackSpec)) chunksBackCard

/-- THE SECOND FORM's CARD OF 'spillwaylaw08.ChunksDecodes'. -/
def chunksDecodesUptoCard : Claim7 := { stood := { row := chunksDecodesUptoRow, standIns := [], harness := (true, "b48c5866f1e252129b1b72136f7d2bc5afe6ae44910b894d9653caaf40f4c304"), looks := false }, kinds := [], alts := [], laidByText := true, laidKinds := [.data, .data, .data, .data, .pinned, .pinned], laidTests := true, laidLooks := .later }
def ChunksDecodesUptoCardSaid : Prop := Claim7.holds Tryz.pinned (.plain (OpenSpec.upto chunksDecodesSpec)) chunksDecodesUptoCard

/-- THE SECOND FORM's CARD OF 'spillwaylaw08.ChunksEncodes'. -/
def chunksEncodesUptoCard : Claim7 := { stood := { row := chunksEncodesUptoRow, standIns := [], harness := (true, "b48c5866f1e252129b1b72136f7d2bc5afe6ae44910b894d9653caaf40f4c304"), looks := false }, kinds := [], alts := [], laidByText := true, laidKinds := [.data, .data, .data, .data, .pinned, .pinned], laidTests := true, laidLooks := .later }
def ChunksEncodesUptoCardSaid : Prop := Claim7.holds Tryz.pinned (.plain (OpenSpec.upto chunksEncodesSpec)) chunksEncodesUptoCard

/-- THE SECOND FORM's CARD OF 'spillwaylaw08.ChunksBack'. -/
def chunksBackUptoCard : Claim7 := { stood := { row := chunksBackUptoRow, standIns := [], harness := (true, "b48c5866f1e252129b1b72136f7d2bc5afe6ae44910b894d9653caaf40f4c304"), looks := false }, kinds := [], alts := [], laidByText := true, laidKinds := [.data, .data, .data, .data, .pinned, .pinned], laidTests := true, laidLooks := .later }
def ChunksBackUptoCardSaid : Prop := Claim7.holds Tryz.pinned (.plain (OpenSpec.upto chunksBackSpec)) chunksBackUptoCard
end Rows
end Go.Proofs.YtfibpdlpnbnooaaGreatDoor
