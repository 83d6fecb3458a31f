/-
  DERIVED. GIVEN WITH THE SEED: THE CARDS: each row of YtfibpdlpnbnooaaDoorRows.lean that lists a variable, with what it lists TIED to the program's text (the seventh form; the later family's looks); each row that meets fmt, with fmt's text TOLD by the authors' own Lean function (tested against real Go, not proved from fmt's source: count such statements apart). THE CARD IS WHAT COUNTS. Prove the row's statement (the work); the ties are given (YtfibpdlpnbnooaaDoorTie.lean); close each card by the builder's one call (the guide's Derived/Test/ToyasCard.lean, 'card_holds'). Laid BY PROGRAM, IN A SANDBOX (cutbox-door.mjs). By AI agents, Wed Nov 11 2026. No macro, syntax, notation, axiom, sorry.
-/
import Derived.Test.YtfibpdlpnbnooaaDoorRows
import GoSem.ClaimSeven
namespace Go.Proofs.YtfibpdlpnbnooaaDoor
namespace Rows

/-- THE TIED CARD OF 'spillwaylaw08.ChunksBeginnings'. -/
def chunksBeginningsCard : Claim7 := { stood := { row := chunksBeginningsRow, standIns := [], harness := (true, "a2bd4ce0e0bc2f2fbbeaf0844f8d3e07b7505f2ee2990baf3ea847c2def030f1"), looks := false }, kinds := [], alts := [], laidByText := true, laidKinds := [.data, .data, .data, .data, .pinned, .pinned], laidTests := true, laidLooks := .later }
def ChunksBeginningsCardSaid : Prop := Claim7.holds Tryd.pinned (.plain (OpenSpec.ofChange chunksBeginningsSpec)) chunksBeginningsCard

/-- THE TIED CARD OF 'spillwaylaw08.ChunksKnown'. -/
def chunksKnownCard : Claim7 := { stood := { row := chunksKnownRow, standIns := [], harness := (true, "a2bd4ce0e0bc2f2fbbeaf0844f8d3e07b7505f2ee2990baf3ea847c2def030f1"), looks := false }, kinds := [], alts := [], laidByText := true, laidKinds := [.data, .data, .data, .data, .pinned, .pinned], laidTests := true, laidLooks := .later }
def ChunksKnownCardSaid : Prop := Claim7.holds Tryd.pinned (.plain (OpenSpec.ofChange chunksKnownSpec)) chunksKnownCard

/-- THE SECOND FORM's CARD OF 'spillwaylaw08.ChunksBeginnings'. -/
def chunksBeginningsUptoCard : Claim7 := { stood := { row := chunksBeginningsUptoRow, standIns := [], harness := (true, "a2bd4ce0e0bc2f2fbbeaf0844f8d3e07b7505f2ee2990baf3ea847c2def030f1"), looks := false }, kinds := [], alts := [], laidByText := true, laidKinds := [.data, .data, .data, .data, .pinned, .pinned], laidTests := true, laidLooks := .later }
def ChunksBeginningsUptoCardSaid : Prop := Claim7.holds Tryd.pinned (.plain (OpenSpec.upto chunksBeginningsSpec)) chunksBeginningsUptoCard

/-- THE SECOND FORM's CARD OF 'spillwaylaw08.ChunksKnown'. -/
def chunksKnownUptoCard : Claim7 := { stood := { row := chunksKnownUptoRow, standIns := [], harness := (true, "a2bd4ce0e0bc2f2fbbeaf0844f8d3e07b7505f2ee2990baf3ea847c2def030f1"), looks := false }, kinds := [], alts := [], laidByText := true, laidKinds := [.data, .data, .data, .data, .pinned, .pinned], laidTests := true, laidLooks := .later }
def ChunksKnownUptoCardSaid : Prop := Claim7.holds Tryd.pinned (.plain (OpenSpec.upto chunksKnownSpec)) chunksKnownUptoCard
end Rows
end Go.Proofs.YtfibpdlpnbnooaaDoor
