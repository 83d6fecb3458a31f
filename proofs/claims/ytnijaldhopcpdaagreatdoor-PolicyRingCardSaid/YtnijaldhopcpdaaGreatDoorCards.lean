/-
  DERIVED. GIVEN WITH THE SEED: THE CARDS: each row of YtnijaldhopcpdaaGreatDoorRows.lean that lists a variable, with what it lists TIED to the program's text (the seventh form; the later family's looks); each row that meets fmt, with fmt's text TOLD by the authors' own Lean function (tested against real Go, not proved from fmt's source: count such statements apart). THE CARD IS WHAT COUNTS. Prove the row's statement (the work); the ties are given (YtnijaldhopcpdaaGreatDoorTie.lean); close each card by the builder's one call (the guide's Derived/Test/ToyasCard.lean, 'card_holds'). Laid BY PROGRAM, IN A SANDBOX (cutbox-door.mjs). By AI agents, Wed Nov 11 2026. No macro, syntax, notation, axiom, sorry.
-/
import Derived.Test.YtnijaldhopcpdaaGreatDoorRows
import GoSem.ClaimSeven
namespace Go.Proofs.YtnijaldhopcpdaaGreatDoor
namespace Rows

/-- THE TIED CARD OF 'spillwaylaw11.HashesRings'. -/
def hashesRingsCard : Claim7 := { stood := { row := hashesRingsRow, standIns := [], harness := (true, "c14267d64e2894d582204b5464ca0a1cd71de88a855a555057184601fdcd1ed5"), looks := false }, kinds := [], alts := [], laidByText := true, laidKinds := [.data, .data, .data], laidTests := true, laidLooks := .later }
def HashesRingsCardSaid : Prop := Claim7.holds Tryz.pinned (.plain (OpenSpec.ofChange hashesRingsSpec)) hashesRingsCard

/-- THE TIED CARD OF 'spillwaylaw11.HashesMoves'. -/
def hashesMovesCard : Claim7 := { stood := { row := hashesMovesRow, standIns := [], harness := (true, "c14267d64e2894d582204b5464ca0a1cd71de88a855a555057184601fdcd1ed5"), looks := false }, kinds := [], alts := [], laidByText := true, laidKinds := [.data, .data, .data], laidTests := true, laidLooks := .later }
def HashesMovesCardSaid : Prop := Claim7.holds Tryz.pinned (.plain (OpenSpec.ofChange hashesMovesSpec)) hashesMovesCard

/-- THE TIED CARD OF 'spillwaylaw11.HashesFinds'. -/
def hashesFindsCard : Claim7 := { stood := { row := hashesFindsRow, standIns := [], harness := (true, "c14267d64e2894d582204b5464ca0a1cd71de88a855a555057184601fdcd1ed5"), looks := false }, kinds := [], alts := [], laidByText := true, laidKinds := [.data, .data, .data], laidTests := true, laidLooks := .later }
def HashesFindsCardSaid : Prop := Claim7.holds Tryz.pinned (.plain (OpenSpec.ofChange hashesFindsSpec)) hashesFindsCard

/-- THE TIED CARD OF 'spillwaylaw16.PolicyHashed'. -/
def policyHashedCard : Claim7 := { stood := { row := policyHashedRow, standIns := [], harness := (true, "c14267d64e2894d582204b5464ca0a1cd71de88a855a555057184601fdcd1ed5"), looks := false }, kinds := [], alts := [], laidByText := true, laidKinds := [.data, .data, .data], laidTests := true, laidLooks := .later }
def PolicyHashedCardSaid : Prop := Claim7.holds Tryz.pinned (.plain (OpenSpec.ofChange policyHashedSpec)) policyHashedCard

/-- THE TIED CARD OF 'spillwaylaw16.PolicyRing'. -/
def policyRingCard : Claim7 := { stood := { row := policyRingRow, standIns := [], harness := (true, "c14267d64e2894d582204b5464ca0a1cd71de88a855a555057184601fdcd1ed5"), looks := false }, kinds := [], alts := [], laidByText := true, laidKinds := [.data, .data, .data], laidTests := true, laidLooks := .later }
def PolicyRingCardSaid : Prop := Claim7.holds Tryz.pinned (.plain (OpenSpec.ofChange policyRingSpec)) policyRingCard

/-- THE SECOND FORM's CARD OF 'spillwaylaw11.HashesRings'. -/
def hashesRingsUptoCard : Claim7 := { stood := { row := hashesRingsUptoRow, standIns := [], harness := (true, "c14267d64e2894d582204b5464ca0a1cd71de88a855a555057184601fdcd1ed5"), looks := false }, kinds := [], alts := [], laidByText := true, laidKinds := [.data, .data, .data], laidTests := true, laidLooks := .later }
def HashesRingsUptoCardSaid : Prop := Claim7.holds Tryz.pinned (.plain (OpenSpec.upto hashesRingsSpec)) hashesRingsUptoCard

/-- THE SECOND FORM's CARD OF 'spillwaylaw11.HashesMoves'. -/
def hashesMovesUptoCard : Claim7 := { stood := { row := hashesMovesUptoRow, standIns := [], harness := (true, "c14267d64e2894d582204b5464ca0a1cd71de88a855a555057184601fdcd1ed5"), looks := false }, kinds := [], alts := [], laidByText := true, laidKinds := [.data, .data, .data], laidTests := true, laidLooks := .later }
def HashesMovesUptoCardSaid : Prop := Claim7.holds Tryz.pinned (.plain (OpenSpec.upto hashesMovesSpec)) hashesMovesUptoCard

/-- THE SECOND FORM's CARD OF 'spillwaylaw11.HashesFinds'. -/
def hashesFindsUptoCard : Claim7 := { stood := { row := hashesFindsUptoRow, standIns := [], harness := (true, "c14267d64e2894d582204b5464ca0a1cd71de88a855a555057184601fdcd1ed5"), looks := false }, kinds := [], alts := [], laidByText := true, laidKinds := [.data, .data, .data], laidTests := true, laidLooks := .later }
def HashesFindsUptoCardSaid : Prop := Claim7.holds Tryz.pinned (.plain (OpenSpec.upto hashesFindsSpec)) hashesFindsUptoCard

/-- THE SECOND FORM's CARD OF 'spillwaylaw16.PolicyHashed'. -/
def policyHashedUptoCard : Claim7 := { stood := { row := policyHashedUptoRow, standIns := [], harness := (true, "c14267d64e2894d582204b5464ca0a1cd71de88a855a555057184601fdcd1ed5"), looks := false }, kinds := [], alts := [], laidByText := true, laidKinds := [.data, .data, .data], laidTests := true, laidLooks := .later }
def PolicyHashedUptoCardSaid : Prop := Claim7.holds Tryz.pinned (.plain (OpenSpec.upto policyHashedSpec)) policyHashedUptoCard

/-- THE SECOND FORM's CARD OF 'spillwaylaw16.PolicyRing'. -/
def policyRingUptoCard : Claim7 := { stood := { row := policyRingUptoRow, standIns := [], harness := (true, "c14267d64e2894d582204b5464ca0a1cd71de88a855a555057184601fdcd1ed5"), looks := false }, kinds := [], alts := [], laidByText := true, laidKinds := [.data, .data, .data], laidTests := true, laidLooks := .later }
def PolicyRingUptoCardSaid : Prop := Claim7.holds Tryz.pinned (.plain (OpenSpec.upto policyRingSpec)) policyRingUptoCard
end Rows
end Go.Proofs.YtnijaldhopcpdaaGreatDoor
