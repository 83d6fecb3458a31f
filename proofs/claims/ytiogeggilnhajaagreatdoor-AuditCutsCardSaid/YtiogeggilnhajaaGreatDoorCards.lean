/-
  DERIVED. GIVEN WITH THE SEED: THE CARDS: each row of YtiogeggilnhajaaGreatDoorRows.lean that lists a variable, with what it lists TIED to the program's text (the seventh form; the later family's looks); each row that meets fmt, with fmt's text TOLD by the authors' own Lean function (tested against real Go, not proved from fmt's source: count such statements apart). THE CARD IS WHAT COUNTS. Prove the row's statement (the work); the ties are given (YtiogeggilnhajaaGreatDoorTie.lean); close each card by the builder's one call (the guide's Derived/Test/ToyasCard.lean, 'card_holds'). Laid BY PROGRAM, IN A SANDBOX (cutbox-door.mjs). By AI agents, Wed Nov 11 2026. No macro, syntax, notation, axiom, sorry.
-/
import Derived.Test.YtiogeggilnhajaaGreatDoorRows
import GoSem.ClaimSeven
namespace Go.Proofs.YtiogeggilnhajaaGreatDoor
namespace Rows

/-- THE TIED CARD OF 'spillwaylaw30.AuditFinds'. -/
def auditFindsCard : Claim7 := { stood := { row := auditFindsRow, standIns := [], harness := (true, "06573a615c46b31dfcbba58f2b6af7de5dd48a3c2245304b889cdc0f69d492db"), looks := false }, kinds := [], alts := [], laidByText := true, laidKinds := [.data, .data, .data, .listed, .data], laidTests := true, laidLooks := .later }
def AuditFindsCardSaid : Prop := Claim7.holds Tryz.pinned (.plain (OpenSpec.ofChange auditFindsSpec)) auditFindsCard

/-- THE TIED CARD OF 'spillwaylaw30.AuditLives'. -/
def auditLivesCard : Claim7 := { stood := { row := auditLivesRow, standIns := [], harness := (true, "06573a615c46b31dfcbba58f2b6af7de5dd48a3c2245304b889cdc0f69d492db"), looks := false }, kinds := [], alts := [], laidByText := true, laidKinds := [.data, .data, .data, .listed, .data], laidTests := true, laidLooks := .later }
def AuditLivesCardSaid : Prop := Claim7.holds Tryz.pinned (.plain (OpenSpec.ofChange auditLivesSpec)) auditLivesCard

/-- THE TIED CARD OF 'spillwaylaw30.AuditCuts'. -/
def auditCutsCard : Claim7 := { stood := { row := auditCutsRow, standIns := [], harness := (true, "06573a615c46b31dfcbba58f2b6af7de5dd48a3c2245304b889cdc0f69d492db"), looks := false }, kinds := [], alts := [], laidByText := true, laidKinds := [.data, .data, .data, .listed, .data], laidTests := true, laidLooks := .later }
def AuditCutsCardSaid : Prop := Claim7.holds Tryz.pinned (.plain (OpenSpec.ofChange auditCutsSpec)) auditCutsCard

/-- THE TIED CARD OF 'spillwaylaw30.AuditPrints'. -/
def auditPrintsCard : Claim7 := { stood := { row := auditPrintsRow, standIns := [], harness := (true, "06573a615c46b31dfcbba58f2b6af7de5dd48a3c2245304b889cdc0f69d492db"), looks := false }, kinds := [], alts := [], laidByText := true, laidKinds := [.data, .data, .data, .listed, .data], laidTests := true, laidLooks := .later }
def AuditPrintsCardSaid : Prop := Claim7.holds Tryz.pinned (.plain (OpenSpec.ofChange auditPrintsSpec)) auditPrintsCard

/-- THE TIED CARD OF 'spillwaylaw30.AuditModel'. -/
def auditModelCard : Claim7 := { stood := { row := auditModelRow, standIns := [], harness := (true, "06573a615c46b31dfcbba58f2b6af7de5dd48a3c2245304b889cdc0f69d492db"), looks := false }, kinds := [], alts := [], laidByText := true, laidKinds := [.data, .data, .data, .listed, .data], laidTests := true, laidLooks := .later }
def AuditModelCardSaid : Prop := Claim7.holds Tryz.pinned (.plain (OpenSpec.ofChange auditModelSpec)) auditModelCard

/-- THE TIED CARD OF 'spillwaylaw30.AuditBegins'. -/
def auditBeginsCard : Claim7 := { stood := { row := auditBeginsRow, standIns := [], harness := (true, "06573a615c46b31dfcbba58f2b6af7de5dd48a3c2245304b889cdc0f69d492db"), looks := false }, kinds := [], alts := [], laidByText := true, laidKinds := [.data, .data, .data, .listed, .data], laidTests := true, laidLooks := .later }
def AuditBeginsCardSaid : Prop := Claim7.holds Tryz.pinned (.plain (OpenSpec.ofChange auditBeginsSpec)) auditBeginsCard

/-- THE TIED CARD OF 'spillwaylaw30.AuditShort'. -/
def auditShortCard : Claim7 := { stood := { row := auditShortRow, standIns := [], harness := (true, "06573a615c46b31dfcbba58f2b6af7de5dd48a3c2245304b889cdc0f69d492db"), looks := false }, kinds := [], alts := [], laidByText := true, laidKinds := [.data, .data, .data, .listed, .data], laidTests := true, laidLooks := .later }
def AuditShortCardSaid : Prop := Claim7.holds Tryz.pinned (.plain (OpenSpec.ofChange auditShortSpec)) auditShortCard

/-- THE TIED CARD OF 'spillwaylaw30.AuditAdds'. -/
def auditAddsCard : Claim7 := { stood := { row := auditAddsRow, standIns := [], harness := (true, "06573a615c46b31dfcbba58f2b6af7de5dd48a3c2245304b889cdc0f69d492db"), looks := false }, kinds := [], alts := [], laidByText := true, laidKinds := [.data, .data, .data, .listed, .data], laidTests := true, laidLooks := .later }
def AuditAddsCardSaid : Prop := Claim7.holds Tryz.pinned (.plain (OpenSpec.ofChange auditAddsSpec)) auditAddsCard

/-- THE SECOND FORM's CARD OF 'spillwaylaw30.AuditFinds'. -/
def auditFindsUptoCard : Claim7 := { stood := { row := auditFindsUptoRow, standIns := [], harness := (true, "06573a615c46b31dfcbba58f2b6af7de5dd48a3c2245304b889cdc0f69d492db"), looks := false }, kinds := [], alts := [], laidByText := true, laidKinds := [.data, .data, .data, .listed, .data], laidTests := true, laidLooks := .later }
def AuditFindsUptoCardSaid : Prop := Claim7.holds Tryz.pinned (.plain (OpenSpec.upto auditFindsSpec)) auditFindsUptoCard

/-- THE SECOND FORM's CARD OF 'spillwaylaw30.AuditLives'. -/
def auditLivesUptoCard : Claim7 := { stood := { row := auditLivesUptoRow, standIns := [], harness := (true, "06573a615c46b31dfcbba58f2b6af7de5dd48a3c2245304b889cdc0f69d492db"), looks := false }, kinds := [], alts := [], laidByText := true, laidKinds := [.data, .data, .data, .listed, .data], laidTests := true, laidLooks := .later }
def AuditLivesUptoCardSaid : Prop := Claim7.holds Tryz.pinned (.plain (OpenSpec.upto auditLivesSpec)) auditLivesUptoCard

/-- THE SECOND FORM's CARD OF 'spillwaylaw30.AuditCuts'. -/
def auditCutsUptoCard : Claim7 := { stood := { row := auditCutsUptoRow, standIns := [], harness := (true, "06573a615c46b31dfcbba58f2b6af7de5dd48a3c2245304b889cdc0f69d492db"), looks := false }, kinds := [], alts := [], laidByText := true, laidKinds := [.data, .data, .data, .listed, .data], laidTests := true, laidLooks := .later }
def AuditCutsUptoCardSaid : Prop := Claim7.holds Tryz.pinned (.plain (OpenSpec.upto auditCutsSpec)) auditCutsUptoCard

/-- THE SECOND FORM's CARD OF 'spillwaylaw30.AuditPrints'. -/
def auditPrintsUptoCard : Claim7 := { stood := { row := auditPrintsUptoRow, standIns := [], harness := (true, "06573a615c46b31dfcbba58f2b6af7de5dd48a3c2245304b889cdc0f69d492db"), looks := false }, kinds := [], alts := [], laidByText := true, laidKinds := [.data, .data, .data, .listed, .data], laidTests := true, laidLooks := .later }
def AuditPrintsUptoCardSaid : Prop := Claim7.holds Tryz.pinned (.plain (OpenSpec.upto auditPrintsSpec)) auditPrintsUptoCard

/-- THE SECOND FORM's CARD OF 'spillwaylaw30.AuditModel'. -/
def auditModelUptoCard : Claim7 := { stood := { row := auditModelUptoRow, standIns := [], harness := (true, "06573a615c46b31dfcbba58f2b6af7de5dd48a3c2245304b889cdc0f69d492db"), looks := false }, kinds := [], alts := [], laidByText := true, laidKinds := [.data, .data, .data, .listed, .data], laidTests := true, laidLooks := .later }
def AuditModelUptoCardSaid : Prop := Claim7.holds Tryz.pinned (.plain (OpenSpec.upto auditModelSpec)) auditModelUptoCard

/-- THE SECOND FORM's CARD OF 'spillwaylaw30.AuditBegins'. -/
def auditBeginsUptoCard : Claim7 := { stood := { row := auditBeginsUptoRow, standIns := [], harness := (true, "06573a615c46b31dfcbba58f2b6af7de5dd48a3c2245304b889cdc0f69d492db"), looks := false }, kinds := [], alts := [], laidByText := true, laidKinds := [.data, .data, .data, .listed, .data], laidTests := true, laidLooks := .later }
def AuditBeginsUptoCardSaid : Prop := Claim7.holds Tryz.pinned (.plain (OpenSpec.upto auditBeginsSpec)) auditBeginsUptoCard

/-- THE SECOND FORM's CARD OF 'spillwaylaw30.AuditShort'. -/
def auditShortUptoCard : Claim7 := { stood := { row := auditShortUptoRow, standIns := [], harness := (true, "06573a615c46b31dfcbba58f2b6af7de5dd48a3c2245304b889cdc0f69d492db"), looks := false }, kinds := [], alts := [], laidByText := true, laidKinds := [.data, .data, .data, .listed, .data], laidTests := true, laidLooks := .later }
def AuditShortUptoCardSaid : Prop := Claim7.holds Tryz.pinned (.plain (OpenSpec.upto auditShortSpec)) auditShortUptoCard

/-- THE SECOND FORM's CARD OF 'spillwaylaw30.AuditAdds'. -/
def auditAddsUptoCard : Claim7 := { stood := { row := auditAddsUptoRow, standIns := [], harness := (true, "06573a615c46b31dfcbba58f2b6af7de5dd48a3c2245304b889cdc0f69d492db"), looks := false }, kinds := [], alts := [], laidByText := true, laidKinds := [.data, .data, .data, .listed, .data], laidTests := true, laidLooks := .later }
def AuditAddsUptoCardSaid : Prop := Claim7.holds Tryz.pinned (.plain (OpenSpec.upto auditAddsSpec)) auditAddsUptoCard
end Rows
end Go.Proofs.YtiogeggilnhajaaGreatDoor
