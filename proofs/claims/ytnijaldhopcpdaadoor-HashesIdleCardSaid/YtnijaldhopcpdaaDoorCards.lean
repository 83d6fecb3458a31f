/-
  DERIVED. GIVEN WITH THE SEED: THE CARDS: each row of YtnijaldhopcpdaaDoorRows.lean that lists a variable, with what it lists TIED to the program's text (the seventh form; the later family's looks); each row that meets fmt, with fmt's text TOLD by the authors' own Lean function (tested against real Go, not proved from fmt's source: count such statements apart). THE CARD IS WHAT COUNTS. Prove the row's statement (the work); the ties are given (YtnijaldhopcpdaaDoorTie.lean); close each card by the builder's one call (the guide's Derived/Test/ToyasCard.lean, 'card_holds'). Laid BY PROGRAM, IN A SANDBOX (cutbox-door.mjs). By AI agents, Wed Nov 11 2026. No macro, syntax, notation, axiom, sorry.
-/
import Derived.Test.YtnijaldhopcpdaaDoorRows
import GoSem.ClaimSeven
namespace Go.Proofs.YtnijaldhopcpdaaDoor
namespace Rows

/-- THE TIED CARD OF 'spillwaylaw11.HashesSums'. -/
def hashesSumsCard : Claim7 := { stood := { row := hashesSumsRow, standIns := [], harness := (true, "8d84c39430e8d9fc97d30e59a413ea1cdc6114d7f1f7400e5f44299d4197b9b2"), looks := false }, kinds := [], alts := [], laidByText := true, laidKinds := [.data, .data, .data], laidTests := true, laidLooks := .later }
def HashesSumsCardSaid : Prop := Claim7.holds Tryd.pinned (.plain (OpenSpec.ofChange hashesSumsSpec)) hashesSumsCard

/-- THE TIED CARD OF 'spillwaylaw11.HashesIdle'. -/
def hashesIdleCard : Claim7 := { stood := { row := hashesIdleRow, standIns := [], harness := (true, "8d84c39430e8d9fc97d30e59a413ea1cdc6114d7f1f7400e5f44299d4197b9b2"), looks := false }, kinds := [], alts := [], laidByText := true, laidKinds := [.data, .data, .data], laidTests := true, laidLooks := .later }
def HashesIdleCardSaid : Prop := Claim7.holds Tryd.pinned (.plain (OpenSpec.ofChange hashesIdleSpec)) hashesIdleCard

/-- THE TIED CARD OF 'spillwaylaw11.HashesJoins'. -/
def hashesJoinsCard : Claim7 := { stood := { row := hashesJoinsRow, standIns := [], harness := (true, "8d84c39430e8d9fc97d30e59a413ea1cdc6114d7f1f7400e5f44299d4197b9b2"), looks := false }, kinds := [], alts := [], laidByText := true, laidKinds := [.data, .data, .data], laidTests := true, laidLooks := .later }
def HashesJoinsCardSaid : Prop := Claim7.holds Tryd.pinned (.plain (OpenSpec.ofChange hashesJoinsSpec)) hashesJoinsCard

/-- THE TIED CARD OF 'spillwaylaw11.HashesShares'. -/
def hashesSharesCard : Claim7 := { stood := { row := hashesSharesRow, standIns := [], harness := (true, "8d84c39430e8d9fc97d30e59a413ea1cdc6114d7f1f7400e5f44299d4197b9b2"), looks := false }, kinds := [], alts := [], laidByText := true, laidKinds := [.data, .data, .data], laidTests := true, laidLooks := .later }
def HashesSharesCardSaid : Prop := Claim7.holds Tryd.pinned (.plain (OpenSpec.ofChange hashesSharesSpec)) hashesSharesCard

/-- THE TIED CARD OF 'spillwaylaw11.HashesLeaves'. -/
def hashesLeavesCard : Claim7 := { stood := { row := hashesLeavesRow, standIns := [], harness := (true, "8d84c39430e8d9fc97d30e59a413ea1cdc6114d7f1f7400e5f44299d4197b9b2"), looks := false }, kinds := [], alts := [], laidByText := true, laidKinds := [.data, .data, .data], laidTests := true, laidLooks := .later }
def HashesLeavesCardSaid : Prop := Claim7.holds Tryd.pinned (.plain (OpenSpec.ofChange hashesLeavesSpec)) hashesLeavesCard

/-- THE SECOND FORM's CARD OF 'spillwaylaw11.HashesSums'. -/
def hashesSumsUptoCard : Claim7 := { stood := { row := hashesSumsUptoRow, standIns := [], harness := (true, "8d84c39430e8d9fc97d30e59a413ea1cdc6114d7f1f7400e5f44299d4197b9b2"), looks := false }, kinds := [], alts := [], laidByText := true, laidKinds := [.data, .data, .data], laidTests := true, laidLooks := .later }
def HashesSumsUptoCardSaid : Prop := Claim7.holds Tryd.pinned (.plain (OpenSpec.upto hashesSumsSpec)) hashesSumsUptoCard

/-- THE SECOND FORM's CARD OF 'spillwaylaw11.HashesIdle'. -/
def hashesIdleUptoCard : Claim7 := { stood := { row := hashesIdleUptoRow, standIns := [], harness := (true, "8d84c39430e8d9fc97d30e59a413ea1cdc6114d7f1f7400e5f44299d4197b9b2"), looks := false }, kinds := [], alts := [], laidByText := true, laidKinds := [.data, .data, .data], laidTests := true, laidLooks := .later }
def HashesIdleUptoCardSaid : Prop := Claim7.holds Tryd.pinned (.plain (OpenSpec.upto hashesIdleSpec)) hashesIdleUptoCard

/-- THE SECOND FORM's CARD OF 'spillwaylaw11.HashesJoins'. -/
def hashesJoinsUptoCard : Claim7 := { stood := { row := hashesJoinsUptoRow, standIns := [], harness := (true, "8d84c39430e8d9fc97d30e59a413ea1cdc6114d7f1f7400e5f44299d4197b9b2"), looks := false }, kinds := [], alts := [], laidByText := true, laidKinds := [.data, .data, .data], laidTests := true, laidLooks := .later }
def HashesJoinsUptoCardSaid : Prop := Claim7.holds Tryd.pinned (.plain (OpenSpec.upto hashesJoinsSpec)) hashesJoinsUptoCard

/-- THE SECOND FORM's CARD OF 'spillwaylaw11.HashesShares'. -/
def hashesSharesUptoCard : Claim7 := { stood := { row := hashesSharesUptoRow, standIns := [], harness := (true, "8d84c39430e8d9fc97d30e59a413ea1cdc6114d7f1f7400e5f44299d4197b9b2"), looks := false }, kinds := [], alts := [], laidByText := true, laidKinds := [.data, .data, .data], laidTests := true, laidLooks := .later }
def HashesSharesUptoCardSaid : Prop := Claim7.holds Tryd.pinned (.plain (OpenSpec.upto hashesSharesSpec)) hashesSharesUptoCard

/-- THE SECOND FORM's CARD OF 'spillwaylaw11.HashesLeaves'. -/
def hashesLeavesUptoCard : Claim7 := { stood := { row := hashesLeavesUptoRow, standIns := [], harness := (true, "8d84c39430e8d9fc97d30e59a413ea1cdc6114d7f1f7400e5f44299d4197b9b2"), looks := false }, kinds := [], alts := [], laidByText := true, laidKinds := [.data, .data, .data], laidTests := true, laidLooks := .later }
def HashesLeavesUptoCardSaid : Prop := Claim7.holds Tryd.pinned (.plain (OpenSpec.upto hashesLeavesSpec)) hashesLeavesUptoCard
end Rows
end Go.Proofs.YtnijaldhopcpdaaDoor
