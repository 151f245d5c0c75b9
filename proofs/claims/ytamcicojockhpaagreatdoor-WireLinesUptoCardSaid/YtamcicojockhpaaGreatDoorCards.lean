/-
  DERIVED. GIVEN WITH THE SEED: THE CARDS: each row of YtamcicojockhpaaGreatDoorRows.lean that lists a variable, with what it lists TIED to the program's text (the seventh form; the later family's looks); each row that meets fmt, with fmt's text TOLD by the authors' own Lean function (tested against real Go, not proved from fmt's source: count such statements apart). THE CARD IS WHAT COUNTS. Prove the row's statement (the work); the ties are given (YtamcicojockhpaaGreatDoorTie.lean); close each card by the builder's one call (the guide's Derived/Test/ToyasCard.lean, 'card_holds'). Laid BY PROGRAM, IN A SANDBOX (cutbox-door.mjs). By AI agents, Wed Nov 11 2026. No macro, syntax, notation, axiom, sorry.
-/
import Derived.Test.YtamcicojockhpaaGreatDoorRows
import GoSem.ClaimSeven
namespace Go.Proofs.YtamcicojockhpaaGreatDoor
namespace Rows

/-- THE TIED CARD OF 'assizelaw03.WireReads'. -/
def wireReadsCard : Claim7 := { stood := { row := wireReadsRow, standIns := [], harness := (true, "b5fa77de33107be16a64b9d8bdc2eeb623c4df3bdd4e60bf4ec0b8fddaba53ef"), looks := true }, kinds := [], alts := [], laidByText := true, laidKinds := [.data, .data, .data, .data, .sentinel, .sentinel, .pinned], laidTests := true, laidLooks := .later }
def WireReadsCardSaid : Prop := Claim7.holds Tryz.pinned (.plain (OpenSpec.ofChange wireReadsSpec)) wireReadsCard

/-- THE TIED CARD OF 'assizelaw03.WirePrints'. -/
def wirePrintsCard : Claim7 := { stood := { row := wirePrintsRow, standIns := [], harness := (true, "b5fa77de33107be16a64b9d8bdc2eeb623c4df3bdd4e60bf4ec0b8fddaba53ef"), looks := true }, kinds := [], alts := [], laidByText := true, laidKinds := [.data, .data, .data, .data, .sentinel, .sentinel, .pinned], laidTests := true, laidLooks := .later }
def WirePrintsCardSaid : Prop := Claim7.holds Tryz.pinned (.plain (OpenSpec.ofChange wirePrintsSpec)) wirePrintsCard

/-- THE TIED CARD OF 'assizelaw03.WireBack'. -/
def wireBackCard : Claim7 := { stood := { row := wireBackRow, standIns := [], harness := (true, "b5fa77de33107be16a64b9d8bdc2eeb623c4df3bdd4e60bf4ec0b8fddaba53ef"), looks := true }, kinds := [], alts := [], laidByText := true, laidKinds := [.data, .data, .data, .data, .sentinel, .sentinel, .pinned], laidTests := true, laidLooks := .later }
def WireBackCardSaid : Prop := Claim7.holds Tryz.pinned (.plain (OpenSpec.ofChange wireBackSpec)) wireBackCard

/-- THE TIED CARD OF 'assizelaw03.WireAgain'. -/
def wireAgainCard : Claim7 := { stood := { row := wireAgainRow, standIns := [], harness := (true, "b5fa77de33107be16a64b9d8bdc2eeb623c4df3bdd4e60bf4ec0b8fddaba53ef"), looks := true }, kinds := [], alts := [], laidByText := true, laidKinds := [.data, .data, .data, .data, .sentinel, .sentinel, .pinned], laidTests := true, laidLooks := .later }
def WireAgainCardSaid : Prop := Claim7.holds Tryz.pinned (.plain (OpenSpec.ofChange wireAgainSpec)) wireAgainCard

/-- THE TIED CARD OF 'assizelaw03.WireLines'. -/
def wireLinesCard : Claim7 := { stood := { row := wireLinesRow, standIns := [], harness := (true, "b5fa77de33107be16a64b9d8bdc2eeb623c4df3bdd4e60bf4ec0b8fddaba53ef"), looks := true }, kinds := [], alts := [], laidByText := true, laidKinds := [.data, .data, .data, .data, .sentinel, .sentinel, .pinned], laidTests := true, laidLooks := .later }
def WireLinesCardSaid : Prop := Claim7.holds Tryz.pinned (.plain (OpenSpec.ofChange wireLinesSpec)) wireLinesCard

/-- THE TIED CARD OF 'assizelaw03.WireKeeps'. -/
def wireKeepsCard : Claim7 := { stood := { row := wireKeepsRow, standIns := [], harness := (true, "b5fa77de33107be16a64b9d8bdc2eeb623c4df3bdd4e60bf4ec0b8fddaba53ef"), looks := true }, kinds := [], alts := [], laidByText := true, laidKinds := [.data, .data, .data, .data, .sentinel, .sentinel, .pinned], laidTests := true, laidLooks := .later }
def WireKeepsCardSaid : Prop := Claim7.holds Tryz.pinned (.plain (OpenSpec.ofChange wireKeepsSpec)) wireKeepsCard

/-- THE SECOND FORM's CARD OF 'assizelaw03.WireReads'. -/
def wireReadsUptoCard : Claim7 := { stood := { row := wireReadsUptoRow, standIns := [], harness := (true, "b5fa77de33107be16a64b9d8bdc2eeb623c4df3bdd4e60bf4ec0b8fddaba53ef"), looks := true }, kinds := [], alts := [], laidByText := true, laidKinds := [.data, .data, .data, .data, .sentinel, .sentinel, .pinned], laidTests := true, laidLooks := .later }
def WireReadsUptoCardSaid : Prop := Claim7.holds Tryz.pinned (.plain (OpenSpec.upto wireReadsSpec)) wireReadsUptoCard

/-- THE SECOND FORM's CARD OF 'assizelaw03.WirePrints'. -/
def wirePrintsUptoCard : Claim7 := { stood := { row := wirePrintsUptoRow, standIns := [], harness := (true, "b5fa77de33107be16a64b9d8bdc2eeb623c4df3bdd4e60bf4ec0b8fddaba53ef"), looks := true }, kinds := [], alts := [], laidByText := true, laidKinds := [.data, .data, .data, .data, .sentinel, .sentinel, .pinned], laidTests := true, laidLooks := .later }
def WirePrintsUptoCardSaid : Prop := Claim7.holds Tryz.pinned (.plain (OpenSpec.upto wirePrintsSpec)) wirePrintsUptoCard

/-- THE SECOND FORM's CARD OF 'assizelaw03.WireBack'. -/
def wireBackUptoCard : Claim7 := { stood := { row := wireBackUptoRow, standIns := [], harness := (true, "b5fa77de33107be16a64b9d8bdc2eeb623c4df3bdd4e60bf4ec0b8fddaba53ef"), looks := true }, kinds := [], alts := [], laidByText := true, laidKinds := [.data, .data, .data, .data, .sentinel, .sentinel, .pinned], laidTests := true, laidLooks := .later }
def WireBackUptoCardSaid : Prop := Claim7.holds Tryz.pinned (.plain (OpenSpec.upto wireBackSpec)) wireBackUptoCard

/-- THE SECOND FORM's CARD OF 'assizelaw03.WireAgain'. -/
def wireAgainUptoCard : Claim7 := { stood := { row := wireAgainUptoRow, standIns := [], harness := (true, "b5fa77de33107be16a64b9d8bdc2eeb623c4df3bdd4e60bf4ec0b8fddaba53ef"), looks := true }, kinds := [], alts := [], laidByText := true, laidKinds := [.data, .data, .data, .data, .sentinel, .sentinel, .pinned], laidTests := true, laidLooks := .later }
def WireAgainUptoCardSaid : Prop := Claim7.holds Tryz.pinned (.plain (OpenSpec.upto wireAgainSpec)) wireAgainUptoCard

/-- THE SECOND FORM's CARD OF 'assizelaw03.WireLines'. -/
def wireLinesUptoCard : Claim7 := { stood := { row := wireLinesUptoRow, standIns := [], harness := (true, "b5fa77de33107be16a64b9d8bdc2eeb623c4df3bdd4e60bf4ec0b8fddaba53ef"), looks := true }, kinds := [], alts := [], laidByText := true, laidKinds := [.data, .data, .data, .data, .sentinel, .sentinel, .pinned], laidTests := true, laidLooks := .later }
def WireLinesUptoCardSaid : Prop := Claim7.holds Tryz.pinned (.plain (OpenSpec.upto wireLinesSpec)) wireLinesUptoCard

/-- THE SECOND FORM's CARD OF 'assizelaw03.WireKeeps'. -/
def wireKeepsUptoCard : Claim7 := { stood := { row := wireKeepsUptoRow, standIns := [], harness := (true, "b5fa77de33107be16a64b9d8bdc2eeb623c4df3bdd4e60bf4ec0b8fddaba53ef"), looks := true }, kinds := [], alts := [], laidByText := true, laidKinds := [.data, .data, .data, .data, .sentinel, .sentinel, .pinned], laidTests := true, laidLooks := .later }
def WireKeepsUptoCardSaid : Prop := Claim7.holds Tryz.pinned (.plain (OpenSpec.upto wireKeepsSpec)) wireKeepsUptoCard
end Rows
end Go.Proofs.YtamcicojockhpaaGreatDoor
