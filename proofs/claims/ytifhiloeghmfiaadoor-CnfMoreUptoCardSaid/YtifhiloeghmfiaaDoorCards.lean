/-
  DERIVED. GIVEN WITH THE SEED: THE CARDS: each row of YtifhiloeghmfiaaDoorRows.lean that lists a variable, with what it lists TIED to the program's text (the seventh form; the later family's looks); each row that meets fmt, with fmt's text TOLD by the authors' own Lean function (tested against real Go, not proved from fmt's source: count such statements apart). THE CARD IS WHAT COUNTS. Prove the row's statement (the work); the ties are given (YtifhiloeghmfiaaDoorTie.lean); close each card by the builder's one call (the guide's Derived/Test/ToyasCard.lean, 'card_holds'). Laid BY PROGRAM, IN A SANDBOX (cutbox-door.mjs). By AI agents, Wed Nov 11 2026. No macro, syntax, notation, axiom, sorry.
-/
import Derived.Test.YtifhiloeghmfiaaDoorRows
import GoSem.ClaimSeven
namespace Go.Proofs.YtifhiloeghmfiaaDoor
namespace Rows

/-- THE TIED CARD OF 'assizelaw15.CnfFollows'. -/
def cnfFollowsCard : Claim7 := { stood := { row := cnfFollowsRow, standIns := [], harness := (true, "b96210c1da0b56c8fe31166213f13e3e2b543227b9775f4f9210112a4a25fb89"), looks := true }, kinds := [], alts := [], laidByText := true, laidKinds := [.data, .data, .data], laidTests := true, laidLooks := .later }
def CnfFollowsCardSaid : Prop := Claim7.holds Tryd.pinned (.plain (OpenSpec.ofChange cnfFollowsSpec)) cnfFollowsCard

/-- THE TIED CARD OF 'assizelaw15.CnfMore'. -/
def cnfMoreCard : Claim7 := { stood := { row := cnfMoreRow, standIns := [], harness := (true, "b96210c1da0b56c8fe31166213f13e3e2b543227b9775f4f9210112a4a25fb89"), looks := true }, kinds := [], alts := [], laidByText := true, laidKinds := [.data, .data, .data], laidTests := true, laidLooks := .later }
def CnfMoreCardSaid : Prop := Claim7.holds Tryd.pinned (.plain (OpenSpec.ofChange cnfMoreSpec)) cnfMoreCard

/-- THE TIED CARD OF 'assizelaw15.CnfAgain'. -/
def cnfAgainCard : Claim7 := { stood := { row := cnfAgainRow, standIns := [], harness := (true, "b96210c1da0b56c8fe31166213f13e3e2b543227b9775f4f9210112a4a25fb89"), looks := true }, kinds := [], alts := [], laidByText := true, laidKinds := [.data, .data, .data], laidTests := true, laidLooks := .later }
def CnfAgainCardSaid : Prop := Claim7.holds Tryd.pinned (.plain (OpenSpec.ofChange cnfAgainSpec)) cnfAgainCard

/-- THE TIED CARD OF 'assizelaw15.CnfTrue'. -/
def cnfTrueCard : Claim7 := { stood := { row := cnfTrueRow, standIns := [], harness := (true, "b96210c1da0b56c8fe31166213f13e3e2b543227b9775f4f9210112a4a25fb89"), looks := true }, kinds := [], alts := [], laidByText := true, laidKinds := [.data, .data, .data], laidTests := true, laidLooks := .later }
def CnfTrueCardSaid : Prop := Claim7.holds Tryd.pinned (.plain (OpenSpec.ofChange cnfTrueSpec)) cnfTrueCard

/-- THE TIED CARD OF 'assizelaw15.CnfModels'. -/
def cnfModelsCard : Claim7 := { stood := { row := cnfModelsRow, standIns := [], harness := (true, "b96210c1da0b56c8fe31166213f13e3e2b543227b9775f4f9210112a4a25fb89"), looks := true }, kinds := [], alts := [], laidByText := true, laidKinds := [.data, .data, .data], laidTests := true, laidLooks := .later }
def CnfModelsCardSaid : Prop := Claim7.holds Tryd.pinned (.plain (OpenSpec.ofChange cnfModelsSpec)) cnfModelsCard

/-- THE TIED CARD OF 'assizelaw15.CnfTexts'. -/
def cnfTextsCard : Claim7 := { stood := { row := cnfTextsRow, standIns := [], harness := (true, "b96210c1da0b56c8fe31166213f13e3e2b543227b9775f4f9210112a4a25fb89"), looks := true }, kinds := [], alts := [], laidByText := true, laidKinds := [.data, .data, .data, .data, .sentinel, .sentinel, .pinned], laidTests := true, laidLooks := .later }
def CnfTextsCardSaid : Prop := Claim7.holds Tryd.pinned (.plain (OpenSpec.ofChange cnfTextsSpec)) cnfTextsCard

/-- THE SECOND FORM's CARD OF 'assizelaw15.CnfFollows'. -/
def cnfFollowsUptoCard : Claim7 := { stood := { row := cnfFollowsUptoRow, standIns := [], harness := (true, "b96210c1da0b56c8fe31166213f13e3e2b543227b9775f4f9210112a4a25fb89"), looks := true }, kinds := [], alts := [], laidByText := true, laidKinds := [.data, .data, .data], laidTests := true, laidLooks := .later }
def CnfFollowsUptoCardSaid : Prop := Claim7.holds Tryd.pinned (.plain (OpenSpec.upto cnfFollowsSpec)) cnfFollowsUptoCard

/-- THE SECOND FORM's CARD OF 'assizelaw15.CnfMore'. -/
def cnfMoreUptoCard : Claim7 := { stood := { row := cnfMoreUptoRow, standIns := [], harness := (true, "b96210c1da0b56c8fe31166213f13e3e2b543227b9775f4f9210112a4a25fb89"), looks := true }, kinds := [], alts := [], laidByText := true, laidKinds := [.data, .data, .data], laidTests := true, laidLooks := .later }
def CnfMoreUptoCardSaid : Prop := Claim7.holds Tryd.pinned (.plain (OpenSpec.upto cnfMoreSpec)) cnfMoreUptoCard

/-- THE SECOND FORM's CARD OF 'assizelaw15.CnfAgain'. -/
def cnfAgainUptoCard : Claim7 := { stood := { row := cnfAgainUptoRow, standIns := [], harness := (true, "b96210c1da0b56c8fe31166213f13e3e2b543227b9775f4f9210112a4a25fb89"), looks := true }, kinds := [], alts := [], laidByText := true, laidKinds := [.data, .data, .data], laidTests := true, laidLooks := .later }
def CnfAgainUptoCardSaid : Prop := Claim7.holds Tryd.pinned (.plain (OpenSpec.upto cnfAgainSpec)) cnfAgainUptoCard

/-- THE SECOND FORM's CARD OF 'assizelaw15.CnfTrue'. -/
def cnfTrueUptoCard : Claim7 := { stood := { row := cnfTrueUptoRow, standIns := [], harness := (true, "b96210c1da0b56c8fe31166213f13e3e2b543227b9775f4f9210112a4a25fb89"), looks := true }, kinds := [], alts := [], laidByText := true, laidKinds := [.data, .data, .data], laidTests := true, laidLooks := .later }
def CnfTrueUptoCardSaid : Prop := Claim7.holds Tryd.pinned (.plain (OpenSpec.upto cnfTrueSpec)) cnfTrueUptoCard

/-- THE SECOND FORM's CARD OF 'assizelaw15.CnfModels'. -/
def cnfModelsUptoCard : Claim7 := { stood := { row := cnfModelsUptoRow, standIns := [], harness := (true, "b96210c1da0b56c8fe31166213f13e3e2b543227b9775f4f9210112a4a25fb89"), looks := true }, kinds := [], alts := [], laidByText := true, laidKinds := [.data, .data, .data], laidTests := true, laidLooks := .later }
def CnfModelsUptoCardSaid : Prop := Claim7.holds Tryd.pinned (.plain (OpenSpec.upto cnfModelsSpec)) cnfModelsUptoCard

/-- THE SECOND FORM's CARD OF 'assizelaw15.CnfTexts'. -/
def cnfTextsUptoCard : Claim7 := { stood := { row := cnfTextsUptoRow, standIns := [], harness := (true, "b96210c1da0b56c8fe31166213f13e3e2b543227b9775f4f9210112a4a25fb89"), looks := true }, kinds := [], alts := [], laidByText := true, laidKinds := [.data, .data, .data, .data, .sentinel, .sentinel, .pinned], laidTests := true, laidLooks := .later }
def CnfTextsUptoCardSaid : Prop := Claim7.holds Tryd.pinned (.plain (OpenSpec.upto cnfTextsSpec)) cnfTextsUptoCard
end Rows
end Go.Proofs.YtifhiloeghmfiaaDoor
