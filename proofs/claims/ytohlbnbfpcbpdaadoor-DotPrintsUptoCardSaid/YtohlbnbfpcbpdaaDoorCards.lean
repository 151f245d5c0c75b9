/-
  DERIVED. GIVEN WITH THE SEED: THE CARDS: each row of YtohlbnbfpcbpdaaDoorRows.lean that lists a variable, with what it lists TIED to the program's text (the seventh form; the later family's looks); each row that meets fmt, with fmt's text TOLD by the authors' own Lean function (tested against real Go, not proved from fmt's source: count such statements apart). THE CARD IS WHAT COUNTS. Prove the row's statement (the work); the ties are given (YtohlbnbfpcbpdaaDoorTie.lean); close each card by the builder's one call (the guide's Derived/Test/ToyasCard.lean, 'card_holds'). Laid BY PROGRAM, IN A SANDBOX (cutbox-door.mjs). By AI agents, Wed Nov 11 2026. No macro, syntax, notation, axiom, sorry.
-/
import Derived.Test.YtohlbnbfpcbpdaaDoorRows
import GoSem.ClaimSeven
namespace Go.Proofs.YtohlbnbfpcbpdaaDoor
namespace Rows

/-- THE TIED CARD OF 'assizelaw23.DotPrints'. -/
def dotPrintsCard : Claim7 := { stood := { row := dotPrintsRow, standIns := [], harness := (true, "63f166302335ca5478670510ec4ef89da1929c6187adfe7f51260dd5a0ddc2d4"), looks := true }, kinds := [], alts := [], laidByText := true, laidKinds := [.data, .data, .data, .sentinel, .sentinel], laidTests := true, laidLooks := .later }
def DotPrintsCardSaid : Prop := Claim7.holds Tryd.pinned (.plain (OpenSpec.ofChange dotPrintsSpec)) dotPrintsCard

/-- THE TIED CARD OF 'assizelaw23.DotReads'. -/
def dotReadsCard : Claim7 := { stood := { row := dotReadsRow, standIns := [], harness := (true, "63f166302335ca5478670510ec4ef89da1929c6187adfe7f51260dd5a0ddc2d4"), looks := true }, kinds := [], alts := [], laidByText := true, laidKinds := [.data, .data, .data, .sentinel, .sentinel], laidTests := true, laidLooks := .later }
def DotReadsCardSaid : Prop := Claim7.holds Tryd.pinned (.plain (OpenSpec.ofChange dotReadsSpec)) dotReadsCard

/-- THE TIED CARD OF 'assizelaw23.DotFaithful'. -/
def dotFaithfulCard : Claim7 := { stood := { row := dotFaithfulRow, standIns := [], harness := (true, "63f166302335ca5478670510ec4ef89da1929c6187adfe7f51260dd5a0ddc2d4"), looks := true }, kinds := [], alts := [], laidByText := true, laidKinds := [.data, .data, .data, .sentinel, .sentinel], laidTests := true, laidLooks := .later }
def DotFaithfulCardSaid : Prop := Claim7.holds Tryd.pinned (.plain (OpenSpec.ofChange dotFaithfulSpec)) dotFaithfulCard

/-- THE TIED CARD OF 'assizelaw23.DotAgain'. -/
def dotAgainCard : Claim7 := { stood := { row := dotAgainRow, standIns := [], harness := (true, "63f166302335ca5478670510ec4ef89da1929c6187adfe7f51260dd5a0ddc2d4"), looks := true }, kinds := [], alts := [], laidByText := true, laidKinds := [.data, .data, .data, .sentinel, .sentinel], laidTests := true, laidLooks := .later }
def DotAgainCardSaid : Prop := Claim7.holds Tryd.pinned (.plain (OpenSpec.ofChange dotAgainSpec)) dotAgainCard

/-- THE TIED CARD OF 'assizelaw23.DotBeside'. -/
def dotBesideCard : Claim7 := { stood := { row := dotBesideRow, standIns := [], harness := (true, "63f166302335ca5478670510ec4ef89da1929c6187adfe7f51260dd5a0ddc2d4"), looks := true }, kinds := [], alts := [], laidByText := true, laidKinds := [.data, .data, .data, .sentinel, .sentinel], laidTests := true, laidLooks := .later }
def DotBesideCardSaid : Prop := Claim7.holds Tryd.pinned (.plain (OpenSpec.ofChange dotBesideSpec)) dotBesideCard

/-- THE SECOND FORM's CARD OF 'assizelaw23.DotPrints'. -/
def dotPrintsUptoCard : Claim7 := { stood := { row := dotPrintsUptoRow, standIns := [], harness := (true, "63f166302335ca5478670510ec4ef89da1929c6187adfe7f51260dd5a0ddc2d4"), looks := true }, kinds := [], alts := [], laidByText := true, laidKinds := [.data, .data, .data, .sentinel, .sentinel], laidTests := true, laidLooks := .later }
def DotPrintsUptoCardSaid : Prop := Claim7.holds Tryd.pinned (.plain (OpenSpec.upto dotPrintsSpec)) dotPrintsUptoCard

/-- THE SECOND FORM's CARD OF 'assizelaw23.DotReads'. -/
def dotReadsUptoCard : Claim7 := { stood := { row := dotReadsUptoRow, standIns := [], harness := (true, "63f166302335ca5478670510ec4ef89da1929c6187adfe7f51260dd5a0ddc2d4"), looks := true }, kinds := [], alts := [], laidByText := true, laidKinds := [.data, .data, .data, .sentinel, .sentinel], laidTests := true, laidLooks := .later }
def DotReadsUptoCardSaid : Prop := Claim7.holds Tryd.pinned (.plain (OpenSpec.upto dotReadsSpec)) dotReadsUptoCard

/-- THE SECOND FORM's CARD OF 'assizelaw23.DotFaithful'. -/
def dotFaithfulUptoCard : Claim7 := { stood := { row := dotFaithfulUptoRow, standIns := [], harness := (true, "63f166302335ca5478670510ec4ef89da1929c6187adfe7f51260dd5a0ddc2d4"), looks := true }, kinds := [], alts := [], laidByText := true, laidKinds := [.data, .data, .data, .sentinel, .sentinel], laidTests := true, laidLooks := .later }
def DotFaithfulUptoCardSaid : Prop := Claim7.holds Tryd.pinned (.plain (OpenSpec.upto dotFaithfulSpec)) dotFaithfulUptoCard

/-- THE SECOND FORM's CARD OF 'assizelaw23.DotAgain'. -/
def dotAgainUptoCard : Claim7 := { stood := { row := dotAgainUptoRow, standIns := [], harness := (true, "63f166302335ca5478670510ec4ef89da1929c6187adfe7f51260dd5a0ddc2d4"), looks := true }, kinds := [], alts := [], laidByText := true, laidKinds := [.data, .data, .data, .sentinel, .sentinel], laidTests := true, laidLooks := .later }
def DotAgainUptoCardSaid : Prop := Claim7.holds Tryd.pinned (.plain (OpenSpec.upto dotAgainSpec)) dotAgainUptoCard

/-- THE SECOND FORM's CARD OF 'assizelaw23.DotBeside'. -/
def dotBesideUptoCard : Claim7 := { stood := { row := dotBesideUptoRow, standIns := [], harness := (true, "63f166302335ca5478670510ec4ef89da1929c6187adfe7f51260dd5a0ddc2d4"), looks := true }, kinds := [], alts := [], laidByText := true, laidKinds := [.data, .data, .data, .sentinel, .sentinel], laidTests := true, laidLooks := .later }
def DotBesideUptoCardSaid : Prop := Claim7.holds Tryd.pinned (.plain (OpenSpec.upto dotBesideSpec)) dotBesideUptoCard
end Rows
end Go.Proofs.YtohlbnbfpcbpdaaDoor
