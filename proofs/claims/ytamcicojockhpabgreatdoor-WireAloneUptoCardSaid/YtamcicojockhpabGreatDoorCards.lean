/-
  DERIVED. GIVEN WITH THE SEED: THE CARDS: each row of YtamcicojockhpabGreatDoorRows.lean that lists a variable, with what it lists TIED to the program's text (the seventh form; the later family's looks); each row that meets fmt, with fmt's text TOLD by the authors' own Lean function (tested against real Go, not proved from fmt's source: count such statements apart). THE CARD IS WHAT COUNTS. Prove the row's statement (the work); the ties are given (YtamcicojockhpabGreatDoorTie.lean); close each card by the builder's one call (the guide's Derived/Test/ToyasCard.lean, 'card_holds'). Laid BY PROGRAM, IN A SANDBOX (cutbox-door.mjs). By AI agents, Wed Nov 11 2026. No macro, syntax, notation, axiom, sorry.
-/
import Derived.Test.YtamcicojockhpabGreatDoorRows
import GoSem.ClaimSeven
namespace Go.Proofs.YtamcicojockhpabGreatDoor
namespace Rows

/-- THE TIED CARD OF 'assizelaw03.WireAlone'. -/
def wireAloneCard : Claim7 := { stood := { row := wireAloneRow, standIns := [], harness := (true, "b70501c93ebf6d69c749232561150c11af3e2a722ee1040225d0d5cd3636eafb"), looks := true }, kinds := [], alts := [], laidByText := true, laidKinds := [.data, .data, .data, .data, .sentinel, .sentinel, .pinned], laidTests := true, laidLooks := .later }
def WireAloneCardSaid : Prop := Claim7.holds Tryz.pinned (.plain (OpenSpec.ofChange wireAloneSpec)) wireAloneCard

/-- THE SECOND FORM's CARD OF 'assizelaw03.WireAlone'. -/
def wireAloneUptoCard : Claim7 := { stood := { row := wireAloneUptoRow, standIns := [], harness := (true, "b70501c93ebf6d69c749232561150c11af3e2a722ee1040225d0d5cd3636eafb"), looks := true }, kinds := [], alts := [], laidByText := true, laidKinds := [.data, .data, .data, .data, .sentinel, .sentinel, .pinned], laidTests := true, laidLooks := .later }
def WireAloneUptoCardSaid : Prop := Claim7.holds Tryz.pinned (.plain (OpenSpec.upto wireAloneSpec)) wireAloneUptoCard
end Rows
end Go.Proofs.YtamcicojockhpabGreatDoor
