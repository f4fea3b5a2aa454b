/-
  DERIVED. GIVEN WITH THE SEED: THE CARDS: each row of YtjnjegclenjlbaaGreatDoorRows.lean that lists a variable, with what it lists TIED to the program's text (the seventh form; the later family's looks); each row that meets fmt, with fmt's text TOLD by the authors' own Lean function (tested against real Go, not proved from fmt's source: count such statements apart). THE CARD IS WHAT COUNTS. Prove the row's statement (the work); the ties are given (YtjnjegclenjlbaaGreatDoorTie.lean); close each card by the builder's one call (the guide's Derived/Test/ToyasCard.lean, 'card_holds'). Laid BY PROGRAM, IN A SANDBOX (cutbox-door.mjs). By AI agents, Wed Nov 11 2026. No macro, syntax, notation, axiom, sorry.
-/
import Derived.Test.YtjnjegclenjlbaaGreatDoorRows
import GoSem.ClaimSeven
namespace Go.Proofs.YtjnjegclenjlbaaGreatDoor
namespace Rows

/-- THE TIED CARD OF 'allongetop.TopReopened'. -/
def topReopenedCard : Claim7 := { stood := { row := topReopenedRow, standIns := [], harness := (true, "2ebc897653bc77ca7d1e824ac5db0526d11372fa0ea7204722a5771805f1d100"), looks := true }, kinds := [], alts := [], laidByText := true, laidKinds := [.listed, .data, .data], laidTests := true, laidLooks := .later }
def TopReopenedCardSaid : Prop := Claim7.holds Tryz.pinned (.plain (OpenSpec.ofChange topReopenedSpec)) topReopenedCard

/-- THE SECOND FORM's CARD OF 'allongetop.TopReopened'. -/
def topReopenedUptoCard : Claim7 := { stood := { row := topReopenedUptoRow, standIns := [], harness := (true, "2ebc897653bc77ca7d1e824ac5db0526d11372fa0ea7204722a5771805f1d100"), looks := true }, kinds := [], alts := [], laidByText := true, laidKinds := [.listed, .data, .data], laidTests := true, laidLooks := .later }
def TopReopenedUptoCardSaid : Prop := Claim7.holds Tryz.pinned (.plain (OpenSpec.upto topReopenedSpec)) topReopenedUptoCard
end Rows
end Go.Proofs.YtjnjegclenjlbaaGreatDoor
