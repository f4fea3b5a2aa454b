/-
  DERIVED. GIVEN WITH THE SEED: THE CARDS: each row of YtfbijgbpipedoaaGreatDoorRows.lean that lists a variable, with what it lists TIED to the program's text (the seventh form; the later family's looks); each row that meets fmt, with fmt's text TOLD by the authors' own Lean function (tested against real Go, not proved from fmt's source: count such statements apart). THE CARD IS WHAT COUNTS. Prove the row's statement (the work); the ties are given (YtfbijgbpipedoaaGreatDoorTie.lean); close each card by the builder's one call (the guide's Derived/Test/ToyasCard.lean, 'card_holds'). Laid BY PROGRAM, IN A SANDBOX (cutbox-door.mjs). By AI agents, Wed Nov 11 2026. No macro, syntax, notation, axiom, sorry.
-/
import Derived.Test.YtfbijgbpipedoaaGreatDoorRows
import GoSem.ClaimSeven
namespace Go.Proofs.YtfbijgbpipedoaaGreatDoor
namespace Rows

/-- THE TIED CARD OF 'allongelaw31.UnitTells'. -/
def unitTellsCard : Claim7 := { stood := { row := unitTellsRow, standIns := [], harness := (true, "db04481d1b6d4339cf32e9a24ac064ed8cedcfd542eae4b2e6cb5246fa081d66"), looks := false }, kinds := [], alts := [], laidByText := true, laidKinds := [.data, .data, .data], laidTests := true, laidLooks := .later }
def UnitTellsCardSaid : Prop := Claim7.holds Tryz.pinned (.plain (OpenSpec.ofChange unitTellsSpec)) unitTellsCard

/-- THE SECOND FORM's CARD OF 'allongelaw31.UnitTells'. -/
def unitTellsUptoCard : Claim7 := { stood := { row := unitTellsUptoRow, standIns := [], harness := (true, "db04481d1b6d4339cf32e9a24ac064ed8cedcfd542eae4b2e6cb5246fa081d66"), looks := false }, kinds := [], alts := [], laidByText := true, laidKinds := [.data, .data, .data], laidTests := true, laidLooks := .later }
def UnitTellsUptoCardSaid : Prop := Claim7.holds Tryz.pinned (.plain (OpenSpec.upto unitTellsSpec)) unitTellsUptoCard
end Rows
end Go.Proofs.YtfbijgbpipedoaaGreatDoor
