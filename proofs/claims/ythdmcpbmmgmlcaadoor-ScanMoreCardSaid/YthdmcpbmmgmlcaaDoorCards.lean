/-
  DERIVED. GIVEN WITH THE SEED: THE CARDS: each row of YthdmcpbmmgmlcaaDoorRows.lean that lists a variable, with what it lists TIED to the program's text (the seventh form; the later family's looks); each row that meets fmt, with fmt's text TOLD by the authors' own Lean function (tested against real Go, not proved from fmt's source: count such statements apart). THE CARD IS WHAT COUNTS. Prove the row's statement (the work); the ties are given (YthdmcpbmmgmlcaaDoorTie.lean); close each card by the builder's one call (the guide's Derived/Test/ToyasCard.lean, 'card_holds'). Laid BY PROGRAM, IN A SANDBOX (cutbox-door.mjs). By AI agents, Wed Nov 11 2026. No macro, syntax, notation, axiom, sorry.
-/
import Derived.Test.YthdmcpbmmgmlcaaDoorRows
import GoSem.ClaimSeven
namespace Go.Proofs.YthdmcpbmmgmlcaaDoor
namespace Rows

/-- THE TIED CARD OF 'allongelaw32.ScanTells'. -/
def scanTellsCard : Claim7 := { stood := { row := scanTellsRow, standIns := [], harness := (true, "9335ddc4eb2e6f3a1b82e1add5418d547558d1bf6c77d8518c0b6e390527dc0e"), looks := false }, kinds := [], alts := [], laidByText := true, laidKinds := [.data, .pinned], laidTests := true, laidLooks := .later }
def ScanTellsCardSaid : Prop := Claim7.holds Tryd.pinned (.plain (OpenSpec.ofChange scanTellsSpec)) scanTellsCard

/-- THE TIED CARD OF 'allongelaw32.ScanReads'. -/
def scanReadsCard : Claim7 := { stood := { row := scanReadsRow, standIns := [], harness := (true, "9335ddc4eb2e6f3a1b82e1add5418d547558d1bf6c77d8518c0b6e390527dc0e"), looks := false }, kinds := [], alts := [], laidByText := true, laidKinds := [.data, .pinned], laidTests := true, laidLooks := .later }
def ScanReadsCardSaid : Prop := Claim7.holds Tryd.pinned (.plain (OpenSpec.ofChange scanReadsSpec)) scanReadsCard

/-- THE TIED CARD OF 'allongelaw32.ScanOrder'. -/
def scanOrderCard : Claim7 := { stood := { row := scanOrderRow, standIns := [], harness := (true, "9335ddc4eb2e6f3a1b82e1add5418d547558d1bf6c77d8518c0b6e390527dc0e"), looks := false }, kinds := [], alts := [], laidByText := true, laidKinds := [.data, .pinned], laidTests := true, laidLooks := .later }
def ScanOrderCardSaid : Prop := Claim7.holds Tryd.pinned (.plain (OpenSpec.ofChange scanOrderSpec)) scanOrderCard

/-- THE TIED CARD OF 'allongelaw32.ScanSets'. -/
def scanSetsCard : Claim7 := { stood := { row := scanSetsRow, standIns := [], harness := (true, "9335ddc4eb2e6f3a1b82e1add5418d547558d1bf6c77d8518c0b6e390527dc0e"), looks := false }, kinds := [], alts := [], laidByText := true, laidKinds := [.data, .pinned], laidTests := true, laidLooks := .later }
def ScanSetsCardSaid : Prop := Claim7.holds Tryd.pinned (.plain (OpenSpec.ofChange scanSetsSpec)) scanSetsCard

/-- THE TIED CARD OF 'allongelaw32.ScanMore'. -/
def scanMoreCard : Claim7 := { stood := { row := scanMoreRow, standIns := [], harness := (true, "9335ddc4eb2e6f3a1b82e1add5418d547558d1bf6c77d8518c0b6e390527dc0e"), looks := false }, kinds := [], alts := [], laidByText := true, laidKinds := [.data, .pinned], laidTests := true, laidLooks := .later }
def ScanMoreCardSaid : Prop := Claim7.holds Tryd.pinned (.plain (OpenSpec.ofChange scanMoreSpec)) scanMoreCard

/-- THE SECOND FORM's CARD OF 'allongelaw32.ScanTells'. -/
def scanTellsUptoCard : Claim7 := { stood := { row := scanTellsUptoRow, standIns := [], harness := (true, "9335ddc4eb2e6f3a1b82e1add5418d547558d1bf6c77d8518c0b6e390527dc0e"), looks := false }, kinds := [], alts := [], laidByText := true, laidKinds := [.data, .pinned], laidTests := true, laidLooks := .later }
def ScanTellsUptoCardSaid : Prop := Claim7.holds Tryd.pinned (.plain (OpenSpec.upto scanTellsSpec)) scanTellsUptoCard

/-- THE SECOND FORM's CARD OF 'allongelaw32.ScanReads'. -/
def scanReadsUptoCard : Claim7 := { stood := { row := scanReadsUptoRow, standIns := [], harness := (true, "9335ddc4eb2e6f3a1b82e1add5418d547558d1bf6c77d8518c0b6e390527dc0e"), looks := false }, kinds := [], alts := [], laidByText := true, laidKinds := [.data, .pinned], laidTests := true, laidLooks := .later }
def ScanReadsUptoCardSaid : Prop := Claim7.holds Tryd.pinned (.plain (OpenSpec.upto scanReadsSpec)) scanReadsUptoCard

/-- THE SECOND FORM's CARD OF 'allongelaw32.ScanOrder'. -/
def scanOrderUptoCard : Claim7 := { stood := { row := scanOrderUptoRow, standIns := [], harness := (true, "9335ddc4eb2e6f3a1b82e1add5418d547558d1bf6c77d8518c0b6e390527dc0e"), looks := false }, kinds := [], alts := [], laidByText := true, laidKinds := [.data, .pinned], laidTests := true, laidLooks := .later }
def ScanOrderUptoCardSaid : Prop := Claim7.holds Tryd.pinned (.plain (OpenSpec.upto scanOrderSpec)) scanOrderUptoCard

/-- THE SECOND FORM's CARD OF 'allongelaw32.ScanSets'. -/
def scanSetsUptoCard : Claim7 := { stood := { row := scanSetsUptoRow, standIns := [], harness := (true, "9335ddc4eb2e6f3a1b82e1add5418d547558d1bf6c77d8518c0b6e390527dc0e"), looks := false }, kinds := [], alts := [], laidByText := true, laidKinds := [.data, .pinned], laidTests := true, laidLooks := .later }
def ScanSetsUptoCardSaid : Prop := Claim7.holds Tryd.pinned (.plain (OpenSpec.upto scanSetsSpec)) scanSetsUptoCard

/-- THE SECOND FORM's CARD OF 'allongelaw32.ScanMore'. -/
def scanMoreUptoCard : Claim7 := { stood := { row := scanMoreUptoRow, standIns := [], harness := (true, "9335ddc4eb2e6f3a1b82e1add5418d547558d1bf6c77d8518c0b6e390527dc0e"), looks := false }, kinds := [], alts := [], laidByText := true, laidKinds := [.data, .pinned], laidTests := true, laidLooks := .later }
def ScanMoreUptoCardSaid : Prop := Claim7.holds Tryd.pinned (.plain (OpenSpec.upto scanMoreSpec)) scanMoreUptoCard
end Rows
end Go.Proofs.YthdmcpbmmgmlcaaDoor
