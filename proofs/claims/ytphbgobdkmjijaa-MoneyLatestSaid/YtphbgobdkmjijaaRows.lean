/-
  No cell of these rows narrows 'for every input' (looked for: loops, veiled, ifaces, maps, wideKeys, modest, calm, conditions, laid).
  DERIVED. THE GIVEN ROWS OF THIS SEAT. 5 by the template 'for every input the law returns true; each argument reads behind the call as it read before'; 0 by the template 'total and deterministic' (their statements: YtphbgobdkmjijaaTotals.lean).
  GIVEN WITH THE SEED: the statements are not yours to turn. If you find one false, say at which input.
  Laid BY PROGRAM, IN A SANDBOX (cutbox-rows.mjs): the forced cells as the released guide's own fill.sh prints them over the translation 443f3d51da974837… (all of the seat's roots in one cut). By AI agents, Wed Nov 11 2026. No macro, syntax, notation, axiom, sorry.
-/
import Derived.Test.YtphbgobdkmjijaaChecked
import GoSem.Claim
import GoSem.ClaimJoined
import GoSem.ClaimMapViews
import Derived.JoinedTies
import Derived.KernelRfl
namespace Go.Proofs.Ytphbgobdkmjijaa
/- THE CELL 'sum', in the pinned program and in every row, IS THE sha256 OF THE DUMP (.gsa) THAT YtphbgobdkmjijaaProg.lean LOADS. Nothing in Lean hashes anything: it is a label: what it is worth is what the hold of that sum in a sandbox is worth. -/
noncomputable def Try.pinned : Pinned := { name := "ytphbgobdkmjijaa", sum := "443f3d51da974837aa1efe5acb2ce8f165973b444ea4f51831ee33fde83c2236", checked := Try.checked }
namespace Rows
def none {H : Type} : Left H := { results := [], args := [] }

/-- 'allongelaw05.MoneyTells': WHATEVER THE INPUT: true; the input reads as it did. -/
def moneyTellsSpec : ChangeSpec := { name := "moneyTells", fn := fun _ => fun
  | [d1, d2, d3, d4, d5, d6] => { results := [.lit (.bool true)], args := [d1, d2, d3, d4, d5, d6] }
  | _ => none }
def moneyTellsRow : OpenClaim := { program := "ytphbgobdkmjijaa", sum := "443f3d51da974837aa1efe5acb2ce8f165973b444ea4f51831ee33fde83c2236", func := "allonge/allongelaw05.MoneyTells", spec := "moneyTells", named := ["math/bits.divideError", "math/bits.overflowError"], apart := false }
def MoneyTellsSaid : Prop := moneyTellsRow.holds Try.pinned (OpenSpec.ofChange moneyTellsSpec)

/-- ITS FALSE NEIGHBOUR: 'it returns false'. Refute it at one input. -/
def moneyTellsWrong : ChangeSpec := { name := "moneyTells", fn := fun _ => fun
  | [d1, d2, d3, d4, d5, d6] => { results := [.lit (.bool false)], args := [d1, d2, d3, d4, d5, d6] }
  | _ => none }
def MoneyTellsWrongFalsely : Prop := moneyTellsRow.holds Try.pinned (OpenSpec.ofChange moneyTellsWrong)

/-- 'allongelaw05.MoneyParts': WHATEVER THE INPUT: true; the input reads as it did. -/
def moneyPartsSpec : ChangeSpec := { name := "moneyParts", fn := fun _ => fun
  | [d1, d2, d3, d4, d5, d6, d7, d8] => { results := [.lit (.bool true)], args := [d1, d2, d3, d4, d5, d6, d7, d8] }
  | _ => none }
def moneyPartsRow : OpenClaim := { program := "ytphbgobdkmjijaa", sum := "443f3d51da974837aa1efe5acb2ce8f165973b444ea4f51831ee33fde83c2236", func := "allonge/allongelaw05.MoneyParts", spec := "moneyParts", named := ["math/bits.divideError", "math/bits.overflowError"], apart := false }
def MoneyPartsSaid : Prop := moneyPartsRow.holds Try.pinned (OpenSpec.ofChange moneyPartsSpec)

/-- ITS FALSE NEIGHBOUR: 'it returns false'. Refute it at one input. -/
def moneyPartsWrong : ChangeSpec := { name := "moneyParts", fn := fun _ => fun
  | [d1, d2, d3, d4, d5, d6, d7, d8] => { results := [.lit (.bool false)], args := [d1, d2, d3, d4, d5, d6, d7, d8] }
  | _ => none }
def MoneyPartsWrongFalsely : Prop := moneyPartsRow.holds Try.pinned (OpenSpec.ofChange moneyPartsWrong)

/-- 'allongelaw05.MoneyRises': WHATEVER THE INPUT: true; the input reads as it did. -/
def moneyRisesSpec : ChangeSpec := { name := "moneyRises", fn := fun _ => fun
  | [d1, d2, d3] => { results := [.lit (.bool true)], args := [d1, d2, d3] }
  | _ => none }
def moneyRisesRow : OpenClaim := { program := "ytphbgobdkmjijaa", sum := "443f3d51da974837aa1efe5acb2ce8f165973b444ea4f51831ee33fde83c2236", func := "allonge/allongelaw05.MoneyRises", spec := "moneyRises", named := ["math/bits.divideError", "math/bits.overflowError"], apart := false }
def MoneyRisesSaid : Prop := moneyRisesRow.holds Try.pinned (OpenSpec.ofChange moneyRisesSpec)

/-- ITS FALSE NEIGHBOUR: 'it returns false'. Refute it at one input. -/
def moneyRisesWrong : ChangeSpec := { name := "moneyRises", fn := fun _ => fun
  | [d1, d2, d3] => { results := [.lit (.bool false)], args := [d1, d2, d3] }
  | _ => none }
def MoneyRisesWrongFalsely : Prop := moneyRisesRow.holds Try.pinned (OpenSpec.ofChange moneyRisesWrong)

/-- 'allongelaw05.MoneyReturns': WHATEVER THE INPUT: true; the input reads as it did. -/
def moneyReturnsSpec : ChangeSpec := { name := "moneyReturns", fn := fun _ => fun
  | [d1, d2, d3, d4, d5] => { results := [.lit (.bool true)], args := [d1, d2, d3, d4, d5] }
  | _ => none }
def moneyReturnsRow : OpenClaim := { program := "ytphbgobdkmjijaa", sum := "443f3d51da974837aa1efe5acb2ce8f165973b444ea4f51831ee33fde83c2236", func := "allonge/allongelaw05.MoneyReturns", spec := "moneyReturns", named := ["math/bits.divideError", "math/bits.overflowError"], apart := false }
def MoneyReturnsSaid : Prop := moneyReturnsRow.holds Try.pinned (OpenSpec.ofChange moneyReturnsSpec)

/-- ITS FALSE NEIGHBOUR: 'it returns false'. Refute it at one input. -/
def moneyReturnsWrong : ChangeSpec := { name := "moneyReturns", fn := fun _ => fun
  | [d1, d2, d3, d4, d5] => { results := [.lit (.bool false)], args := [d1, d2, d3, d4, d5] }
  | _ => none }
def MoneyReturnsWrongFalsely : Prop := moneyReturnsRow.holds Try.pinned (OpenSpec.ofChange moneyReturnsWrong)

/-- 'allongelaw05.MoneyLatest': WHATEVER THE INPUT: true; the input reads as it did. -/
def moneyLatestSpec : ChangeSpec := { name := "moneyLatest", fn := fun _ => fun
  | [d1, d2, d3, d4, d5, d6, d7] => { results := [.lit (.bool true)], args := [d1, d2, d3, d4, d5, d6, d7] }
  | _ => none }
def moneyLatestRow : OpenClaim := { program := "ytphbgobdkmjijaa", sum := "443f3d51da974837aa1efe5acb2ce8f165973b444ea4f51831ee33fde83c2236", func := "allonge/allongelaw05.MoneyLatest", spec := "moneyLatest", named := ["math/bits.divideError", "math/bits.overflowError"], apart := false }
def MoneyLatestSaid : Prop := moneyLatestRow.holds Try.pinned (OpenSpec.ofChange moneyLatestSpec)

/-- ITS FALSE NEIGHBOUR: 'it returns false'. Refute it at one input. -/
def moneyLatestWrong : ChangeSpec := { name := "moneyLatest", fn := fun _ => fun
  | [d1, d2, d3, d4, d5, d6, d7] => { results := [.lit (.bool false)], args := [d1, d2, d3, d4, d5, d6, d7] }
  | _ => none }
def MoneyLatestWrongFalsely : Prop := moneyLatestRow.holds Try.pinned (OpenSpec.ofChange moneyLatestWrong)

/- THE SECOND FORM. 'bulk': how many values and letters a reading holds, each counted each time it is reached (what is shared counts as often as it is met; a slice's spare places count too). A statement '..UptoSaid' is the law's where the arguments, and the package variables that the reading takes, are together of bulk at most 1048576: NARROWER than '..Said'. Prove '..Said' where nothing that the law and all that it calls make is longer than what came in: it says more and counts as full. Else prove '..UptoSaid'. A law counts once. -/
mutual
def uptoBulk {H : Type} : DataW H → Nat
  | .lit (.string bytes) => bytes.length + 1
  | .lit _ => 1
  | .nil => 1
  | .ptr d => uptoBulk d + 1
  | .slice elems spare => uptoBulkAll elems + uptoBulkAll spare + 1
  | .agg parts => uptoBulkAll parts + 1
  | .iface _ d => uptoBulk d + 1
  | .map entries => uptoBulkEntries entries + 1
  | .held _ => 1
def uptoBulkAll {H : Type} : List (DataW H) → Nat
  | [] => 0
  | d :: r => uptoBulk d + uptoBulkAll r
def uptoBulkEntries {H : Type} : List (Lit × DataW H) → Nat
  | [] => 0
  | x :: r => uptoBulkEntry x + uptoBulkEntries r
def uptoBulkEntry {H : Type} : Lit × DataW H → Nat
  | (.string bytes, d) => bytes.length + uptoBulk d + 1
  | (_, d) => uptoBulk d + 1
 end
def uptoSmall : (H : Type) → List (DataW H) → Bool := fun _ ds => decide (uptoBulkAll ds ≤ 1048576)
def OpenSpec.upto (s : _root_.Go.ChangeSpec) : _root_.Go.OpenSpec := { _root_.Go.OpenSpec.ofChange s with cond := some uptoSmall }

/-- 'allongelaw05.MoneyTells', WHERE WHAT IT READS IS OF BULK AT MOST 1048576: true; the input reads as it did. -/
def moneyTellsUptoRow : OpenClaim := { program := "ytphbgobdkmjijaa", sum := "443f3d51da974837aa1efe5acb2ce8f165973b444ea4f51831ee33fde83c2236", func := "allonge/allongelaw05.MoneyTells", spec := "moneyTells", named := ["math/bits.divideError", "math/bits.overflowError"], apart := false, narrowed := true }
def MoneyTellsUptoSaid : Prop := moneyTellsUptoRow.holds Try.pinned (OpenSpec.upto moneyTellsSpec)

/-- 'allongelaw05.MoneyParts', WHERE WHAT IT READS IS OF BULK AT MOST 1048576: true; the input reads as it did. -/
def moneyPartsUptoRow : OpenClaim := { program := "ytphbgobdkmjijaa", sum := "443f3d51da974837aa1efe5acb2ce8f165973b444ea4f51831ee33fde83c2236", func := "allonge/allongelaw05.MoneyParts", spec := "moneyParts", named := ["math/bits.divideError", "math/bits.overflowError"], apart := false, narrowed := true }
def MoneyPartsUptoSaid : Prop := moneyPartsUptoRow.holds Try.pinned (OpenSpec.upto moneyPartsSpec)

/-- 'allongelaw05.MoneyRises', WHERE WHAT IT READS IS OF BULK AT MOST 1048576: true; the input reads as it did. -/
def moneyRisesUptoRow : OpenClaim := { program := "ytphbgobdkmjijaa", sum := "443f3d51da974837aa1efe5acb2ce8f165973b444ea4f51831ee33fde83c2236", func := "allonge/allongelaw05.MoneyRises", spec := "moneyRises", named := ["math/bits.divideError", "math/bits.overflowError"], apart := false, narrowed := true }
def MoneyRisesUptoSaid : Prop := moneyRisesUptoRow.holds Try.pinned (OpenSpec.upto moneyRisesSpec)

/-- 'allongelaw05.MoneyReturns', WHERE WHAT IT READS IS OF BULK AT MOST 1048576: true; the input reads as it did. -/
def moneyReturnsUptoRow : OpenClaim := { program := "ytphbgobdkmjijaa", sum := "443f3d51da974837aa1efe5acb2ce8f165973b444ea4f51831ee33fde83c2236", func := "allonge/allongelaw05.MoneyReturns", spec := "moneyReturns", named := ["math/bits.divideError", "math/bits.overflowError"], apart := false, narrowed := true }
def MoneyReturnsUptoSaid : Prop := moneyReturnsUptoRow.holds Try.pinned (OpenSpec.upto moneyReturnsSpec)

/-- 'allongelaw05.MoneyLatest', WHERE WHAT IT READS IS OF BULK AT MOST 1048576: true; the input reads as it did. -/
def moneyLatestUptoRow : OpenClaim := { program := "ytphbgobdkmjijaa", sum := "443f3d51da974837aa1efe5acb2ce8f165973b444ea4f51831ee33fde83c2236", func := "allonge/allongelaw05.MoneyLatest", spec := "moneyLatest", named := ["math/bits.divideError", "math/bits.overflowError"], apart := false, narrowed := true }
def MoneyLatestUptoSaid : Prop := moneyLatestUptoRow.holds Try.pinned (OpenSpec.upto moneyLatestSpec)

end Rows
end Go.Proofs.Ytphbgobdkmjijaa
