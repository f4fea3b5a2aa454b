/-
  NARROWER THAN 'FOR EVERY INPUT', by the rows' own cells (each row's printed sentence says how): CreditTells: loops · CreditConserves: loops · CreditSplits: loops · CreditConforms: loops.
  DERIVED. THE GIVEN ROWS OF THIS SEAT. 5 by the template 'for every input the law returns true; each argument reads behind the call as it read before'; 0 by the template 'total and deterministic' (their statements: YtffffkfcbjobnaaGreatTotals.lean).
  GIVEN WITH THE SEED: the statements are not yours to turn. If you find one false, say at which input.
  Laid BY PROGRAM, IN A SANDBOX (cutbox-rows.mjs): the forced cells as the released guide's own fill.sh prints them over the translation 7512a0bf4623b3c7… (all of the seat's roots in one cut). By AI agents, Wed Nov 11 2026. No macro, syntax, notation, axiom, sorry.
-/
import Derived.Test.YtffffkfcbjobnaaGreatChecked
import GoSem.Claim
import GoSem.ClaimJoined
import GoSem.ClaimMapViews
import Derived.JoinedTies
import Derived.KernelRfl
namespace Go.Proofs.YtffffkfcbjobnaaGreat
/- THE CELL 'sum', in the pinned program and in every row, IS THE sha256 OF THE DUMP (.gsa) THAT YtffffkfcbjobnaaGreatProg.lean LOADS. Nothing in Lean hashes anything: it is a label: what it is worth is what the hold of that sum in a sandbox is worth. -/
noncomputable def Tryz.pinned : Pinned := { name := "ytffffkfcbjobnaagreat", sum := "7512a0bf4623b3c740d1d3c813f6788d9f74e72f4d737a5e4b31a718a24bdcbe", checked := Tryz.checked }
namespace Rows
def none {H : Type} : Left H := { results := [], args := [] }

/-- 'allongelaw37.CreditTells': WHATEVER THE INPUT: true; the input reads as it did. -/
def creditTellsSpec : ChangeSpec := { name := "creditTells", fn := fun _ => fun
  | [d1, d2, d3, d4, d5] => { results := [.lit (.bool true)], args := [d1, d2, d3, d4, d5] }
  | _ => none }
def creditTellsRow : OpenClaim := { program := "ytffffkfcbjobnaagreat", sum := "7512a0bf4623b3c740d1d3c813f6788d9f74e72f4d737a5e4b31a718a24bdcbe", func := "allonge/allongelaw37.CreditTells", spec := "creditTells", inPlace := ["internal/abi.NoEscape", "internal/bytealg.MakeNoZero"], unfollowed := true, recurses := true, loops := true, apart := false }
def CreditTellsSaid : Prop := creditTellsRow.holds Tryz.pinned (OpenSpec.ofChange creditTellsSpec)

/-- ITS FALSE NEIGHBOUR: 'it returns false'. Refute it at one input. -/
def creditTellsWrong : ChangeSpec := { name := "creditTells", fn := fun _ => fun
  | [d1, d2, d3, d4, d5] => { results := [.lit (.bool false)], args := [d1, d2, d3, d4, d5] }
  | _ => none }
def CreditTellsWrongFalsely : Prop := creditTellsRow.holds Tryz.pinned (OpenSpec.ofChange creditTellsWrong)

/-- 'allongelaw37.CreditConserves': WHATEVER THE INPUT: true; the input reads as it did. -/
def creditConservesSpec : ChangeSpec := { name := "creditConserves", fn := fun _ => fun
  | [d1, d2, d3] => { results := [.lit (.bool true)], args := [d1, d2, d3] }
  | _ => none }
def creditConservesRow : OpenClaim := { program := "ytffffkfcbjobnaagreat", sum := "7512a0bf4623b3c740d1d3c813f6788d9f74e72f4d737a5e4b31a718a24bdcbe", func := "allonge/allongelaw37.CreditConserves", spec := "creditConserves", inPlace := ["internal/abi.NoEscape", "internal/bytealg.MakeNoZero"], unfollowed := true, recurses := true, loops := true, apart := false }
def CreditConservesSaid : Prop := creditConservesRow.holds Tryz.pinned (OpenSpec.ofChange creditConservesSpec)

/-- ITS FALSE NEIGHBOUR: 'it returns false'. Refute it at one input. -/
def creditConservesWrong : ChangeSpec := { name := "creditConserves", fn := fun _ => fun
  | [d1, d2, d3] => { results := [.lit (.bool false)], args := [d1, d2, d3] }
  | _ => none }
def CreditConservesWrongFalsely : Prop := creditConservesRow.holds Tryz.pinned (OpenSpec.ofChange creditConservesWrong)

/-- 'allongelaw37.CreditSplits': WHATEVER THE INPUT: true; the input reads as it did. -/
def creditSplitsSpec : ChangeSpec := { name := "creditSplits", fn := fun _ => fun
  | [d1, d2, d3, d4] => { results := [.lit (.bool true)], args := [d1, d2, d3, d4] }
  | _ => none }
def creditSplitsRow : OpenClaim := { program := "ytffffkfcbjobnaagreat", sum := "7512a0bf4623b3c740d1d3c813f6788d9f74e72f4d737a5e4b31a718a24bdcbe", func := "allonge/allongelaw37.CreditSplits", spec := "creditSplits", inPlace := ["internal/abi.NoEscape", "internal/bytealg.MakeNoZero"], unfollowed := true, recurses := true, loops := true, apart := false }
def CreditSplitsSaid : Prop := creditSplitsRow.holds Tryz.pinned (OpenSpec.ofChange creditSplitsSpec)

/-- ITS FALSE NEIGHBOUR: 'it returns false'. Refute it at one input. -/
def creditSplitsWrong : ChangeSpec := { name := "creditSplits", fn := fun _ => fun
  | [d1, d2, d3, d4] => { results := [.lit (.bool false)], args := [d1, d2, d3, d4] }
  | _ => none }
def CreditSplitsWrongFalsely : Prop := creditSplitsRow.holds Tryz.pinned (OpenSpec.ofChange creditSplitsWrong)

/-- 'allongelaw37.CreditCovers': WHATEVER THE INPUT: true; the input reads as it did. -/
def creditCoversSpec : ChangeSpec := { name := "creditCovers", fn := fun _ => fun
  | [d1, d2, d3] => { results := [.lit (.bool true)], args := [d1, d2, d3] }
  | _ => none }
def creditCoversRow : OpenClaim := { program := "ytffffkfcbjobnaagreat", sum := "7512a0bf4623b3c740d1d3c813f6788d9f74e72f4d737a5e4b31a718a24bdcbe", func := "allonge/allongelaw37.CreditCovers", spec := "creditCovers", inPlace := ["internal/abi.NoEscape", "internal/bytealg.MakeNoZero"], unfollowed := true, recurses := true, apart := false }
def CreditCoversSaid : Prop := creditCoversRow.holds Tryz.pinned (OpenSpec.ofChange creditCoversSpec)

/-- ITS FALSE NEIGHBOUR: 'it returns false'. Refute it at one input. -/
def creditCoversWrong : ChangeSpec := { name := "creditCovers", fn := fun _ => fun
  | [d1, d2, d3] => { results := [.lit (.bool false)], args := [d1, d2, d3] }
  | _ => none }
def CreditCoversWrongFalsely : Prop := creditCoversRow.holds Tryz.pinned (OpenSpec.ofChange creditCoversWrong)

/-- 'allongelaw37.CreditConforms': WHATEVER THE INPUT: true; the input reads as it did. -/
def creditConformsSpec : ChangeSpec := { name := "creditConforms", fn := fun _ => fun
  | [d1, d2, d3, d4] => { results := [.lit (.bool true)], args := [d1, d2, d3, d4] }
  | _ => none }
def creditConformsRow : OpenClaim := { program := "ytffffkfcbjobnaagreat", sum := "7512a0bf4623b3c740d1d3c813f6788d9f74e72f4d737a5e4b31a718a24bdcbe", func := "allonge/allongelaw37.CreditConforms", spec := "creditConforms", inPlace := ["internal/abi.NoEscape", "internal/bytealg.MakeNoZero"], unfollowed := true, recurses := true, loops := true, apart := false }
def CreditConformsSaid : Prop := creditConformsRow.holds Tryz.pinned (OpenSpec.ofChange creditConformsSpec)

/-- ITS FALSE NEIGHBOUR: 'it returns false'. Refute it at one input. -/
def creditConformsWrong : ChangeSpec := { name := "creditConforms", fn := fun _ => fun
  | [d1, d2, d3, d4] => { results := [.lit (.bool false)], args := [d1, d2, d3, d4] }
  | _ => none }
def CreditConformsWrongFalsely : Prop := creditConformsRow.holds Tryz.pinned (OpenSpec.ofChange creditConformsWrong)

/- THE SECOND FORM. 'bulk': how many values and letters a reading holds, each counted each time it is reached (what is shared counts as often as it is met; a slice's spare places count too). A statement '..UptoSaid' is the law's where the arguments, and the package variables that the reading takes, are together of bulk at most 1048576: NARROWER than '..Said'. Prove '..Said' where nothing that the law and all that it calls make is longer than what came in: it says more and counts as full. Else prove '..UptoSaid'. A law counts once. -/
mutual
def uptoBulk {H : Type} : DataW H → Nat
  | .lit (.string bytes) => bytes.length + 1
  | .lit _ => 1
  | .nil => 1
  | .ptr d => uptoBulk d + 1
  | .slice elems spare => uptoBulkAll elems + uptoBulkAll spare + 1
  | .agg parts => uptoBulkAll parts + 1
  | .iface _ d => uptoBulk d + 1
  | .map entries => uptoBulkEntries entries + 1
  | .held _ => 1
def uptoBulkAll {H : Type} : List (DataW H) → Nat
  | [] => 0
  | d :: r => uptoBulk d + uptoBulkAll r
def uptoBulkEntries {H : Type} : List (Lit × DataW H) → Nat
  | [] => 0
  | x :: r => uptoBulkEntry x + uptoBulkEntries r
def uptoBulkEntry {H : Type} : Lit × DataW H → Nat
  | (.string bytes, d) => bytes.length + uptoBulk d + 1
  | (_, d) => uptoBulk d + 1
 end
def uptoSmall : (H : Type) → List (DataW H) → Bool := fun _ ds => decide (uptoBulkAll ds ≤ 1048576)
def OpenSpec.upto (s : _root_.Go.ChangeSpec) : _root_.Go.OpenSpec := { _root_.Go.OpenSpec.ofChange s with cond := some uptoSmall }

/-- 'allongelaw37.CreditTells', WHERE WHAT IT READS IS OF BULK AT MOST 1048576: true; the input reads as it did. -/
def creditTellsUptoRow : OpenClaim := { program := "ytffffkfcbjobnaagreat", sum := "7512a0bf4623b3c740d1d3c813f6788d9f74e72f4d737a5e4b31a718a24bdcbe", func := "allonge/allongelaw37.CreditTells", spec := "creditTells", inPlace := ["internal/abi.NoEscape", "internal/bytealg.MakeNoZero"], unfollowed := true, recurses := true, loops := true, apart := false, narrowed := true }
def CreditTellsUptoSaid : Prop := creditTellsUptoRow.holds Tryz.pinned (OpenSpec.upto creditTellsSpec)

/-- 'allongelaw37.CreditConserves', WHERE WHAT IT READS IS OF BULK AT MOST 1048576: true; the input reads as it did. -/
def creditConservesUptoRow : OpenClaim := { program := "ytffffkfcbjobnaagreat", sum := "7512a0bf4623b3c740d1d3c813f6788d9f74e72f4d737a5e4b31a718a24bdcbe", func := "allonge/allongelaw37.CreditConserves", spec := "creditConserves", inPlace := ["internal/abi.NoEscape", "internal/bytealg.MakeNoZero"], unfollowed := true, recurses := true, loops := true, apart := false, narrowed := true }
def CreditConservesUptoSaid : Prop := creditConservesUptoRow.holds Tryz.pinned (OpenSpec.upto creditConservesSpec)

/-- 'allongelaw37.CreditSplits', WHERE WHAT IT READS IS OF BULK AT MOST 1048576: true; the input reads as it did. -/
def creditSplitsUptoRow : OpenClaim := { program := "ytffffkfcbjobnaagreat", sum := "7512a0bf4623b3c740d1d3c813f6788d9f74e72f4d737a5e4b31a718a24bdcbe", func := "allonge/allongelaw37.CreditSplits", spec := "creditSplits", inPlace := ["internal/abi.NoEscape", "internal/bytealg.MakeNoZero"], unfollowed := true, recurses := true, loops := true, apart := false, narrowed := true }
def CreditSplitsUptoSaid : Prop := creditSplitsUptoRow.holds Tryz.pinned (OpenSpec.upto creditSplitsSpec)

/-- 'allongelaw37.CreditCovers', WHERE WHAT IT READS IS OF BULK AT MOST 1048576: true; the input reads as it did. -/
def creditCoversUptoRow : OpenClaim := { program := "ytffffkfcbjobnaagreat", sum := "7512a0bf4623b3c740d1d3c813f6788d9f74e72f4d737a5e4b31a718a24bdcbe", func := "allonge/allongelaw37.CreditCovers", spec := "creditCovers", inPlace := ["internal/abi.NoEscape", "internal/bytealg.MakeNoZero"], unfollowed := true, recurses := true, apart := false, narrowed := true }
def CreditCoversUptoSaid : Prop := creditCoversUptoRow.holds Tryz.pinned (OpenSpec.upto creditCoversSpec)

/-- 'allongelaw37.CreditConforms', WHERE WHAT IT READS IS OF BULK AT MOST 1048576: true; the input reads as it did. -/
def creditConformsUptoRow : OpenClaim := { program := "ytffffkfcbjobnaagreat", sum := "7512a0bf4623b3c740d1d3c813f6788d9f74e72f4d737a5e4b31a718a24bdcbe", func := "allonge/allongelaw37.CreditConforms", spec := "creditConforms", inPlace := ["internal/abi.NoEscape", "internal/bytealg.MakeNoZero"], unfollowed := true, recurses := true, loops := true, apart := false, narrowed := true }
def CreditConformsUptoSaid : Prop := creditConformsUptoRow.holds Tryz.pinned (OpenSpec.upto creditConformsSpec)

end Rows
end Go.Proofs.YtffffkfcbjobnaaGreat
