/-
  No cell of these rows narrows 'for every input' (looked for: loops, veiled, ifaces, maps, wideKeys, modest, calm, conditions, laid).
  DERIVED. THE GIVEN ROWS OF THIS SEAT. 4 by the template 'for every input the law returns true; each argument reads behind the call as it read before'; 0 by the template 'total and deterministic' (their statements: YtfbijgbpipedoaaTotals.lean).
  GIVEN WITH THE SEED: the statements are not yours to turn. If you find one false, say at which input.
  Laid BY PROGRAM, IN A SANDBOX (cutbox-rows.mjs): the forced cells as the released guide's own fill.sh prints them over the translation f2ceda4ee153050b… (all of the seat's roots in one cut). By AI agents, Wed Nov 11 2026. No macro, syntax, notation, axiom, sorry.
-/
import Derived.Test.YtfbijgbpipedoaaChecked
import GoSem.Claim
import GoSem.ClaimJoined
import GoSem.ClaimMapViews
import Derived.JoinedTies
import Derived.KernelRfl
namespace Go.Proofs.Ytfbijgbpipedoaa
/- THE CELL 'sum', in the pinned program and in every row, IS THE sha256 OF THE DUMP (.gsa) THAT YtfbijgbpipedoaaProg.lean LOADS. Nothing in Lean hashes anything: it is a label: what it is worth is what the hold of that sum in a sandbox is worth. -/
noncomputable def Try.pinned : Pinned := { name := "ytfbijgbpipedoaa", sum := "f2ceda4ee153050b1b53896fb7f5fbf23568216c7033d653fe03aa9b178342f9", checked := Try.checked }
namespace Rows
def none {H : Type} : Left H := { results := [], args := [] }

/-- 'allongelaw31.UnitOrders': WHATEVER THE INPUT: true; the input reads as it did. -/
def unitOrdersSpec : ChangeSpec := { name := "unitOrders", fn := fun _ => fun
  | [d1, d2, d3, d4] => { results := [.lit (.bool true)], args := [d1, d2, d3, d4] }
  | _ => none }
def unitOrdersRow : OpenClaim := { program := "ytfbijgbpipedoaa", sum := "f2ceda4ee153050b1b53896fb7f5fbf23568216c7033d653fe03aa9b178342f9", func := "allonge/allongelaw31.UnitOrders", spec := "unitOrders", inPlace := ["math/bits.Add64", "math/bits.Sub64", "internal/bytealg.IndexByteString", "internal/bytealg.IndexString"], unfollowed := true, recurses := true, named := ["internal/bytealg.MaxLen"], apart := false }
def UnitOrdersSaid : Prop := unitOrdersRow.holds Try.pinned (OpenSpec.ofChange unitOrdersSpec)

/-- ITS FALSE NEIGHBOUR: 'it returns false'. Refute it at one input. -/
def unitOrdersWrong : ChangeSpec := { name := "unitOrders", fn := fun _ => fun
  | [d1, d2, d3, d4] => { results := [.lit (.bool false)], args := [d1, d2, d3, d4] }
  | _ => none }
def UnitOrdersWrongFalsely : Prop := unitOrdersRow.holds Try.pinned (OpenSpec.ofChange unitOrdersWrong)

/-- 'allongelaw31.UnitWithin': WHATEVER THE INPUT: true; the input reads as it did. -/
def unitWithinSpec : ChangeSpec := { name := "unitWithin", fn := fun _ => fun
  | [d1, d2, d3, d4, d5, d6] => { results := [.lit (.bool true)], args := [d1, d2, d3, d4, d5, d6] }
  | _ => none }
def unitWithinRow : OpenClaim := { program := "ytfbijgbpipedoaa", sum := "f2ceda4ee153050b1b53896fb7f5fbf23568216c7033d653fe03aa9b178342f9", func := "allonge/allongelaw31.UnitWithin", spec := "unitWithin", inPlace := ["math/bits.Add64", "math/bits.Sub64", "internal/bytealg.IndexByteString", "internal/bytealg.IndexString"], unfollowed := true, recurses := true, named := ["internal/bytealg.MaxLen"], apart := false }
def UnitWithinSaid : Prop := unitWithinRow.holds Try.pinned (OpenSpec.ofChange unitWithinSpec)

/-- ITS FALSE NEIGHBOUR: 'it returns false'. Refute it at one input. -/
def unitWithinWrong : ChangeSpec := { name := "unitWithin", fn := fun _ => fun
  | [d1, d2, d3, d4, d5, d6] => { results := [.lit (.bool false)], args := [d1, d2, d3, d4, d5, d6] }
  | _ => none }
def UnitWithinWrongFalsely : Prop := unitWithinRow.holds Try.pinned (OpenSpec.ofChange unitWithinWrong)

/-- 'allongelaw31.UnitPhrases': WHATEVER THE INPUT: true; the input reads as it did. -/
def unitPhrasesSpec : ChangeSpec := { name := "unitPhrases", fn := fun _ => fun
  | [d1, d2] => { results := [.lit (.bool true)], args := [d1, d2] }
  | _ => none }
def unitPhrasesRow : OpenClaim := { program := "ytfbijgbpipedoaa", sum := "f2ceda4ee153050b1b53896fb7f5fbf23568216c7033d653fe03aa9b178342f9", func := "allonge/allongelaw31.UnitPhrases", spec := "unitPhrases", inPlace := ["math/bits.Add64", "math/bits.Sub64", "internal/bytealg.IndexByteString", "internal/bytealg.IndexString"], unfollowed := true, recurses := true, named := ["internal/bytealg.MaxLen"], apart := false }
def UnitPhrasesSaid : Prop := unitPhrasesRow.holds Try.pinned (OpenSpec.ofChange unitPhrasesSpec)

/-- ITS FALSE NEIGHBOUR: 'it returns false'. Refute it at one input. -/
def unitPhrasesWrong : ChangeSpec := { name := "unitPhrases", fn := fun _ => fun
  | [d1, d2] => { results := [.lit (.bool false)], args := [d1, d2] }
  | _ => none }
def UnitPhrasesWrongFalsely : Prop := unitPhrasesRow.holds Try.pinned (OpenSpec.ofChange unitPhrasesWrong)

/-- 'allongelaw31.UnitConverts': WHATEVER THE INPUT: true; the input reads as it did. -/
def unitConvertsSpec : ChangeSpec := { name := "unitConverts", fn := fun _ => fun
  | [d1, d2, d3, d4] => { results := [.lit (.bool true)], args := [d1, d2, d3, d4] }
  | _ => none }
def unitConvertsRow : OpenClaim := { program := "ytfbijgbpipedoaa", sum := "f2ceda4ee153050b1b53896fb7f5fbf23568216c7033d653fe03aa9b178342f9", func := "allonge/allongelaw31.UnitConverts", spec := "unitConverts", inPlace := ["math/bits.Add64", "math/bits.Sub64", "internal/bytealg.IndexByteString", "internal/bytealg.IndexString"], unfollowed := true, recurses := true, named := ["internal/bytealg.MaxLen", "math/bits.divideError", "math/bits.overflowError"], apart := false }
def UnitConvertsSaid : Prop := unitConvertsRow.holds Try.pinned (OpenSpec.ofChange unitConvertsSpec)

/-- ITS FALSE NEIGHBOUR: 'it returns false'. Refute it at one input. -/
def unitConvertsWrong : ChangeSpec := { name := "unitConverts", fn := fun _ => fun
  | [d1, d2, d3, d4] => { results := [.lit (.bool false)], args := [d1, d2, d3, d4] }
  | _ => none }
def UnitConvertsWrongFalsely : Prop := unitConvertsRow.holds Try.pinned (OpenSpec.ofChange unitConvertsWrong)

/- THE SECOND FORM. 'bulk': how many values and letters a reading holds, each counted each time it is reached (what is shared counts as often as it is met; a slice's spare places count too). A statement '..UptoSaid' is the law's where the arguments, and the package variables that the reading takes, are together of bulk at most 1048576: NARROWER than '..Said'. Prove '..Said' where nothing that the law and all that it calls make is longer than what came in: it says more and counts as full. Else prove '..UptoSaid'. A law counts once. -/
mutual
def uptoBulk {H : Type} : DataW H → Nat
  | .lit (.string bytes) => bytes.length + 1
  | .lit _ => 1
  | .nil => 1
  | .ptr d => uptoBulk d + 1
  | .slice elems spare => uptoBulkAll elems + uptoBulkAll spare + 1
  | .agg parts => uptoBulkAll parts + 1
  | .iface _ d => uptoBulk d + 1
  | .map entries => uptoBulkEntries entries + 1
  | .held _ => 1
def uptoBulkAll {H : Type} : List (DataW H) → Nat
  | [] => 0
  | d :: r => uptoBulk d + uptoBulkAll r
def uptoBulkEntries {H : Type} : List (Lit × DataW H) → Nat
  | [] => 0
  | x :: r => uptoBulkEntry x + uptoBulkEntries r
def uptoBulkEntry {H : Type} : Lit × DataW H → Nat
  | (.string bytes, d) => bytes.length + uptoBulk d + 1
  | (_, d) => uptoBulk d + 1
 end
def uptoSmall : (H : Type) → List (DataW H) → Bool := fun _ ds => decide (uptoBulkAll ds ≤ 1048576)
def OpenSpec.upto (s : _root_.Go.ChangeSpec) : _root_.Go.OpenSpec := { _root_.Go.OpenSpec.ofChange s with cond := some uptoSmall }

/-- 'allongelaw31.UnitOrders', WHERE WHAT IT READS IS OF BULK AT MOST 1048576: true; the input reads as it did. -/
def unitOrdersUptoRow : OpenClaim := { program := "ytfbijgbpipedoaa", sum := "f2ceda4ee153050b1b53896fb7f5fbf23568216c7033d653fe03aa9b178342f9", func := "allonge/allongelaw31.UnitOrders", spec := "unitOrders", inPlace := ["math/bits.Add64", "math/bits.Sub64", "internal/bytealg.IndexByteString", "internal/bytealg.IndexString"], unfollowed := true, recurses := true, named := ["internal/bytealg.MaxLen"], apart := false, narrowed := true }
def UnitOrdersUptoSaid : Prop := unitOrdersUptoRow.holds Try.pinned (OpenSpec.upto unitOrdersSpec)

/-- 'allongelaw31.UnitWithin', WHERE WHAT IT READS IS OF BULK AT MOST 1048576: true; the input reads as it did. -/
def unitWithinUptoRow : OpenClaim := { program := "ytfbijgbpipedoaa", sum := "f2ceda4ee153050b1b53896fb7f5fbf23568216c7033d653fe03aa9b178342f9", func := "allonge/allongelaw31.UnitWithin", spec := "unitWithin", inPlace := ["math/bits.Add64", "math/bits.Sub64", "internal/bytealg.IndexByteString", "internal/bytealg.IndexString"], unfollowed := true, recurses := true, named := ["internal/bytealg.MaxLen"], apart := false, narrowed := true }
def UnitWithinUptoSaid : Prop := unitWithinUptoRow.holds Try.pinned (OpenSpec.upto unitWithinSpec)

/-- 'allongelaw31.UnitPhrases', WHERE WHAT IT READS IS OF BULK AT MOST 1048576: true; the input reads as it did. -/
def unitPhrasesUptoRow : OpenClaim := { program := "ytfbijgbpipedoaa", sum := "f2ceda4ee153050b1b53896fb7f5fbf23568216c7033d653fe03aa9b178342f9", func := "allonge/allongelaw31.UnitPhrases", spec := "unitPhrases", inPlace := ["math/bits.Add64", "math/bits.Sub64", "internal/bytealg.IndexByteString", "internal/bytealg.IndexString"], unfollowed := true, recurses := true, named := ["internal/bytealg.MaxLen"], apart := false, narrowed := true }
def UnitPhrasesUptoSaid : Prop := unitPhrasesUptoRow.holds Try.pinned (OpenSpec.upto unitPhrasesSpec)

/-- 'allongelaw31.UnitConverts', WHERE WHAT IT READS IS OF BULK AT MOST 1048576: true; the input reads as it did. -/
def unitConvertsUptoRow : OpenClaim := { program := "ytfbijgbpipedoaa", sum := "f2ceda4ee153050b1b53896fb7f5fbf23568216c7033d653fe03aa9b178342f9", func := "allonge/allongelaw31.UnitConverts", spec := "unitConverts", inPlace := ["math/bits.Add64", "math/bits.Sub64", "internal/bytealg.IndexByteString", "internal/bytealg.IndexString"], unfollowed := true, recurses := true, named := ["internal/bytealg.MaxLen", "math/bits.divideError", "math/bits.overflowError"], apart := false, narrowed := true }
def UnitConvertsUptoSaid : Prop := unitConvertsUptoRow.holds Try.pinned (OpenSpec.upto unitConvertsSpec)

end Rows
end Go.Proofs.Ytfbijgbpipedoaa
