/- bits.Div64, walked: the quotient and the remainder of a 128-bit number by a 64-bit one. -/
import Derived.Test.YtfbijgbpipedoaaDoorProg
import Derived.Test.YtfbijgbpipedoaaDoorDivPure
import Derived.WalkKit
import Derived.WalkSpells
import Derived.WalkLawsBesides
import Derived.Handy
import Derived.Deep.QuietTactic
import Derived.BigQuiet
import Derived.Lib.Hide
namespace Go.Proofs.YtfbijgbpipedoaaDoor
open Go.RowKit

end Go.Proofs.YtfbijgbpipedoaaDoor
