/- Walks by the logic of calls, and plain laws. -/
import Derived.Test.YtffffkfcbjobnaaGreatGScF
namespace Go.Gh
open Go Go.Proofs
set_option maxRecDepth 1000000
set_option maxHeartbeats 2000000
set_option linter.unusedSimpArgs false
set_option linter.unusedVariables false
open Go.RowKit

def textsL (f : Fl) : List ByteArray := (List.range (sz f.words)).map (textF f)
def textsE (d : Dc) (n : Int) : List ByteArray × Int := if checkE d = 0 then if hasB d n = true then if 4096 < sz (fieldAt d n).words then ([], 6) else (textsL (fieldAt d n), 0) else ([], 4) else ([], checkE d)

end Go.Gh
