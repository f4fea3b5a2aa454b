/- Walks of ratio's functions: Add, of what is not right. -/
import Derived.Test.YtfbijgbpipedoaaDoorRo
namespace Go.Proofs.YtfbijgbpipedoaaDoor
open Go.RowKit Ra

end Go.Proofs.YtfbijgbpipedoaaDoor
