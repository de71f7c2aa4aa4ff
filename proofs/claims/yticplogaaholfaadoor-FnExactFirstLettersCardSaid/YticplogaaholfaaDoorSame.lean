/- Lists of integers compared: the reference's and the library's. -/
import Derived.Test.YticplogaaholfaaDoorInts
namespace Go.Proofs.YticplogaaholfaaDoor
open Go.ChangeShapes Go.WideShapes Go.ChangeAt Go.RowKit
end Go.Proofs.YticplogaaholfaaDoor
