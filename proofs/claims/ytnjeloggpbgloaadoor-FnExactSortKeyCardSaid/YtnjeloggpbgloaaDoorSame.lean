/- Lists of integers compared: the reference's and the library's. -/
import Derived.Test.YtnjeloggpbgloaaDoorInts
namespace Go.Proofs.YtnjeloggpbgloaaDoor
open Go.ChangeShapes Go.WideShapes Go.ChangeAt Go.RowKit
end Go.Proofs.YtnjeloggpbgloaaDoor
