/- Lists of integers compared: the reference's and the library's. -/
import Derived.Test.YtfacbdliegemgaaDoorInts
namespace Go.Proofs.YtfacbdliegemgaaDoor
open Go.ChangeShapes Go.WideShapes Go.ChangeAt Go.RowKit
end Go.Proofs.YtfacbdliegemgaaDoor
