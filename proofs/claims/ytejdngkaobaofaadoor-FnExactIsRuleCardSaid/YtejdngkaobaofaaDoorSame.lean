/- Lists of integers compared: the reference's and the library's. -/
import Derived.Test.YtejdngkaobaofaaDoorInts
namespace Go.Proofs.YtejdngkaobaofaaDoor
open Go.ChangeShapes Go.WideShapes Go.ChangeAt Go.RowKit
end Go.Proofs.YtejdngkaobaofaaDoor
