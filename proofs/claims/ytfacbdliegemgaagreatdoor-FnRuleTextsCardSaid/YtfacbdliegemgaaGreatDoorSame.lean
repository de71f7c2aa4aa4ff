/- Lists of integers compared: the reference's and the library's. -/
import Derived.Test.YtfacbdliegemgaaGreatDoorInts
namespace Go.Proofs.YtfacbdliegemgaaGreatDoor
open Go.ChangeShapes Go.WideShapes Go.ChangeAt Go.RowKit
end Go.Proofs.YtfacbdliegemgaaGreatDoor
