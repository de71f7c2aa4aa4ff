/- Lists of integers compared: the reference's and the library's. -/
import Derived.Test.YtbhibidgdlaeeaaGreatDoorInts
namespace Go.Proofs.YtbhibidgdlaeeaaGreatDoor
open Go.ChangeShapes Go.WideShapes Go.ChangeAt Go.RowKit
end Go.Proofs.YtbhibidgdlaeeaaGreatDoor
