/- Lists of integers compared: the reference's and the library's. -/
import Derived.Test.YticplogaaholfaaGreatDoorInts
namespace Go.Proofs.YticplogaaholfaaGreatDoor
open Go.ChangeShapes Go.WideShapes Go.ChangeAt Go.RowKit
end Go.Proofs.YticplogaaholfaaGreatDoor
