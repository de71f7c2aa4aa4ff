/- Lists of integers compared: the reference's and the library's. -/
import Derived.Test.YtpnbbhomkneflaaGreatDoorMrgA
namespace Go.Proofs.YtpnbbhomkneflaaGreatDoor
open Go.ChangeShapes Go.WideShapes Go.ChangeAt Go.RowKit
end Go.Proofs.YtpnbbhomkneflaaGreatDoor
