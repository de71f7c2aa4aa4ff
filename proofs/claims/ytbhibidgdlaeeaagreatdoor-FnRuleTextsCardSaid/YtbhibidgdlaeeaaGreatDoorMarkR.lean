/- Integers marked in a slice of any capacity: only its own block is changed. -/
import Derived.Test.YtbhibidgdlaeeaaGreatDoorOwnRules
namespace Go.Proofs.YtbhibidgdlaeeaaGreatDoor
open Go.ChangeShapes Go.WideShapes Go.ChangeAt Go.RowKit
end Go.Proofs.YtbhibidgdlaeeaaGreatDoor
