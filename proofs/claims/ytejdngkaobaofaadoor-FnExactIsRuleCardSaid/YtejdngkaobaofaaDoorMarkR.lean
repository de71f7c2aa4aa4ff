/- Integers marked in a slice of any capacity: only its own block is changed. -/
import Derived.Test.YtejdngkaobaofaaDoorOwnRules
namespace Go.Proofs.YtejdngkaobaofaaDoor
open Go.ChangeShapes Go.WideShapes Go.ChangeAt Go.RowKit
end Go.Proofs.YtejdngkaobaofaaDoor
