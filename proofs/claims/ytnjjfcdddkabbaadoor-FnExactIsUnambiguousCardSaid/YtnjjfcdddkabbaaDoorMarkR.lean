/- Integers marked in a slice of any capacity: only its own block is changed. -/
import Derived.Test.YtnjjfcdddkabbaaDoorOwnRules
namespace Go.Proofs.YtnjjfcdddkabbaaDoor
open Go.ChangeShapes Go.WideShapes Go.ChangeAt Go.RowKit
end Go.Proofs.YtnjjfcdddkabbaaDoor
