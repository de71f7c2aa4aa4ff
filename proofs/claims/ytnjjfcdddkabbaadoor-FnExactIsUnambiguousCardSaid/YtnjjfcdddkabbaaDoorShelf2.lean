/- No layings. -/
import Derived.Test.YtnjjfcdddkabbaaDoorProg
namespace Go.Proofs
end Go.Proofs
