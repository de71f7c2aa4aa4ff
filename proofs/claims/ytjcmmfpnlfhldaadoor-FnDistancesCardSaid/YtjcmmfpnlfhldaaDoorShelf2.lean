/- No layings. -/
import Derived.Test.YtjcmmfpnlfhldaaDoorProg
namespace Go.Proofs
end Go.Proofs
