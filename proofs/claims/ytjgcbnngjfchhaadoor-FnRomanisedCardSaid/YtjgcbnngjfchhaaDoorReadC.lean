/- Numbers read by the library: what impl's readNumber computes. -/
import Derived.Test.YtjgcbnngjfchhaaDoorReadB
import Derived.Test.YtjgcbnngjfchhaaDoorShelf4
import Derived.Lib.SmallJoins
namespace Go.Proofs.YtjgcbnngjfchhaaDoor
open Go.ChangeShapes Go.WideShapes Go.ChangeAt Go.RowKit

end Go.Proofs.YtjgcbnngjfchhaaDoor
