/- Nothing: this seat calls no function of that shelf. -/
import Derived.Test.YtjgcbnngjfchhaaDoorProg
namespace Go.Proofs.YtjgcbnngjfchhaaDoor
end Go.Proofs.YtjgcbnngjfchhaaDoor
