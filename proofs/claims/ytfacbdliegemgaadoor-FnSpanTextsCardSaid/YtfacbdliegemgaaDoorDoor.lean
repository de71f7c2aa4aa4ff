/- A world in which listed variables hold what they list. Nothing is claimed of a Go function here. -/
import Derived.Test.YtfacbdliegemgaaDoorCards
import Derived.Test.YtfacbdliegemgaaDoorTie
import Derived.Test.YtfacbdliegemgaaDoorOpen
import Derived.Deep.DeepHandedRow
import Derived.Lib.LaidTab
namespace Go.Proofs.YtfacbdliegemgaaDoor
mutual
def flatD : DataW Unit → List Value
  | .lit (.int k n) => [.int k n]
  | .agg parts => flatDs parts
  | _ => []
def flatDs : List (DataW Unit) → List Value
  | [] => []
  | d :: r => flatD d ++ flatDs r
end
def setTab (heap : Array Obj) (g : Nat) (d : DataW Unit) : Array Obj := heap.modify g fun
  | .cells _ t frozen => .cells (flatD d).toArray t frozen
  | o => o
end Go.Proofs.YtfacbdliegemgaaDoor
