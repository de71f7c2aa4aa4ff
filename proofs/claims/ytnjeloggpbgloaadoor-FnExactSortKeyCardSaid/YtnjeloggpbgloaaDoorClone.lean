/- A slice of integers copied: slices.Clone. -/
import Derived.Test.YtnjeloggpbgloaaDoorInts
import Derived.Test.YtnjeloggpbgloaaDoorDist
import Derived.Lib.SliceRun
namespace Go.Proofs.YtnjeloggpbgloaaDoor
open Go.ChangeShapes Go.WideShapes Go.ChangeAt Go.RowKit
theorem box1C (w : World) (x : Obj) : Below w.heap.size w (w.alloc x) := (Below.refl _ _).alloc (Nat.le_refl _) _
end Go.Proofs.YtnjeloggpbgloaaDoor
