/- Draws of the words' laws. -/
import Derived.Test.YtjcmmfpnlfhldaaDoorDrawT
import Derived.Test.YtjcmmfpnlfhldaaDoorBig
namespace Go.Proofs.YtjcmmfpnlfhldaaDoor
open Go.ChangeShapes Go.WideShapes Go.ChangeAt Go.RowKit

theorem DrawEditDistance_any (A : Option Addr) (n c : Nat) (bs : List UInt8) (w : World) (hx : Bytes w A n c bs) : Calls Tryd.prog 5 #[.slice A n c] w (TwoPost w.heap.size w) := by
  go_enter Tryd.func5, Tryd.ntmps5
  go_wp2_with fail
  refine (l01DrawTwo_any A n c bs w hx).mono ?_
  rintro e_ w1 ⟨s, t, rfl, hs, ht, h⟩
  go_wp2
  go_ret2
  exact ⟨s, t, rfl, hs, ht, h⟩
end Go.Proofs.YtjcmmfpnlfhldaaDoor
