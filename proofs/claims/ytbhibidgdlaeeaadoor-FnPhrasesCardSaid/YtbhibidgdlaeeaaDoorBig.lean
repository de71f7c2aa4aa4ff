/- The laws' guard on the length of their code. -/
import Derived.Test.YtbhibidgdlaeeaaDoorDraw
namespace Go.Proofs.YtbhibidgdlaeeaaDoor
open Go.ChangeShapes Go.WideShapes Go.ChangeAt Go.RowKit
theorem big_any (A : Option Addr) (n c : Nat) (w : World) : Calls Tryd.prog 38 #[.slice A n c] w fun e w' => e = .returned (.bool (decide ((4096 : Int) < n))) ∧ Below w.heap.size w w' := by
  go_enter Tryd.func38, Tryd.ntmps38
  go_wp2
  go_ret
  exact ⟨rfl, Below.refl _ _⟩
end Go.Proofs.YtbhibidgdlaeeaaDoor
