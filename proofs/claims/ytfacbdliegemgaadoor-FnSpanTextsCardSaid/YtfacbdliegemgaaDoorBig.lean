/- The laws' guard on the length of their code. -/
import Derived.Test.YtfacbdliegemgaaDoorDraw
namespace Go.Proofs.YtfacbdliegemgaaDoor
open Go.ChangeShapes Go.WideShapes Go.ChangeAt Go.RowKit
theorem big_any (A : Option Addr) (n c : Nat) (w : World) : Calls Tryd.prog 21 #[.slice A n c] w fun e w' => e = .returned (.bool (decide ((4096 : Int) < n))) ∧ Below w.heap.size w w' := by
  go_enter Tryd.func21, Tryd.ntmps21
  go_wp2
  go_ret
  exact ⟨rfl, Below.refl _ _⟩
end Go.Proofs.YtfacbdliegemgaaDoor
