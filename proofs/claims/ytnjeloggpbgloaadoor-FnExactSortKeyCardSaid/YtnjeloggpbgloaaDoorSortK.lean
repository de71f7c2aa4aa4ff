/- FindPhrase: the program's and the reference's. -/
import Derived.Test.YtnjeloggpbgloaaDoorSortJ
namespace Go.Proofs.YtnjeloggpbgloaaDoor
open Go.ChangeShapes Go.WideShapes Go.ChangeAt Go.RowKit
theorem ints_none_ {w : World} : Ints w none 0 0 [] := ⟨rfl, ⟨Nat.le_refl _, Nat.zero_le _, rfl, fun h => absurd h (Nat.not_lt_zero _)⟩⟩
theorem ns_vals (xs : List ByteArray) (ig : List Int) (ps : List ByteArray) : nsCode xs ig ps = 0 ∨ nsCode xs ig ps = 1 ∨ nsCode xs ig ps = 2 ∨ nsCode xs ig ps = 4 := by
  rcases ns_cases xs ig ps with ⟨_, e⟩ | ⟨_, _, e⟩ | ⟨_, _, _, e⟩ | ⟨_, _, _, _, e⟩ | ⟨_, _, _, _, e⟩ <;> rw [e.out] <;> simp
end Go.Proofs.YtnjeloggpbgloaaDoor
