/- Comparing lists: slices.Compare, slices.CompareFunc, cmp.Or, and the program's compareSpellings. -/
import Derived.Test.YtnjeloggpbgloaaDoorSortA
namespace Go.Proofs.YtnjeloggpbgloaaDoor
open Go.ChangeShapes Go.WideShapes Go.ChangeAt Go.RowKit
theorem isn_ {P : Program} {f : FuncId} {args : Array Value} {w : World} {p q : Int} (h : Calls P f args w fun e w' => e = .returned (.int .i64 p) ∧ Below w.heap.size w w') (e : p = q) :
    Calls P f args w fun e w' => e = .returned (.int .i64 q) ∧ Below w.heap.size w w' := e ▸ h
/-- the first that is not zero -/
def orI : List Int → Int
  | [] => 0
  | x :: r => if x = 0 then orI r else x
theorem orI_step {xs : List Int} {k : Nat} (h : xs[k]? = some 0) : orI (xs.drop k) = orI (xs.drop (k + 1)) := by
  rw [drop_cons h]
  conv => lhs; unfold orI
  rw [if_pos rfl]
theorem orI_hit {xs : List Int} {k : Nat} {x : Int} (h : xs[k]? = some x) (h0 : x ≠ 0) : orI (xs.drop k) = x := by
  rw [drop_cons h]
  conv => lhs; unfold orI
  rw [if_neg h0]
end Go.Proofs.YtnjeloggpbgloaaDoor
