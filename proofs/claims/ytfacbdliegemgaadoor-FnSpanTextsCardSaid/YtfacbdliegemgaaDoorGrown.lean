/- Frames behind a grown block. Plain laws of worlds. -/
import Derived.Test.YtfacbdliegemgaaDoorZone
namespace Go.Proofs.YtfacbdliegemgaaDoor
open Go.ChangeShapes Go.WideShapes Go.ChangeAt Go.RowKit
theorem grown_cell {w w' : World} {row : Option Nat} (h : w.grownBy w' row) {a : Addr} {v : Value} (hc : w.cell? a = some v) (hne : row ≠ some a.block) : w'.cell? a = some v :=
  (h.cell_far a (World.block_lt_of_cell? w _ hc) (fun e => hne e.symm)).trans hc
theorem own_far {w w' : World} {row : Option Nat} {base : Nat} {e : TypeId} {size : Nat} {v : Value} {n : Nat} {xs : List Value} (h : w.ownsRow base e size v n xs) (hg : w.grownBy w' row) (hne : ∀ k, v.ownBlock = some k → row ≠ some k) : w'.ownsRow base e size v n xs :=
  own_block h fun k hk => hg.block k (h.lt k hk).2 (fun e => hne k hk e.symm)
theorem below_own {B : Nat} {a w w' : World} {row : Option Nat} (h : Below B a w) (hg : w.grownBy w' row) (hB : B ≤ a.heap.size) (hgB : ∀ k, row = some k → B ≤ k) : Below B a w' :=
  h.grown hg (Nat.le_trans hB h.size) hgB
end Go.Proofs.YtfacbdliegemgaaDoor
