/- What changes only the blocks of one zone of memory. Over any program: nothing is claimed of a Go function here. -/
import Derived.Test.YtfacbdliegemgaaDoorFrame
namespace Go.Proofs.YtfacbdliegemgaaDoor
open Go.ChangeShapes Go.WideShapes Go.ChangeAt Go.RowKit

structure Zone (lo hi : Nat) (w w' : World) : Prop where
  os : w'.os = w.os
  tape : w'.tape = w.tape
  output : w'.output = w.output
  size : w.heap.size ≤ w'.heap.size
  block : ∀ k, k < w.heap.size → (k < lo ∨ hi ≤ k) → w'.heap[k]? = w.heap[k]?
theorem Zone.refl (lo hi : Nat) (w : World) : Zone lo hi w w := ⟨rfl, rfl, rfl, Nat.le_refl _, fun _ _ _ => rfl⟩
theorem Zone.trans {lo hi : Nat} {a b c : World} (h : Zone lo hi a b) (h2 : Zone lo hi b c) : Zone lo hi a c :=
  ⟨h2.os.trans h.os, h2.tape.trans h.tape, h2.output.trans h.output, Nat.le_trans h.size h2.size, fun k hk hne => (h2.block k (Nat.lt_of_lt_of_le hk h.size) hne).trans (h.block k hk hne)⟩
theorem Zone.of_below {lo hi : Nat} {w w' : World} (h : Below w.heap.size w w') : Zone lo hi w w' := ⟨h.os, h.tape, h.output, h.size, fun k hk _ => h.block k hk⟩
theorem Zone.of_grown {lo hi g : Nat} {w w' : World} (h : w.grownBy w' (some g)) (h1 : lo ≤ g) (h2 : g < hi) : Zone lo hi w w' :=
  ⟨h.os, h.tape, h.output, h.size, fun k hk hne => h.block k hk (fun e => by injection e with e; omega)⟩
theorem Zone.wider {lo hi lo' hi' : Nat} {w w' : World} (h : Zone lo hi w w') (h1 : lo' ≤ lo) (h2 : hi ≤ hi') : Zone lo' hi' w w' :=
  ⟨h.os, h.tape, h.output, h.size, fun k hk hne => h.block k hk (by omega)⟩
theorem Zone.set {lo hi : Nat} (w : World) (g j : Nat) (u : Value) (h1 : lo ≤ g) (h2 : g < hi) : Zone lo hi w (w.setCell ⟨g, j, none⟩ u) := Zone.of_grown (grown_set w g j u) h1 h2
theorem below_zone {B lo hi : Nat} {a w w' : World} (h : Below B a w) (hz : Zone lo hi w w') (hB : B ≤ a.heap.size) (hl : B ≤ lo) : Below B a w' :=
  h.trans ⟨hz.os, hz.tape, hz.output, hz.size, fun k hk => hz.block k (Nat.lt_of_lt_of_le hk (Nat.le_trans hB h.size)) (by omega)⟩
theorem own_block {w w' : World} {base : Nat} {e : TypeId} {size : Nat} {v : Value} {n : Nat} {xs : List Value} (h : w.ownsRow base e size v n xs) (hb : ∀ k, v.ownBlock = some k → w'.heap[k]? = w.heap[k]?) : w'.ownsRow base e size v n xs := by
  refine ⟨h.1, h.2.imp id fun ⟨g, cap, cur, h1, h2, h3, r⟩ => ⟨g, cap, cur, h1, h2, ?_, r⟩⟩
  rw [hb g (by rw [h1]; rfl)]
  exact h3
theorem own_zone {w w' : World} {base lo hi : Nat} {e : TypeId} {size : Nat} {v : Value} {n : Nat} {xs : List Value} (h : w.ownsRow base e size v n xs) (hz : Zone lo hi w w') (hb : ∀ k, v.ownBlock = some k → k < lo ∨ hi ≤ k) : w'.ownsRow base e size v n xs :=
  own_block h fun k hk => hz.block k (h.lt k hk).2 (hb k hk)
theorem own_above {w w' : World} {base lo hi : Nat} {e : TypeId} {size : Nat} {v : Value} {n : Nat} {xs : List Value} (h : w.ownsRow base e size v n xs) (hz : Zone lo hi w w') (hl : hi ≤ base) : w'.ownsRow base e size v n xs :=
  own_zone h hz fun k hk => .inr (Nat.le_trans hl (h.lt k hk).1)
end Go.Proofs.YtfacbdliegemgaaDoor
