/- A source, and two cells of a block, behind what grows other blocks. Over any program: nothing is claimed of a Go function here. -/
import Derived.Test.YtfacbdliegemgaaGreatDoorDraw
import Derived.Test.YtfacbdliegemgaaGreatDoorGrown
namespace Go.Proofs.YtfacbdliegemgaaGreatDoor
open Go.ChangeShapes Go.WideShapes Go.ChangeAt Go.RowKit

theorem Src.grownP {w w' : World} {p : Nat} {row : Option Nat} (h : Src w p) (hg : w.grownBy w' row) (hne : ∀ k, row = some k → p < k) : Src w' p := by
  obtain ⟨A, n, c, bs, a, s, S⟩ := h
  have hp : row ≠ some p := fun e => by have := hne p e; omega
  refine ⟨A, n, c, bs, a, s, Nat.lt_of_lt_of_le S.lt hg.size, grown_cell hg S.c0 hp, grown_cell hg S.c1 hp, grown_cell hg S.c2 hp, fun j => ?_, S.s0, S.s1, S.a0, S.a1, S.by_.block hg.size fun hn b off e => ?_, S.bl⟩
  · exact (World.frozen?_of_block (hg.block p S.lt (fun e => hp e.symm))).trans (S.f0 j)
  · have := S.bl hn b off e
    exact hg.block b (by have := S.lt; omega) (fun e2 => by have := hne b e2.symm; omega)
theorem own_srcP {w w' : World} {p base : Nat} {e : TypeId} {size : Nat} {v : Value} {n : Nat} {xs : List Value} (h : w.ownsRow base e size v n xs) (hg : w.grownBy w' (some p)) (hb : p < base) : w'.ownsRow base e size v n xs :=
  own_far h hg fun k hk e => by have := (h.lt k hk).1; injection e with e; omega
theorem grown_own {w W W' : World} {p : Nat} {row : Option Nat} (h : w.grownBy W (some p)) (hg : W.grownBy W' row) (hne : ∀ k, row = some k → w.heap.size ≤ k) : w.grownBy W' (some p) :=
  ⟨hg.os.trans h.os, hg.tape.trans h.tape, hg.output.trans h.output, Nat.le_trans h.size hg.size, fun k hk hkp => (hg.block k (Nat.lt_of_lt_of_le hk h.size) (fun e => by have := hne k e.symm; omega)).trans (h.block k hk hkp)⟩
theorem below_srcP {a w w' : World} {p : Nat} (h : Below p a w) (hg : w.grownBy w' (some p)) (hp : a.heap.size = p) : Below p a w' :=
  below_own h hg (Nat.le_of_eq hp.symm) (fun k hk => by injection hk with hk; omega)
/-- two cells of a block that may be written -/
structure Box2 (w : World) (g : Nat) (u v : Value) : Prop where
  c0 : w.cell? ⟨g, 0, none⟩ = some u
  c1 : w.cell? ⟨g, 1, none⟩ = some v
  f0 : w.frozen? ⟨g, 0, none⟩ = false
  f1 : w.frozen? ⟨g, 1, none⟩ = false
  lt : g < w.heap.size
theorem box2_new (w : World) (u v : Value) (t : TypeId) : Box2 (w.alloc (.cells #[u, v] t)) w.heap.size u v := ⟨by simp, by simp, by simp, by simp, by simp⟩
theorem Box2.below {w w' : World} {g : Nat} {u v : Value} (h : Box2 w g u v) (hb : Below w.heap.size w w') : Box2 w' g u v :=
  ⟨cell_keep hb h.c0, cell_keep hb h.c1, (bfree hb g 0 h.lt).trans h.f0, (bfree hb g 1 h.lt).trans h.f1, Nat.lt_of_lt_of_le h.lt hb.size⟩
theorem Box2.grown {w w' : World} {g p : Nat} {u v : Value} (h : Box2 w g u v) (hg : w.grownBy w' (some p)) (hne : p ≠ g) : Box2 w' g u v :=
  have hb := hg.block g h.lt (fun e => hne (by injection e with e; exact e.symm))
  ⟨grown_cell hg h.c0 (by simpa using hne), grown_cell hg h.c1 (by simpa using hne), (World.frozen?_of_block hb).trans h.f0, (World.frozen?_of_block hb).trans h.f1, Nat.lt_of_lt_of_le h.lt hg.size⟩
end Go.Proofs.YtfacbdliegemgaaGreatDoor
