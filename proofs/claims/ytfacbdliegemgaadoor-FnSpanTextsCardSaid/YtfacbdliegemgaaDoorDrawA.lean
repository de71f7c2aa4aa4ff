/- Draws of words. -/
import Derived.Test.YtfacbdliegemgaaDoorDraw
import Derived.Test.YtfacbdliegemgaaDoorGrown
namespace Go.Proofs.YtfacbdliegemgaaDoor
open Go.ChangeShapes Go.WideShapes Go.ChangeAt Go.RowKit

/-- a list of texts in memory, each of at most B bytes -/
def Parts (w : World) (g n B : Nat) : Prop := ∀ k, k < n → ∃ t : ByteArray, w.cell? ⟨g, k, none⟩ = some (.string t) ∧ t.size ≤ B
theorem Parts.grown {w w' : World} {p g n B : Nat} (h : Parts w g n B) (hg : w.grownBy w' (some p)) (hne : p ≠ g) : Parts w' g n B := fun k hk => by
  obtain ⟨t, ht, hb⟩ := h k hk
  exact ⟨t, grown_cell hg ht (by simpa using hne), hb⟩
theorem Parts.below {w w' : World} {g n B : Nat} (h : Parts w g n B) (hb : Below w.heap.size w w') : Parts w' g n B := fun k hk => by
  obtain ⟨t, ht, hB⟩ := h k hk
  exact ⟨t, cell_keep hb ht, hB⟩
theorem parts_alloc (w : World) (L : List ByteArray) (t : TypeId) (B : Nat) (hL : ∀ x ∈ L, x.size ≤ B) : Parts (w.alloc (.cells (L.map Value.string).toArray t)) w.heap.size L.length B := fun k hk =>
  ⟨L[k], by go_simp, hL _ (List.getElem_mem hk)⟩
/-- what a draw of a text returns -/
def TextPost (p B : Nat) (w : World) (e : Ending) (w' : World) : Prop := ∃ t : ByteArray, e = .returned (.string t) ∧ t.size ≤ B ∧ Src w' p ∧ w.grownBy w' (some p)
theorem box1 (w : World) (x : Obj) : Below w.heap.size w (w.alloc x) := (Below.refl _ _).alloc (Nat.le_refl _) _
theorem Src.lt {w : World} {p : Nat} (h : Src w p) : p < w.heap.size := by
  obtain ⟨_, _, _, _, _, _, h⟩ := h
  exact h.lt
end Go.Proofs.YtfacbdliegemgaaDoor
