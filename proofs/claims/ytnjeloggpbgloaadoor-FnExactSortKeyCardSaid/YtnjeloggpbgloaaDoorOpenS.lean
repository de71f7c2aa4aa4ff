/- Slices of texts as arguments, opened. Over any program: nothing is claimed of a Go function here. -/
import Derived.Test.YtnjeloggpbgloaaDoorOpen
import Derived.Test.YtnjeloggpbgloaaDoorWords
namespace Go.Proofs.YtnjeloggpbgloaaDoor
open Go.ChangeShapes Go.WideShapes Go.ChangeAt Go.RowKit Go.Deep Go.Joins
theorem open_strs_ {H : Type} {enc : TypeId × Value → H} {P : Program} {w : World} {base : Nat} {spare : Nat → Bool} {held : Bool}
    {t e : TypeId} {v : Value} {r : Reach} {b0 : Nat} {d : DataW H} {p : List MemPlace} (ht : P.underlying t = some (.slice e)) (he : P.underlying e = some .string) (hC : P.cellsOf e = 1)
    (hv : Value.okWide P w r b0 t v) (h : DataW.Trod enc P w base spare held t v d p) :
    ∃ (A : Option Addr) (n c : Nat) (xs : List ByteArray), v = .slice A n c ∧ Strs w A n c xs := by
  obtain ⟨A, n, c, el, fuel, rfl, hr, hl, he2⟩ := open_row ht hC (by omega) hv h
  have hex : ∀ i, ∃ s : ByteArray, i < n → el i = [.string s] ∧ s.size ≤ maxLen := fun i => by
    by_cases hlt : i < n
    · obtain ⟨y, hy⟩ := he2 i hlt
      obtain ⟨s, hs, _, hz⟩ := DataW.trod_string he hy
      exact ⟨s, fun _ => ⟨hs, hz⟩⟩
    · exact ⟨⟨#[]⟩, fun h => absurd h hlt⟩
  obtain ⟨X, hX⟩ := Classical.axiomOfChoice hex
  refine ⟨A, n, c, (List.range n).map X, rfl, by simp, ?_, fun x hx => ?_⟩
  · have : ((List.range n).map X).map Value.string = (List.range n).flatMap el := by
      rw [congr_flat (g := fun i => [Value.string (X i)]) (fun i hi => (hX i (by simpa using hi)).1), List.map_map, List.map_eq_flatMap]
      rfl
    rw [this]
    exact hr
  · obtain ⟨i, hi, rfl⟩ := List.mem_map.1 hx
    exact (hX i (List.mem_range.1 hi)).2
end Go.Proofs.YtnjeloggpbgloaaDoor
