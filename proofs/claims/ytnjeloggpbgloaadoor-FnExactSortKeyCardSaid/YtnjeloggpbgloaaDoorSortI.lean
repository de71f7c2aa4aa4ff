/- Sorted lists of phrases: listSorter, slices.IsSortedFunc, l06Sorted, AreSorted. -/
import Derived.Test.YtnjeloggpbgloaaDoorSortH
namespace Go.Proofs.YtnjeloggpbgloaaDoor
open Go.ChangeShapes Go.WideShapes Go.ChangeAt Go.RowKit
/-! ## sorted lists -/
def cAt (xs : List ByteArray) (ig : List Int) (ps : List ByteArray) (i : Nat) : Int := cmpP xs ig (ps.getD (i - 1) ⟨#[]⟩) (ps.getD i ⟨#[]⟩)
def sortedP (xs : List ByteArray) (ig : List Int) (ps : List ByteArray) : Bool := (List.range ps.length).all fun i => i == 0 || !decide (0 < cAt xs ig ps i)
theorem sorted_no {xs : List ByteArray} {ig : List Int} {ps : List ByteArray} {i : Nat} (h1 : 1 ≤ i) (h2 : i < ps.length) (h : 0 < cAt xs ig ps i) : sortedP xs ig ps = false := by
  unfold sortedP
  rw [List.all_eq_false]
  refine ⟨i, List.mem_range.2 h2, ?_⟩
  rw [decide_eq_true h]
  simp
  omega
theorem sorted_yes {xs : List ByteArray} {ig : List Int} {ps : List ByteArray} (h : ∀ i, 1 ≤ i → i < ps.length → ¬ 0 < cAt xs ig ps i) : sortedP xs ig ps = true := by
  unfold sortedP
  rw [List.all_eq_true]
  intro i hi
  rcases Nat.eq_zero_or_pos i with h0 | h0
  · subst h0; rfl
  · rw [decide_eq_false (h i h0 (List.mem_range.1 hi))]
    simp
theorem cAt_is {xs : List ByteArray} {ig : List Int} {ps : List ByteArray} {i : Nat} {s t : ByteArray} (hs : ps[i - 1]? = some s) (ht : ps[i]? = some t) : cAt xs ig ps i = cmpP xs ig s t := by
  unfold cAt
  rw [List.getD_eq_getElem?_getD, List.getD_eq_getElem?_getD, hs, ht]
  rfl
theorem total_mem {xs : List ByteArray} {s : ByteArray} (h : s ∈ xs) : s.size ≤ total xs := by
  unfold total
  induction xs with
  | nil => cases h
  | cons x r ih =>
    rw [List.map_cons, List.sum_cons]
    rcases List.mem_cons.1 h with rfl | h
    · omega
    · have := ih h; omega
def asVal (xs : List ByteArray) (ig : List Int) (ps : List ByteArray) : Bool := if l6Code xs ig ps = 0 then sortedP xs ig ps else false
theorem l6_zero {xs : List ByteArray} {ig : List Int} {ps : List ByteArray} (h : l6Code xs ig ps = 0) : isAlpha xs = true ∧ ps.all isPhrase = true ∧ ps.all (spAll xs) = true ∧ ps.length ≤ 20 := by
  unfold l6Code at h
  split at h
  · rename_i h0
    split at h
    · cases h
    · obtain ⟨a, b, c⟩ := ns_zero h0
      exact ⟨a, b, c, by omega⟩
  · rename_i h0; exact absurd h h0
end Go.Proofs.YtnjeloggpbgloaaDoor
