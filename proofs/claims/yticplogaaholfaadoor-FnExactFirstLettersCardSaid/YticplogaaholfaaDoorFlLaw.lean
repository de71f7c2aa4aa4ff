/- FirstLetters: plain law. Nothing is claimed of a Go function here. -/
import Derived.Lib.SlicesCompact
import Derived.Test.YticplogaaholfaaDoorSortI
namespace Go.Proofs.YticplogaaholfaaDoor
open Go.RowKit Go.Lib
theorem strict_eq : ∀ (xs ys : List Int), xs.Pairwise (· < ·) → ys.Pairwise (· < ·) → (∀ x, x ∈ xs ↔ x ∈ ys) → xs = ys
  | [], [], _, _, _ => rfl
  | [], y :: ys, _, _, h => by have := (h y).2 (List.mem_cons_self ..); cases this
  | x :: xs, [], _, _, h => by have := (h x).1 (List.mem_cons_self ..); cases this
  | x :: xs, y :: ys, hx, hy, h => by
    obtain ⟨hx1, hx2⟩ := List.pairwise_cons.1 hx
    obtain ⟨hy1, hy2⟩ := List.pairwise_cons.1 hy
    have e : x = y := by
      rcases List.mem_cons.1 ((h x).1 (List.mem_cons_self ..)) with e | m
      · exact e
      · rcases List.mem_cons.1 ((h y).2 (List.mem_cons_self ..)) with e | m'
        · exact e.symm
        · have := hy1 x m; have := hx1 y m'; omega
    subst e
    rw [strict_eq xs ys hx2 hy2 fun z => ⟨fun hz => by
      rcases List.mem_cons.1 ((h z).1 (List.mem_cons_of_mem _ hz)) with e | m
      · have := hx1 z hz; omega
      · exact m, fun hz => by
      rcases List.mem_cons.1 ((h z).2 (List.mem_cons_of_mem _ hz)) with e | m
      · have := hy1 z hz; omega
      · exact m⟩]
theorem le_at {zs : List Int} (h : zs.Pairwise (· ≤ ·)) {i j : Nat} (hij : i ≤ j) (hj : j < zs.length) : zs.toArray[i]! ≤ zs.toArray[j]! := by
  have hi : i < zs.length := by omega
  simp only [getElem!_pos zs.toArray i (by simpa using hi), getElem!_pos zs.toArray j (by simpa using hj), List.getElem_toArray]
  rcases Nat.lt_or_eq_of_le hij with h1 | h1
  · exact List.pairwise_iff_getElem.1 h i j hi hj h1
  · subst h1; exact Int.le_refl _
theorem compact_strict {zs : List Int} (h : zs.Pairwise (· ≤ ·)) : (compact zs).Pairwise (· < ·) := by
  unfold compact compactUpTo
  rw [List.pairwise_map]
  refine List.Pairwise.imp_of_mem ?_ ((List.pairwise_lt_range).filter _)
  intro i j hi hj hij
  have hj1 := (List.mem_filter.1 hj).1
  have hj2 := (List.mem_filter.1 hj).2
  rw [List.mem_range] at hj1
  unfold keeps at hj2
  have hne : zs.toArray[j]! ≠ zs.toArray[j - 1]! := by
    rcases of_decide_eq_true hj2 with h0 | h0
    · omega
    · exact h0
  have h1 := le_at h (show i ≤ j - 1 by omega) (by omega)
  have h2 := le_at h (show j - 1 ≤ j by omega) hj1
  omega
theorem compact_at (zs : List Int) : ∀ j, j < zs.length → zs.toArray[j]! ∈ compact zs
  | 0, hj => List.mem_map.2 ⟨0, List.mem_filter.2 ⟨List.mem_range.2 hj, by simp [keeps]⟩, rfl⟩
  | j + 1, hj => by
    by_cases h : zs.toArray[j + 1]! = zs.toArray[j]!
    · rw [h]; exact compact_at zs j (by omega)
    · exact List.mem_map.2 ⟨j + 1, List.mem_filter.2 ⟨List.mem_range.2 hj, by unfold keeps; exact decide_eq_true (.inr h)⟩, rfl⟩
theorem compact_mem (zs : List Int) (x : Int) : x ∈ compact zs ↔ x ∈ zs := by
  constructor
  · intro h
    obtain ⟨j, hj, rfl⟩ := List.mem_map.1 h
    have hj1 := List.mem_range.1 (List.mem_filter.1 hj).1
    rw [getElem!_pos zs.toArray j (by simpa using hj1), List.getElem_toArray]
    exact List.getElem_mem _
  · intro h
    obtain ⟨j, hj, rfl⟩ := List.getElem_of_mem h
    have := compact_at zs j hj
    rwa [getElem!_pos zs.toArray j (by simpa using hj), List.getElem_toArray] at this
/-- the first letter of a phrase that can be written -/
def flIx (xs : List ByteArray) (s : ByteArray) : Int := ((sps xs s).headD []).headD 0
def flHas (xs : List ByteArray) (ps : List ByteArray) (k : Nat) : Bool := ps.any fun s => decide (flIx xs s = (k : Int))
def flTo (xs : List ByteArray) (ps : List ByteArray) (k : Nat) : List Int := ((List.range k).filter (flHas xs ps)).map (fun i : Nat => (i : Int))
theorem flTo_succ (xs ps : List ByteArray) (k : Nat) : flTo xs ps (k + 1) = if flHas xs ps k = true then flTo xs ps k ++ [(k : Int)] else flTo xs ps k := by
  unfold flTo
  rw [List.range_succ, List.filter_append, List.map_append]
  cases h : flHas xs ps k <;> simp [h]
theorem flTo_len (xs ps : List ByteArray) (k : Nat) : (flTo xs ps k).length ≤ k := by
  unfold flTo
  rw [List.length_map]
  have := List.length_filter_le (flHas xs ps) (List.range k)
  simpa using this
theorem fl_same (xs ps : List ByteArray) (h : ∀ s ∈ ps, ∃ k : Nat, k < xs.length ∧ flIx xs s = (k : Int)) :
    compact ((ps.map (flIx xs)).mergeSort fun x y => decide (x ≤ y)) = flTo xs ps xs.length := by
  refine strict_eq _ _ (compact_strict ?_) ?_ fun x => ?_
  · refine (List.pairwise_mergeSort (le := fun x y : Int => decide (x ≤ y)) (fun a b c h1 h2 => ?_) (fun a b => ?_) (ps.map (flIx xs))).imp fun h => of_decide_eq_true h
    · have := of_decide_eq_true h1; have := of_decide_eq_true h2; exact decide_eq_true (by omega)
    · rcases Int.le_total a b with h | h
      · simp [h]
      · simp [h]
  · unfold flTo
    rw [List.pairwise_map]
    exact ((List.pairwise_lt_range).filter _).imp fun h => by omega
  · rw [compact_mem, List.mem_mergeSort]
    unfold flTo flHas
    constructor
    · intro hx
      obtain ⟨s, hs, rfl⟩ := List.mem_map.1 hx
      obtain ⟨k, hk, e⟩ := h s hs
      exact List.mem_map.2 ⟨k, List.mem_filter.2 ⟨List.mem_range.2 hk, List.any_eq_true.2 ⟨s, hs, decide_eq_true e⟩⟩, e.symm⟩
    · intro hx
      obtain ⟨k, hk, rfl⟩ := List.mem_map.1 hx
      obtain ⟨s, hs, e⟩ := List.any_eq_true.1 (List.mem_filter.1 hk).2
      exact List.mem_map.2 ⟨s, hs, of_decide_eq_true e⟩
end Go.Proofs.YticplogaaholfaaDoor
