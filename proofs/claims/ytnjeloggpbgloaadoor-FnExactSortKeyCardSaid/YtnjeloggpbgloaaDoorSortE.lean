/- Phrases compared: the program's less and compare. -/
import Derived.Test.YtnjeloggpbgloaaDoorSortD
namespace Go.Proofs.YtnjeloggpbgloaaDoor
open Go.ChangeShapes Go.WideShapes Go.ChangeAt Go.RowKit
theorem spell_lens (xs : List ByteArray) {s : ByteArray} (h : isPhrase s = true) : (sps xs s).length ≤ 8 ∧ ∀ l ∈ sps xs s, l.length ≤ 16 := by
  obtain ⟨h1, h2⟩ := phrase_words h
  unfold sps
  refine ⟨by rw [List.length_map]; exact h1, fun l hl => ?_⟩
  obtain ⟨t, ht, rfl⟩ := List.mem_map.1 hl
  have := spellList_len xs t
  have := h2 t ht
  omega
theorem phrase_size_ {s : ByteArray} (h : isPhrase s = true) (hs : s.size ≤ maxLen) : s.size ≤ maxLen := hs
theorem orI_two (a b : Int) : orI [a, b] = if a = 0 then b else a := by
  unfold orI
  by_cases h : a = 0
  · rw [if_pos h, if_pos h]
    unfold orI
    by_cases h2 : b = 0
    · rw [if_pos h2, h2]; rfl
    · rw [if_neg h2]
  · rw [if_neg h, if_neg h]
theorem ints_lit2 (w : World) (a b : Int) (t : TypeId) : Ints (w.alloc (.cells #[.int .i64 a, .int .i64 b] t)) (some ⟨w.heap.size, 0, none⟩) 2 2 [a, b] :=
  ⟨rfl, ⟨Nat.le_refl _, by unfold maxLen; omega, rfl, fun _ => ⟨w.heap.size, 0, rfl, by simp, fun j u hu => by
    rw [Nat.zero_add]
    match j, hu with
    | 0, hu => simp at hu; subst hu; go_simp
    | 1, hu => simp at hu; subst hu; go_simp
    | j + 2, hu => simp at hu⟩⟩⟩
end Go.Proofs.YtnjeloggpbgloaaDoor
