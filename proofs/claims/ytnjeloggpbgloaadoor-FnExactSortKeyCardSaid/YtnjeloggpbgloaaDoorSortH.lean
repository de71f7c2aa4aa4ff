/- ComparePhrases and CompareWords: the program's and the reference's. -/
import Derived.Test.YtnjeloggpbgloaaDoorSortG
import Derived.Test.YtnjeloggpbgloaaDoorJoin
namespace Go.Proofs.YtnjeloggpbgloaaDoor
open Go.ChangeShapes Go.WideShapes Go.ChangeAt Go.RowKit
theorem ns_zero {xs : List ByteArray} {ig : List Int} {ps : List ByteArray} (h : nsCode xs ig ps = 0) : isAlpha xs = true ∧ ps.all isPhrase = true ∧ ps.all (spAll xs) = true := by
  rcases ns_cases xs ig ps with ⟨_, e⟩ | ⟨_, _, e⟩ | ⟨_, _, _, e⟩ | ⟨_, _, _, _, e⟩ | ⟨a, b, _, c, _⟩
  · rw [e.out] at h; cases h
  · rw [e.out] at h; cases h
  · rw [e.out] at h; cases h
  · rw [e.out] at h; cases h
  · exact ⟨a, b, c⟩
def cpVal (xs : List ByteArray) (ig : List Int) (s t : ByteArray) : Int := if nsCode xs ig [s, t] = 0 then cmpP xs ig s t else 0
theorem cp_code (xs : List ByteArray) (ig : List Int) (s t : ByteArray) : l6Code xs ig [s, t] = nsCode xs ig [s, t] := by
  unfold l6Code
  split
  · rename_i h; rw [h]; simp
  · rfl
theorem strs_twoS (w : World) (s t : ByteArray) (ty : TypeId) (hs : s.size ≤ 1048576) (ht : t.size ≤ 1048576) : Strs (w.alloc (.cells #[.string s, .string t] ty)) (some ⟨w.heap.size, 0, none⟩) 2 2 [s, t] :=
  strs_alloc w [s, t] ty (by unfold maxLen; simp) (by unfold maxLen; simp; omega)
/-! ## words -/
theorem word_cut {s : ByteArray} (h : isWord s = true) : cutS 32 s = [s] := by
  have := cutS_joined (xs := [s]) (by simp [h]) (by simp)
  rwa [joined_one] at this
theorem word_phrase {s : ByteArray} (h : isWord s = true) : isPhrase s = true := by
  unfold isPhrase
  rw [word_cut h]
  simp [h]
theorem cmpL_one (x y : List Int) : cmpL [x] [y] = cmpI x y := by
  unfold cmpL
  unfold cmpG
  split
  · rename_i h; rw [h]; rfl
  · rfl
theorem cmpP_words {xs : List ByteArray} {s t : ByteArray} (h1 : isWord s = true) (h2 : isWord t = true) : cmpP xs [] s t = cmpI (spellList xs s) (spellList xs t) := by
  have e : onceP xs [] s t = cmpI (spellList xs s) (spellList xs t) := by
    rw [onceP_nil]
    unfold sps
    rw [word_cut h1, word_cut h2]
    exact cmpL_one _ _
  unfold cmpP
  split
  · exact e
  · exact e
theorem spAll_word {xs : List ByteArray} {s : ByteArray} (h : isWord s = true) : spAll xs s = spellOk xs s := by
  unfold spAll
  rw [word_cut h]
  simp
def cwrOk (xs : List ByteArray) (s t : ByteArray) : Bool := isAlpha xs && isWord s && isWord t
def cwrCode (xs : List ByteArray) (s t : ByteArray) : Int := if cwrOk xs s t = true then if (spellOk xs s && spellOk xs t) = true then 0 else 4 else 1
def cwrVal (xs : List ByteArray) (s t : ByteArray) : Int := if cwrCode xs s t = 0 then cmpI (spellList xs s) (spellList xs t) else 0
theorem cwr_impl (xs : List ByteArray) (s t : ByteArray) : (isWord s && isWord t) = true → nsCode xs [] [s, t] = cwrCode xs s t ∧ cpVal xs [] s t = cwrVal xs s t := fun h => by
  rw [Bool.and_eq_true] at h
  have e : nsCode xs [] [s, t] = cwrCode xs s t := by
    unfold nsCode cwrCode cwrOk
    simp [h.1, h.2, word_phrase h.1, word_phrase h.2, spAll_word h.1, spAll_word h.2]
  refine ⟨e, ?_⟩
  unfold cpVal cwrVal
  rw [e, cmpP_words h.1 h.2]
theorem cwr_bad {xs : List ByteArray} {s t : ByteArray} (h : cwrOk xs s t = false) : Hid (cwrCode xs s t = 1 ∧ cwrVal xs s t = 0) := by
  have e : cwrCode xs s t = 1 := by unfold cwrCode; rw [h]; rfl
  exact ⟨e, by unfold cwrVal; rw [e]; rfl⟩
end Go.Proofs.YtnjeloggpbgloaaDoor
