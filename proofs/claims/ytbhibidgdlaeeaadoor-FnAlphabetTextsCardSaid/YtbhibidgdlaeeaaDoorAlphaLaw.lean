/- An alphabet is recovered from its text: plain law. Nothing is claimed of a Go function here. -/
import Derived.Test.YtbhibidgdlaeeaaDoorPhrasesLaw
import Derived.Test.YtbhibidgdlaeeaaDoorAlpha2
namespace Go.Proofs.YtbhibidgdlaeeaaDoor

theorem alpha_words {xs : List ByteArray} (h : isAlpha xs = true) : xs.all isWord = true ∧ 1 ≤ xs.length ∧ xs.length ≤ 40 := by
  unfold isAlpha at h
  rw [Bool.and_eq_true] at h
  have hl := of_decide_eq_true h.2
  refine ⟨?_, hl⟩
  rw [List.all_eq_true]
  intro x hx
  obtain ⟨k, hk, rfl⟩ := List.mem_iff_getElem.1 hx
  have hq := List.all_eq_true.1 h.1 k (List.mem_range.2 hk)
  unfold alphaAt at hq
  rw [List.getElem?_eq_getElem hk] at hq
  simp only [Bool.and_eq_true] at hq
  have hs := hq.1
  unfold small at hs
  unfold isWord small
  rw [Bool.and_eq_true] at hs ⊢
  have := of_decide_eq_true hs.2
  exact ⟨hs.1, decide_eq_true (by omega)⟩
theorem al_there {xs : List ByteArray} (h : alCode xs = 0) : raCode (alText xs) = 0 ∧ raList (alText xs) = xs := by
  unfold alCode at h
  split at h
  · rename_i ha
    obtain ⟨h1, h2, _⟩ := alpha_words ha
    have hc := cutS_joined h1 (fun e => by rw [e] at h2; simp at h2)
    unfold alText raCode raList
    rw [if_pos ha, hc, if_pos ha, if_pos ha]
    exact ⟨rfl, rfl⟩
  · omega
theorem al_back {s : ByteArray} (h : raCode s = 0) : alCode (raList s) = 0 ∧ alText (raList s) = s := by
  unfold raCode at h
  split at h
  · rename_i ha
    have hr : raList s = cutS 32 s := by unfold raList; rw [if_pos ha]
    rw [hr]
    unfold alCode alText
    rw [if_pos ha, if_pos ha]
    exact ⟨rfl, joined_cut s⟩
  · omega
theorem ra_mem {s x : ByteArray} (h : x ∈ raList s) : x.size ≤ s.size := by
  unfold raList at h
  split at h
  · exact cutS_each h
  · simp at h
theorem ra_len (s : ByteArray) : (raList s).length ≤ 40 := by
  unfold raList
  split
  · rename_i h
    exact (alpha_words h).2.2
  · simp
theorem ra_codes (s : ByteArray) : raCode s = 0 ∨ raCode s = 6 := by unfold raCode; split <;> simp
theorem al_code (xs : List ByteArray) : (alCode xs = 0 ∧ isAlpha xs = true) ∨ (alCode xs = 1 ∧ isAlpha xs = false) := by
  unfold alCode
  cases isAlpha xs <;> simp
theorem al_size {xs : List ByteArray} (h : ∀ x ∈ xs, x.size ≤ 4) (h2 : xs.length ≤ 60) : (alText xs).size ≤ 1000 := by
  unfold alText
  split
  · have h1 := joined_size xs
    have h3 : total xs ≤ xs.length * 4 := total_le h
    omega
  · decide
end Go.Proofs.YtbhibidgdlaeeaaDoor
