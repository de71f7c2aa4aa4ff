/- Alphabets' texts: what the functions compute. -/
import Derived.Test.YtfacbdliegemgaaDoorAlpha
namespace Go.Proofs.YtfacbdliegemgaaDoor
open Go.ChangeShapes Go.WideShapes Go.ChangeAt Go.RowKit

def alCode (xs : List ByteArray) : Int := if isAlpha xs = true then 0 else 1
def alText (xs : List ByteArray) : ByteArray := if isAlpha xs = true then joined xs else ⟨#[]⟩
theorem al_cases (xs : List ByteArray) : (isAlpha xs = true ∧ Hid (alCode xs = 0 ∧ alText xs = joined xs)) ∨ (isAlpha xs = false ∧ Hid (alCode xs = 1 ∧ alText xs = ⟨#[]⟩)) := by
  unfold Hid alCode alText
  cases isAlpha xs <;> simp

/-- ReadAlphabet's answer -/
def raList (s : ByteArray) : List ByteArray := if isAlpha (cutS 32 s) = true then cutS 32 s else []
def raCode (s : ByteArray) : Int := if isAlpha (cutS 32 s) = true then 0 else 6
theorem ra_cases (s : ByteArray) : (isAlpha (cutS 32 s) = true ∧ Hid (raCode s = 0 ∧ raList s = cutS 32 s)) ∨ (isAlpha (cutS 32 s) = false ∧ Hid (raCode s = 6 ∧ raList s = [])) := by
  unfold Hid raCode raList
  cases isAlpha (cutS 32 s) <;> simp
theorem ra_max {s : ByteArray} (hs : s.size ≤ 1048576) : (∀ x ∈ raList s, x.size ≤ maxLen) ∧ (raList s).length ≤ 40 := by
  unfold raList
  split
  · rename_i h
    refine ⟨(cut_max hs).2, ?_⟩
    simp [isAlpha] at h
    omega
  · simp
end Go.Proofs.YtfacbdliegemgaaDoor
