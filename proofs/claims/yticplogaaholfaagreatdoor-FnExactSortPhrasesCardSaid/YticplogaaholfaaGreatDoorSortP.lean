/- SortPhrases: what the frame asks of the answer. -/
import Derived.Test.YticplogaaholfaaGreatDoorSortO
namespace Go.Proofs.YticplogaaholfaaGreatDoor
open Go.RowKit
theorem spv_len (xs : List ByteArray) (ig : List Int) (ps : List ByteArray) : (spVal xs ig ps).length ≤ 20 := by
  unfold spVal
  split
  · rename_i h
    rw [srt_len]
    exact (l6_zero h).2.2.2
  · simp
theorem spv_mem {xs : List ByteArray} {ig : List Int} {ps : List ByteArray} {y : ByteArray} (h : y ∈ spVal xs ig ps) : y ∈ ps := by
  unfold spVal at h
  split at h
  · exact srt_mem (Nat.le_refl _) y h
  · cases h
end Go.Proofs.YticplogaaholfaaGreatDoor
