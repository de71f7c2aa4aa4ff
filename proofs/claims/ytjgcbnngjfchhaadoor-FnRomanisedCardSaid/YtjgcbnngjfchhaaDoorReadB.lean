/- Lists of numbers read from texts: what the reference's l01Numbers computes. -/
import Derived.Test.YtjgcbnngjfchhaaDoorReadA
namespace Go.Proofs.YtjgcbnngjfchhaaDoor
open Go.ChangeShapes Go.WideShapes Go.ChangeAt Go.RowKit

def sOkT (s : ByteArray) : Bool := sOk s.data.toList
def sNumT (s : ByteArray) : Int := sNum s.data.toList
def numsOf (L : List ByteArray) : List Int := if L.all sOkT = true then L.map sNumT else []
theorem nums_no {L : List ByteArray} {k : Nat} {x : ByteArray} (h : L[k]? = some x) (hx : sOkT x = false) : L.all sOkT = false ∧ numsOf L = [] := by
  have : L.all sOkT = false := by
    rw [List.all_eq_false]
    exact ⟨x, List.mem_of_getElem? h, by simp [hx]⟩
  unfold numsOf
  rw [this]
  exact ⟨rfl, rfl⟩
theorem nums_step {L : List ByteArray} {k : Nat} {x : ByteArray} (h : L[k]? = some x) (hx : sOkT x = true) (ha : (L.take k).all sOkT = true) : (L.take (k + 1)).all sOkT = true ∧ (L.take (k + 1)).map sNumT = (L.take k).map sNumT ++ [sNumT x] := by
  rw [List.take_add_one, h]
  simp [ha, hx]
theorem nums_end {L : List ByteArray} {k : Nat} (hk : L.length ≤ k) (ha : (L.take k).all sOkT = true) : L.all sOkT = true ∧ numsOf L = (L.take k).map sNumT := by
  rw [List.take_of_length_le hk] at ha ⊢
  unfold numsOf
  rw [ha]
  exact ⟨rfl, rfl⟩
end Go.Proofs.YtjgcbnngjfchhaaDoor
