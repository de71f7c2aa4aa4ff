/- Lists of numbers read by the library: what impl's readNumbers computes. -/
import Derived.Test.YtjgcbnngjfchhaaDoorReadC
namespace Go.Proofs.YtjgcbnngjfchhaaDoor
open Go.ChangeShapes Go.WideShapes Go.ChangeAt Go.RowKit

theorem own_monoD {w : World} {base base' : Nat} {e : TypeId} {size : Nat} {v : Value} {n : Nat} {xs : List Value} (h : w.ownsRow base e size v n xs) (hb : base' ≤ base) : w.ownsRow base' e size v n xs :=
  ⟨h.1, h.2.imp id fun ⟨g, cap, cur, a, b, r⟩ => ⟨g, cap, cur, a, Nat.le_trans hb b, r⟩⟩
def rOkT (s : ByteArray) : Bool := rOk s.data.toList
def rNumT (s : ByteArray) : Int := rNum s.data.toList
def rNumsOf (L : List ByteArray) : List Int := if L.all rOkT = true then L.map rNumT else []
theorem rnums_no {L : List ByteArray} {k : Nat} {x : ByteArray} (h : L[k]? = some x) (hx : rOkT x = false) : L.all rOkT = false ∧ rNumsOf L = [] := by
  have : L.all rOkT = false := by
    rw [List.all_eq_false]
    exact ⟨x, List.mem_of_getElem? h, by simp [hx]⟩
  unfold rNumsOf
  rw [this]
  exact ⟨rfl, rfl⟩
theorem rnums_step {L : List ByteArray} {k : Nat} {x : ByteArray} (h : L[k]? = some x) (hx : rOkT x = true) (ha : (L.take k).all rOkT = true) : (L.take (k + 1)).all rOkT = true ∧ (L.take (k + 1)).map rNumT = (L.take k).map rNumT ++ [rNumT x] := by
  rw [List.take_add_one, h]
  simp [ha, hx]
theorem rnums_end {L : List ByteArray} {k : Nat} (hk : L.length ≤ k) (ha : (L.take k).all rOkT = true) : L.all rOkT = true ∧ rNumsOf L = (L.take k).map rNumT := by
  rw [List.take_of_length_le hk] at ha ⊢
  unfold rNumsOf
  rw [ha]
  exact ⟨rfl, rfl⟩
end Go.Proofs.YtjgcbnngjfchhaaDoor
