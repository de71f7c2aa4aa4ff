/- Sorting by insertion: plain law. Nothing is claimed of a Go function here. -/
import Derived.Test.YtpnbbhomkneflaaGreatDoorSortJ
namespace Go.Proofs.YtpnbbhomkneflaaGreatDoor
open Go.RowKit
/-- where a thing goes that is smaller than what f holds of, from place j downwards -/
def posR (f : ByteArray → Bool) (S : List ByteArray) : Nat → Nat
  | 0 => 0
  | j + 1 => if f (S.getD j ⟨#[]⟩) = true then posR f S j else j + 1
theorem posR_le (f : ByteArray → Bool) (S : List ByteArray) : ∀ j, posR f S j ≤ j
  | 0 => Nat.le_refl _
  | j + 1 => by
    unfold posR
    split
    · have := posR_le f S j; omega
    · exact Nat.le_refl _
theorem posR_go {f : ByteArray → Bool} {S : List ByteArray} {j : Nat} (h : f (S.getD j ⟨#[]⟩) = true) : posR f S (j + 1) = posR f S j := by
  conv => lhs; unfold posR
  rw [if_pos h]
theorem posR_stay {f : ByteArray → Bool} {S : List ByteArray} {j : Nat} (h : f (S.getD j ⟨#[]⟩) = false) : posR f S (j + 1) = j + 1 := by
  conv => lhs; unfold posR
  rw [if_neg (by rw [h]; simp)]
def lssB (xs : List ByteArray) (ig : List Int) (x y : ByteArray) : Bool := decide (cmpP xs ig x y < 0)
def insR (xs : List ByteArray) (ig : List Int) (x : ByteArray) (S : List ByteArray) : List ByteArray :=
  S.take (posR (lssB xs ig x) S S.length) ++ [x] ++ S.drop (posR (lssB xs ig x) S S.length)
theorem insR_len (xs : List ByteArray) (ig : List Int) (x : ByteArray) (S : List ByteArray) : (insR xs ig x S).length = S.length + 1 := by
  unfold insR
  have := posR_le (lssB xs ig x) S S.length
  simp only [List.length_append, List.length_take, List.length_drop, List.length_cons, List.length_nil]
  omega
theorem insR_mem {xs : List ByteArray} {ig : List Int} {x : ByteArray} {S : List ByteArray} {y : ByteArray} (h : y ∈ insR xs ig x S) : y = x ∨ y ∈ S := by
  unfold insR at h
  rcases List.mem_append.1 h with h | h
  · rcases List.mem_append.1 h with h | h
    · exact .inr (List.mem_of_mem_take h)
    · exact .inl (List.mem_singleton.1 h)
  · exact .inr (List.mem_of_mem_drop h)
/-- the first k of a list, put in their places one behind the other -/
def srt (xs : List ByteArray) (ig : List Int) (ps : List ByteArray) : Nat → List ByteArray
  | 0 => []
  | k + 1 => insR xs ig (ps.getD k ⟨#[]⟩) (srt xs ig ps k)
theorem srt_len (xs : List ByteArray) (ig : List Int) (ps : List ByteArray) : ∀ k, (srt xs ig ps k).length = k
  | 0 => rfl
  | k + 1 => by unfold srt; rw [insR_len, srt_len xs ig ps k]
theorem srt_mem {xs : List ByteArray} {ig : List Int} {ps : List ByteArray} : ∀ {k : Nat}, k ≤ ps.length → ∀ y ∈ srt xs ig ps k, y ∈ ps
  | 0, _, y, h => by cases h
  | k + 1, hk, y, h => by
    unfold srt at h
    rcases insR_mem h with h | h
    · rw [h, List.getD_eq_getElem?_getD, List.getElem?_eq_getElem (by omega)]
      exact List.getElem_mem _
    · exact srt_mem (by omega) y h
theorem srt_succ {xs : List ByteArray} {ig : List Int} {ps : List ByteArray} {k : Nat} {x : ByteArray} (h : ps[k]? = some x) : srt xs ig ps (k + 1) = insR xs ig x (srt xs ig ps k) := by
  conv => lhs; unfold srt
  rw [List.getD_eq_getElem?_getD, h]
  rfl
/-- the row while x walks to its place: it stands at j of S -/
def midS (S : List ByteArray) (x : ByteArray) (j : Nat) (R : List ByteArray) : List ByteArray := S.take j ++ x :: (S.drop j ++ R)
theorem midS_len {S : List ByteArray} {x : ByteArray} {j : Nat} {R : List ByteArray} (h : j ≤ S.length) : (midS S x j R).length = S.length + 1 + R.length := by
  unfold midS
  simp
  omega
theorem midS_at {S : List ByteArray} {x : ByteArray} {j : Nat} {R : List ByteArray} (h : j ≤ S.length) : (midS S x j R)[j]? = some x := by
  unfold midS
  rw [List.getElem?_append_right (by simp; omega), List.length_take, Nat.min_eq_left h, Nat.sub_self]
  rfl
theorem midS_before {S : List ByteArray} {x : ByteArray} {j : Nat} {R : List ByteArray} (h : j < S.length) : (midS S x (j + 1) R)[j]? = S[j]? := by
  unfold midS
  rw [List.getElem?_append_left (by simp; omega), List.getElem?_take_of_lt (by omega)]
theorem midS_swap {S : List ByteArray} {x y : ByteArray} {j : Nat} {R : List ByteArray} (h : S[j]? = some y) : ((midS S x (j + 1) R).set (j + 1) y).set j x = midS S x j R := by
  have hj := (List.getElem?_eq_some_iff.1 h).1
  have hl := midS_len (x := x) (R := R) (show j + 1 ≤ S.length by omega)
  have hl2 := midS_len (x := x) (R := R) (show j ≤ S.length by omega)
  apply List.ext_getElem?
  intro i
  by_cases e : i = j
  · subst e
    rw [List.getElem?_set_self (by rw [List.length_set]; omega), midS_at (by omega)]
  · rw [List.getElem?_set_ne (fun e' => e e'.symm)]
    by_cases e2 : i = j + 1
    · subst e2
      rw [List.getElem?_set_self (by omega)]
      unfold midS
      rw [List.getElem?_append_right (by simp; omega), List.length_take, Nat.min_eq_left (by omega), show j + 1 - j = 1 by omega]
      rw [List.getElem?_cons_succ, List.getElem?_append_left (by simp; omega), List.getElem?_drop]
      exact h.symm
    · rw [List.getElem?_set_ne (fun e' => e2 e'.symm)]
      unfold midS
      by_cases e3 : i < j
      · rw [List.getElem?_append_left (by simp; omega), List.getElem?_append_left (by simp; omega), List.getElem?_take_of_lt (by omega), List.getElem?_take_of_lt e3]
      · rw [List.getElem?_append_right (by simp; omega), List.getElem?_append_right (by simp; omega), List.length_take, List.length_take, Nat.min_eq_left (by omega), Nat.min_eq_left (by omega)]
        obtain ⟨a, rfl⟩ : ∃ a, i = j + 1 + 1 + a := ⟨i - (j + 2), by omega⟩
        rw [show j + 1 + 1 + a - (j + 1) = a + 1 by omega, show j + 1 + 1 + a - j = a + 1 + 1 by omega, List.getElem?_cons_succ, List.getElem?_cons_succ]
        rw [show S.drop j = y :: S.drop (j + 1) from drop_cons h]
        rfl
theorem midS_end {S : List ByteArray} {x : ByteArray} {R : List ByteArray} : midS S x S.length R = S ++ x :: R := by
  unfold midS
  rw [List.take_length, List.drop_length]
  rfl
theorem midS_done {xs : List ByteArray} {ig : List Int} {S : List ByteArray} {x : ByteArray} {j : Nat} {R : List ByteArray} (h : posR (lssB xs ig x) S S.length = j) : midS S x j R = insR xs ig x S ++ R := by
  unfold midS insR
  rw [h]
  simp
end Go.Proofs.YtpnbbhomkneflaaGreatDoor
