/- Numbers read from a text: what the reference's functions compute. -/
import Derived.Test.YtjgcbnngjfchhaaDoorMrgA
namespace Go.Proofs.YtjgcbnngjfchhaaDoor
open Go.ChangeShapes Go.WideShapes Go.ChangeAt Go.RowKit

theorem text_dec (s t : ByteArray) : (s.toList == t.toList) = decide (s = t) := by
  by_cases h : s = t
  · subst h; simp
  · rw [text_ne h]; simp [h]
theorem dig_u8 (c : UInt8) : isDig c = decide (¬ ((c.toNat : Int) < 48) ∧ ¬ (57 < (c.toNat : Int))) := by
  unfold isDig
  apply decide_eq_decide.2
  omega
theorem val_step {s : ByteArray} {k q : Nat} (hk : k < s.size) (h13 : s.size ≤ 13) (h : (s.data.toList.take k).all isDig = true ∧ dval (s.data.toList.take k) = q) (hc : isDig s[k] = true) :
    ∃ q2 : Nat, (10 * (q : Int) + ((s[k].toNat : Int) - 48) = q2) ∧ q2 < 10000000000000 ∧ (s.data.toList.take (k + 1)).all isDig = true ∧ dval (s.data.toList.take (k + 1)) = q2 := by
  have ha := all_upto hk h.1 hc
  have hl := dval_lt _ ha
  have h10 : (10 : Nat) ^ (s.data.toList.take (k + 1)).length ≤ 10 ^ 13 := Nat.pow_le_pow_right (by omega) (by simp; omega)
  have e13 : (10 : Nat) ^ 13 = 10000000000000 := by decide
  have hd : dval (s.data.toList.take (k + 1)) = q * 10 + (s[k].toNat - 48) := by
    rw [List.take_succ_eq_append_getElem (by simpa using hk), dval_snoc, h.2]; rfl
  unfold isDig at hc
  have := of_decide_eq_true hc
  exact ⟨_, by rw [hd]; omega, by omega, ha, rfl⟩
theorem vNum_bd (l : List UInt8) : 0 ≤ vNum l ∧ vNum l < 10000000000000 := by
  unfold vNum
  split
  · rename_i h
    unfold vLen at h
    rw [Bool.and_eq_true] at h
    have h2 := of_decide_eq_true h.1
    have h3 := dval_lt l h.2
    have h4 : (10 : Nat) ^ l.length ≤ 10 ^ 13 := Nat.pow_le_pow_right (by omega) h2.2
    have : (10 : Nat) ^ 13 = 10000000000000 := by decide
    omega
  · omega
theorem head_tail {s : ByteArray} (h : 0 < s.size) : s.data.toList = s[0] :: (s.extract 1 s.size).data.toList := by
  have hl : 0 < s.data.toList.length := by simpa using h
  rw [← ext_list, List.take_of_length_le (by simp)]
  have := List.drop_eq_getElem_cons hl
  rw [List.drop_zero] at this
  exact this
theorem sgn_minus {s : ByteArray} (h : 0 < s.size) (hc : s[0] = 45) : sNum s.data.toList = -vNum (s.extract 1 s.size).data.toList ∧ sOk s.data.toList = (vOk (s.extract 1 s.size).data.toList && decide (0 < vNum (s.extract 1 s.size).data.toList)) := by
  rw [head_tail h, hc]
  exact ⟨rfl, rfl⟩
theorem sgn_plain {s : ByteArray} (h : s.size = 0 ∨ ∃ h : 0 < s.size, s[0] ≠ 45) : sNum s.data.toList = vNum s.data.toList ∧ sOk s.data.toList = vOk s.data.toList := by
  rcases h with h | ⟨h, hc⟩
  · have : s.data.toList = [] := List.eq_nil_of_length_eq_zero (by simpa using h)
    rw [this]
    exact ⟨rfl, rfl⟩
  · have e := head_tail h
    generalize (s.extract 1 s.size).data.toList = r at e
    rw [e]
    unfold sNum sOk
    simp only [if_neg hc]
    exact ⟨trivial, trivial⟩
end Go.Proofs.YtjgcbnngjfchhaaDoor
