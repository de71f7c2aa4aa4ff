/- Rules with one left out, in memory of the call's own. Over any program: nothing is claimed of a Go function here. -/
import Derived.Test.YtjgcbnngjfchhaaDoorOwnRules
namespace Go.Proofs.YtjgcbnngjfchhaaDoor
open Go.ChangeShapes Go.WideShapes Go.ChangeAt Go.RowKit

def cutR (T : List Rl) (i : Nat) : List Rl := T.take i ++ T.drop (i + 1)
theorem cutR_len {T : List Rl} {i : Nat} (h : i < T.length) : (cutR T i).length = T.length - 1 := by
  unfold cutR
  simp
  omega
theorem cut_at_low {α : Type} {cs : List α} {k j : Nat} (h : j < k) (hk : k ≤ cs.length) (m : Nat) : (cs.take k ++ cs.drop m)[j]? = cs[j]? := by
  rw [List.getElem?_append_left (by simp; omega), List.getElem?_take_of_lt h]
theorem cut_at_high {α : Type} {cs : List α} {k j m : Nat} (h : k ≤ j) (hk : k ≤ cs.length) : (cs.take k ++ cs.drop m)[j]? = cs[m + (j - k)]? := by
  rw [List.getElem?_append_right (by simp; omega), List.getElem?_drop]
  congr 1
  simp
  omega
theorem rules_cut {w w' : World} {A : Option Addr} {n c i base : Nat} {T : List Rl} {cs : List Value} {v : Value} {e : TypeId} (hn : n = T.length) (hl : cs.length = n * 2)
    (hcs : ∀ i, i < n → ∃ B m d xs r, T[i]? = some (xs, r) ∧ cs[i * 2]? = some (.slice B m d) ∧ cs[i * 2 + 1]? = some (.string r) ∧ Ints w B m d xs ∧ r.size ≤ maxLen)
    (hi : i < n) (hb : Below w.heap.size w w') (hown : w'.ownsRow base e 2 v (n - 1) (cs.take (i * 2) ++ cs.drop ((i + 1) * 2))) :
    ∃ A' c', v = .slice A' (n - 1) c' ∧ Rules w' A' (n - 1) c' (cutR T i) := by
  have key : ∀ A' c', v = .slice A' (n - 1) c' → Rules w' A' (n - 1) c' (cutR T i) := fun A' c' hv => by
    subst hv
    refine ⟨by rw [cutR_len (by omega)]; omega, _, Reads.of_own hown, fun j hj => ?_⟩
    unfold cutR
    by_cases hji : j < i
    · obtain ⟨B, m, d, xs, r, a1, a2, a3, a4, a5⟩ := hcs j (by omega)
      refine ⟨B, m, d, xs, r, ?_, ?_, ?_, a4.below hb, a5⟩
      · rw [cut_at_low hji (by omega)]; exact a1
      · rw [cut_at_low (by omega) (by omega)]; exact a2
      · rw [cut_at_low (by omega) (by omega)]; exact a3
    · obtain ⟨B, m, d, xs, r, a1, a2, a3, a4, a5⟩ := hcs (j + 1) (by omega)
      refine ⟨B, m, d, xs, r, ?_, ?_, ?_, a4.below hb, a5⟩
      · rw [cut_at_high (by omega) (by omega), show i + 1 + (j - i) = j + 1 by omega]; exact a1
      · rw [cut_at_high (by omega) (by omega), show (i + 1) * 2 + (j * 2 - i * 2) = (j + 1) * 2 by omega]; exact a2
      · rw [cut_at_high (by omega) (by omega), show (i + 1) * 2 + (j * 2 + 1 - i * 2) = (j + 1) * 2 + 1 by omega]; exact a3
  rcases hown.2 with ⟨hv, h0⟩ | ⟨g, cap, cur, hv, _⟩
  · subst hv
    refine ⟨none, 0, by rw [h0], ?_⟩
    exact key none 0 (by rw [h0])
  · exact ⟨_, _, hv, key _ _ hv⟩
end Go.Proofs.YtjgcbnngjfchhaaDoor
