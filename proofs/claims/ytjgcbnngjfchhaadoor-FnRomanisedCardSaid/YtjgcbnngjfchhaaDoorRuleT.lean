/- The text of a rule. -/
import Derived.Test.YtjgcbnngjfchhaaDoorMrgA
import Derived.Test.YtjgcbnngjfchhaaDoorRuleA
namespace Go.Proofs.YtjgcbnngjfchhaaDoor
open Go.ChangeShapes Go.WideShapes Go.ChangeAt Go.RowKit

def rtext (x : Rl) : ByteArray := jn 43 (x.1.map numT) ++ ⟨#[61]⟩ ++ x.2
def rxText (x : Rl) : ByteArray := if isRl x = true then rtext x else ⟨#[]⟩
def rxCode (x : Rl) : Int := if isRl x = true then 0 else 1
theorem sg_num {most : Int} {xs : List Int} (h : sgB most xs = true) : xs.all numB = true := by
  unfold sgB at h
  rw [Bool.and_eq_true] at h
  rw [List.all_eq_true]
  intro i hi
  have := List.all_eq_true.1 h.1 i hi
  unfold inB at this
  have := of_decide_eq_true this
  exact decide_eq_true (by omega)
theorem rl_num {xs : List Int} {r : ByteArray} (h : isRl (xs, r) = true) : xs.all numB = true := by
  unfold isRl at h
  rw [Bool.and_eq_true] at h
  exact sg_num h.1
theorem rl_sizes {xs : List Int} {r : ByteArray} (h : isRl (xs, r) = true) : (jn 43 (xs.map numT)).size ≤ 100 ∧ r.size ≤ 4 := by
  have h1 := isRl_len h
  have h2 := nums_total (rl_num h)
  have h3 := jn_size 43 (xs.map numT)
  rw [List.length_map] at h3
  exact ⟨by omega, h1.2.2⟩
end Go.Proofs.YtjgcbnngjfchhaaDoor
