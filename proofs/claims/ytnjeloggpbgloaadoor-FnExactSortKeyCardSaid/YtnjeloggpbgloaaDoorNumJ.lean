/- Numbers joined by a byte: what the functions compute. -/
import Derived.Test.YtnjeloggpbgloaaDoorNum
import Derived.Test.YtnjeloggpbgloaaDoorJoin
namespace Go.Proofs.YtnjeloggpbgloaaDoor
open Go.ChangeShapes Go.WideShapes Go.ChangeAt Go.RowKit

def jn (c : UInt8) (xs : List ByteArray) : ByteArray := ⟨(Lib.join (bytesOf xs) [c]).toArray⟩
theorem jn_nil (c : UInt8) : jn c [] = ⟨#[]⟩ := rfl
theorem jn_one (c : UInt8) (x : ByteArray) : jn c [x] = x := by
  unfold jn bytesOf
  rw [List.map_cons, List.map_nil, Lib.join_one]
theorem join_snoc_ (c : UInt8) (xs : List (List UInt8)) (x : List UInt8) (h : xs ≠ []) : Lib.join (xs ++ [x]) [c] = Lib.join xs [c] ++ ([c] ++ x) := by
  cases xs with
  | nil => exact absurd rfl h
  | cons y r =>
    rw [List.cons_append, Lib.join_cons, Lib.join_cons]
    unfold Lib.joinTail
    simp
theorem jn_snoc (c : UInt8) (xs : List ByteArray) (x : ByteArray) (h : xs ≠ []) : jn c (xs ++ [x]) = jn c xs ++ ⟨#[c]⟩ ++ x := by
  unfold jn bytesOf
  rw [List.map_append, List.map_cons, List.map_nil, join_snoc_ _ _ _ (by simpa using h)]
  apply ByteArray.ext
  simp [ByteArray.data_append]
theorem jn_size (c : UInt8) (xs : List ByteArray) : (jn c xs).size ≤ total xs + xs.length := by
  cases xs with
  | nil => simp [jn_nil, ByteArray.size]
  | cons x r =>
    have h := Lib.join_length x.data.toList (bytesOf r) [c]
    have e : (jn c (x :: r)).size = (Lib.join (x.data.toList :: bytesOf r) [c]).length := by
      unfold jn bytesOf
      simp [ByteArray.size]
    have e2 : Lib.lens (bytesOf (x :: r)) = total (x :: r) := by
      unfold Lib.lens total bytesOf
      rw [List.map_map, show (List.length ∘ fun s : ByteArray => s.data.toList) = ByteArray.size from funext fun s => Array.length_toList]
    have e3 : (bytesOf r).length = r.length := by unfold bytesOf; rw [List.length_map]
    have e4 : x.data.toList :: bytesOf r = bytesOf (x :: r) := rfl
    rw [e, h, e3, e4, e2, List.length_cons, List.length_cons, List.length_nil]
    omega
theorem jn_step {c : UInt8} {xs : List ByteArray} {k : Nat} {x : ByteArray} (h : xs[k]? = some x) (hk : 0 < k) : jn c (xs.take (k + 1)) = jn c (xs.take k) ++ ⟨#[c]⟩ ++ x := by
  rw [List.take_add_one, h]
  refine jn_snoc _ _ _ ?_
  intro e
  have h1 := congrArg List.length e
  have h2 := (List.getElem?_eq_some_iff.1 h).1
  rw [List.length_take, List.length_nil] at h1
  omega
theorem jn_first {c : UInt8} {xs : List ByteArray} {x : ByteArray} (h : xs[0]? = some x) : jn c (xs.take 1) = x := by
  rw [List.take_add_one, h]
  exact jn_one c x
/-- numbers that are small enough -/
def numB (n : Int) : Bool := decide (-1000000000000000 ≤ n ∧ n ≤ 1000000000000000)
theorem numT_size {n : Int} (h : numB n = true) : (numT n).size ≤ 21 := by
  have hb := of_decide_eq_true h
  have hp : (10 : Nat) ^ 20 = 100000000000000000000 := by decide
  have e : (numT n).size = (Lib.itoa n).length := by unfold numT; simp [ByteArray.size]
  rw [e]
  by_cases hn : n < 0
  · rw [itoa_neg hn, List.length_cons]
    have := dec_le 19 n.natAbs (by omega)
    omega
  · rw [itoa_pos hn]
    have := dec_le 19 n.toNat (by omega)
    omega
theorem nums_total {ns : List Int} (h : ns.all numB = true) : total (ns.map numT) ≤ 21 * ns.length := by
  induction ns with
  | nil => simp [total]
  | cons n r ih =>
    rw [List.all_cons, Bool.and_eq_true] at h
    have h1 := ih h.2
    have h2 := numT_size h.1
    unfold total at h1 ⊢
    simp only [List.map_cons, List.sum_cons, List.length_cons] at h1 ⊢
    omega
theorem num_at {ns : List Int} (h : ns.all numB = true) {k : Nat} {n : Int} (hn : ns[k]? = some n) : -1000000000000000 ≤ n ∧ n ≤ 1000000000000000 := of_decide_eq_true (List.all_eq_true.1 h n (List.mem_of_getElem? hn))
end Go.Proofs.YtnjeloggpbgloaaDoor
