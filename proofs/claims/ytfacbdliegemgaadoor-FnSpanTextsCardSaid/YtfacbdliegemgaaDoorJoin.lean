/- Joining words: what the functions compute. -/
import Derived.Test.YtfacbdliegemgaaDoorMarks
import Derived.Lib.Join
namespace Go.Proofs.YtfacbdliegemgaaDoor
open Go.ChangeShapes Go.WideShapes Go.ChangeAt Go.RowKit

def bytesOf (xs : List ByteArray) : List (List UInt8) := xs.map (·.data.toList)
def joined (xs : List ByteArray) : ByteArray := ⟨(Lib.join (bytesOf xs) [32]).toArray⟩
def total (xs : List ByteArray) : Nat := (xs.map ByteArray.size).sum
theorem joined_nil : joined [] = ⟨#[]⟩ := rfl
theorem joined_one (x : ByteArray) : joined [x] = x := by
  unfold joined bytesOf
  rw [List.map_cons, List.map_nil, Lib.join_one]
theorem join_snoc (xs : List (List UInt8)) (x : List UInt8) (h : xs ≠ []) : Lib.join (xs ++ [x]) [32] = Lib.join xs [32] ++ ([32] ++ x) := by
  cases xs with
  | nil => exact absurd rfl h
  | cons y r =>
    rw [List.cons_append, Lib.join_cons, Lib.join_cons]
    unfold Lib.joinTail
    simp
theorem joined_snoc (xs : List ByteArray) (x : ByteArray) (h : xs ≠ []) : joined (xs ++ [x]) = joined xs ++ ⟨#[32]⟩ ++ x := by
  unfold joined bytesOf
  rw [List.map_append, List.map_cons, List.map_nil, join_snoc _ _ (by simpa using h)]
  apply ByteArray.ext
  simp [ByteArray.data_append]
theorem joined_size (xs : List ByteArray) : (joined xs).size ≤ total xs + xs.length := by
  cases xs with
  | nil => simp [joined_nil, ByteArray.size]
  | cons x r =>
    have h := Lib.join_length x.data.toList (bytesOf r) [32]
    have e : (joined (x :: r)).size = (Lib.join (x.data.toList :: bytesOf r) [32]).length := by
      unfold joined bytesOf
      simp [ByteArray.size]
    have e2 : Lib.lens (bytesOf (x :: r)) = total (x :: r) := by
      unfold Lib.lens total bytesOf
      rw [List.map_map, show (List.length ∘ fun s : ByteArray => s.data.toList) = ByteArray.size from funext fun s => Array.length_toList]
    have e3 : (bytesOf r).length = r.length := by unfold bytesOf; rw [List.length_map]
    have e4 : x.data.toList :: bytesOf r = bytesOf (x :: r) := rfl
    rw [e, h, e3, e4, e2, List.length_cons, List.length_cons, List.length_nil]
    omega
theorem total_take (xs : List ByteArray) (k : Nat) : total (xs.take k) ≤ total xs := by
  unfold total
  conv => rhs; rw [← List.take_append_drop k xs]
  rw [List.map_append, List.sum_append]
  omega
theorem joined_step {xs : List ByteArray} {k : Nat} {x : ByteArray} (h : xs[k]? = some x) (hk : 0 < k) : joined (xs.take (k + 1)) = joined (xs.take k) ++ ⟨#[32]⟩ ++ x := by
  rw [List.take_add_one, h]
  refine joined_snoc _ _ ?_
  intro e
  have h1 := congrArg List.length e
  have h2 := (List.getElem?_eq_some_iff.1 h).1
  rw [List.length_take, List.length_nil] at h1
  omega
theorem joined_first {xs : List ByteArray} {x : ByteArray} (h : xs[0]? = some x) : joined (xs.take 1) = x := by
  rw [List.take_add_one, h]
  exact joined_one x

theorem cut_join (c : UInt8) : ∀ (r : List (List UInt8)) (x : List UInt8), (∀ y ∈ x :: r, ∀ b ∈ y, b ≠ c) → cutAt c (Lib.join (x :: r) [c]) = x :: r
  | [], x, h => by
    rw [Lib.join_one]
    exact cutAt_none (h x (by simp))
  | y :: r, x, h => by
    have e : Lib.join (x :: y :: r) [c] = x ++ c :: Lib.join (y :: r) [c] := by
      rw [Lib.join_cons, Lib.join_cons]
      simp [Lib.joinTail]
    rw [e, cutAt_app _ (h x (by simp)), cut_join c r y (fun z hz => h z (by simp [hz]))]
theorem word_bytes {x : ByteArray} (h : isWord x = true) : ∀ b ∈ x.data.toList, b ≠ 32 := by
  intro b hb e
  unfold isWord small at h
  rw [Bool.and_eq_true, List.all_eq_true] at h
  have := h.1 b hb
  subst e
  exact absurd this (by decide)
theorem cutS_joined {xs : List ByteArray} (h : xs.all isWord = true) (hn : xs ≠ []) : cutS 32 (joined xs) = xs := by
  cases xs with
  | nil => exact absurd rfl hn
  | cons x r =>
    rw [List.all_eq_true] at h
    have e : (joined (x :: r)).data.toList = Lib.join (x.data.toList :: bytesOf r) [32] := by
      unfold joined bytesOf; simp
    unfold cutS
    rw [e, cut_join 32 (bytesOf r) x.data.toList]
    · unfold bytesOf
      simp [Function.comp_def]
    · intro y hy
      rcases List.mem_cons.1 hy with rfl | hy
      · exact word_bytes (h x (by simp))
      · unfold bytesOf at hy
        obtain ⟨z, hz, rfl⟩ := List.mem_map.1 hy
        exact word_bytes (h z (by simp [hz]))
/-- JoinPhrase's answer -/
def jpOk (xs : List ByteArray) : Bool := xs.all isWord && decide (1 ≤ xs.length ∧ xs.length ≤ 8)
def jpText (xs : List ByteArray) : ByteArray := if jpOk xs = true then joined xs else ⟨#[]⟩
def jpCode (xs : List ByteArray) : Int := if jpOk xs = true then 0 else 1
theorem jp_phrase {xs : List ByteArray} (h : xs.all isWord = true) : isPhrase (joined xs) = decide (1 ≤ xs.length ∧ xs.length ≤ 8) := by
  cases xs with
  | nil => rfl
  | cons x r =>
    unfold isPhrase
    rw [cutS_joined h (by simp), h]
    simp

/-! ## walks -/
theorem join_any (A : Option Addr) (n c : Nat) (xs : List ByteArray) (w : World) (hx : Strs w A n c xs) (hT : total xs + n ≤ 1000000000000) :
    Calls Tryd.prog 77 #[.slice A n c, .string ⟨#[32]⟩] w fun e w' => e = .returned (.string (joined xs)) ∧ Below w.heap.size w w' := by
  cases xs with
  | nil =>
    obtain rfl : n = 0 := hx.1
    exact (Tryd.strings_Join_none A c ⟨#[32]⟩ w).mono fun e w' ⟨he, hw⟩ => ⟨he, by rw [hw]; exact Below.refl _ _⟩
  | cons x r =>
    obtain rfl : n = (x :: r).length := hx.1
    obtain ⟨b, off, rfl, hbl, hcell⟩ := hx.2.1.at_ (by simp)
    have hl : (Lib.join (bytesOf (x :: r)) [32]).length = (joined (x :: r)).size := by unfold joined; simp [ByteArray.size]
    have h1 := joined_size (x :: r)
    exact Tryd.strings_Join b off c (x :: r) ⟨#[32]⟩ w (fun j y hy => hcell j (.string y) (by rw [List.getElem?_map, hy]; rfl)) hbl (by omega) hx.2.1.le
      (by show (Lib.join (bytesOf (x :: r)) [32]).length ≤ _; omega)

theorem jp_no {xs : List ByteArray} (h : jpOk xs = false) : Hid (jpText xs = ⟨#[]⟩ ∧ jpCode xs = 1) := by
  unfold Hid jpText jpCode
  rw [h]
  exact ⟨rfl, rfl⟩
theorem jp_yes {xs : List ByteArray} (h : jpOk xs = true) : Hid (jpText xs = joined xs ∧ jpCode xs = 0) := by
  unfold Hid jpText jpCode
  rw [h]
  exact ⟨rfl, rfl⟩
/-! ## the harness's copies and sizes -/
def szOf (left : Int) (n : Nat) (xs : List ByteArray) : Int := if left - n - total xs < 0 then -1 else left - n - total xs
theorem total_succ {xs : List ByteArray} {k : Nat} {x : ByteArray} (h : xs[k]? = some x) : total (xs.take (k + 1)) = total (xs.take k) + x.size := by
  unfold total
  rw [List.take_add_one, h]
  simp
end Go.Proofs.YtfacbdliegemgaaDoor
