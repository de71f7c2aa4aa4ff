/- Spelling: the next letter, and the whole word. -/
import Derived.Test.YtnjjfcdddkabbaaDoorSpellA
namespace Go.Proofs.YtnjjfcdddkabbaaDoor
open Go.ChangeShapes Go.WideShapes Go.ChangeAt Go.RowKit

def pre (x s : ByteArray) : Bool := decide (x.size ≤ s.size) && decide (s.extract 0 x.size = x)
/-- the longest letter among the first k with which a text begins, or -1 -/
def nx (xs : List ByteArray) (s : ByteArray) : Nat → Int
  | 0 => -1
  | k + 1 => if pre (xs.getD k ⟨#[]⟩) s && (decide (nx xs s k < 0) || decide ((xs.getD (nx xs s k).toNat ⟨#[]⟩).size < (xs.getD k ⟨#[]⟩).size)) then k else nx xs s k
theorem nx_in (xs : List ByteArray) (s : ByteArray) : ∀ k : Nat, -1 ≤ nx xs s k ∧ nx xs s k < k
  | 0 => by simp [nx]
  | k + 1 => by
    have := nx_in xs s k
    unfold nx
    split <;> omega
theorem nx_no {xs : List ByteArray} {s : ByteArray} {k : Nat} {x : ByteArray} (h : xs[k]? = some x) (hp : pre x s = false) : nx xs s (k + 1) = nx xs s k := by
  conv => lhs; unfold nx
  rw [List.getD_eq_getElem?_getD, h, Option.getD_some, hp]
  rfl
theorem nx_first {xs : List ByteArray} {s : ByteArray} {k : Nat} {x : ByteArray} (h : xs[k]? = some x) (hp : pre x s = true) (hb : nx xs s k < 0) : nx xs s (k + 1) = k := by
  conv => lhs; unfold nx
  rw [List.getD_eq_getElem?_getD, h, Option.getD_some, hp]
  simp [hb]
theorem nx_cmp {xs : List ByteArray} {s : ByteArray} {k : Nat} {x y : ByteArray} {q : Nat} (h : xs[k]? = some x) (hp : pre x s = true) (hq : nx xs s k = q) (hy : xs[q]? = some y) : nx xs s (k + 1) = if y.size < x.size then (k : Int) else q := by
  conv => lhs; unfold nx
  rw [hq]
  have e1 : xs.getD k ⟨#[]⟩ = x := by rw [List.getD_eq_getElem?_getD, h]; rfl
  have e2 : xs.getD ((q : Int)).toNat ⟨#[]⟩ = y := by rw [List.getD_eq_getElem?_getD, Int.toNat_natCast, hy]; rfl
  rw [e1, e2, hp]
  have e3 : ¬ ((q : Int) < 0) := by omega
  simp [e3]
theorem pre_eq {x s : ByteArray} (h : pre x s = true) : x.size ≤ s.size ∧ s.extract 0 x.size = x := by
  unfold pre at h
  simpa using h

theorem liteHasPrefix_any (s x : ByteArray) (w : World) (hs : s.size ≤ maxLen) (hx : x.size ≤ maxLen) :
    Calls Tryd.prog 46 #[.string s, .string x] w fun e w' => e = .returned (.bool (pre x s)) ∧ Below w.heap.size w w' := by
  unfold maxLen at hs hx
  by_cases h1 : x.size ≤ s.size
  · by_cases h2 : s.extract 0 x.size = x
    · have HP := Lib.hid (show pre x s = true by unfold pre; rw [h2]; simp [h1])
      have hq : ((s.extract 0 x.size).toList == x.toList) = true := by rw [h2]; simp
      go_enter Tryd.func46, Tryd.ntmps46
      go_wp2
      go_ret
      exact ⟨by rw [HP.out]; rfl, Below.refl _ _⟩
    · have HP := Lib.hid (show pre x s = false by unfold pre; simp [h2])
      have hne := text_ne h2
      clear h2
      go_enter Tryd.func46, Tryd.ntmps46
      go_wp2
      go_ret
      exact ⟨by rw [HP.out]; rfl, Below.refl _ _⟩
  · have HP := Lib.hid (show pre x s = false by unfold pre; simp [h1])
    go_enter Tryd.func46, Tryd.ntmps46
    go_wp2
    go_ret
    exact ⟨by rw [HP.out]; rfl, Below.refl _ _⟩
theorem HasPrefix_any (s x : ByteArray) (w : World) (hs : s.size ≤ maxLen) (hx : x.size ≤ maxLen) :
    Calls Tryd.prog 33 #[.string s, .string x] w fun e w' => e = .returned (.bool (pre x s)) ∧ Below w.heap.size w w' := by
  go_enter Tryd.func33, Tryd.ntmps33
  go_wp2_with fail
  refine (liteHasPrefix_any s x _ hs hx).mono ?_
  rintro e_ w1 ⟨rfl, h1⟩
  have hc_w1 := bcell h1; have hf_w1 := bfree h1
  go_wp2
  go_ret
  exact ⟨rfl, h1⟩

end Go.Proofs.YtnjjfcdddkabbaaDoor
