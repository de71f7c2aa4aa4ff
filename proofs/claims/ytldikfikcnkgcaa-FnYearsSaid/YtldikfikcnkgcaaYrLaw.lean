/- Sets of years, as AreYears tells them: plain law. Nothing is claimed of a Go function here. -/
import Derived.Test.YtldikfikcnkgcaaSpans3
import Derived.Test.YtldikfikcnkgcaaSpanLaw3
namespace Go.Proofs.Ytldikfikcnkgcaa
open Go.RowKit
theorem canon_yr : ∀ {xs : List Sp}, (∀ i, i < xs.length → yrAt xs i = true) → canon xs ∧ ∀ s ∈ xs, -3000 ≤ s.1 ∧ s.1 ≤ s.2 ∧ s.2 ≤ 3000
  | [], _ => ⟨trivial, fun s hs => by simp at hs⟩
  | [s], h => by
    have h0 := h 0 (by simp)
    have := yr_bounds (xs := [s]) (k := 0) (f := s.1) (t := s.2) rfl h0
    exact ⟨by show s.1 ≤ s.2; omega, fun x hx => by rw [List.mem_singleton.1 hx]; omega⟩
  | s :: t :: r, h => by
    have h0 := yr_bounds (xs := s :: t :: r) (k := 0) (f := s.1) (t := s.2) rfl (h 0 (by simp))
    have h1 := h 1 (by simp)
    have hr : ∀ i, i < (t :: r).length → yrAt (t :: r) i = true := fun i hi => by
      have := h (i + 1) (by simpa using hi)
      unfold yrAt at this ⊢
      cases i with
      | zero => simp at this ⊢; exact this.1
      | succ i => simpa using this
    obtain ⟨c, b⟩ := canon_yr hr
    refine ⟨⟨by omega, ?_, c⟩, fun x hx => ?_⟩
    · unfold yrAt at h1
      simp at h1
      exact h1.2
    · rcases List.mem_cons.1 hx with rfl | hx
      · omega
      · exact b x hx
theorem canon_of {xs : List Sp} (h : areYears xs = true) : canon xs ∧ (∀ s ∈ xs, -3000 ≤ s.1 ∧ s.1 ≤ s.2 ∧ s.2 ≤ 3000) ∧ xs.length ≤ 12 := by
  obtain ⟨h1, h2⟩ := areYears_at h
  obtain ⟨a, b⟩ := canon_yr h2
  exact ⟨a, b, h1⟩
theorem has_inY (xs : List Sp) (y : Int) : hasYear xs y = true ↔ inY xs y := by
  unfold hasYear inY
  rw [List.any_eq_true]
  constructor
  · rintro ⟨s, hs, h⟩
    unfold spHas at h
    exact ⟨s, hs, of_decide_eq_true h⟩
  · rintro ⟨s, hs, h⟩
    exact ⟨s, hs, by unfold spHas; exact decide_eq_true h⟩
/-- whether a year is built -/
def bIn (a b : List Sp) (both : Bool) (y : Int) : Bool := if both = true then hasYear a y || hasYear b y else hasYear a y && !hasYear b y
theorem bIn_no {a b : List Sp} {y : Int} : bIn a b false y = (hasYear a y && !hasYear b y) := by unfold bIn; simp
theorem bIn_both {a b : List Sp} {y : Int} : bIn a b true y = (hasYear a y || hasYear b y) := by unfold bIn; simp
theorem inY_bounds {xs : List Sp} (h : ∀ s ∈ xs, -3000 ≤ s.1 ∧ s.1 ≤ s.2 ∧ s.2 ≤ 3000) {y : Int} (hy : inY xs y) : -3000 ≤ y ∧ y ≤ 3000 := by
  obtain ⟨s, hs, h1⟩ := hy
  have := h s hs
  omega
/-- what is built of the years of a that are not in b -/
theorem build_without {a b P : List Sp} (ha : areYears a = true) (hb : areYears b = true) (h : Build (bIn a b false) P 3001) : P = wOut b a [] := by
  obtain ⟨ca, ba, _⟩ := canon_of ha
  obtain ⟨cb, _, _⟩ := canon_of hb
  obtain ⟨h1, h2⟩ := without_is ca cb
  refine build_is h h1 fun z => ?_
  rw [h2 z, bIn_no, Bool.and_eq_true, has_inY, Bool.not_eq_true', ← Bool.not_eq_true, has_inY]
  constructor
  · rintro ⟨x, y⟩
    have := inY_bounds ba x
    exact ⟨this.1, this.2, x, y⟩
  · rintro ⟨_, _, x, y⟩
    exact ⟨x, y⟩
/-- what is built of the years of a and of b -/
theorem build_union {a b P R : List Sp} (ha : areYears a = true) (hb : areYears b = true) (h : Build (bIn a b true) P 3001) (hR : canon R) (hm : ∀ y, inY R y ↔ inY a y ∨ inY b y) : P = R := by
  obtain ⟨ca, ba, _⟩ := canon_of ha
  obtain ⟨cb, bb, _⟩ := canon_of hb
  refine build_is h hR fun z => ?_
  rw [hm z, bIn_both, Bool.or_eq_true, has_inY, has_inY]
  constructor
  · rintro (x | x)
    · have := inY_bounds ba x
      exact ⟨this.1, this.2, .inl x⟩
    · have := inY_bounds bb x
      exact ⟨this.1, this.2, .inr x⟩
  · rintro ⟨_, _, x⟩
    exact x
def wyOk (a b : List Sp) : Bool := areYears a && areYears b
def wyCode (a b : List Sp) : Int := if wyOk a b = true then if (wOut b a []).length ≤ 12 then 0 else 3 else 1
def wyList (a b : List Sp) : List Sp := if wyOk a b = true ∧ (wOut b a []).length ≤ 12 then wOut b a [] else []
theorem wy_cases (a b : List Sp) : (areYears a = false ∧ Hid (wyList a b = [] ∧ wyCode a b = 1)) ∨ (areYears a = true ∧ areYears b = false ∧ Hid (wyList a b = [] ∧ wyCode a b = 1)) ∨
    (areYears a = true ∧ areYears b = true ∧ 12 < (wOut b a []).length ∧ Hid (wyList a b = [] ∧ wyCode a b = 3)) ∨ (areYears a = true ∧ areYears b = true ∧ (wOut b a []).length ≤ 12 ∧ Hid (wyList a b = wOut b a [] ∧ wyCode a b = 0)) := by
  unfold Hid wyList wyCode wyOk
  cases areYears a
  · simp
  · cases areYears b
    · simp
    · by_cases h : (wOut b a []).length ≤ 12
      · simp [h]
      · have : 12 < (wOut b a []).length := by omega
        simp [h, this]
theorem wy_len (a b : List Sp) : (wyList a b).length ≤ 12 := by
  unfold wyList
  split
  · rename_i h; exact h.2
  · simp
end Go.Proofs.Ytldikfikcnkgcaa
