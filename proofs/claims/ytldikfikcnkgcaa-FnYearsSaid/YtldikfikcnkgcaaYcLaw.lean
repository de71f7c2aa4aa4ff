/- Years of sets: the plain laws of counts. Nothing is claimed of a Go function here. -/
import Derived.Test.YtldikfikcnkgcaaYrU
namespace Go.Proofs.Ytldikfikcnkgcaa
open Go.RowKit

theorem yr_of_canon : ∀ {xs : List Sp}, canon xs → (∀ s ∈ xs, -3000 ≤ s.1 ∧ s.1 ≤ s.2 ∧ s.2 ≤ 3000) → ∀ i, i < xs.length → yrAt xs i = true
  | [], _, _, i, hi => by simp at hi
  | [s], _, h, i, hi => by
    have := h s (by simp)
    obtain rfl : i = 0 := by simpa using hi
    unfold yrAt isSpan
    simp
    omega
  | s :: t :: r, hc, h, i, hi => by
    obtain ⟨h1, h2, h3⟩ := hc
    have hs := h s (by simp)
    have ht := h t (by simp)
    have ih := yr_of_canon (xs := t :: r) h3 (fun x hx => h x (by simp at hx ⊢; exact .inr hx))
    match i, hi with
    | 0, _ => unfold yrAt isSpan; simp; omega
    | 1, _ => unfold yrAt isSpan; simp; omega
    | k + 2, hi =>
      have h2 := ih (k + 1) (by simpa using hi)
      unfold yrAt at h2 ⊢
      simpa using h2
theorem areYears_of {xs : List Sp} (hc : canon xs) (hb : ∀ s ∈ xs, -3000 ≤ s.1 ∧ s.1 ≤ s.2 ∧ s.2 ≤ 3000) (hl : xs.length ≤ 12) : areYears xs = true := by
  have h := yr_of_canon hc hb
  unfold areYears
  rw [Bool.and_eq_true, List.all_eq_true]
  exact ⟨fun i hi => h i (by simpa using hi), decide_eq_true hl⟩
theorem canon_bounds {xs : List Sp} (hc : canon xs) (hm : ∀ y, inY xs y → -3000 ≤ y ∧ y ≤ 3000) : ∀ s ∈ xs, -3000 ≤ s.1 ∧ s.1 ≤ s.2 ∧ s.2 ≤ 3000 := fun s hs => by
  have hle := canon_le hc hs
  have h1 := hm s.1 ⟨s, hs, by omega, hle⟩
  have h2 := hm s.2 ⟨s, hs, hle, by omega⟩
  omega
theorem wy_self {a : List Sp} (ha : areYears a = true) : wyList a a = [] ∧ wyCode a a = 0 := by
  obtain ⟨ca, _, _⟩ := canon_of ha
  obtain ⟨h1, h2⟩ := without_is ca ca
  have e : wOut a a [] = [] := canon_uniq h1 trivial fun y => by
    rw [h2 y]
    exact ⟨fun h => absurd h.1 h.2, fun h => absurd h (inY_nil y)⟩
  unfold wyList wyCode wyOk
  rw [ha, e]
  simp
theorem un_self {a : List Sp} (ha : areYears a = true) : unList a a = a ∧ unCode a a = 0 := by
  obtain ⟨ca, _, hl⟩ := canon_of ha
  obtain ⟨h1, h2⟩ := uni_is ha ha
  have e : uniL a a = a := canon_uniq h1 ca fun y => by
    rw [h2 y]
    exact ⟨fun h => h.elim id id, .inl⟩
  unfold unList unCode wyOk
  rw [ha, e]
  simp [hl]
theorem cnt_ge : ∀ {xs : List Sp}, (∀ s ∈ xs, s.1 ≤ s.2) → (xs.length : Int) ≤ countYears xs
  | [], _ => by simp [countYears]
  | s :: r, h => by
    have ih := cnt_ge (xs := r) fun x hx => h x (by simp [hx])
    have hs := h s (by simp)
    unfold countYears at ih ⊢
    rw [List.map_cons, List.sum_cons, List.length_cons]
    omega
theorem yr_counts {a : List Sp} (ha : areYears a = true) : (a.length : Int) ≤ countYears a := cnt_ge fun s hs => ((canon_of ha).2.1 s hs).2.1
theorem yr_union {a b : List Sp} (h : unCode a b = 0) : areYears a = true ∧ areYears b = true ∧ areYears (unList a b) = true ∧ ∀ y, hasYear (unList a b) y = (hasYear a y || hasYear b y) := by
  rcases un_cases a b with ⟨_, h2⟩ | ⟨_, _, h2⟩ | ⟨_, _, _, h2⟩ | ⟨ha, hb, hl, h2⟩
  · have := h2.out.2; omega
  · have := h2.out.2; omega
  · have := h2.out.2; omega
  · have e := h2.out.1
    obtain ⟨ca, ba, _⟩ := canon_of ha
    obtain ⟨cb, bb, _⟩ := canon_of hb
    obtain ⟨h3, h4⟩ := uni_is ha hb
    refine ⟨ha, hb, ?_, fun y => ?_⟩
    · rw [e]
      exact areYears_of h3 (canon_bounds h3 fun y hy => by
        rcases (h4 y).1 hy with x | x
        · exact inY_bounds ba x
        · exact inY_bounds bb x) hl
    · rw [e, Bool.eq_iff_iff, has_inY, Bool.or_eq_true, has_inY, has_inY]
      exact h4 y
theorem yr_without {a b : List Sp} (h : wyCode a b = 0) : areYears a = true ∧ areYears b = true ∧ areYears (wyList a b) = true ∧ ∀ y, hasYear (wyList a b) y = (hasYear a y && !hasYear b y) := by
  rcases wy_cases a b with ⟨_, h2⟩ | ⟨_, _, h2⟩ | ⟨_, _, _, h2⟩ | ⟨ha, hb, hl, h2⟩
  · have := h2.out.2; omega
  · have := h2.out.2; omega
  · have := h2.out.2; omega
  · have e := h2.out.1
    obtain ⟨ca, ba, _⟩ := canon_of ha
    obtain ⟨cb, bb, _⟩ := canon_of hb
    obtain ⟨h3, h4⟩ := without_is ca cb
    refine ⟨ha, hb, ?_, fun y => ?_⟩
    · rw [e]
      exact areYears_of h3 (canon_bounds h3 fun y hy => inY_bounds ba ((h4 y).1 hy).1) hl
    · rw [e, Bool.eq_iff_iff, has_inY, Bool.and_eq_true, has_inY, Bool.not_eq_true', ← Bool.not_eq_true, has_inY]
      exact h4 y
theorem countP_or {α : Type} (p q : α → Bool) (hd : ∀ x, p x = true → q x = false) : ∀ l : List α, l.countP (fun x => p x || q x) = l.countP p + l.countP q
  | [] => rfl
  | x :: l => by
    rw [List.countP_cons, List.countP_cons, List.countP_cons, countP_or p q hd l]
    cases hp : p x <;> cases hq : q x
    · simp
    · simp; omega
    · simp; omega
    · have := hd x hp; rw [hq] at this; cases this
theorem countP_win (a b : Nat) (hab : a ≤ b) : ∀ n : Nat, (List.range n).countP (fun i => decide (a ≤ i ∧ i < b)) = min b n - min a n
  | 0 => by simp
  | n + 1 => by
    rw [List.range_succ, List.countP_append, countP_win a b hab n, List.countP_cons, List.countP_nil]
    by_cases h : a ≤ n ∧ n < b
    · simp [h]; omega
    · simp only [h, decide_false]; simp; omega
/-- the number of years with a property -/
def cntN (N : Nat) (p : Int → Bool) : Nat := (List.range N).countP fun (i : Nat) => p ((i : Int) - 3000)
def cntP (p : Int → Bool) : Nat := cntN 6001 p
theorem cntP_or (p q : Int → Bool) (hd : ∀ y, p y = true → q y = false) : cntP (fun y => p y || q y) = cntP p + cntP q := countP_or (fun (i : Nat) => p ((i : Int) - 3000)) (fun (i : Nat) => q ((i : Int) - 3000)) (fun i h => hd _ h) _
theorem cntP_congr {p q : Int → Bool} (h : ∀ y, p y = q y) : cntP p = cntP q := by rw [show p = q from funext h]
theorem cntN_span (N : Nat) (s : Sp) (h0 : -3000 ≤ s.1) (h1 : s.1 ≤ s.2) (h2 : s.2 + 3001 ≤ N) : (cntN N (spHas s) : Int) = s.2 - s.1 + 1 := by
  obtain ⟨a, ha⟩ : ∃ a : Nat, (a : Int) = s.1 + 3000 := ⟨(s.1 + 3000).toNat, by omega⟩
  obtain ⟨b, hb⟩ : ∃ b : Nat, (b : Int) = s.2 + 3001 := ⟨(s.2 + 3001).toNat, by omega⟩
  have ef : (fun (i : Nat) => spHas s ((i : Int) - 3000)) = (fun i => decide (a ≤ i ∧ i < b)) := by
    funext i
    unfold spHas
    rw [decide_eq_decide]
    omega
  have e : cntN N (spHas s) = (List.range N).countP (fun i => decide (a ≤ i ∧ i < b)) := by
    unfold cntN
    rw [ef]
  rw [e, countP_win a b (by omega)]
  omega
theorem cntP_span (s : Sp) (h0 : -3000 ≤ s.1) (h1 : s.1 ≤ s.2) (h2 : s.2 ≤ 3000) : (cntP (spHas s) : Int) = s.2 - s.1 + 1 := cntN_span 6001 s h0 h1 (by omega)
theorem cntN_nil (N : Nat) : cntN N (hasYear []) = 0 := by unfold cntN; rw [List.countP_eq_zero]; intro i _; simp [hasYear]
theorem cntP_years : ∀ {xs : List Sp}, canon xs → (∀ s ∈ xs, -3000 ≤ s.1 ∧ s.1 ≤ s.2 ∧ s.2 ≤ 3000) → countYears xs = (cntP (hasYear xs) : Int)
  | [], _, _ => by
    have : cntP (hasYear []) = 0 := cntN_nil 6001
    rw [this]
    rfl
  | s :: r, hc, h => by
    have ih := cntP_years (xs := r) (canon_head hc).2 fun x hx => h x (by simp [hx])
    have hs := h s (by simp)
    have hlo := canon_lo hc
    have e : cntP (hasYear (s :: r)) = cntP (spHas s) + cntP (hasYear r) := cntP_or (spHas s) (hasYear r) fun y hy => by
      rw [← Bool.not_eq_true, has_inY]
      rintro ⟨t, ht, h1, _⟩
      have := hlo t ht
      unfold spHas at hy
      have := of_decide_eq_true hy
      omega
    have hsp := cntP_span s hs.1 hs.2.1 hs.2.2
    unfold countYears at ih ⊢
    rw [List.map_cons, List.sum_cons, e, ih]
    omega
theorem yr_law {a b : List Sp} (hu : unCode a b = 0) (hw : wyCode a b = 0) : countYears (unList a b) = countYears (wyList a b) + countYears b := by
  obtain ⟨ha, hb, h1, h2⟩ := yr_union hu
  obtain ⟨_, _, h3, h4⟩ := yr_without hw
  obtain ⟨c1, b1, _⟩ := canon_of h1
  obtain ⟨c3, b3, _⟩ := canon_of h3
  obtain ⟨cb, bb, _⟩ := canon_of hb
  rw [cntP_years c1 b1, cntP_years c3 b3, cntP_years cb bb]
  have e : cntP (hasYear (unList a b)) = cntP (fun y => hasYear (wyList a b) y || hasYear b y) := cntP_congr fun y => by
    rw [h2 y, h4 y]
    cases hasYear a y <;> cases hasYear b y <;> rfl
  rw [e, cntP_or _ _ fun y hy => by
    rw [h4 y] at hy
    cases hq : hasYear b y
    · rfl
    · rw [hq] at hy; simp at hy]
  omega
end Go.Proofs.Ytldikfikcnkgcaa
