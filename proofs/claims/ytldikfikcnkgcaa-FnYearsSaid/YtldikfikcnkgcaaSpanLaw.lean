/- Sets of years: plain law. Sets whose spans lie apart are told by their years. -/
import Derived.Test.YtldikfikcnkgcaaBase
namespace Go.Proofs.Ytldikfikcnkgcaa

abbrev Sp := Int × Int
def inY (xs : List Sp) (y : Int) : Prop := ∃ s ∈ xs, s.1 ≤ y ∧ y ≤ s.2
/-- spans in order, none empty, no two touching -/
def canon : List Sp → Prop
  | [] => True
  | [s] => s.1 ≤ s.2
  | s :: t :: r => s.1 ≤ s.2 ∧ s.2 + 2 ≤ t.1 ∧ canon (t :: r)
theorem canon_head {s : Sp} {r : List Sp} (h : canon (s :: r)) : s.1 ≤ s.2 ∧ canon r := by
  cases r with
  | nil => exact ⟨h, trivial⟩
  | cons t q => exact ⟨h.1, h.2.2⟩
theorem canon_lo : ∀ {r : List Sp} {s : Sp}, canon (s :: r) → ∀ t ∈ r, s.2 + 2 ≤ t.1
  | [], _, _, t, ht => by simp at ht
  | u :: q, s, h, t, ht => by
    rcases List.mem_cons.1 ht with rfl | ht
    · exact h.2.1
    · have h1 := canon_lo h.2.2 t ht
      have h2 := (canon_head h.2.2).1
      have := h.2.1
      omega
theorem inY_nil (y : Int) : ¬ inY [] y := by rintro ⟨s, hs, _⟩; simp at hs
theorem inY_cons (s : Sp) (r : List Sp) (y : Int) : inY (s :: r) y ↔ (s.1 ≤ y ∧ y ≤ s.2) ∨ inY r y := by
  unfold inY
  constructor
  · rintro ⟨t, ht, h⟩
    rcases List.mem_cons.1 ht with rfl | ht
    · exact .inl h
    · exact .inr ⟨t, ht, h⟩
  · rintro (h | ⟨t, ht, h⟩)
    · exact ⟨s, by simp, h⟩
    · exact ⟨t, by simp [ht], h⟩
theorem inY_append (xs ys : List Sp) (y : Int) : inY (xs ++ ys) y ↔ inY xs y ∨ inY ys y := by
  induction xs with
  | nil => simp [inY_nil]
  | cons s r ih => rw [List.cons_append, inY_cons, inY_cons, ih, or_assoc]
theorem inY_one (s : Sp) (y : Int) : inY [s] y ↔ s.1 ≤ y ∧ y ≤ s.2 := by rw [inY_cons]; simp [inY_nil]
theorem canon_first {s : Sp} {r : List Sp} (h : canon (s :: r)) {y : Int} (hy : inY (s :: r) y) : s.1 ≤ y := by
  rcases (inY_cons s r y).1 hy with h1 | ⟨t, ht, h1⟩
  · exact h1.1
  · have := canon_lo h t ht
    have := (canon_head h).1
    omega
theorem canon_gap {s : Sp} {r : List Sp} (h : canon (s :: r)) : ¬ inY (s :: r) (s.2 + 1) := by
  intro hy
  rcases (inY_cons s r _).1 hy with h1 | ⟨t, ht, h1⟩
  · omega
  · have := canon_lo h t ht
    omega
theorem canon_mem {s : Sp} {r : List Sp} (h : canon (s :: r)) {y : Int} (h1 : s.1 ≤ y) (h2 : y ≤ s.2) : inY (s :: r) y := (inY_cons s r y).2 (.inl ⟨h1, h2⟩)
theorem canon_uniq : ∀ {xs ys : List Sp}, canon xs → canon ys → (∀ y, inY xs y ↔ inY ys y) → xs = ys
  | [], [], _, _, _ => rfl
  | [], t :: q, _, h2, h => absurd ((h t.1).2 (canon_mem h2 (Int.le_refl _) (canon_head h2).1)) (inY_nil _)
  | s :: r, [], h1, _, h => absurd ((h s.1).1 (canon_mem h1 (Int.le_refl _) (canon_head h1).1)) (inY_nil _)
  | s :: r, t :: q, h1, h2, h => by
    have hs := (canon_head h1).1
    have ht := (canon_head h2).1
    have a1 := canon_first h2 ((h s.1).1 (canon_mem h1 (Int.le_refl _) hs))
    have a2 := canon_first h1 ((h t.1).2 (canon_mem h2 (Int.le_refl _) ht))
    have b1 : ¬ s.2 < t.2 := fun hlt => canon_gap h1 ((h _).2 (canon_mem h2 (by omega) (by omega)))
    have b2 : ¬ t.2 < s.2 := fun hlt => canon_gap h2 ((h _).1 (canon_mem h1 (by omega) (by omega)))
    have e : s = t := Prod.ext (by omega) (by omega)
    subst e
    congr 1
    refine canon_uniq (canon_head h1).2 (canon_head h2).2 fun y => ⟨fun hy => ?_, fun hy => ?_⟩
    · rcases (inY_cons s q y).1 ((h y).1 ((inY_cons s r y).2 (.inr hy))) with h3 | h3
      · obtain ⟨u, hu, h4⟩ := hy
        have := canon_lo h1 u hu
        omega
      · exact h3
    · rcases (inY_cons s r y).1 ((h y).2 ((inY_cons s q y).2 (.inr hy))) with h3 | h3
      · obtain ⟨u, hu, h4⟩ := hy
        have := canon_lo h2 u hu
        omega
      · exact h3
/-- one more span behind all others -/
theorem canon_snoc : ∀ {xs : List Sp} {s : Sp}, canon xs → s.1 ≤ s.2 → (∀ t ∈ xs, t.2 + 2 ≤ s.1) → canon (xs ++ [s])
  | [], s, _, h, _ => h
  | [t], s, h, h1, h2 => ⟨h, h2 t (by simp), h1⟩
  | t :: u :: r, s, h, h1, h2 => ⟨h.1, h.2.1, canon_snoc (xs := u :: r) h.2.2 h1 (fun x hx => h2 x (by simp at hx ⊢; right; exact hx))⟩
theorem canon_init : ∀ {xs : List Sp} {s : Sp}, canon (xs ++ [s]) → canon xs ∧ s.1 ≤ s.2 ∧ ∀ t ∈ xs, t.2 + 2 ≤ s.1
  | [], s, h => ⟨trivial, h, by simp⟩
  | [t], s, h => ⟨h.1, h.2.2, fun x hx => by simp at hx; subst hx; exact h.2.1⟩
  | t :: u :: r, s, h => by
    obtain ⟨h1, h2, h3⟩ := canon_init (xs := u :: r) h.2.2
    refine ⟨⟨h.1, h.2.1, h1⟩, h2, fun x hx => ?_⟩
    rcases List.mem_cons.1 hx with rfl | hx
    · have := h3 u (by simp)
      have := h.2.1
      have := (canon_head h1).1
      omega
    · exact h3 x hx

/-! ## year by year -/
structure Build (c : Int → Bool) (P : List Sp) (y : Int) : Prop where
  can : canon P
  mem : ∀ z, inY P z ↔ (-3000 ≤ z ∧ z < y ∧ c z = true)
  len : (P.length : Int) ≤ y + 3000
theorem build_start (c : Int → Bool) : Build c [] (-3000) := ⟨trivial, fun z => ⟨fun h => absurd h (inY_nil z), fun h => by omega⟩, by simp⟩
theorem build_skip {c : Int → Bool} {P : List Sp} {y : Int} (h : Build c P y) (hc : c y = false) : Build c P (y + 1) :=
  ⟨h.can, fun z => by
    rw [h.mem z]
    constructor
    · rintro ⟨a, b, d⟩; exact ⟨a, by omega, d⟩
    · rintro ⟨a, b, d⟩
      refine ⟨a, ?_, d⟩
      have : z ≠ y := fun e => by rw [e, hc] at d; cases d
      omega, by have := h.len; omega⟩
theorem build_last {c : Int → Bool} {P : List Sp} {y : Int} (h : Build c P y) : ∀ s ∈ P, s.1 ≤ s.2 ∧ s.2 < y := fun s hs => by
  have h1 : s.1 ≤ s.2 := by
    have : ∀ {xs : List Sp}, canon xs → s ∈ xs → s.1 ≤ s.2 := by
      intro xs
      induction xs with
      | nil => intro _ h; simp at h
      | cons t r ih =>
        intro hc hm
        rcases List.mem_cons.1 hm with rfl | hm
        · exact (canon_head hc).1
        · exact ih (canon_head hc).2 hm
    exact this h.can hs
  exact ⟨h1, ((h.mem s.2).1 ⟨s, hs, h1, Int.le_refl _⟩).2.1⟩
theorem build_ext {c : Int → Bool} {Q : List Sp} {f t y : Int} (h : Build c (Q ++ [(f, t)]) y) (ht : t = y - 1) (hy : -3000 ≤ y) (hc : c y = true) : Build c (Q ++ [(f, y)]) (y + 1) := by
  obtain ⟨h1, h2, h3⟩ := canon_init h.can
  refine ⟨canon_snoc h1 (by simp only at h2 ⊢; omega) h3, fun z => ?_, by have := h.len; simp at this ⊢; omega⟩
  have hm := h.mem z
  rw [inY_append, inY_one] at hm ⊢
  simp only at hm h2 ⊢
  constructor
  · rintro (a | ⟨a, b⟩)
    · have := hm.1 (.inl a)
      exact ⟨this.1, by omega, this.2.2⟩
    · by_cases e : z = y
      · subst e; exact ⟨hy, by omega, hc⟩
      · have := hm.1 (.inr ⟨a, by omega⟩)
        exact ⟨this.1, by omega, this.2.2⟩
  · rintro ⟨a, b, d⟩
    by_cases e : z = y
    · exact .inr ⟨by omega, by omega⟩
    · rcases hm.2 ⟨a, by omega, d⟩ with h4 | h4
      · exact .inl h4
      · exact .inr ⟨h4.1, by omega⟩
theorem build_new {c : Int → Bool} {P : List Sp} {y : Int} (h : Build c P y) (hl : ∀ Q s, P = Q ++ [s] → s.2 ≠ y - 1) (hy : -3000 ≤ y) (hc : c y = true) : Build c (P ++ [(y, y)]) (y + 1) := by
  have hlast : ∀ t ∈ P, t.2 + 2 ≤ y := by
    rcases List.eq_nil_or_concat P with rfl | ⟨Q, s, rfl⟩
    · simp
    · have h1 := hl Q s (by simp)
      rw [List.concat_eq_append] at h ⊢
      intro t ht
      have h2 := build_last h s (by simp)
      rcases List.mem_append.1 ht with ht | ht
      · have := (canon_init h.can).2.2 t ht
        omega
      · simp at ht
        subst ht
        omega
  refine ⟨canon_snoc h.can (Int.le_refl _) hlast, fun z => ?_, by have := h.len; simp at this ⊢; omega⟩
  have hm := h.mem z
  rw [inY_append, inY_one]
  simp only
  constructor
  · rintro (a | ⟨a, b⟩)
    · have := hm.1 a
      exact ⟨this.1, by omega, this.2.2⟩
    · obtain rfl : z = y := by omega
      exact ⟨hy, by omega, hc⟩
  · rintro ⟨a, b, d⟩
    by_cases e : z = y
    · exact .inr ⟨by omega, by omega⟩
    · exact .inl (hm.2 ⟨a, by omega, d⟩)
/-- spans that lie apart, within all years, are what is built year by year -/
theorem build_is {c : Int → Bool} {P R : List Sp} (h : Build c P 3001) (hR : canon R) (hm : ∀ z, inY R z ↔ (-3000 ≤ z ∧ z ≤ 3000 ∧ c z = true)) : P = R :=
  canon_uniq h.can hR fun y => by
    rw [h.mem y, hm y]
    constructor
    · rintro ⟨a, b, d⟩; exact ⟨a, by omega, d⟩
    · rintro ⟨a, b, d⟩; exact ⟨a, by omega, d⟩
end Go.Proofs.Ytldikfikcnkgcaa
