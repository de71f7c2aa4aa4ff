/- The years of one set that are not in another one: plain law. Nothing is claimed of a Go function here. -/
import Derived.Test.YtldikfikcnkgcaaSpanLaw
namespace Go.Proofs.Ytldikfikcnkgcaa

/-- one span of the first set, from f on, against the second set: what is put out, and from where the rest is still open -/
def wIn (e : Int) : List Sp → Int → List Sp → List Sp × Int
  | [], f, out => (out, f)
  | t :: r, f, out => if f ≤ t.2 ∧ t.1 ≤ e then wIn e r (t.2 + 1) (if f < t.1 then out ++ [(f, t.1 - 1)] else out) else wIn e r f out
def wEnd (e : Int) (x : List Sp × Int) : List Sp := if x.2 ≤ e then x.1 ++ [(x.2, e)] else x.1
def wOut (b : List Sp) : List Sp → List Sp → List Sp
  | [], out => out
  | s :: r, out => wOut b r (wEnd s.2 (wIn s.2 b s.1 out))
/-- what holds while one span (f0, e) goes through the second set b, of which P is done -/
structure WIn (b : List Sp) (f0 e : Int) (P : List Sp) (f : Int) (out0 out : List Sp) : Prop where
  ge : f0 ≤ f
  can : canon out
  far : ∀ s ∈ out, s.2 + 2 ≤ f
  mem : ∀ y, inY out y ↔ inY out0 y ∨ (f0 ≤ y ∧ y < f ∧ y ≤ e ∧ ¬ inY b y)
  past : ∀ t ∈ P, t.2 < f ∨ e < t.1
theorem canon_apart {P R : List Sp} {t : Sp} (h : canon (P ++ t :: R)) : t.1 ≤ t.2 ∧ (∀ s ∈ P, s.2 + 2 ≤ t.1) ∧ ∀ s ∈ R, t.2 + 2 ≤ s.1 := by
  induction P with
  | nil => exact ⟨(canon_head h).1, by simp, fun s hs => canon_lo h s hs⟩
  | cons u P ih =>
    have hh := canon_head (s := u) (r := P ++ t :: R) h
    obtain ⟨h1, h2, h3⟩ := ih hh.2
    refine ⟨h1, fun s hs => ?_, h3⟩
    rcases List.mem_cons.1 hs with rfl | hs
    · exact canon_lo h t (by simp)
    · exact h2 s hs
theorem wIn_step {b P R : List Sp} {t : Sp} {f0 e f : Int} {out0 out : List Sp} (hb : canon b) (he : b = P ++ t :: R) (h : WIn b f0 e P f out0 out) :
    (¬ (f ≤ t.2 ∧ t.1 ≤ e) → WIn b f0 e (P ++ [t]) f out0 out) ∧ (f ≤ t.2 ∧ t.1 ≤ e → WIn b f0 e (P ++ [t]) (t.2 + 1) out0 (if f < t.1 then out ++ [(f, t.1 - 1)] else out)) := by
  rw [he] at hb
  obtain ⟨ht, hP, hR⟩ := canon_apart hb
  have hin : ∀ y, inY b y ↔ inY P y ∨ (t.1 ≤ y ∧ y ≤ t.2) ∨ inY R y := fun y => by rw [he, inY_append, inY_cons]
  refine ⟨fun hn => ⟨h.ge, h.can, h.far, h.mem, fun s hs => ?_⟩, fun hm => ?_⟩
  · rcases List.mem_append.1 hs with hs | hs
    · exact h.past s hs
    · rw [List.mem_singleton.1 hs]
      omega
  · have hge := h.ge
    have hpast : ∀ s ∈ P ++ [t], s.2 < t.2 + 1 ∨ e < s.1 := fun s hs => by
      rcases List.mem_append.1 hs with hs | hs
      · have := hP s hs; omega
      · rw [List.mem_singleton.1 hs]; omega
    have hfree : ∀ y, f ≤ y → y < t.1 → y ≤ e → ¬ inY b y := fun y h1 h2 h3 hy => by
      rcases (hin y).1 hy with hy | hy | hy
      · obtain ⟨s, hs, a, b'⟩ := hy
        have := h.past s hs
        omega
      · omega
      · obtain ⟨s, hs, a, b'⟩ := hy
        have := hR s hs
        omega
    have hheld : ∀ y, t.1 ≤ y → y ≤ t.2 → inY b y := fun y h1 h2 => (hin y).2 (.inr (.inl ⟨h1, h2⟩))
    by_cases hlt : f < t.1
    · rw [if_pos hlt]
      refine ⟨by omega, canon_snoc h.can (by simp only; omega) (fun s hs => h.far s hs), fun s hs => ?_, fun y => ?_, hpast⟩
      · rcases List.mem_append.1 hs with hs | hs
        · have := h.far s hs; omega
        · rw [List.mem_singleton.1 hs]; simp only; omega
      · rw [inY_append, inY_one, h.mem y]
        simp only
        constructor
        · rintro ((h1 | ⟨a, b', d, n⟩) | ⟨a, b'⟩)
          · exact .inl h1
          · exact .inr ⟨a, by omega, d, n⟩
          · exact .inr ⟨by omega, by omega, by omega, hfree y a (by omega) (by omega)⟩
        · rintro (h1 | ⟨a, b', d, n⟩)
          · exact .inl (.inl h1)
          · by_cases hyf : y < f
            · exact .inl (.inr ⟨a, hyf, d, n⟩)
            · by_cases hyt : y < t.1
              · exact .inr ⟨by omega, by omega⟩
              · exact absurd (hheld y (by omega) (by omega)) n
    · rw [if_neg hlt]
      refine ⟨by omega, h.can, fun s hs => by have := h.far s hs; omega, fun y => ?_, hpast⟩
      rw [h.mem y]
      constructor
      · rintro (h1 | ⟨a, b', d, n⟩)
        · exact .inl h1
        · exact .inr ⟨a, by omega, d, n⟩
      · rintro (h1 | ⟨a, b', d, n⟩)
        · exact .inl h1
        · by_cases hyf : y < f
          · exact .inr ⟨a, hyf, d, n⟩
          · exact absurd (hheld y (by omega) (by omega)) n
theorem wIn_all {b : List Sp} {f0 e : Int} {out0 : List Sp} (hb : canon b) : ∀ (R P : List Sp) (f : Int) (out : List Sp), b = P ++ R → WIn b f0 e P f out0 out → WIn b f0 e b (wIn e R f out).2 out0 (wIn e R f out).1
  | [], P, f, out, he, h => by
    have hP : P = b := by rw [he]; simp
    rw [hP] at h
    exact h
  | t :: R, P, f, out, he, h => by
    obtain ⟨h1, h2⟩ := wIn_step hb he h
    have he2 : b = (P ++ [t]) ++ R := by rw [he]; simp
    unfold wIn
    split
    · rename_i hm
      exact wIn_all hb R _ _ _ he2 (h2 hm)
    · rename_i hm
      exact wIn_all hb R _ _ _ he2 (h1 hm)
theorem wEnd_is {b : List Sp} {f0 e f : Int} {out0 out : List Sp} (h : WIn b f0 e b f out0 out) (hfe : f0 ≤ e) :
    canon (wEnd e (out, f)) ∧ (∀ y, inY (wEnd e (out, f)) y ↔ inY out0 y ∨ (f0 ≤ y ∧ y ≤ e ∧ ¬ inY b y)) ∧ ((∀ s ∈ out, s.2 ≤ e) → ∀ s ∈ wEnd e (out, f), s.2 ≤ e) := by
  unfold wEnd
  have hge := h.ge
  by_cases hf : f ≤ e
  · simp only [hf, if_true]
    refine ⟨canon_snoc h.can (by simpa using hf) (fun s hs => h.far s hs), fun y => ?_, fun ho s hs => ?_⟩
    · rw [inY_append, inY_one, h.mem y]
      simp only
      constructor
      · rintro ((h1 | ⟨a, b', d, n⟩) | ⟨a, b'⟩)
        · exact .inl h1
        · exact .inr ⟨a, d, n⟩
        · refine .inr ⟨by omega, b', ?_⟩
          rintro ⟨s, hs, c, d⟩
          have := h.past s hs
          omega
      · rintro (h1 | ⟨a, d, n⟩)
        · exact .inl (.inl h1)
        · by_cases hyf : y < f
          · exact .inl (.inr ⟨a, hyf, d, n⟩)
          · exact .inr ⟨by omega, d⟩
    · rcases List.mem_append.1 hs with hs | hs
      · exact ho s hs
      · rw [List.mem_singleton.1 hs]; simp
  · simp only [hf, if_false]
    refine ⟨h.can, fun y => ?_, fun ho => ho⟩
    rw [h.mem y]
    constructor
    · rintro (h1 | ⟨a, b', d, n⟩)
      · exact .inl h1
      · exact .inr ⟨a, d, n⟩
    · rintro (h1 | ⟨a, d, n⟩)
      · exact .inl h1
      · exact .inr ⟨a, by omega, d, n⟩
theorem canon_le {xs : List Sp} {x : Sp} (h : canon xs) (hx : x ∈ xs) : x.1 ≤ x.2 := by
  obtain ⟨P, R, rfl⟩ := List.append_of_mem hx
  exact (canon_apart h).1
theorem wOut_is {b : List Sp} (hb : canon b) : ∀ (R Pa out : List Sp), canon (Pa ++ R) → canon out → (∀ y, inY out y ↔ inY Pa y ∧ ¬ inY b y) → (∀ s ∈ out, ∃ t ∈ Pa, s.2 ≤ t.2) →
    canon (wOut b R out) ∧ ∀ y, inY (wOut b R out) y ↔ inY (Pa ++ R) y ∧ ¬ inY b y
  | [], Pa, out, _, ho, hm, _ => by
    unfold wOut
    rw [List.append_nil]
    exact ⟨ho, hm⟩
  | s :: R, Pa, out, ha, ho, hm, hl => by
    obtain ⟨h1, h2, _⟩ := canon_apart ha
    have start : WIn b s.1 s.2 [] s.1 out out := ⟨Int.le_refl _, ho, fun x hx => by
        obtain ⟨t, ht, hxt⟩ := hl x hx
        have := h2 t ht
        omega, fun y => ⟨fun h => .inl h, fun h => by
        rcases h with h | ⟨a, b', _⟩
        · exact h
        · omega⟩, by simp⟩
    have all := wIn_all hb b [] s.1 out rfl start
    obtain ⟨e1, e2, _⟩ := wEnd_is all h1
    have ha2 : canon ((Pa ++ [s]) ++ R) := by simpa using ha
    have hm2 : ∀ y, inY (wEnd s.2 (wIn s.2 b s.1 out)) y ↔ inY (Pa ++ [s]) y ∧ ¬ inY b y := fun y => by
      rw [e2 y, hm y, inY_append, inY_one]
      constructor
      · rintro (⟨a, n⟩ | ⟨a, b', n⟩)
        · exact ⟨.inl a, n⟩
        · exact ⟨.inr ⟨a, b'⟩, n⟩
      · rintro ⟨a | ⟨a, b'⟩, n⟩
        · exact .inl ⟨a, n⟩
        · exact .inr ⟨a, b', n⟩
    have hl2 : ∀ x ∈ wEnd s.2 (wIn s.2 b s.1 out), ∃ t ∈ Pa ++ [s], x.2 ≤ t.2 := fun x hx => by
      have hxx := canon_le e1 hx
      obtain ⟨t, ht, _, h4⟩ := ((hm2 x.2).1 ⟨x, hx, hxx, Int.le_refl _⟩).1
      exact ⟨t, ht, h4⟩
    have hrec := wOut_is hb R (Pa ++ [s]) _ ha2 e1 hm2 hl2
    unfold wOut
    rw [List.append_assoc, List.singleton_append] at hrec
    exact hrec
/-- what WithoutYears' loop makes is the set of the years of a that are not in b -/
theorem without_is {a b : List Sp} (ha : canon a) (hb : canon b) : canon (wOut b a []) ∧ ∀ y, inY (wOut b a []) y ↔ inY a y ∧ ¬ inY b y := by
  have := wOut_is hb a [] [] ha trivial (fun y => ⟨fun h => absurd h (inY_nil y), fun h => absurd h.1 (inY_nil y)⟩) (by simp)
  simpa using this
end Go.Proofs.Ytldikfikcnkgcaa
