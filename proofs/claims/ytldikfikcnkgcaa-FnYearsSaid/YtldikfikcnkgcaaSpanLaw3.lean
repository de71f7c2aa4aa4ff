/- The years of one set or the other: plain law of merging spans in order. Nothing is claimed of a Go function here. -/
import Derived.Test.YtldikfikcnkgcaaSpanLaw2
namespace Go.Proofs.Ytldikfikcnkgcaa

/-- a span put behind spans in order: it widens the last one where it touches it -/
def mStep (out : List Sp) (s : Sp) : List Sp := match out.getLast? with
  | some l => if s.1 ≤ l.2 + 1 then out.dropLast ++ [(l.1, max l.2 s.2)] else out ++ [s]
  | none => [s]
def mrg (out : List Sp) (xs : List Sp) : List Sp := xs.foldl mStep out
theorem mStep_nil (s : Sp) : mStep [] s = [s] := rfl
theorem mStep_join {Q : List Sp} {l s : Sp} (h : s.1 ≤ l.2 + 1) : mStep (Q ++ [l]) s = Q ++ [(l.1, max l.2 s.2)] := by
  unfold mStep
  rw [List.getLast?_append]
  simp [h]
theorem mStep_new {Q : List Sp} {l s : Sp} (h : ¬ s.1 ≤ l.2 + 1) : mStep (Q ++ [l]) s = Q ++ [l] ++ [s] := by
  unfold mStep
  rw [List.getLast?_append]
  simp [h]
theorem mStep_is {out : List Sp} {s : Sp} (hc : canon out) (hs : s.1 ≤ s.2) (hl : ∀ x ∈ out, x.1 ≤ s.1) :
    canon (mStep out s) ∧ (∀ y, inY (mStep out s) y ↔ inY out y ∨ (s.1 ≤ y ∧ y ≤ s.2)) ∧ ∀ x ∈ mStep out s, x.1 ≤ s.1 := by
  rcases List.eq_nil_or_concat out with rfl | ⟨Q, l, rfl⟩
  · rw [mStep_nil]
    refine ⟨hs, fun y => ?_, fun x hx => by rw [List.mem_singleton.1 hx]; exact Int.le_refl _⟩
    rw [inY_one]
    constructor
    · exact .inr
    · rintro (h | h)
      · exact absurd h (inY_nil y)
      · exact h
  · rw [List.concat_eq_append] at *
    obtain ⟨h1, h2, h3⟩ := canon_init hc
    have hl1 := hl l (by simp)
    by_cases hj : s.1 ≤ l.2 + 1
    · rw [mStep_join hj]
      refine ⟨canon_snoc h1 (by simp only; omega) (fun t ht => h3 t ht), fun y => ?_, fun x hx => ?_⟩
      · rw [inY_append, inY_one, inY_append, inY_one]
        simp only
        constructor
        · rintro (h | ⟨a, b⟩)
          · exact .inl (.inl h)
          · by_cases hy : y ≤ l.2
            · exact .inl (.inr ⟨a, hy⟩)
            · exact .inr ⟨by omega, by omega⟩
        · rintro ((h | ⟨a, b⟩) | ⟨a, b⟩)
          · exact .inl h
          · exact .inr ⟨a, by omega⟩
          · exact .inr ⟨by omega, by omega⟩
      · rcases List.mem_append.1 hx with hx | hx
        · exact hl x (by simp [hx])
        · rw [List.mem_singleton.1 hx]; exact hl1
    · rw [mStep_new hj]
      refine ⟨canon_snoc hc hs (fun t ht => ?_), fun y => by rw [inY_append, inY_one], fun x hx => ?_⟩
      · rcases List.mem_append.1 ht with ht | ht
        · have := h3 t ht; omega
        · rw [List.mem_singleton.1 ht]; omega
      · rcases List.mem_append.1 hx with hx | hx
        · exact hl x hx
        · rw [List.mem_singleton.1 hx]; exact Int.le_refl _
theorem mrg_is : ∀ (xs out : List Sp), canon out → (∀ s ∈ xs, s.1 ≤ s.2) → (∀ x ∈ out, ∀ s ∈ xs, x.1 ≤ s.1) → xs.Pairwise (fun a b => a.1 ≤ b.1) →
    canon (mrg out xs) ∧ ∀ y, inY (mrg out xs) y ↔ inY out y ∨ inY xs y
  | [], out, hc, _, _, _ => ⟨hc, fun y => ⟨.inl, fun h => h.elim id (fun h => absurd h (inY_nil y))⟩⟩
  | s :: r, out, hc, hs, hl, hp => by
    obtain ⟨h1, h2, h3⟩ := mStep_is hc (hs s (by simp)) (fun x hx => hl x hx s (by simp))
    obtain ⟨p1, p2⟩ := List.pairwise_cons.1 hp
    obtain ⟨r1, r2⟩ := mrg_is r (mStep out s) h1 (fun t ht => hs t (by simp [ht])) (fun x hx t ht => Int.le_trans (h3 x hx) (p1 t ht)) p2
    refine ⟨r1, fun y => ?_⟩
    show inY (mrg (mStep out s) r) y ↔ _
    rw [r2 y, h2 y, inY_cons, or_assoc]
/-- merged in order, the spans of two sets are the set of the years of one or the other -/
theorem union_is {a b xs : List Sp} (hx : ∀ s, s ∈ xs ↔ s ∈ a ∨ s ∈ b) (ha : ∀ s ∈ a, s.1 ≤ s.2) (hb : ∀ s ∈ b, s.1 ≤ s.2) (hp : xs.Pairwise (fun a b => a.1 ≤ b.1)) :
    canon (mrg [] xs) ∧ ∀ y, inY (mrg [] xs) y ↔ inY a y ∨ inY b y := by
  obtain ⟨h1, h2⟩ := mrg_is xs [] trivial (fun s hs => by rcases (hx s).1 hs with h | h; exact ha s h; exact hb s h) (by simp) hp
  refine ⟨h1, fun y => ?_⟩
  rw [h2 y]
  constructor
  · rintro (h | ⟨s, hs, h⟩)
    · exact absurd h (inY_nil y)
    · rcases (hx s).1 hs with h' | h'
      · exact .inl ⟨s, h', h⟩
      · exact .inr ⟨s, h', h⟩
  · rintro (⟨s, hs, h⟩ | ⟨s, hs, h⟩)
    · exact .inr ⟨s, (hx s).2 (.inl hs), h⟩
    · exact .inr ⟨s, (hx s).2 (.inr hs), h⟩
end Go.Proofs.Ytldikfikcnkgcaa
