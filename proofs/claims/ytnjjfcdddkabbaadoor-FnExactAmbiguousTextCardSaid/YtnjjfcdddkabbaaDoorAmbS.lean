/- The steps from one rest by one rule, and how far the first pairs and the steps have been walked: plain law. Nothing is claimed of a Go function here. -/
import Derived.Test.YtnjjfcdddkabbaaDoorAmbL
namespace Go.Proofs.YtnjjfcdddkabbaaDoor
open Go.RowKit

theorem app_empty (t : ByteArray) : t ++ (⟨#[]⟩ : ByteArray) = t := by
  apply ByteArray.ext
  simp
theorem pre_self (x : ByteArray) : pre x x = true := by
  unfold pre
  simp
theorem cut_all {x : ByteArray} {n : Nat} (h : x.size ≤ n) : cutT x n = ⟨#[]⟩ := by
  apply ByteArray.ext
  apply Array.ext'
  rw [cut_list, List.drop_eq_nil_of_le (by simpa using h)]
theorem pre_same {x y : ByteArray} (h : pre x y = true) (hs : y.size ≤ x.size) : x = y := by
  obtain ⟨h1, h2⟩ := pre_eq h
  have e : x.size = y.size := by omega
  rw [e] at h2
  simpa using h2.symm
/-- what follows from an entry by a rule -/
def stepB (x t r : ByteArray) : Option (ByteArray × ByteArray) :=
  if pre x r = true then some (cutT r x.size, t ++ cutT r x.size) else if pre r x = true then some (cutT x r.size, t) else none
/-- .. in the other order of the questions -/
theorem stepB_under {x t r : ByteArray} (h : pre r x = true) : stepB x t r = some (cutT x r.size, t) := by
  unfold stepB
  by_cases h2 : pre x r = true
  · obtain rfl := pre_same h2 (pre_le h)
    rw [if_pos h2, cut_all (Nat.le_refl _), app_empty]
  · rw [if_neg h2, if_pos h]
theorem stepB_over {x t r : ByteArray} (h : pre x r = true) : stepB x t r = some (cutT r x.size, t ++ cutT r x.size) := by
  unfold stepB
  rw [if_pos h]
theorem stepB_none {x t r : ByteArray} (h1 : pre x r = false) (h2 : pre r x = false) : stepB x t r = none := by
  unfold stepB
  rw [h1, h2]
  rfl
theorem steps_has {f : Best} {x t r x' t' : ByteArray} (h : stepB x t r = some (x', t')) (hh : Has f x' t') : StepsAt f x t r := by
  refine ⟨fun h1 => ?_, fun h1 => ?_⟩
  · rw [stepB_over h1] at h
    injection h with h; injection h with e1 e2
    subst e1; subst e2; exact hh
  · rw [stepB_under h1] at h
    injection h with h; injection h with e1 e2
    subst e1; subst e2; exact hh
theorem steps_none {f : Best} {x t r : ByteArray} (h : stepB x t r = none) : StepsAt f x t r :=
  ⟨fun h1 => (by rw [stepB_over h1] at h; cases h), fun h1 => (by rw [stepB_under h1] at h; cases h)⟩
theorem steps_imp {f g : Best} (h : Imp f g) {x t r : ByteArray} (hs : StepsAt f x t r) : StepsAt g x t r := ⟨fun h1 => has_imp h (hs.1 h1), fun h1 => has_imp h (hs.2 h1)⟩
theorem der_step {R : List ByteArray} {x t r x' t' : ByteArray} (hd : Der R x t) (h0 : x.size ≠ 0) (hr : r ∈ R) (h : stepB x t r = some (x', t')) : Der R x' t' := by
  by_cases h1 : pre x r = true
  · rw [stepB_over h1] at h
    injection h with h; injection h with e1 e2
    rw [← e1, ← e2]
    exact .over hd h0 hr h1
  · by_cases h2 : pre r x = true
    · rw [stepB_under h2] at h
      injection h with h; injection h with e1 e2
      rw [← e1, ← e2]
      exact .under hd h0 hr h2
    · unfold stepB at h
      rw [if_neg h1, if_neg h2] at h
      cases h
theorem step_univ {R : List ByteArray} {x t r x' t' : ByteArray} (hx : x ∈ univ R) (hr : r ∈ R) (hR : ∀ r ∈ R, r.size ≤ 4) (h : stepB x t r = some (x', t')) : x' ∈ univ R ∧ t'.size ≤ t.size + 4 := by
  have h4 := hR r hr
  by_cases h1 : pre x r = true
  · rw [stepB_over h1] at h
    injection h with h; injection h with e1 e2
    rw [← e1, ← e2]
    refine ⟨univ_at hr (pre_le h1), ?_⟩
    rw [ByteArray.size_append, cut_size]
    omega
  · by_cases h2 : pre r x = true
    · rw [stepB_under h2] at h
      injection h with h; injection h with e1 e2
      rw [← e1, ← e2]
      exact ⟨univ_cut hx (pre_le h2), by omega⟩
    · unfold stepB at h
      rw [if_neg h1, if_neg h2] at h
      cases h
theorem univ_len {R : List ByteArray} (hR : ∀ r ∈ R, r.size ≤ 4) : (univ R).length ≤ 5 * R.length := by
  induction R with
  | nil => simp [univ]
  | cons r R ih =>
    have ih := ih (fun x hx => hR x (by simp [hx]))
    have hr := hR r (by simp)
    unfold univ at ih ⊢
    rw [List.flatMap_cons, List.length_append]
    have : (sufs r).length = r.size + 1 := by unfold sufs; simp
    rw [this, List.length_cons]
    omega

/-! ## the first pairs, up to a place -/
def InitsTo (R : List ByteArray) (f : Best) (i k : Nat) : Prop := ∀ (i' k' : Nat) a b, (i' < i ∨ (i' = i ∧ k' < k)) → R[i']? = some a → R[k']? = some b → i' ≠ k' → pre a b = true → Has f (cutT b a.size) b
theorem initsTo_start (R : List ByteArray) (f : Best) : InitsTo R f 0 0 := fun i' k' a b h => by omega
theorem initsTo_row {R : List ByteArray} {f : Best} {i n : Nat} (h : InitsTo R f i n) (hn : R.length ≤ n) : InitsTo R f (i + 1) 0 := fun i' k' a b h1 h2 h3 => by
  have hk := (List.getElem?_eq_some_iff.1 h3).1
  exact h i' k' a b (by omega) h2 h3
theorem initsTo_end {R : List ByteArray} {f : Best} {n : Nat} (h : InitsTo R f n 0) (hn : R.length ≤ n) : Inits R f := fun i' k' a b h2 h3 => by
  have hk := (List.getElem?_eq_some_iff.1 h2).1
  exact h i' k' a b (by omega) h2 h3
theorem initsTo_skip {R : List ByteArray} {f : Best} {i k : Nat} {a b : ByteArray} (h : InitsTo R f i k) (ha : R[i]? = some a) (hb : R[k]? = some b) (hn : i = k ∨ pre a b = false) : InitsTo R f i (k + 1) := fun i' k' a' b' h1 h2 h3 h4 h5 => by
  rcases Decidable.em (i' < i ∨ (i' = i ∧ k' < k)) with h6 | h6
  · exact h i' k' a' b' h6 h2 h3 h4 h5
  · obtain rfl : i' = i := by omega
    obtain rfl : k' = k := by omega
    rw [ha] at h2; rw [hb] at h3
    injection h2 with h2; injection h3 with h3
    subst h2; subst h3
    rcases hn with e | e
    · exact absurd e h4
    · rw [e] at h5; cases h5
theorem initsTo_learn {R : List ByteArray} {f : Best} {i k : Nat} {a b : ByteArray} (h : InitsTo R f i k) (ha : R[i]? = some a) (hb : R[k]? = some b) : InitsTo R (learnB f (cutT b a.size) b) i (k + 1) := fun i' k' a' b' h1 h2 h3 h4 h5 => by
  rcases Decidable.em (i' < i ∨ (i' = i ∧ k' < k)) with h6 | h6
  · exact has_imp (learn_imp _ _ _) (h i' k' a' b' h6 h2 h3 h4 h5)
  · obtain rfl : i' = i := by omega
    obtain rfl : k' = k := by omega
    rw [ha] at h2; rw [hb] at h3
    injection h2 with h2; injection h3 with h3
    subst h2; subst h3
    exact learn_has _ _ _
theorem inits_imp {R : List ByteArray} {f g : Best} (h : Imp f g) (hi : Inits R f) : Inits R g := fun i k a b h1 h2 h3 h4 => has_imp h (hi i k a b h1 h2 h3 h4)
theorem init_fits {R : List ByteArray} {f : Best} {i k : Nat} {a b : ByteArray} (hR : ∀ r ∈ R, r.size ≤ 4) (ha : R[i]? = some a) (hb : R[k]? = some b) (hne : i ≠ k) (hp : pre a b = true) :
    Der R (cutT b a.size) b ∧ cutT b a.size ∈ univ R ∧ b.size ≤ 4 * (1 + cntB (univ R) f) + 4 :=
  ⟨.init ha hb hne hp, univ_at (List.mem_of_getElem? hb) (pre_le hp), by have := hR b (List.mem_of_getElem? hb); omega⟩

/-! ## the steps, up to a place -/
/-- from one entry by the first k rules -/
def StepsRow (R : List ByteArray) (f : Best) (x t : ByteArray) (k : Nat) : Prop := ∀ (q : Nat) r, q < k → R[q]? = some r → StepsAt f x t r
theorem stepsRow_start (R : List ByteArray) (f : Best) (x t : ByteArray) : StepsRow R f x t 0 := fun q r h => by omega
theorem stepsRow_succ {R : List ByteArray} {f : Best} {x t r : ByteArray} {k : Nat} (h : StepsRow R f x t k) (hr : R[k]? = some r) (hs : StepsAt f x t r) : StepsRow R f x t (k + 1) := fun q r' h1 h2 => by
  rcases Nat.lt_or_ge q k with h3 | h3
  · exact h q r' h3 h2
  · obtain rfl : q = k := by omega
    rw [hr] at h2
    injection h2 with h2
    subst h2
    exact hs
theorem stepsRow_end {R : List ByteArray} {f : Best} {x t : ByteArray} {n : Nat} (h : StepsRow R f x t n) (hn : R.length ≤ n) : ∀ r ∈ R, StepsAt f x t r := fun r hr => by
  obtain ⟨q, hq⟩ := List.getElem?_of_mem hr
  have := (List.getElem?_eq_some_iff.1 hq).1
  exact h q r (by omega) hq
/-- from the first i entries of a list -/
def StepsTo (R : List ByteArray) (f : Best) (L : List (ByteArray × ByteArray)) (i : Nat) : Prop := ∀ (j : Nat) x t, j < i → L[j]? = some (t, x) → x.size ≠ 0 → ∀ r ∈ R, StepsAt f x t r
theorem stepsTo_start (R : List ByteArray) (f : Best) (L : List (ByteArray × ByteArray)) : StepsTo R f L 0 := fun j x t h => by omega
theorem stepsTo_succ {R : List ByteArray} {f : Best} {L : List (ByteArray × ByteArray)} {i : Nat} {x t : ByteArray} (h : StepsTo R f L i) (hi : L[i]? = some (t, x)) (hs : x.size ≠ 0 → ∀ r ∈ R, StepsAt f x t r) : StepsTo R f L (i + 1) := fun j x' t' h1 h2 => by
  rcases Nat.lt_or_ge j i with h3 | h3
  · exact h j x' t' h3 h2
  · obtain rfl : j = i := by omega
    rw [hi] at h2
    injection h2 with h2; injection h2 with e1 e2
    subst e1; subst e2
    exact hs
theorem stepsTo_end {R : List ByteArray} {f : Best} {L : List (ByteArray × ByteArray)} {n : Nat} (h : StepsTo R f L n) (hn : L.length ≤ n) (hL : ∀ x t, f x = some t → (t, x) ∈ L) : Steps R f := fun x t e h0 r hr => by
  obtain ⟨j, hj⟩ := List.getElem?_of_mem (hL x t e)
  have := (List.getElem?_eq_some_iff.1 hj).1
  exact h j x t (by omega) hj h0 r hr
end Go.Proofs.YtnjjfcdddkabbaaDoor
