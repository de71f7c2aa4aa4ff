/- A phrase found in a sorted list: the program's and the reference's FindPhrase. -/
import Derived.Test.YtnjeloggpbgloaaDoorSortI
namespace Go.Proofs.YtnjeloggpbgloaaDoor
open Go.ChangeShapes Go.WideShapes Go.ChangeAt Go.RowKit
theorem cmpP_zero {xs : List ByteArray} {ig : List Int} {a b : ByteArray} (h : cmpP xs ig a b = 0) : sps xs a = sps xs b := by
  unfold cmpP at h
  split at h
  · rw [onceP_nil] at h
    exact isCmpL.eq0 _ _ h
  · rename_i h0; exact absurd h h0
theorem cmpP_congr {xs : List ByteArray} {ig : List Int} {a b c : ByteArray} (h : sps xs a = sps xs b) : cmpP xs ig a c = cmpP xs ig b c := by
  unfold cmpP onceP
  rw [h]
theorem cmpP_le_lt {xs : List ByteArray} {ig : List Int} {a b c : ByteArray} (h1 : ¬ 0 < cmpP xs ig a b) (h2 : cmpP xs ig b c < 0) : cmpP xs ig a c < 0 := by
  by_cases h0 : cmpP xs ig a b = 0
  · rw [cmpP_congr (cmpP_zero h0)]; exact h2
  · exact cmpP_tr xs ig a b c (by omega) h2
theorem sorted_at {xs : List ByteArray} {ig : List Int} {ps : List ByteArray} (h : sortedP xs ig ps = true) {i : Nat} (h1 : 1 ≤ i) (h2 : i < ps.length) : ¬ 0 < cAt xs ig ps i := by
  unfold sortedP at h
  have := List.all_eq_true.1 h i (List.mem_range.2 h2)
  simp at this
  omega
/-- what lies before a phrase in a sorted list -/
def befB (xs : List ByteArray) (s t : ByteArray) : Bool := decide (cmpP xs [] t s < 0)
def bef (xs : List ByteArray) (ps : List ByteArray) (s : ByteArray) (i : Nat) : Prop := befB xs s (ps.getD i ⟨#[]⟩) = true
theorem bef_iff {xs : List ByteArray} {ps : List ByteArray} {s : ByteArray} {i : Nat} : bef xs ps s i ↔ cmpP xs [] (ps.getD i ⟨#[]⟩) s < 0 := by
  unfold bef befB
  exact decide_eq_true_iff
theorem bef_down {xs : List ByteArray} {ps : List ByteArray} {s : ByteArray} (h : sortedP xs [] ps = true) : ∀ {b : Nat}, b < ps.length → bef xs ps s b → ∀ a, a ≤ b → bef xs ps s a
  | 0, _, hb, a, ha => by obtain rfl : a = 0 := by omega
                          exact hb
  | b + 1, hl, hb, a, ha => by
    by_cases e : a = b + 1
    · rw [e]; exact hb
    · refine bef_down h (b := b) (by omega) ?_ a (by omega)
      have := sorted_at h (i := b + 1) (by omega) hl
      unfold cAt at this
      rw [Nat.add_sub_cancel] at this
      exact bef_iff.2 (cmpP_le_lt this (bef_iff.1 hb))
def fpIdx (xs : List ByteArray) (ps : List ByteArray) (s : ByteArray) : Nat := (ps.takeWhile (befB xs s)).length
theorem tw_len {α : Type} {p : α → Bool} {d : α} : ∀ (l : List α) (i : Nat), i ≤ l.length → (∀ t, t < i → p (l.getD t d) = true) → (i < l.length → p (l.getD i d) = false) → (l.takeWhile p).length = i
  | [], i, hi, _, _ => by simp at hi; simp [hi]
  | a :: r, 0, _, _, h2 => by
    have : p a = false := by simpa using h2 (by simp)
    simp [this]
  | a :: r, i + 1, hi, h1, h2 => by
    have ha : p a = true := by simpa using h1 0 (by omega)
    rw [List.takeWhile_cons_of_pos ha, List.length_cons, tw_len (d := d) r i (by simpa using hi) (fun t ht => by simpa using h1 (t + 1) (by omega)) (fun h => by simpa using h2 (by simpa using h))]
theorem fp_is {xs : List ByteArray} {ps : List ByteArray} {s : ByteArray} {i : Nat} (hi : i ≤ ps.length) (h1 : ∀ t, t < i → bef xs ps s t) (h2 : i < ps.length → ¬ bef xs ps s i) : fpIdx xs ps s = i := by
  unfold fpIdx
  refine tw_len (p := befB xs s) (d := (⟨#[]⟩ : ByteArray)) ps i hi (fun t ht => ?_) (fun h => ?_)
  · have := h1 t ht
    unfold bef at this
    exact this
  · have := h2 h
    unfold bef at this
    exact Bool.not_eq_true _ |>.mp this
theorem fp_le (xs : List ByteArray) (ps : List ByteArray) (s : ByteArray) : fpIdx xs ps s ≤ ps.length := by
  unfold fpIdx
  exact (List.takeWhile_sublist _).length_le
def fpCode (xs : List ByteArray) (ps : List ByteArray) (s : ByteArray) : Int := if nsCode xs [] (ps ++ [s]) = 0 then if 20 < ps.length then 3 else if sortedP xs [] ps = true then 0 else 5 else nsCode xs [] (ps ++ [s])
def fpVal (xs : List ByteArray) (ps : List ByteArray) (s : ByteArray) : Int := if fpCode xs ps s = 0 then fpIdx xs ps s else 0
theorem ns_swap (xs : List ByteArray) (ps : List ByteArray) (s : ByteArray) : nsCode xs [] (s :: ps) = nsCode xs [] (ps ++ [s]) := by
  have e1 : (s :: ps).all isPhrase = (ps ++ [s]).all isPhrase := by
    rw [List.all_append, List.all_cons, Bool.and_comm]; simp
  have e2 : (s :: ps).all (spAll xs) = (ps ++ [s]).all (spAll xs) := by
    rw [List.all_append, List.all_cons, Bool.and_comm]; simp
  unfold nsCode
  rw [e1, e2]
theorem fp_cases (xs : List ByteArray) (ps : List ByteArray) (s : ByteArray) :
    (nsCode xs [] (ps ++ [s]) ≠ 0 ∧ Hid (fpCode xs ps s = nsCode xs [] (ps ++ [s]) ∧ fpVal xs ps s = 0)) ∨
    (nsCode xs [] (ps ++ [s]) = 0 ∧ 20 < ps.length ∧ Hid (fpCode xs ps s = 3 ∧ fpVal xs ps s = 0)) ∨
    (nsCode xs [] (ps ++ [s]) = 0 ∧ ¬ 20 < ps.length ∧ sortedP xs [] ps = false ∧ Hid (fpCode xs ps s = 5 ∧ fpVal xs ps s = 0)) ∨
    (nsCode xs [] (ps ++ [s]) = 0 ∧ ¬ 20 < ps.length ∧ sortedP xs [] ps = true ∧ Hid (fpCode xs ps s = 0 ∧ fpVal xs ps s = fpIdx xs ps s)) := by
  unfold Hid fpVal fpCode
  by_cases h : nsCode xs [] (ps ++ [s]) = 0
  · by_cases h2 : 20 < ps.length
    · simp [h, h2]
    · cases h3 : sortedP xs [] ps <;> simp [h, h2]
  · simp [h]
theorem ns_last {xs : List ByteArray} {ps : List ByteArray} {s : ByteArray} (h : nsCode xs [] (ps ++ [s]) = 0) : isAlpha xs = true ∧ ps.all isPhrase = true ∧ ps.all (spAll xs) = true ∧ isPhrase s = true ∧ spAll xs s = true := by
  obtain ⟨a, b, c⟩ := ns_zero h
  simp only [List.all_append, List.all_cons, List.all_nil, Bool.and_true, Bool.and_eq_true] at b c
  exact ⟨a, b.1, c.1, b.2, c.2⟩
end Go.Proofs.YtnjeloggpbgloaaDoor
