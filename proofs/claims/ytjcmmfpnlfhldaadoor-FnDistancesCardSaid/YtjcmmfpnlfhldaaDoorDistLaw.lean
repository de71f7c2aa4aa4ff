/- The distance of words and their letters in common: plain law. Nothing is claimed of a Go function here. -/
import Derived.Test.YtjcmmfpnlfhldaaDoorEdit
namespace Go.Proofs.YtjcmmfpnlfhldaaDoor

/-! ## the distance of beginnings -/
def dE (a b : List UInt8) : Nat → Nat → Int
  | 0, k => k
  | i + 1, 0 => i + 1
  | i + 1, k + 1 => min (min (dE a b i k + if a.getD i 0 = b.getD k 0 then 0 else 1) (dE a b i (k + 1) + 1)) (dE a b (i + 1) k + 1)
theorem getD_snoc_lt {R : List Int} {x : Int} {k : Nat} (h : k < R.length) : (R ++ [x]).getD k 0 = R.getD k 0 := by
  rw [List.getD_eq_getElem?_getD, List.getElem?_append_left h, List.getD_eq_getElem?_getD]
theorem getD_snoc_eq {R : List Int} {x : Int} {k : Nat} (h : R.length = k) : (R ++ [x]).getD k 0 = x := by
  rw [List.getD_eq_getElem?_getD, List.getElem?_append_right (by omega), h]
  simp
theorem edPart_at {a b : List UInt8} {i : Nat} {R : List Int} {n : Nat} (hR : ∀ k, k ≤ n → R.getD k 0 = dE a b i k) : ∀ m, m ≤ n → ∀ k, k ≤ m → (edPart (a.getD i 0) (i + 1) b R m).getD k 0 = dE a b (i + 1) k
  | 0, _, k, hk => by
    obtain rfl : k = 0 := by omega
    simp [edPart, dE]
  | m + 1, hm, k, hk => by
    have ih := edPart_at hR m (by omega)
    have hl := edPart_len (a.getD i 0) (i + 1) b R m
    unfold edPart
    by_cases h : k ≤ m
    · rw [getD_snoc_lt (by omega)]
      exact ih k h
    · obtain rfl : k = m + 1 := by omega
      rw [getD_snoc_eq hl]
      unfold edAt
      rw [hR m (by omega), hR (m + 1) hm, ih m (Nat.le_refl _)]
      simp only [dE]
theorem edRow_at (a b : List UInt8) : ∀ i k, k ≤ b.length → (edRow a b i).getD k 0 = dE a b i k
  | 0, k, hk => by
    unfold edRow
    rw [natRow_at _ _ (by omega)]
    simp [dE]
  | i + 1, k, hk => by
    unfold edRow
    exact edPart_at (fun k hk => edRow_at a b i k hk) b.length (Nat.le_refl _) k hk
theorem edit_is (a b : List UInt8) : edit a b = dE a b a.length b.length := edRow_at a b _ _ (Nat.le_refl _)
theorem dE_nil (a b : List UInt8) (i : Nat) : dE a b i 0 = i := by cases i <;> simp [dE]
theorem dE_sym (a b : List UInt8) : ∀ i k, dE a b i k = dE b a k i
  | 0, k => by rw [dE_nil]; simp [dE]
  | i + 1, 0 => by simp [dE]
  | i + 1, k + 1 => by
    simp only [dE]
    rw [dE_sym a b i k, dE_sym a b i (k + 1), dE_sym a b (i + 1) k]
    have : (if a.getD i 0 = b.getD k 0 then (0 : Int) else 1) = if b.getD k 0 = a.getD i 0 then 0 else 1 := by
      by_cases h : a.getD i 0 = b.getD k 0
      · rw [if_pos h, if_pos h.symm]
      · rw [if_neg h, if_neg (fun e => h e.symm)]
    rw [this]
    omega
theorem dE_bd (a b : List UInt8) : ∀ i k : Nat, 0 ≤ dE a b i k ∧ (i : Int) - k ≤ dE a b i k ∧ (k : Int) - i ≤ dE a b i k ∧ (dE a b i k ≤ i ∨ dE a b i k ≤ k)
  | 0, k => by simp [dE]; try omega
  | i + 1, 0 => by simp [dE]; try omega
  | i + 1, k + 1 => by
    have h1 := dE_bd a b i k
    have h2 := dE_bd a b i (k + 1)
    have h3 := dE_bd a b (i + 1) k
    simp only [dE]
    split <;> omega
theorem dE_zero (a b : List UInt8) : ∀ i k : Nat, dE a b i k = 0 → i = k ∧ ∀ j, j < i → a.getD j 0 = b.getD j 0
  | 0, k, h => by
    simp [dE] at h
    exact ⟨by omega, fun j hj => by omega⟩
  | i + 1, 0, h => by simp [dE] at h; omega
  | i + 1, k + 1, h => by
    have h1 := dE_bd a b i k
    have h2 := dE_bd a b i (k + 1)
    have h3 := dE_bd a b (i + 1) k
    simp only [dE] at h
    by_cases e : a.getD i 0 = b.getD k 0
    · rw [if_pos e] at h
      obtain ⟨h4, h5⟩ := dE_zero a b i k (by omega)
      subst h4
      refine ⟨rfl, fun j hj => ?_⟩
      by_cases hji : j = i
      · subst hji; exact e
      · exact h5 j (by omega)
    · rw [if_neg e] at h
      omega
theorem dE_self (a : List UInt8) : ∀ i, dE a a i i = 0
  | 0 => by simp [dE]
  | i + 1 => by
    have h1 := dE_self a i
    have h2 := dE_bd a a i (i + 1)
    have h3 := dE_bd a a (i + 1) i
    simp only [dE, if_true]
    omega
theorem edit_sym (a b : List UInt8) : edit b a = edit a b := by rw [edit_is, edit_is, dE_sym]
theorem edit_zero (a b : List UInt8) : edit a b = 0 ↔ a = b := by
  rw [edit_is]
  constructor
  · intro h
    obtain ⟨h1, h2⟩ := dE_zero a b _ _ h
    apply List.ext_getElem h1
    intro j hj hj2
    have := h2 j hj
    rwa [List.getD_eq_getElem?_getD, List.getD_eq_getElem?_getD, List.getElem?_eq_getElem hj, List.getElem?_eq_getElem hj2] at this
  · rintro rfl
    exact dE_self a _

/-! ## letters in common of beginnings -/
def dL (a b : List UInt8) : Nat → Nat → Int
  | 0, _ => 0
  | _ + 1, 0 => 0
  | i + 1, k + 1 => if a.getD i 0 = b.getD k 0 then dL a b i k + 1 else max (dL a b i (k + 1)) (dL a b (i + 1) k)
theorem dL_nil (a b : List UInt8) (i : Nat) : dL a b i 0 = 0 := by cases i <;> simp [dL]
theorem lcsPart_at {a b : List UInt8} {i : Nat} {R : List Int} {n : Nat} (hR : ∀ k, k ≤ n → R.getD k 0 = dL a b i k) : ∀ m, m ≤ n → ∀ k, k ≤ m → (lcsPart (a.getD i 0) b R m).getD k 0 = dL a b (i + 1) k
  | 0, _, k, hk => by
    obtain rfl : k = 0 := by omega
    simp [lcsPart, dL]
  | m + 1, hm, k, hk => by
    have ih := lcsPart_at hR m (by omega)
    have hl := lcsPart_len (a.getD i 0) b R m
    unfold lcsPart
    by_cases h : k ≤ m
    · rw [getD_snoc_lt (by omega)]
      exact ih k h
    · obtain rfl : k = m + 1 := by omega
      rw [getD_snoc_eq hl]
      unfold lcsAt
      rw [hR m (by omega), hR (m + 1) hm, ih m (Nat.le_refl _)]
      simp only [dL]
theorem lcsRow_at (a b : List UInt8) : ∀ i k, k ≤ b.length → (lcsRow a b i).getD k 0 = dL a b i k
  | 0, k, hk => by
    unfold lcsRow
    rw [List.getD_eq_getElem?_getD, List.getElem?_replicate]
    simp only [dL]
    split <;> rfl
  | i + 1, k, hk => by
    unfold lcsRow
    exact lcsPart_at (fun k hk => lcsRow_at a b i k hk) b.length (Nat.le_refl _) k hk
theorem lcs_is (a b : List UInt8) : lcs a b = dL a b a.length b.length := lcsRow_at a b _ _ (Nat.le_refl _)
theorem dL_bd (a b : List UInt8) : ∀ i k : Nat, 0 ≤ dL a b i k ∧ dL a b i k ≤ i ∧ dL a b i k ≤ k
  | 0, k => by simp [dL]
  | i + 1, 0 => by simp [dL]; omega
  | i + 1, k + 1 => by
    have h1 := dL_bd a b i k
    have h2 := dL_bd a b i (k + 1)
    have h3 := dL_bd a b (i + 1) k
    simp only [dL]
    split <;> omega
theorem dL_down {a b : List UInt8} {i : Nat} (hA : ∀ k, dL a b i k ≤ dL a b i (k + 1) ∧ dL a b i (k + 1) ≤ dL a b i k + 1) : ∀ k, dL a b i k ≤ dL a b (i + 1) k ∧ dL a b (i + 1) k ≤ dL a b i k + 1
  | 0 => by rw [dL_nil, dL_nil]; omega
  | k + 1 => by
    have h1 := dL_down hA k
    have h2 := hA k
    have e : dL a b (i + 1) (k + 1) = if a.getD i 0 = b.getD k 0 then dL a b i k + 1 else max (dL a b i (k + 1)) (dL a b (i + 1) k) := by simp only [dL]
    rw [e]
    split <;> omega
theorem dL_across (a b : List UInt8) : ∀ i k, dL a b i k ≤ dL a b i (k + 1) ∧ dL a b i (k + 1) ≤ dL a b i k + 1
  | 0, k => by simp [dL]
  | i + 1, k => by
    have hA := dL_across a b i
    have h1 := hA k
    have h2 := dL_down hA k
    have e : dL a b (i + 1) (k + 1) = if a.getD i 0 = b.getD k 0 then dL a b i k + 1 else max (dL a b i (k + 1)) (dL a b (i + 1) k) := by simp only [dL]
    rw [e]
    split <;> omega
theorem dL_mono (a b : List UInt8) (n : Nat) : ∀ i k, dL a b n n ≤ dL a b (n + i) (n + k)
  | 0, 0 => Int.le_refl _
  | 0, k + 1 => Int.le_trans (dL_mono a b n 0 k) (dL_across a b _ (n + k)).1
  | i + 1, k => Int.le_trans (dL_mono a b n i k) (dL_down (dL_across a b (n + i)) _).1
theorem dE_dL (a b : List UInt8) : ∀ i k : Nat, (i : Int) ≤ dE a b i k + dL a b i k ∧ (k : Int) ≤ dE a b i k + dL a b i k ∧ dE a b i k + 2 * dL a b i k ≤ i + k
  | 0, k => by simp [dE, dL]; try omega
  | i + 1, 0 => by simp [dE, dL]; try omega
  | i + 1, k + 1 => by
    have h1 := dE_dL a b i k
    have h2 := dE_dL a b i (k + 1)
    have h3 := dE_dL a b (i + 1) k
    have g1 := dL_across a b i k
    have g2 := dL_down (dL_across a b i) k
    have g3 := dL_across a b (i + 1) k
    have g4 := dL_down (dL_across a b i) (k + 1)
    have e : dL a b (i + 1) (k + 1) = if a.getD i 0 = b.getD k 0 then dL a b i k + 1 else max (dL a b i (k + 1)) (dL a b (i + 1) k) := by simp only [dL]
    rw [e] at g3 g4 ⊢
    simp only [dE]
    split
    · rename_i hc
      rw [if_pos hc] at g3 g4
      omega
    · rename_i hc
      rw [if_neg hc] at g3 g4
      omega
theorem start_agree : ∀ (a b : List UInt8) (j : Nat), j < startLen a b → a.getD j 0 = b.getD j 0
  | x :: a, y :: b, j, h => by
    unfold startLen at h
    split at h
    · rename_i e
      cases j with
      | zero => simpa using e
      | succ j => simpa using start_agree a b j (by omega)
    · omega
  | [], _, j, h => by simp [startLen] at h
  | _ :: _, [], j, h => by simp [startLen] at h
theorem start_both : ∀ (a b : List UInt8), startLen a b ≤ a.length ∧ startLen a b ≤ b.length
  | x :: a, y :: b => by
    have := start_both a b
    unfold startLen
    split <;> simp <;> omega
  | [], _ => by simp [startLen]
  | _ :: _, [] => by simp [startLen]
theorem dL_start {a b : List UInt8} : ∀ {n : Nat}, (∀ j, j < n → a.getD j 0 = b.getD j 0) → (n : Int) ≤ dL a b n n
  | 0, _ => by simp [dL]
  | n + 1, h => by
    have ih := dL_start (n := n) fun j hj => h j (by omega)
    have e : dL a b (n + 1) (n + 1) = if a.getD n 0 = b.getD n 0 then dL a b n n + 1 else max (dL a b n (n + 1)) (dL a b (n + 1) n) := by simp only [dL]
    rw [e, if_pos (h n (by omega))]
    omega
/-- what the law of distances asks -/
theorem dist_law (a b : List UInt8) : edit b a = edit a b ∧ (edit a b = 0 ↔ a = b) ∧ max (a.length : Int) b.length - min (a.length : Int) b.length ≤ edit a b ∧ edit a b ≤ max (a.length : Int) b.length ∧ lcs a b ≤ min (a.length : Int) b.length ∧ max (a.length : Int) b.length - lcs a b ≤ edit a b ∧ edit a b ≤ (a.length : Int) + b.length - 2 * lcs a b ∧ (startLen a b : Int) ≤ lcs a b ∧ 0 ≤ edit a b ∧ 0 ≤ lcs a b := by
  refine ⟨edit_sym a b, edit_zero a b, ?_⟩
  rw [edit_is, lcs_is]
  have h1 := dE_bd a b a.length b.length
  have h2 := dL_bd a b a.length b.length
  have h3 := dE_dL a b a.length b.length
  have h4 := start_both a b
  have h5 := dL_start (start_agree a b)
  have h6 := dL_mono a b (startLen a b) (a.length - startLen a b) (b.length - startLen a b)
  rw [show startLen a b + (a.length - startLen a b) = a.length by omega, show startLen a b + (b.length - startLen a b) = b.length by omega] at h6
  omega
end Go.Proofs.YtjcmmfpnlfhldaaDoor
