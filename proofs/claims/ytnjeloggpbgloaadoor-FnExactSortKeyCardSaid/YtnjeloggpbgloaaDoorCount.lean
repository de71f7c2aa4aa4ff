/- The number of spellings: plain law, no program in sight. -/
import Derived.Test.YtnjeloggpbgloaaDoorSpellE
namespace Go.Proofs.YtnjeloggpbgloaaDoor
open Go.RowKit

/-- the sum over the first k letters with which a text begins, of what stands behind each -/
def csum (xs : List ByteArray) (t : ByteArray) (P : List Int) : Nat → Int
  | 0 => 0
  | k + 1 => if pre (xs.getD k ⟨#[]⟩) t = true then csum xs t P k + P.getD ((xs.getD k ⟨#[]⟩).size - 1) 0 else csum xs t P k
/-- the numbers of ways to make the last m letters, m - 1 letters, .. -/
def cw (xs : List ByteArray) (s : ByteArray) : Nat → List Int
  | 0 => [1]
  | m + 1 => csum xs (s.extract (s.size - (m + 1)) s.size) (cw xs s m) xs.length :: cw xs s m
def csNum (xs : List ByteArray) (s : ByteArray) : Int := if lcOk xs s = true then (cw xs s s.size).getD 0 0 else 0
theorem csum_no {xs : List ByteArray} {t : ByteArray} {P : List Int} {k : Nat} {x : ByteArray} (h : xs[k]? = some x) (hp : pre x t = false) : csum xs t P (k + 1) = csum xs t P k := by
  conv => lhs; unfold csum
  rw [List.getD_eq_getElem?_getD, h, Option.getD_some, hp]
  simp
theorem csum_yes {xs : List ByteArray} {t : ByteArray} {P : List Int} {k : Nat} {x : ByteArray} (h : xs[k]? = some x) (hp : pre x t = true) : csum xs t P (k + 1) = csum xs t P k + P.getD (x.size - 1) 0 := by
  conv => lhs; unfold csum
  have e1 : xs.getD k ⟨#[]⟩ = x := by rw [List.getD_eq_getElem?_getD, h]; rfl
  rw [e1, hp]
  simp
theorem cw_len (xs : List ByteArray) (s : ByteArray) : ∀ m, (cw xs s m).length = m + 1
  | 0 => rfl
  | m + 1 => by unfold cw; rw [List.length_cons, cw_len xs s m]

def crow (i : Nat) (v : Int) (P : List Int) : List Int := List.replicate i 0 ++ v :: P
theorem crow_len (i : Nat) (v : Int) (P : List Int) : (crow i v P).length = i + 1 + P.length := by simp [crow]; omega
theorem crow_at (i : Nat) (v : Int) (P : List Int) : (crow i v P)[i]? = some v := by
  unfold crow
  rw [List.getElem?_append_right (by simp)]
  simp
theorem crow_in (i d : Nat) (v : Int) (P : List Int) : (crow i v P)[i + d + 1]? = P[d]? := by
  unfold crow
  rw [List.getElem?_append_right (by simp; omega)]
  have : i + d + 1 - (List.replicate i (0 : Int)).length = d + 1 := by simp; omega
  rw [this]
  rfl
theorem crow_set (i : Nat) (v u : Int) (P : List Int) : (crow i v P).set i u = crow i u P := by
  unfold crow
  rw [List.set_append_right _ _ (by simp)]
  simp
theorem crow_next (i : Nat) (v : Int) (P : List Int) : crow (i + 1) v P = crow i 0 (v :: P) := by
  unfold crow
  rw [List.replicate_succ']
  simp
def crows (xs : List ByteArray) (s : ByteArray) (m : Nat) : List Int := List.replicate (s.size - m) 0 ++ cw xs s m
theorem crows_start {xs : List ByteArray} {s : ByteArray} {m i : Nat} (h : s.size = m + i + 1) : crows xs s m = crow i 0 (cw xs s m) := by
  unfold crows crow
  rw [show s.size - m = i + 1 by omega, List.replicate_succ']
  simp
theorem crows_end {xs : List ByteArray} {s : ByteArray} {m i : Nat} (h : s.size = m + i + 1) : crow i (csum xs (s.extract i s.size) (cw xs s m) xs.length) (cw xs s m) = crows xs s (m + 1) := by
  unfold crows crow
  rw [show s.size - (m + 1) = i by omega]
  conv => rhs; unfold cw
  rw [show s.size - (m + 1) = i by omega]
theorem crows_zero (xs : List ByteArray) (s : ByteArray) : (List.replicate (s.size + 1) (0 : Int)).set s.size 1 = crows xs s 0 := by
  unfold crows cw
  rw [List.replicate_succ', List.set_append_right _ _ (by simp)]
  simp
theorem crows_last (xs : List ByteArray) (s : ByteArray) : crows xs s s.size = cw xs s s.size := by
  unfold crows
  simp

/-- letters of one size with which a text begins -/
def hits (xs : List ByteArray) (t : ByteArray) (d : Nat) : Nat → Nat
  | 0 => 0
  | k + 1 => hits xs t d k + if pre (xs.getD k ⟨#[]⟩) t = true ∧ (xs.getD k ⟨#[]⟩).size = d then 1 else 0
theorem alpha_all {xs : List ByteArray} (h : isAlpha xs = true) {k : Nat} {x : ByteArray} (hx : xs[k]? = some x) : hasT (xs.take k) x = false := by
  unfold isAlpha at h
  rw [Bool.and_eq_true, List.all_eq_true] at h
  have h1 := h.1 k (by have := (List.getElem?_eq_some_iff.1 hx).1; simpa using this)
  rw [alphaAt_is hx, Bool.and_eq_true] at h1
  simpa using h1.2
theorem hasT_mono {xs : List ByteArray} {k : Nat} {y : ByteArray} (h : hasT (xs.take k) y = true) : hasT (xs.take (k + 1)) y = true := by
  unfold hasT at h ⊢
  rw [List.take_add_one, List.any_append, h]
  rfl
theorem hits_one {xs : List ByteArray} (ha : isAlpha xs = true) (t : ByteArray) (d : Nat) : ∀ k, k ≤ xs.length → hits xs t d k = 0 ∨ (hits xs t d k = 1 ∧ hasT (xs.take k) (t.extract 0 d) = true)
  | 0, _ => .inl rfl
  | k + 1, hk => by
    have e1 : xs[k]? = some xs[k] := List.getElem?_eq_getElem (by omega)
    have e2 : xs.getD k ⟨#[]⟩ = xs[k] := by rw [List.getD_eq_getElem?_getD, e1]; rfl
    have ih := hits_one ha t d k (by omega)
    unfold hits
    rw [e2]
    by_cases hm : pre xs[k] t = true ∧ xs[k].size = d
    · rw [if_pos hm]
      have e3 : t.extract 0 d = xs[k] := by rw [← hm.2]; exact (pre_eq hm.1).2
      rcases ih with h0 | ⟨_, h1⟩
      · refine .inr ⟨by omega, ?_⟩
        rw [e3]
        exact hasT_eq (k := k) (by rw [List.getElem?_take_of_lt (by omega), e1])
      · rw [e3, alpha_all ha e1] at h1
        cases h1
    · rw [if_neg hm]
      rcases ih with h0 | ⟨h0, h1⟩
      · exact .inl (by omega)
      · exact .inr ⟨by omega, hasT_mono h1⟩
theorem csum_hits {xs : List ByteArray} (ha : isAlpha xs = true) (t : ByteArray) {P : List Int} {M : Int} (hM : 0 ≤ M) (hP : ∀ d, 0 ≤ P.getD d 0 ∧ P.getD d 0 ≤ M) : ∀ k, k ≤ xs.length →
    0 ≤ csum xs t P k ∧ csum xs t P k ≤ (hits xs t 1 k : Int) * M + (hits xs t 2 k : Int) * M + (hits xs t 3 k : Int) * M
  | 0, _ => by simp [csum, hits]
  | k + 1, hk => by
    have e1 : xs[k]? = some xs[k] := List.getElem?_eq_getElem (by omega)
    have e2 : xs.getD k ⟨#[]⟩ = xs[k] := by rw [List.getD_eq_getElem?_getD, e1]; rfl
    obtain ⟨i0, i1⟩ := csum_hits ha t hM hP k (by omega)
    have hz := alpha_size ha e1
    cases hp : pre xs[k] t
    · rw [csum_no e1 hp]
      unfold hits
      rw [e2, hp]
      simpa using ⟨i0, i1⟩
    · rw [csum_yes e1 hp]
      have hb := hP (xs[k].size - 1)
      unfold hits
      rw [e2, hp]
      have : xs[k].size = 1 ∨ xs[k].size = 2 ∨ xs[k].size = 3 := by omega
      rcases this with h | h | h <;> rw [h] at hb ⊢ <;> simp [Int.add_mul] at hb ⊢ <;> omega
theorem csum_le {xs : List ByteArray} (ha : isAlpha xs = true) (t : ByteArray) {P : List Int} {M : Int} (hM : 0 ≤ M) (hP : ∀ d, 0 ≤ P.getD d 0 ∧ P.getD d 0 ≤ M) {k : Nat} (hk : k ≤ xs.length) : 0 ≤ csum xs t P k ∧ csum xs t P k ≤ 3 * M := by
  obtain ⟨h0, h1⟩ := csum_hits ha t hM hP k hk
  refine ⟨h0, ?_⟩
  have a : ∀ d, (hits xs t d k : Int) * M ≤ M := fun d => by
    rcases hits_one ha t d k hk with h | ⟨h, _⟩ <;> rw [h] <;> simp; exact hM
  have := a 1; have := a 2; have := a 3
  omega
theorem cw_in {xs : List ByteArray} (ha : isAlpha xs = true) (s : ByteArray) : ∀ m d, 0 ≤ (cw xs s m).getD d 0 ∧ (cw xs s m).getD d 0 ≤ (3 ^ m : Nat)
  | 0, d => by
    unfold cw
    cases d <;> simp
  | m + 1, d => by
    have ih := cw_in ha s m
    have hs := csum_le ha (s.extract (s.size - (m + 1)) s.size) (Int.natCast_nonneg _) ih (Nat.le_refl _)
    have e : ((3 ^ (m + 1) : Nat) : Int) = 3 * ((3 ^ m : Nat) : Int) := by rw [Nat.pow_succ]; omega
    unfold cw
    cases d with
    | zero => simpa [e] using hs
    | succ d =>
      have := ih d
      rw [e]
      have h2 : (csum xs (s.extract (s.size - (m + 1)) s.size) (cw xs s m) xs.length :: cw xs s m).getD (d + 1) 0 = (cw xs s m).getD d 0 := rfl
      rw [h2]
      omega
theorem pow3_le {m : Nat} (h : m ≤ 16) : (3 ^ m : Nat) ≤ 43046721 := Nat.le_trans (Nat.pow_le_pow_right (by omega) h) (by decide)
end Go.Proofs.YtnjeloggpbgloaaDoor
