/- The signs of rules, one behind the other; stable parsings. -/
import Derived.Test.YtjgcbnngjfchhaaDoorRuleE
namespace Go.Proofs.YtjgcbnngjfchhaaDoor
open Go.ChangeShapes Go.WideShapes Go.ChangeAt Go.RowKit

theorem ints_news {w : World} {b off n c : Nat} {xs : List Int} (h : Ints w (some ⟨b, off, none⟩) n c xs) (hn : 0 < n) : ∀ j u, (xs.map (Value.int .i64))[j]? = some u → w.cell? ((⟨b, off, none⟩ : Addr).add j) = some u := by
  obtain ⟨b', off', e, _, hc⟩ := h.2.at_ hn
  injection e with e; injection e with e1 e2
  subst e1; subst e2
  intro j u hu
  have h1 := hc j u hu
  unfold Addr.add
  split
  · rename_i h0; subst h0; exact h1
  · exact h1
theorem ints_one (xs : List Int) : ∀ u ∈ xs.map (Value.int .i64), u.oneCell' = true := by
  intro u hu
  obtain ⟨x, _, rfl⟩ := List.mem_map.1 hu
  rfl
/-- the signs of rules, one behind the other -/
def sgnCat (T : List Rl) (l : List Int) : List Int := l.flatMap fun i => (T.getD i.toNat ([], ⟨#[]⟩)).1
theorem sgnCat_succ {T : List Rl} {l : List Int} {k q : Nat} {xs : List Int} {r : ByteArray} (h : l[k]? = some (q : Int)) (hx : T[q]? = some (xs, r)) : sgnCat T (l.take (k + 1)) = sgnCat T (l.take k) ++ xs := by
  unfold sgnCat
  rw [List.take_add_one, h, List.flatMap_append]
  simp [List.getD_eq_getElem?_getD, hx]
def spBad (T : List Rl) (p : List Int) : Bool := decide (48 < p.length) || !p.all (inB 0 (T.length - 1))
def spCode (T : List Rl) (p : List Int) : Int := if isTab T = true then if spBad T p = true then 2 else 0 else 1
def spList (T : List Rl) (p : List Int) : List Int := if isTab T = true ∧ spBad T p = false then sgnCat T p else []
theorem sp_no {T : List Rl} (p : List Int) (h : isTab T = false) : Hid (spList T p = [] ∧ spCode T p = 1) := by
  unfold Hid spList spCode
  simp [h]
theorem sp_bad {T : List Rl} {p : List Int} (h : isTab T = true) (hb : spBad T p = true) : Hid (spList T p = [] ∧ spCode T p = 2) := by
  unfold Hid spList spCode
  simp [h, hb]
theorem sp_ok {T : List Rl} {p : List Int} (h : isTab T = true) (hb : spBad T p = false) : Hid (spList T p = sgnCat T p ∧ spCode T p = 0) := by
  unfold Hid spList spCode
  simp [h, hb]
theorem rl_len {T : List Rl} (h : isTab T = true) {q : Nat} {xs : List Int} {r : ByteArray} (hx : T[q]? = some (xs, r)) : 1 ≤ xs.length ∧ xs.length ≤ 3 := by
  have := isRl_len (isTab_at h hx).1
  omega
theorem all_in {p : List Int} {n : Nat} {T : List Rl} (hn : n = T.length) (h : p.all (inB 0 ((n : Int) - 1)) = true) : ∀ i ∈ p, ∃ q : Nat, i = q ∧ q < T.length := by
  intro i hi
  have h1 := List.all_eq_true.1 h i hi
  unfold inB at h1
  have h2 := of_decide_eq_true h1
  exact ⟨i.toNat, by omega, by omega⟩
theorem sp_cases (T : List Rl) (p : List Int) {n m : Nat} (hn : n = T.length) (hm : m = p.length) :
    (isTab T = false ∧ Hid (spList T p = [] ∧ spCode T p = 1)) ∨ (isTab T = true ∧ 48 < m ∧ Hid (spList T p = [] ∧ spCode T p = 2)) ∨
    (isTab T = true ∧ ¬ 48 < m ∧ p.all (inB 0 ((n : Int) - 1)) = false ∧ Hid (spList T p = [] ∧ spCode T p = 2)) ∨
    (isTab T = true ∧ ¬ 48 < m ∧ p.all (inB 0 ((n : Int) - 1)) = true ∧ Hid (spList T p = sgnCat T p ∧ spCode T p = 0)) := by
  cases ha : isTab T
  · exact .inl ⟨rfl, sp_no p ha⟩
  · by_cases h48 : 48 < m
    · exact .inr (.inl ⟨rfl, h48, sp_bad ha (by unfold spBad; rw [← hm]; simp [h48])⟩)
    · cases hp : p.all (inB 0 ((n : Int) - 1))
      · exact .inr (.inr (.inl ⟨rfl, h48, rfl, sp_bad ha (by unfold spBad; rw [← hn, hp]; simp)⟩))
      · exact .inr (.inr (.inr ⟨rfl, h48, rfl, sp_ok ha (by unfold spBad; rw [← hn, hp, ← hm]; simp; omega)⟩))
theorem sgnCat_len {T : List Rl} (h : isTab T = true) (p : List Int) : (sgnCat T p).length ≤ 3 * p.length := by
  unfold sgnCat
  induction p with
  | nil => simp
  | cons i r ih =>
    rw [List.flatMap_cons, List.length_append, List.length_cons]
    have : (T.getD i.toNat ([], ⟨#[]⟩)).1.length ≤ 3 := by
      rw [List.getD_eq_getElem?_getD]
      cases hq : T[i.toNat]? with
      | none => simp
      | some x => exact (rl_len (xs := x.1) (r := x.2) h hq).2
    omega
theorem sp_len (T : List Rl) (p : List Int) : (spList T p).length ≤ 1048576 := by
  unfold spList
  split
  · rename_i h
    have := sgnCat_len h.1 p
    have h2 := h.2
    unfold spBad at h2
    simp at h2
    omega
  · simp
end Go.Proofs.YtjgcbnngjfchhaaDoor
