/- What AddRule computes, over plain lists: nothing is claimed of a Go function here. -/
import Derived.Test.YtjgcbnngjfchhaaDoorMrgA
namespace Go.Proofs.YtjgcbnngjfchhaaDoor
open Go.RowKit
theorem set_same_ {α : Type} {l : List α} {i : Nat} {a : α} (h : l[i]? = some a) : l.set i a = l := by
  obtain ⟨hi, e⟩ := List.getElem?_eq_some_iff.1 h
  rw [← e, List.set_getElem_self]
theorem sgs_set {T : List Rl} {q : Nat} {xs : List Int} {r r0 : ByteArray} (h : T[q]? = some (xs, r0)) : sgs (T.set q (xs, r)) = sgs T := by
  unfold sgs
  rw [List.map_set]
  exact set_same_ (by rw [List.getElem?_map, h]; rfl)
theorem isTab_mk {T : List Rl} (h : ∀ k r, T[k]? = some r → isRl r = true ∧ hasR (T.take k) r.1 = false) (hl : T.length ≤ 30) : isTab T = true := by
  unfold isTab
  rw [Bool.and_eq_true]
  refine ⟨List.all_eq_true.2 fun k hk => ?_, decide_eq_true hl⟩
  have e : T[k]? = some (T[k]'(List.mem_range.1 hk)) := List.getElem?_eq_getElem _
  obtain ⟨a, b⟩ := h k _ e
  rw [tabAt_is e, a, b]
  rfl
theorem isTab_set {T : List Rl} {q : Nat} {xs : List Int} {r r0 : ByteArray} (ht : isTab T = true) (hr : isRl (xs, r) = true) (h : T[q]? = some (xs, r0)) : isTab (T.set q (xs, r)) = true := by
  have hs := sgs_set (r := r) h
  refine isTab_mk (fun k x hk => ?_) (by rw [List.length_set]; exact isTab_len ht)
  have e : hasR ((T.set q (xs, r)).take k) x.1 = hasR (T.take k) x.1 := by unfold hasR; rw [sgs_take, hs, sgs_take]
  by_cases hq : q = k
  · subst hq
    rw [List.getElem?_set_self (List.getElem?_eq_some_iff.1 h).1] at hk
    injection hk with hk
    subst hk
    exact ⟨hr, by rw [e]; exact (isTab_at ht h).2⟩
  · rw [List.getElem?_set_ne hq] at hk
    exact ⟨(isTab_at ht hk).1, by rw [e]; exact (isTab_at ht hk).2⟩
theorem isTab_snoc {T : List Rl} {xs : List Int} {r : ByteArray} (ht : isTab T = true) (hr : isRl (xs, r) = true) (hn : hasR T xs = false) : isTab (T ++ [(xs, r)]) = decide (T.length + 1 ≤ 30) := by
  by_cases hl : T.length + 1 ≤ 30
  · rw [decide_eq_true hl]
    refine isTab_mk (fun k x hk => ?_) (by simp; omega)
    by_cases hk2 : k < T.length
    · rw [List.getElem?_append_left hk2] at hk
      rw [List.take_append_of_le_length (by omega)]
      exact isTab_at ht hk
    · have hk3 := (List.getElem?_eq_some_iff.1 hk).1
      simp at hk3
      obtain rfl : k = T.length := by omega
      rw [List.getElem?_append_right (Nat.le_refl _)] at hk
      simp at hk
      subst hk
      rw [List.take_left]
      exact ⟨hr, hn⟩
  · rw [decide_eq_false hl]
    unfold isTab
    rw [decide_eq_false (by simp; omega), Bool.and_false]
/-- a table with a further rule -/
def addR (T : List Rl) (xs : List Int) (r : ByteArray) : List Rl := if hasR T xs = true then T.set (fndR T xs).toNat (xs, r) else T ++ [(xs, r)]
def arOk (T : List Rl) (xs : List Int) (r : ByteArray) : Bool := isTab T && isRl (xs, r)
def arFull (T : List Rl) (xs : List Int) : Bool := !hasR T xs && decide (T.length = 30)
def arCode (T : List Rl) (xs : List Int) (r : ByteArray) : Int := if arOk T xs r = true then if arFull T xs = true then 5 else 0 else 1
def arList (T : List Rl) (xs : List Int) (r : ByteArray) : List Rl := if arOk T xs r = true ∧ arFull T xs = false then addR T xs r else []
/-- the four ways -/
theorem ar_cases (T : List Rl) (xs : List Int) (r : ByteArray) :
    (isTab T = false ∧ Hid (arList T xs r = [] ∧ arCode T xs r = 1)) ∨ (isTab T = true ∧ isRl (xs, r) = false ∧ Hid (arList T xs r = [] ∧ arCode T xs r = 1)) ∨
    (isTab T = true ∧ isRl (xs, r) = true ∧ ∃ (q : Nat) (r0 : ByteArray), fndR T xs = q ∧ T[q]? = some (xs, r0) ∧ Hid (isTab (T.set q (xs, r)) = true) ∧ Hid (arList T xs r = T.set q (xs, r) ∧ arCode T xs r = 0)) ∨
    (isTab T = true ∧ isRl (xs, r) = true ∧ fndR T xs = -1 ∧ T.length = 30 ∧ Hid (isTab (T ++ [(xs, r)]) = false) ∧ Hid (arList T xs r = [] ∧ arCode T xs r = 5)) ∨
    (isTab T = true ∧ isRl (xs, r) = true ∧ fndR T xs = -1 ∧ T.length < 30 ∧ Hid (isTab (T ++ [(xs, r)]) = true) ∧ Hid (arList T xs r = T ++ [(xs, r)] ∧ arCode T xs r = 0)) := by
  cases ha : isTab T
  · refine .inl ⟨rfl, ?_⟩
    unfold Hid arList arCode arOk
    simp [ha]
  · refine .inr ?_
    cases hr : isRl (xs, r)
    · refine .inl ⟨rfl, rfl, ?_⟩
      unfold Hid arList arCode arOk
      simp [ha, hr]
    · refine .inr ?_
      have hok : arOk T xs r = true := by unfold arOk; rw [ha, hr]; rfl
      have hl := isTab_len ha
      cases hh : hasR T xs
      · refine .inr ?_
        have hf := fndR_none hh
        have hs := isTab_snoc ha hr hh
        by_cases h30 : T.length = 30
        · refine .inl ⟨rfl, rfl, hf, h30, ?_, ?_⟩
          · unfold Hid; rw [hs]; exact decide_eq_false (by omega)
          · unfold Hid arList arCode arFull
            simp [hok, hh, h30]
        · refine .inr ⟨rfl, rfl, hf, by omega, ?_, ?_⟩
          · unfold Hid; rw [hs]; exact decide_eq_true (by omega)
          · unfold Hid arList arCode arFull addR
            simp [hok, hh, h30]
      · refine .inl ⟨rfl, rfl, (fndR T xs).toNat, ?_⟩
        have h0 : 0 ≤ fndR T xs := by have := fndR_has T xs; rw [hh] at this; exact of_decide_eq_true this
        have hq : fndR T xs = ((fndR T xs).toNat : Int) := by omega
        obtain ⟨r0, hr0⟩ := fndR_get hq
        refine ⟨r0, hq, hr0, isTab_set ha hr hr0, ?_⟩
        unfold Hid arList arCode arFull addR
        simp [hok, hh]
theorem ar_tab (T : List Rl) (xs : List Int) (r : ByteArray) : arList T xs r = [] ∨ isTab (arList T xs r) = true := by
  rcases ar_cases T xs r with ⟨_, h⟩ | ⟨_, _, h⟩ | ⟨_, _, q, r0, _, _, h2, h⟩ | ⟨_, _, _, _, _, h⟩ | ⟨_, _, _, _, h2, h⟩
  · exact .inl h.out.1
  · exact .inl h.out.1
  · exact .inr (by rw [h.out.1]; exact h2.out)
  · exact .inl h.out.1
  · exact .inr (by rw [h.out.1]; exact h2.out)
end Go.Proofs.YtjgcbnngjfchhaaDoor
