/- The rules used make the romanisation, and their signs the word: plain law. Nothing is claimed of a Go function here. -/
import Derived.Test.YtjgcbnngjfchhaaDoorRuleD
import Derived.Test.YtjgcbnngjfchhaaDoorRuleE
import Derived.Test.YtjgcbnngjfchhaaDoorAddLaw
namespace Go.Proofs.YtjgcbnngjfchhaaDoor
open Go.RowKit

/-- the signs of rules, one behind the other -/
def romSigns (T : List Rl) (l : List Int) : List Int := l.flatMap fun i => (T.getD i.toNat ([], ⟨#[]⟩)).1
theorem romSigns_succ {T : List Rl} {l : List Int} {k q : Nat} {xs : List Int} {r : ByteArray} (h : l[k]? = some (q : Int)) (hx : T[q]? = some (xs, r)) : romSigns T (l.take (k + 1)) = romSigns T (l.take k) ++ xs := by
  unfold romSigns
  rw [List.take_add_one, h]
  simp [List.getD_eq_getElem?_getD, hx]
theorem usd_signs {T : List Rl} : ∀ {f : Nat} {s l : List Int}, usd T f s = some l → romSigns T l = s
  | 0, s, l, h => by
    unfold usd at h
    split at h
    · rename_i hs; simp at h; subst h; rw [hs]; rfl
    · cases h
  | f + 1, s, l, h => by
    unfold usd at h
    split at h
    · rename_i hs; simp at h; subst h; rw [hs]; rfl
    · split at h
      · cases h
      · rename_i hb
        rw [Option.map_eq_some_iff] at h
        obtain ⟨l', h1, rfl⟩ := h
        obtain ⟨q, hq⟩ : ∃ q : Nat, best T s = q := ⟨(best T s).toNat, by omega⟩
        obtain ⟨k, r, hk1, hk2, h3⟩ := bestTo_get hq
        have e2 : T.getD (best T s).toNat ([], ⟨#[]⟩) = (s.take k, r) := by rw [hq, List.getD_eq_getElem?_getD, Int.toNat_natCast, h3]; rfl
        rw [e2] at h1
        have ih := usd_signs h1
        unfold romSigns at ih ⊢
        rw [List.flatMap_cons, e2, ih]
        have hl : (s.take k).length = k := by rw [List.length_take]; omega
        simp only [hl]
        exact List.take_append_drop k s
theorem ru_signs {T : List Rl} {s : List Int} (h : ruCode T s = 0) : romSigns T (ruList T s) = s ∧ ∀ i ∈ ruList T s, ∃ q : Nat, i = q ∧ q < T.length := by
  rcases ru_cases T s with ⟨h1, _⟩ | ⟨_, _, _, h1⟩ | ⟨_, _, h2, h1⟩
  · have := h1.out.2.2; omega
  · have := h1.out.2.2.1; omega
  · rw [h1.out.2.1]
    refine ⟨?_, usedList_in⟩
    unfold usedOk at h2
    unfold usedList
    obtain ⟨l, hl⟩ := Option.isSome_iff_exists.1 h2
    rw [hl]
    exact usd_signs hl
theorem own_rule {D : List Rl} {xs : List Int} {r : ByteArray} {q : Nat} (hD : isTab D = true) (hr : isRl (xs, r) = true) (hf : fndR D xs = q) (hq : D[q]? = some (xs, r)) : ruCode D xs = 0 ∧ roman D (ruList D xs) = r := by
  have hl := isRl_len hr
  obtain ⟨m, hm⟩ : ∃ m, xs.length = m + 1 := ⟨xs.length - 1, by omega⟩
  have hne : xs ≠ [] := by intro e; rw [e] at hm; simp at hm
  have hb : best D xs = q := by
    unfold best
    rw [hm, show min 3 (m + 1) = m + 1 by omega]
    unfold bestTo
    rw [List.take_of_length_le (by omega), hf, if_pos (by omega)]
  have hu : used D xs = some [(q : Int)] := by
    unfold used
    rw [hm, usd_step hne hb hq]
    rw [List.drop_of_length_le (Nat.le_refl _), usd_empty]
    rfl
  have hs : sgB 12 xs = true := by
    unfold isRl at hr
    rw [Bool.and_eq_true] at hr
    have h3 := hr.1
    unfold sgB at h3 ⊢
    rw [Bool.and_eq_true] at h3 ⊢
    exact ⟨h3.1, decide_eq_true (by have := of_decide_eq_true h3.2; omega)⟩
  have hok : ucOk D xs = true := by unfold ucOk; rw [hD, hs]; rfl
  have h1 : usedOk D xs = true := by unfold usedOk; rw [hu]; rfl
  have h2 : usedList D xs = [(q : Int)] := by unfold usedList; rw [hu]; rfl
  unfold ruCode ruList
  rw [hok, h1, h2]
  refine ⟨rfl, ?_⟩
  unfold roman
  simp [List.getD_eq_getElem?_getD, hq]
  apply ByteArray.ext
  apply Array.ext'
  simp
theorem ar_own {T : List Rl} {xs : List Int} {r : ByteArray} (h : arCode T xs r = 0) : ruCode (arList T xs r) xs = 0 ∧ roman (arList T xs r) (ruList (arList T xs r) xs) = r := by
  rcases ar_cases T xs r with ⟨_, h1⟩ | ⟨_, _, h1⟩ | ⟨ht, hr, q, r0, hf, hq, h2, h1⟩ | ⟨_, _, _, _, _, h1⟩ | ⟨ht, hr, hf, hl, h2, h1⟩
  · have := h1.out.2; omega
  · have := h1.out.2; omega
  · rw [h1.out.1]
    refine own_rule (q := q) h2.out hr ?_ (List.getElem?_set_self (List.getElem?_eq_some_iff.1 hq).1)
    unfold fndR at hf ⊢
    rw [sgs_set hq]
    exact hf
  · have := h1.out.2; omega
  · rw [h1.out.1]
    have hget : (T ++ [(xs, r)])[T.length]? = some (xs, r) := by rw [List.getElem?_append_right (Nat.le_refl _)]; simp
    refine own_rule (q := T.length) h2.out hr (fndR_at hget ?_) hget
    rw [List.take_left]
    have := fndR_has T xs
    rw [hf] at this
    rw [← this]
    rfl
theorem ru_code_len {T : List Rl} {s : List Int} (h : ruCode T s = 0) : s.length ≤ 12 ∧ isTab T = true := by
  rcases ru_cases T s with ⟨h1, _⟩ | ⟨_, _, _, h1⟩ | ⟨ht, hs, _, _⟩
  · have := h1.out.2.2; omega
  · have := h1.out.2.2.1; omega
  · unfold sgB at hs
    rw [Bool.and_eq_true] at hs
    have := of_decide_eq_true hs.2
    exact ⟨by omega, ht⟩
end Go.Proofs.YtjgcbnngjfchhaaDoor
