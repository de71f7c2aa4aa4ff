/- Comparing the other way round, and a found place: plain law. Nothing is claimed of a Go function here. -/
import Derived.Test.YtpnbbhomkneflaaGreatDoorSortJ
import Derived.Test.YtpnbbhomkneflaaGreatDoorSpellLaw
import Derived.Test.YtpnbbhomkneflaaGreatDoorMrgA
namespace Go.Proofs.YtpnbbhomkneflaaGreatDoor
open Go.RowKit

theorem join_cutC (c : UInt8) : ∀ l : List UInt8, Lib.join (cutAt c l) [c] = l
  | [] => by simp [cutAt, Lib.join_one]
  | x :: l => by
    have ih := join_cutC c l
    unfold cutAt
    split
    · rename_i h
      rcases hq : cutAt c l with _ | ⟨p, r⟩
      · exact absurd hq (cutAt_ne c l)
      · rw [hq] at ih
        have e : Lib.join ([] :: p :: r) [c] = [] ++ c :: Lib.join (p :: r) [c] := by
          rw [Lib.join_cons, Lib.join_cons]
          simp [Lib.joinTail]
        rw [e, ih, h]
        rfl
    · split
      · rename_i hq
        exact absurd hq (cutAt_ne c l)
      · rename_i p r hq
        rw [hq] at ih
        have e : Lib.join ((x :: p) :: r) [c] = x :: Lib.join (p :: r) [c] := by
          rw [Lib.join_cons, Lib.join_cons]
          rfl
        rw [e, ih]
theorem joined_cutC (s : ByteArray) : joined (cutS 32 s) = s := by
  apply ByteArray.ext
  apply Array.ext'
  unfold joined bytesOf cutS
  rw [List.map_map]
  have e : ((fun x : ByteArray => x.data.toList) ∘ fun l : List UInt8 => (⟨l.toArray⟩ : ByteArray)) = id := by
    funext l
    simp
  rw [e, List.map_id, join_cutC]
theorem spell_inj {xs : List ByteArray} {s t : ByteArray} (hs : spellOk xs s = true) (ht : spellOk xs t = true) (h : spellList xs s = spellList xs t) : s = t := by
  unfold spellOk at hs ht
  unfold spellList at h
  obtain ⟨l, hl⟩ := Option.isSome_iff_exists.1 hs
  obtain ⟨m, hm⟩ := Option.isSome_iff_exists.1 ht
  rw [hl, hm] at h
  replace h : l = m := h
  subst h
  unfold spell at hl hm
  have h1 := (spl_cat hl).2 ⟨#[]⟩
  have h2 := (spl_cat hm).2 ⟨#[]⟩
  rw [nil_app] at h1 h2
  exact h1.symm.trans h2
theorem sps_inj {xs : List ByteArray} {s t : ByteArray} (hs : spAll xs s = true) (ht : spAll xs t = true) (h : sps xs s = sps xs t) : s = t := by
  unfold spAll at hs ht
  unfold sps at h
  have key : ∀ a b : List ByteArray, a.all (spellOk xs) = true → b.all (spellOk xs) = true → a.map (spellList xs) = b.map (spellList xs) → a = b := by
    intro a
    induction a with
    | nil => intro b _ _ h; cases b with
      | nil => rfl
      | cons y b => cases h
    | cons x a ih =>
      intro b ha hb h
      cases b with
      | nil => cases h
      | cons y b =>
        rw [List.all_cons, Bool.and_eq_true] at ha hb
        rw [List.map_cons, List.map_cons] at h
        injection h with h1 h2
        rw [spell_inj ha.1 hb.1 h1, ih b ha.2 hb.2 h2]
  have e := key _ _ hs ht h
  rw [← joined_cutC s, ← joined_cutC t, e]
theorem cwr_back {xs : List ByteArray} {s t : ByteArray} (h : cwrCode xs s t = 0) : cwrCode xs t s = 0 ∧ cwrVal xs t s = - cwrVal xs s t ∧ (cwrVal xs s t = 0 ↔ s = t) := by
  have h0 := h
  unfold cwrCode cwrOk at h
  have hok : (isAlpha xs && isWord s && isWord t) = true := by
    cases e : (isAlpha xs && isWord s && isWord t)
    · rw [e] at h; simp at h
    · rfl
  rw [hok] at h
  have hsp : (spellOk xs s && spellOk xs t) = true := by
    cases e : (spellOk xs s && spellOk xs t)
    · rw [e] at h; simp at h
    · rfl
  simp only [Bool.and_eq_true] at hok hsp
  have h2 : cwrCode xs t s = 0 := by
    unfold cwrCode cwrOk
    rw [hok.1.1, hok.1.2, hok.2, hsp.1, hsp.2]
    rfl
  refine ⟨h2, ?_, ?_⟩
  · unfold cwrVal
    rw [if_pos h0, if_pos h2]
    exact isCmpI.anti _ _
  · unfold cwrVal
    rw [if_pos h0]
    constructor
    · intro e
      exact spell_inj hsp.1 hsp.2 (isCmpI.eq0 _ _ e)
    · intro e
      rw [e]
      exact isCmpI.refl _
theorem ns_zeroC {xs : List ByteArray} {ig : List Int} {ps : List ByteArray} (h : nsCode xs ig ps = 0) : isAlpha xs = true ∧ ps.all isPhrase = true ∧ ig.all (inB 0 ((xs.length : Int) - 1)) = true ∧ ps.all (spAll xs) = true := by
  rcases ns_cases xs ig ps with ⟨_, e⟩ | ⟨_, _, e⟩ | ⟨_, _, _, e⟩ | ⟨_, _, _, _, e⟩ | ⟨a, b, c, d, _⟩
  · have := e.out; omega
  · have := e.out; omega
  · have := e.out; omega
  · have := e.out; omega
  · exact ⟨a, b, c, d⟩
theorem ns_ofC {xs : List ByteArray} {ig : List Int} {ps : List ByteArray} (h1 : isAlpha xs = true) (h2 : ps.all isPhrase = true) (h3 : ig.all (inB 0 ((xs.length : Int) - 1)) = true) (h4 : ps.all (spAll xs) = true) : nsCode xs ig ps = 0 := by
  unfold nsCode
  rw [if_pos ⟨h1, h2⟩, if_pos h3, if_pos h4]
theorem cp_back {xs : List ByteArray} {ig : List Int} {s t : ByteArray} (h : nsCode xs ig [s, t] = 0) : nsCode xs ig [t, s] = 0 ∧ cpVal xs ig t s = - cpVal xs ig s t ∧ (cpVal xs ig s t = 0 ↔ s = t) := by
  obtain ⟨h1, h2, h3, h4⟩ := ns_zeroC h
  simp only [List.all_cons, List.all_nil, Bool.and_true, Bool.and_eq_true] at h2 h4
  have e : nsCode xs ig [t, s] = 0 := ns_ofC h1 (by simp [h2.1, h2.2]) h3 (by simp [h4.1, h4.2])
  refine ⟨e, ?_, ?_⟩
  · unfold cpVal
    rw [if_pos h, if_pos e]
    exact cmpP_anti _ _ _ _
  · unfold cpVal
    rw [if_pos h]
    constructor
    · intro e0
      exact sps_inj h4.1 h4.2 (cmpP_zero e0)
    · intro e0
      rw [e0]
      have := cmpP_anti xs ig t t
      omega
theorem cp_cases (xs : List ByteArray) (ig : List Int) (s t : ByteArray) : nsCode xs ig [s, t] ≠ 0 ∨ (nsCode xs ig [s, t] = 0 ∧ Hid (nsCode xs ig [t, s] = 0 ∧ cpVal xs ig t s = - cpVal xs ig s t ∧ (cpVal xs ig s t = 0 ↔ s = t))) := by
  by_cases h : nsCode xs ig [s, t] = 0
  · exact .inr ⟨h, cp_back h⟩
  · exact .inl h
/-- the list with the found phrase in its place -/
def moreP (xs ps : List ByteArray) (s : ByteArray) : List ByteArray := ps.take (fpIdx xs ps s) ++ [s] ++ ps.drop (fpIdx xs ps s)
theorem moreP_len (xs ps : List ByteArray) (s : ByteArray) : (moreP xs ps s).length = ps.length + 1 := by
  have := fp_le xs ps s
  unfold moreP
  simp
  omega
theorem moreP_mem {xs ps : List ByteArray} {s x : ByteArray} (h : x ∈ moreP xs ps s) : x = s ∨ x ∈ ps := by
  unfold moreP at h
  rcases List.mem_append.1 h with h | h
  · rcases List.mem_append.1 h with h | h
    · exact .inr (List.mem_of_mem_take h)
    · exact .inl (List.mem_singleton.1 h)
  · exact .inr (List.mem_of_mem_drop h)
theorem tw_yes {α : Type} {p : α → Bool} {d : α} : ∀ (l : List α) (i : Nat), i < (l.takeWhile p).length → p (l.getD i d) = true
  | [], i, h => by simp at h
  | a :: r, i, h => by
    by_cases ha : p a = true
    · rw [List.takeWhile_cons_of_pos ha] at h
      match i, h with
      | 0, _ => exact ha
      | i + 1, h => simpa using tw_yes (d := d) r i (by simpa using h)
    · rw [List.takeWhile_cons_of_neg ha] at h
      simp at h
theorem tw_no {α : Type} {p : α → Bool} {d : α} : ∀ (l : List α), (l.takeWhile p).length < l.length → p (l.getD (l.takeWhile p).length d) = false
  | [], h => by simp at h
  | a :: r, h => by
    by_cases ha : p a = true
    · rw [List.takeWhile_cons_of_pos ha] at h ⊢
      simpa using tw_no (d := d) r (by simpa using h)
    · rw [List.takeWhile_cons_of_neg ha]
      simpa using ha
theorem moreP_lo {xs ps : List ByteArray} {s : ByteArray} {i : Nat} (h : i < fpIdx xs ps s) : (moreP xs ps s).getD i ⟨#[]⟩ = ps.getD i ⟨#[]⟩ := by
  have := fp_le xs ps s
  unfold moreP
  rw [List.getD_eq_getElem?_getD, List.getD_eq_getElem?_getD, List.append_assoc, List.getElem?_append_left (by simp; omega), List.getElem?_take_of_lt h]
theorem moreP_at {xs ps : List ByteArray} {s : ByteArray} : (moreP xs ps s).getD (fpIdx xs ps s) ⟨#[]⟩ = s := by
  have := fp_le xs ps s
  unfold moreP
  rw [List.getD_eq_getElem?_getD, List.append_assoc, List.getElem?_append_right (by simp; omega), List.length_take, Nat.min_eq_left this, Nat.sub_self]
  rfl
theorem moreP_hi {xs ps : List ByteArray} {s : ByteArray} {i : Nat} (h : fpIdx xs ps s ≤ i) : (moreP xs ps s).getD (i + 1) ⟨#[]⟩ = ps.getD i ⟨#[]⟩ := by
  have := fp_le xs ps s
  unfold moreP
  rw [List.getD_eq_getElem?_getD, List.getD_eq_getElem?_getD, List.getElem?_append_right (by simp; omega), List.getElem?_drop]
  congr 2
  simp
  omega
theorem moreP_sorted {xs ps : List ByteArray} {s : ByteArray} (h : sortedP xs [] ps = true) : sortedP xs [] (moreP xs ps s) = true := by
  have hk := fp_le xs ps s
  have hs : ∀ i, 1 ≤ i → i < ps.length → ¬ 0 < cAt xs [] ps i := fun i h1 h2 => sorted_at h h1 h2
  unfold sortedP
  rw [List.all_eq_true]
  intro i hi
  rw [List.mem_range, moreP_len] at hi
  rw [Bool.or_eq_true]
  by_cases h0 : i = 0
  · left; simp [h0]
  · right
    obtain ⟨j, rfl⟩ : ∃ j, i = j + 1 := ⟨i - 1, by omega⟩
    rw [Bool.not_eq_true', decide_eq_false_iff_not]
    unfold cAt
    rw [Nat.add_sub_cancel]
    rcases Nat.lt_trichotomy (j + 1) (fpIdx xs ps s) with h1 | h1 | h1
    · rw [moreP_lo h1, moreP_lo (by omega)]
      have := hs (j + 1) (by omega) (by omega)
      unfold cAt at this
      rw [Nat.add_sub_cancel] at this
      exact this
    · have e : (moreP xs ps s).getD (j + 1) ⟨#[]⟩ = s := by rw [h1]; exact moreP_at
      rw [e, moreP_lo (by omega)]
      have hy : befB xs s (ps.getD j ⟨#[]⟩) = true := tw_yes ps j (by unfold fpIdx at h1; omega)
      unfold befB at hy
      have := of_decide_eq_true hy
      omega
    · rw [moreP_hi (by omega)]
      by_cases h2 : j = fpIdx xs ps s
      · rw [h2, moreP_at]
        have hn : befB xs s (ps.getD (fpIdx xs ps s) ⟨#[]⟩) = false := tw_no ps (by unfold fpIdx at h2; omega)
        unfold befB at hn
        have := of_decide_eq_false hn
        have := cmpP_anti xs [] (ps.getD (fpIdx xs ps s) ⟨#[]⟩) s
        omega
      · obtain ⟨q, rfl⟩ : ∃ q, j = q + 1 := ⟨j - 1, by omega⟩
        rw [moreP_hi (by omega)]
        have := hs (q + 1) (by omega) (by omega)
        unfold cAt at this
        rw [Nat.add_sub_cancel] at this
        exact this
theorem fp_law {xs ps : List ByteArray} {s : ByteArray} (h : fpCode xs ps s = 0) (hl : ps.length < 20) : fpVal xs ps s = fpIdx xs ps s ∧ l6Code xs [] (moreP xs ps s) = 0 ∧ asVal xs [] (moreP xs ps s) = true := by
  rcases fp_cases xs ps s with ⟨h1, h2⟩ | ⟨_, _, h2⟩ | ⟨_, _, _, h2⟩ | ⟨h1, h2, h3, h4⟩
  · have := h2.out.1; omega
  · have := h2.out.1; omega
  · have := h2.out.1; omega
  · obtain ⟨a1, a2, a3, a4⟩ := ns_zeroC h1
    rw [List.all_eq_true] at a2 a4
    have hn : nsCode xs [] (moreP xs ps s) = 0 := ns_ofC a1 (List.all_eq_true.2 fun x hx => a2 x (by rcases moreP_mem hx with e | e <;> simp [e])) a3 (List.all_eq_true.2 fun x hx => a4 x (by rcases moreP_mem hx with e | e <;> simp [e]))
    have hc : l6Code xs [] (moreP xs ps s) = 0 := by
      unfold l6Code
      rw [if_pos hn, if_neg (by rw [moreP_len]; omega)]
    refine ⟨h4.out.2, hc, ?_⟩
    unfold asVal
    rw [if_pos hc]
    exact moreP_sorted h3
end Go.Proofs.YtpnbbhomkneflaaGreatDoor
