/- A span read from its text: plain law. Nothing is claimed of a Go function here. -/
import Derived.Test.YtfacbdliegemgaaDoorReadLaw
import Derived.Test.YtfacbdliegemgaaDoorSpanT
namespace Go.Proofs.YtfacbdliegemgaaDoor
open Go.ChangeShapes Go.WideShapes Go.ChangeAt Go.RowKit

theorem itoa_nodot (n : Int) : ∀ x ∈ Lib.itoa n, x ≠ 46 := by
  have hd : ∀ u : Nat, ∀ x ∈ Lib.decDigits u, x ≠ 46 := by
    intro u x hx e
    have := List.all_eq_true.1 (dec_all u) x hx
    rw [e] at this
    revert this
    decide
  by_cases h : n < 0
  · rw [itoa_neg h]
    intro x hx
    rcases List.mem_cons.1 hx with rfl | hx
    · decide
    · exact hd _ x hx
  · rw [itoa_pos h]
    exact hd _
theorem itoa_nil (n : Int) : Lib.itoa n ≠ [] := by
  by_cases h : n < 0
  · rw [itoa_neg h]; simp
  · rw [itoa_pos h]
    intro e
    have := dec_pos n.toNat
    rw [e] at this
    simp at this
theorem index_two (c : UInt8) : ∀ (p r : List UInt8), (∀ x ∈ p, x ≠ c) → Lib.index (p ++ c :: c :: r) [c, c] = p.length
  | [], r, _ => by
    rw [List.nil_append, Lib.index, if_pos (by simp [List.isPrefixOf])]
    rfl
  | x :: p, r, h => by
    have ih := index_two c p r (fun z hz => h z (by simp [hz]))
    have hx : x ≠ c := h x (by simp)
    rw [List.cons_append, Lib.index, if_neg (by simp [List.isPrefixOf]; intro e; exact absurd e.symm hx), ih, if_neg (by simp)]
    simp
theorem cut_two (c : UInt8) (p r : List UInt8) (h : ∀ x ∈ p, x ≠ c) : Lib.cut (p ++ c :: c :: r) [c, c] = (p, r, true) := by
  unfold Lib.cut
  rw [index_two c p r h, if_pos (by omega), Int.toNat_natCast]
  simp
theorem cut_two_is (c : UInt8) (s : List UInt8) : (Lib.cut s [c, c] = (s, [], false)) ∨ ∃ p r, Lib.cut s [c, c] = (p, r, true) ∧ s = p ++ c :: c :: r := by
  rcases Lib.index_spec s [c, c] with ⟨h1, _⟩ | ⟨i, h1, h2, h3, _⟩
  · refine .inl ?_
    unfold Lib.cut
    rw [h1, if_neg (by omega)]
  · refine .inr ⟨s.take i, s.drop (i + 2), ?_, ?_⟩
    · unfold Lib.cut
      rw [h1, if_pos (by omega), Int.toNat_natCast]
      rfl
    · unfold Lib.occAt at h3
      obtain ⟨t, ht⟩ := List.isPrefixOf_iff_prefix.1 h3
      have e : s.drop (i + 2) = t := by
        rw [← List.drop_drop, ← ht]
        rfl
      rw [e]
      have := List.take_append_drop i s
      rw [← ht] at this
      exact this.symm
theorem cut3 {l x z : List UInt8} (h : cutAt 46 l = [x, [], z]) : l = x ++ 46 :: 46 :: z ∧ ∀ u ∈ x, u ≠ 46 := by
  by_cases h1 : Lib.index l [46] = -1
  · rw [cutAt_none (index_one_none 46 h1)] at h
    simp at h
  · have hge := Lib.index_ge l [46]
    obtain ⟨i, hi⟩ : ∃ i : Nat, Lib.index l [46] = i := ⟨(Lib.index l [46]).toNat, by omega⟩
    obtain ⟨p, r, hs, _, hx⟩ := index_one_some 46 hi
    rw [hs, cutAt_app r hx] at h
    injection h with h2 h3
    subst h2
    have hj := join_cut 46 r
    rw [h3, join_two, Lib.join_one] at hj
    rw [hs, ← hj]
    exact ⟨rfl, hx⟩
theorem cut3_mk {x z : List UInt8} (hx : ∀ u ∈ x, u ≠ 46) (hz : ∀ u ∈ z, u ≠ 46) : cutAt 46 (x ++ 46 :: 46 :: z) = [x, [], z] := by
  rw [cutAt_app _ hx]
  have := cutAt_app (c := 46) (p := []) z (by simp)
  rw [List.nil_append] at this
  rw [this, cutAt_none hz]

/-- the span that a text says -/
def rsWords (s : ByteArray) : Option (ByteArray × ByteArray × ByteArray) := match cutS 46 s with | [a, m, b] => some (a, m, b) | _ => none
def rsOf (a m b : ByteArray) : Option (Int × Int) := if (decide (m = ⟨#[]⟩) && (sOkT a && (sOkT b && isSpn (sNumT a) (sNumT b)))) = true then some (sNumT a, sNumT b) else none
def rsVal (s : ByteArray) : Option (Int × Int) := (rsWords s).bind fun t => rsOf t.1 t.2.1 t.2.2
def rsSpan (s : ByteArray) : Int × Int := (rsVal s).getD (0, 0)
def rsCode (s : ByteArray) : Int := if (rsVal s).isSome = true then 0 else 6
def rsFrom (s : ByteArray) : ByteArray := ⟨(Lib.cut s.data.toList [46, 46]).1.toArray⟩
def rsTo (s : ByteArray) : ByteArray := ⟨(Lib.cut s.data.toList [46, 46]).2.1.toArray⟩
def rsFound (s : ByteArray) : Bool := (Lib.cut s.data.toList [46, 46]).2.2
theorem words_some {s a m b : ByteArray} (h : rsWords s = some (a, m, b)) : cutS 46 s = [a, m, b] := by
  unfold rsWords at h
  rcases hc : cutS 46 s with _ | ⟨x, _ | ⟨y, _ | ⟨z, _ | ⟨_, _⟩⟩⟩⟩
  · rw [hc] at h; cases h
  · rw [hc] at h; cases h
  · rw [hc] at h; cases h
  · rw [hc] at h
    injection h with h
    injection h with h1 h2
    injection h2 with h2 h3
    rw [h1, h2, h3]
  · rw [hc] at h; cases h
theorem words_none {s : ByteArray} (h : rsWords s = none) : (cutS 46 s).length ≠ 3 := by
  unfold rsWords at h
  rcases hc : cutS 46 s with _ | ⟨x, _ | ⟨y, _ | ⟨z, _ | ⟨_, _⟩⟩⟩⟩
  · simp
  · simp
  · simp
  · rw [hc] at h; cases h
  · simp
theorem rs_of {s a m b : ByteArray} (h : rsWords s = some (a, m, b)) : rsVal s = rsOf a m b := by
  unfold rsVal
  rw [h]
  rfl
theorem rs_none {s : ByteArray} (h : rsVal s = none) : Hid (rsSpan s = (0, 0) ∧ rsCode s = 6) := by
  unfold rsSpan rsCode
  rw [h]
  exact ⟨rfl, rfl⟩
theorem rs_some {s : ByteArray} {x : Int × Int} (h : rsVal s = some x) : Hid (rsSpan s = x ∧ rsCode s = 0) := by
  unfold rsSpan rsCode
  rw [h]
  exact ⟨rfl, rfl⟩
theorem words_list {s a m b : ByteArray} (h : cutS 46 s = [a, m, b]) : cutAt 46 s.data.toList = [a.data.toList, m.data.toList, b.data.toList] := by
  unfold cutS at h
  have e := congrArg (List.map fun x : ByteArray => x.data.toList) h
  rw [List.map_map] at e
  have e2 : ((fun x : ByteArray => x.data.toList) ∘ fun l : List UInt8 => (⟨l.toArray⟩ : ByteArray)) = id := by
    funext l
    simp
  rw [e2, List.map_id] at e
  exact e
theorem rs_text {s a m b : ByteArray} (hp : cutS 46 s = [a, m, b]) (hm : m = ⟨#[]⟩) (ha : sOkT a = true) (hb : sOkT b = true) : spnT (sNumT a) (sNumT b) = s := by
  subst hm
  obtain ⟨h1, _⟩ := cut3 (words_list hp)
  unfold spnT
  rw [numT_word ha, numT_word hb]
  apply bytes_eq
  rw [h1]
  simp
theorem rs_no {s : ByteArray} (h : (rOkT (rsFrom s) && (rOkT (rsTo s) && isSpn (rNumT (rsFrom s)) (rNumT (rsTo s)))) = false) : rsVal s = none := by
  rcases hw : rsWords s with _ | ⟨a, m, b⟩
  · unfold rsVal
    rw [hw]
    rfl
  · rw [rs_of hw]
    unfold rsOf
    rw [if_neg]
    intro hq
    rw [Bool.and_eq_true, Bool.and_eq_true, Bool.and_eq_true] at hq
    obtain ⟨hm, ha, hb, hs⟩ := hq
    have hm := of_decide_eq_true hm
    subst hm
    obtain ⟨h1, h2⟩ := cut3 (words_list (words_some hw))
    have h3 := cut_two 46 _ b.data.toList h2
    rw [← h1] at h3
    have e1 : rsFrom s = a := by unfold rsFrom; rw [h3]
    have e2 : rsTo s = b := by unfold rsTo; rw [h3]
    rw [e1, e2, (word_same ha).1, (word_same hb).1, (word_same ha).2, (word_same hb).2, hs] at h
    cases h
theorem rs_yes {s : ByteArray} (h1 : rOkT (rsFrom s) = true) (h2 : rOkT (rsTo s) = true) (h3 : isSpn (rNumT (rsFrom s)) (rNumT (rsTo s)) = true) : rsVal s = some (rNumT (rsFrom s), rNumT (rsTo s)) := by
  have hb := spn_bd h3
  have f1 := word_back h1 (by omega) (by omega)
  have f2 := word_back h2 (by omega) (by omega)
  have g1 := rOk_is h1
  have g2 := rOk_is h2
  have hs : s.data.toList = (rsFrom s).data.toList ++ 46 :: 46 :: (rsTo s).data.toList := by
    rcases cut_two_is 46 s.data.toList with h | ⟨p, r, h, e⟩
    · exfalso
      have : (rsTo s).data.toList = [] := by unfold rsTo; rw [h]
      rw [this] at g2
      exact itoa_nil _ g2
    · unfold rsFrom rsTo
      rw [h]
      simpa using e
  have n1 : ∀ u ∈ (rsFrom s).data.toList, u ≠ 46 := by rw [← g1]; exact itoa_nodot _
  have n2 : ∀ u ∈ (rsTo s).data.toList, u ≠ 46 := by rw [← g2]; exact itoa_nodot _
  have hc : cutS 46 s = [rsFrom s, ⟨#[]⟩, rsTo s] := by
    unfold cutS
    rw [hs, cut3_mk n1 n2]
    rfl
  have hw : rsWords s = some (rsFrom s, ⟨#[]⟩, rsTo s) := by
    unfold rsWords
    rw [hc]
  rw [rs_of hw]
  unfold rsOf
  rw [f1.1, f2.1, f1.2, f2.2, h3]
  rfl
theorem rs_span {s : ByteArray} {x : Int × Int} (h : rsVal s = some x) : isSpn x.1 x.2 = true ∧ spnT x.1 x.2 = s := by
  rcases hw : rsWords s with _ | ⟨a, m, b⟩
  · unfold rsVal at h
    rw [hw] at h
    cases h
  · rw [rs_of hw] at h
    unfold rsOf at h
    split at h
    · rename_i hq
      rw [Bool.and_eq_true, Bool.and_eq_true, Bool.and_eq_true] at hq
      injection h with h
      subst h
      exact ⟨hq.2.2.2, rs_text (words_some hw) (of_decide_eq_true hq.1) hq.2.1 hq.2.2.1⟩
    · cases h
end Go.Proofs.YtfacbdliegemgaaDoor
