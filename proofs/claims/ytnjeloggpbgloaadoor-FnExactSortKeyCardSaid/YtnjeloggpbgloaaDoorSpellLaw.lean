/- The letters of a spelling make the word: plain law. Nothing is claimed of a Go function here. -/
import Derived.Test.YtnjeloggpbgloaaDoorSpellF
import Derived.Test.YtnjeloggpbgloaaDoorCount
namespace Go.Proofs.YtnjeloggpbgloaaDoor

theorem text_ext {a b : ByteArray} (h : a.data.toList = b.data.toList) : a = b := ByteArray.ext (Array.ext' h)
theorem split_text (s : ByteArray) (k : Nat) (h : k ≤ s.size) : s.extract 0 k ++ s.extract k s.size = s := by
  apply text_ext
  have hl : s.data.toList.length = s.size := by simp
  simp only [ByteArray.data_append, Array.toList_append, ByteArray.data_extract, Array.toList_extract, List.extract_eq_take_drop, List.drop_zero, Nat.sub_zero]
  rw [List.take_of_length_le (l := s.data.toList.drop k) (by simp), List.take_append_drop]
theorem app_assoc (a b c : ByteArray) : a ++ b ++ c = a ++ (b ++ c) := by
  apply text_ext
  simp
theorem app_nil (a : ByteArray) : a ++ ⟨#[]⟩ = a := by
  apply text_ext
  simp
theorem nil_app (a : ByteArray) : ⟨#[]⟩ ++ a = a := by
  apply text_ext
  simp
theorem size_nil {s : ByteArray} (h : s.size = 0) : s = ⟨#[]⟩ := by
  apply text_ext
  have : s.data.toList.length = 0 := by simpa using h
  rw [List.eq_nil_of_length_eq_zero this]
theorem spl_cat {xs : List ByteArray} : ∀ {f : Nat} {s : ByteArray} {l : List Int}, spl xs f s = some l → (∀ i ∈ l, 0 ≤ i ∧ i < xs.length) ∧ ∀ t : ByteArray, l.foldl (fun t i => t ++ xs.getD i.toNat ⟨#[]⟩) t = t ++ s
  | 0, s, l, h => by
    unfold spl at h
    split at h
    · rename_i h0
      injection h with h
      subst h
      exact ⟨by simp, fun t => by rw [size_nil h0, app_nil]; rfl⟩
    · cases h
  | f + 1, s, l, h => by
    unfold spl at h
    split at h
    · rename_i h0
      injection h with h
      subst h
      exact ⟨by simp, fun t => by rw [size_nil h0, app_nil]; rfl⟩
    · split at h
      · cases h
      · rename_i h0 hn
        rw [Option.map_eq_some_iff] at h
        obtain ⟨l', h1, rfl⟩ := h
        obtain ⟨q, hq⟩ : ∃ q : Nat, nx xs s xs.length = q := ⟨(nx xs s xs.length).toNat, by omega⟩
        obtain ⟨x, hx, hp⟩ := nx_pre (Nat.le_refl _) hq
        have hlt := (List.getElem?_eq_some_iff.1 hx).1
        have e2 : xs.getD (nx xs s xs.length).toNat ⟨#[]⟩ = x := by rw [hq, List.getD_eq_getElem?_getD, Int.toNat_natCast, hx]; rfl
        rw [e2] at h1
        obtain ⟨i1, i2⟩ := spl_cat h1
        obtain ⟨p1, p2⟩ := pre_eq hp
        refine ⟨fun i hi => ?_, fun t => ?_⟩
        · rcases List.mem_cons.1 hi with rfl | hi
          · rw [hq]; omega
          · exact i1 i hi
        · rw [List.foldl_cons, e2, i2, app_assoc]
          congr 1
          have := split_text s x.size p1
          rw [p2] at this
          exact this
theorem sw_there {xs : List ByteArray} {s : ByteArray} (h : swCode xs s = 0) : jlCode xs (swList xs s) = 0 ∧ jlText xs (swList xs s) = s ∧ isSp xs (swList xs s) = true := by
  rcases sw_cases xs s with ⟨_, HF⟩ | ⟨_, _, _, HF⟩ | ⟨ha, hw, ho, HF⟩
  · have := HF.2.2.1; omega
  · have := HF.2.2.1; omega
  · have hl : swList xs s = spellList xs s := HF.2.1
    rw [hl]
    have hk := ho
    unfold spellOk at hk
    obtain ⟨l, hs⟩ := Option.isSome_iff_exists.1 hk
    have hsl : spellList xs s = l := by unfold spellList; rw [hs]; rfl
    have hlen := spellList_len xs s
    have hsz := word_size hw
    rw [hsl] at hlen ⊢
    unfold spell at hs
    obtain ⟨c1, c2⟩ := spl_cat hs
    have hb : jlBad xs l = false := by
      unfold jlBad
      have hall : l.all (inB 0 (xs.length - 1)) = true := by
        rw [List.all_eq_true]
        intro i hi
        have := c1 i hi
        exact decide_eq_true (by omega)
      rw [hall, decide_eq_false (by omega)]
      rfl
    have hc : cat xs l = s := by unfold cat; rw [c2, nil_app]
    have hj := (jl_ok ha hb)
    have j1 : jlText xs l = s := hj.1.trans hc
    have j2 : jlCode xs l = 0 := hj.2
    refine ⟨j2, j1, ?_⟩
    unfold isSp
    rw [j1, j2, hw, ho, hsl]
    simp
theorem csum_nonneg {xs : List ByteArray} {t : ByteArray} {P : List Int} (h : ∀ j, 0 ≤ P.getD j 0) : ∀ k, 0 ≤ csum xs t P k
  | 0 => Int.le_refl _
  | k + 1 => by
    have := csum_nonneg (xs := xs) (t := t) h k
    unfold csum
    split
    · have := h ((xs.getD k ⟨#[]⟩).size - 1); omega
    · exact this
theorem csum_ge {xs : List ByteArray} {t : ByteArray} {P : List Int} {q : Nat} {x : ByteArray} (h : ∀ j, 0 ≤ P.getD j 0) (hx : xs[q]? = some x) (hp : pre x t = true) : ∀ k, q < k → P.getD (x.size - 1) 0 ≤ csum xs t P k
  | 0, hk => by omega
  | k + 1, hk => by
    by_cases e : q = k
    · subst e
      rw [csum_yes hx hp]
      have := csum_nonneg (xs := xs) (t := t) h q
      omega
    · have ih := csum_ge h hx hp k (by omega)
      unfold csum
      split
      · have := h ((xs.getD k ⟨#[]⟩).size - 1); omega
      · exact ih
theorem cw_nonneg (xs : List ByteArray) (s : ByteArray) : ∀ m j, 0 ≤ (cw xs s m).getD j 0
  | 0, j => by
    unfold cw
    cases j with
    | zero => decide
    | succ j => simp
  | m + 1, j => by
    unfold cw
    cases j with
    | zero => exact csum_nonneg (cw_nonneg xs s m) _
    | succ j => exact cw_nonneg xs s m j
theorem cw_at (xs : List ByteArray) (s : ByteArray) : ∀ m j, j ≤ m → (cw xs s m).getD j 0 = (cw xs s (m - j)).getD 0 0
  | m, 0, _ => rfl
  | 0, j + 1, h => by omega
  | m + 1, j + 1, h => by
    have := cw_at xs s m j (by omega)
    rw [show m + 1 - (j + 1) = m - j by omega, ← this]
    conv => lhs; unfold cw
    rfl
theorem cw_pos {xs : List ByteArray} {s : ByteArray} (ha : isAlpha xs = true) : ∀ (m : Nat), m ≤ s.size → ∀ (f : Nat) (l : List Int), spl xs f (s.extract (s.size - m) s.size) = some l → 0 < (cw xs s m).getD 0 0 := by
  intro m
  induction m using Nat.strongRecOn with
  | _ m ih =>
    intro hm f l h
    cases m with
    | zero => show (0 : Int) < 1; decide
    | succ m =>
      have hts : (s.extract (s.size - (m + 1)) s.size).size = m + 1 := by rw [ByteArray.size_extract]; omega
      cases f with
      | zero =>
        unfold spl at h
        rw [if_neg (by omega)] at h
        cases h
      | succ f =>
        unfold spl at h
        rw [if_neg (by omega)] at h
        split at h
        · cases h
        · rename_i hn
          rw [Option.map_eq_some_iff] at h
          obtain ⟨l', h1, rfl⟩ := h
          obtain ⟨q, hq⟩ : ∃ q : Nat, nx xs (s.extract (s.size - (m + 1)) s.size) xs.length = q := ⟨(nx xs (s.extract (s.size - (m + 1)) s.size) xs.length).toNat, by omega⟩
          obtain ⟨x, hx, hp⟩ := nx_pre (Nat.le_refl _) hq
          have hlt := (List.getElem?_eq_some_iff.1 hx).1
          have e2 : xs.getD (nx xs (s.extract (s.size - (m + 1)) s.size) xs.length).toNat ⟨#[]⟩ = x := by rw [hq, List.getD_eq_getElem?_getD, Int.toNat_natCast, hx]; rfl
          have hx1 := alpha_size ha hx
          have p1 := (pre_eq hp).1
          rw [hts] at p1
          rw [e2, hts] at h1
          have e3 : (s.extract (s.size - (m + 1)) s.size).extract x.size (m + 1) = s.extract (s.size - (m + 1 - x.size)) s.size := by
            rw [ByteArray.extract_extract]
            congr 1 <;> omega
          rw [e3] at h1
          have hpos := ih (m + 1 - x.size) (by omega) (by omega) f l' h1
          have hge := csum_ge (cw_nonneg xs s m) hx hp xs.length hlt
          rw [cw_at xs s m (x.size - 1) (by omega), show m - (x.size - 1) = m + 1 - x.size by omega] at hge
          unfold cw
          show 0 < csum xs (s.extract (s.size - (m + 1)) s.size) (cw xs s m) xs.length
          omega
theorem cs_pos {xs : List ByteArray} {s : ByteArray} (h : swCode xs s = 0) : 0 < csNum xs s := by
  rcases sw_cases xs s with ⟨_, HF⟩ | ⟨_, _, _, HF⟩ | ⟨ha, hw, ho, HF⟩
  · have := HF.2.2.1; omega
  · have := HF.2.2.1; omega
  · unfold spellOk at ho
    obtain ⟨l, hs⟩ := Option.isSome_iff_exists.1 ho
    unfold spell at hs
    have e : s.extract (s.size - s.size) s.size = s := by
      rw [Nat.sub_self]
      apply text_ext
      simp
    have := cw_pos ha s.size (Nat.le_refl _) s.size l (by rw [e]; exact hs)
    unfold csNum lcOk
    rw [ha, hw]
    exact this
theorem sw_codes (xs : List ByteArray) (s : ByteArray) : (swCode xs s = 0 ∧ lcCode xs s = 0 ∧ cwOk xs s = true) ∨ (swCode xs s = 4 ∧ lcCode xs s = 0 ∧ cwOk xs s = false) ∨ (swCode xs s = 1 ∧ lcCode xs s = 1 ∧ cwOk xs s = false) := by
  rcases sw_cases xs s with ⟨_, HF⟩ | ⟨_, _, _, HF⟩ | ⟨_, _, _, HF⟩
  · exact .inr (.inr ⟨HF.2.2.1, HF.1, HF.2.2.2.1⟩)
  · exact .inr (.inl ⟨HF.2.2.1, HF.1, HF.2.2.2⟩)
  · exact .inl ⟨HF.2.2.1, HF.1, HF.2.2.2⟩
end Go.Proofs.YtnjeloggpbgloaaDoor
