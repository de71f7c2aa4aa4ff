/- ComparePhrases and CompareWords: the program's and the reference's. -/
import Derived.Test.YtpnbbhomkneflaaGreatDoorSortG
import Derived.Test.YtpnbbhomkneflaaGreatDoorMrgA
namespace Go.Proofs.YtpnbbhomkneflaaGreatDoor
open Go.ChangeShapes Go.WideShapes Go.ChangeAt Go.RowKit
theorem ns_zero {xs : List ByteArray} {ig : List Int} {ps : List ByteArray} (h : nsCode xs ig ps = 0) : isAlpha xs = true ∧ ps.all isPhrase = true ∧ ps.all (spAll xs) = true := by
  rcases ns_cases xs ig ps with ⟨_, e⟩ | ⟨_, _, e⟩ | ⟨_, _, _, e⟩ | ⟨_, _, _, _, e⟩ | ⟨a, b, _, c, _⟩
  · rw [e.out] at h; cases h
  · rw [e.out] at h; cases h
  · rw [e.out] at h; cases h
  · rw [e.out] at h; cases h
  · exact ⟨a, b, c⟩
def cpVal (xs : List ByteArray) (ig : List Int) (s t : ByteArray) : Int := if nsCode xs ig [s, t] = 0 then cmpP xs ig s t else 0
theorem cp_code (xs : List ByteArray) (ig : List Int) (s t : ByteArray) : l6Code xs ig [s, t] = nsCode xs ig [s, t] := by
  unfold l6Code
  split
  · rename_i h; rw [h]; simp
  · rfl
theorem strs_twoS (w : World) (s t : ByteArray) (ty : TypeId) (hs : s.size ≤ 1048576) (ht : t.size ≤ 1048576) : Strs (w.alloc (.cells #[.string s, .string t] ty)) (some ⟨w.heap.size, 0, none⟩) 2 2 [s, t] :=
  strs_alloc w [s, t] ty (by unfold maxLen; simp) (by unfold maxLen; simp; omega)
set_option maxRecDepth 100000 in
set_option maxHeartbeats 2000000 in
theorem ComparePhrases_spec (A B : Option Addr) (n c m d : Nat) (xs : List ByteArray) (ig : List Int) (s t : ByteArray) (w : World) (hx : Strs w A n c xs) (hy : Ints w B m d ig) (hs : s.size ≤ 1048576) (ht : t.size ≤ 1048576) :
    Calls Tryz.prog 7 #[.slice A n c, .string s, .string t, .slice B m d] w fun e w' => e = .returned (.tuple #[.int .i64 (cpVal xs ig s t), .int .i64 (nsCode xs ig [s, t])]) ∧ Below w.heap.size w w' := by
  have b0 := boxO w (.cells #[.string s, .string t] 9)
  obtain ⟨q, hq⟩ : ∃ q, nsCode xs ig [s, t] = q := ⟨_, rfl⟩
  have h1 := isn_ (l06Code_any A B _ n c m d 2 2 xs ig [s, t] _ (hx.below b0) (hy.below b0) (strs_twoS w s t 9 hs ht) (by simp; omega)) ((cp_code xs ig s t).trans hq)
  have HQ := Lib.hid hq
  by_cases h0 : q = 0
  · subst h0
    obtain ⟨ha, hph, _⟩ := ns_zero hq
    simp at hph
    have HF := Lib.hid (show cpVal xs ig s t = cmpP xs ig s t by unfold cpVal; rw [if_pos hq])
    have HC := Lib.hid (fun W h1 h2 => l06Compare_any A B n c m d xs ig s t W h1 h2 ha hs ht hph.1 hph.2)
    clear hq ha hph
    go_enter Tryz.func7, Tryz.ntmps7
    go_wp2_with fail
    refine h1.mono ?_
    rintro e_ w1 ⟨rfl, k1⟩
    clear h1
    have h2 := HC.out w1 (hx.below (next b0 k1)) (hy.below (next b0 k1))
    go_wp2_with fail
    refine h2.mono ?_
    rintro e_ w2 ⟨rfl, k2⟩
    clear h2
    go_wp2
    go_ret2
    exact ⟨by rw [HF.out, HQ.out]; rfl, next (next b0 k1) k2⟩
  · have HF := Lib.hid (show cpVal xs ig s t = 0 by unfold cpVal; rw [hq, if_neg h0])
    have hne : (q != 0) = true := by rw [bne_iff_ne]; exact h0
    clear hq
    go_enter Tryz.func7, Tryz.ntmps7
    go_wp2_with fail
    refine h1.mono ?_
    rintro e_ w1 ⟨rfl, k1⟩
    clear h1
    go_wp2
    go_ret2
    exact ⟨by rw [HF.out, HQ.out]; rfl, next b0 k1⟩
set_option maxRecDepth 100000 in
set_option maxHeartbeats 2000000 in
theorem ComparePhrases_impl (A B : Option Addr) (n c m d : Nat) (xs : List ByteArray) (ig : List Int) (s t : ByteArray) (w : World) (hx : Strs w A n c xs) (hy : Ints w B m d ig) (hs : s.size ≤ 1048576) (ht : t.size ≤ 1048576) (hm : MaxCell w) :
    Calls Tryz.prog 6 #[.slice A n c, .string s, .string t, .slice B m d] w fun e w' => e = .returned (.tuple #[.int .i64 (cpVal xs ig s t), .int .i64 (nsCode xs ig [s, t])]) ∧ Below w.heap.size w w' := by
  have b0 := boxO w (.cells #[.string s, .string t] 9)
  have h1 := newSorter_any A B _ n c m d 2 2 xs ig [s, t] _ (hx.below b0) (hy.below b0) (strs_twoS w s t 9 hs ht) (by simp; omega) (hm.below b0)
  obtain ⟨q, hq⟩ : ∃ q, nsCode xs ig [s, t] = q := ⟨_, rfl⟩
  rw [hq] at h1
  have HQ := Lib.hid hq
  by_cases h0 : q = 0
  · subst h0
    obtain ⟨ha, hph, hsp⟩ := ns_zero hq
    simp at hph hsp
    have HF := Lib.hid (show cpVal xs ig s t = cmpP xs ig s t by unfold cpVal; rw [if_pos hq])
    have HC := Lib.hid (fun W h1 h2 h3 => compare_any A B n c m d xs ig s t W h1 h2 ha h3 hs ht hph.1 hph.2 hsp.1 hsp.2)
    clear hq ha hph hsp
    go_enter Tryz.func6, Tryz.ntmps6
    go_wp2_with fail
    refine h1.mono ?_
    rintro e_ w1 ⟨A', n', c', B', m', d', rfl, hv, k1⟩
    obtain ⟨rfl, rfl, rfl, rfl, rfl, rfl⟩ := hv trivial
    clear h1
    have b1 := boxO w1 (.cells #[.slice A' n' c', .slice B' m' d'] 45)
    have hB := next (next b0 k1) b1
    have h2 := HC.out _ (hx.below hB) (hy.below hB) (hm.below hB)
    go_wp2_with fail
    refine h2.mono ?_
    rintro e_ w2 ⟨rfl, k2⟩
    clear h2
    go_wp2
    go_ret2
    exact ⟨by rw [HF.out, HQ.out]; rfl, next hB k2⟩
  · have HF := Lib.hid (show cpVal xs ig s t = 0 by unfold cpVal; rw [hq, if_neg h0])
    have hne : (q != 0) = true := by rw [bne_iff_ne]; exact h0
    clear hq
    go_enter Tryz.func6, Tryz.ntmps6
    go_wp2_with fail
    refine h1.mono ?_
    rintro e_ w1 ⟨A', n', c', B', m', d', rfl, _, k1⟩
    clear h1
    go_wp2
    go_ret2
    exact ⟨by rw [HF.out, HQ.out]; rfl, next (next b0 k1) (boxO _ _)⟩
/-! ## words -/
theorem word_cut {s : ByteArray} (h : isWord s = true) : cutS 32 s = [s] := by
  have := cutS_joined (xs := [s]) (by simp [h]) (by simp)
  rwa [joined_one] at this
theorem word_phrase {s : ByteArray} (h : isWord s = true) : isPhrase s = true := by
  unfold isPhrase
  rw [word_cut h]
  simp [h]
theorem cmpL_one (x y : List Int) : cmpL [x] [y] = cmpI x y := by
  unfold cmpL
  unfold cmpG
  split
  · rename_i h; rw [h]; rfl
  · rfl
theorem cmpP_words {xs : List ByteArray} {s t : ByteArray} (h1 : isWord s = true) (h2 : isWord t = true) : cmpP xs [] s t = cmpI (spellList xs s) (spellList xs t) := by
  have e : onceP xs [] s t = cmpI (spellList xs s) (spellList xs t) := by
    rw [onceP_nil]
    unfold sps
    rw [word_cut h1, word_cut h2]
    exact cmpL_one _ _
  unfold cmpP
  split
  · exact e
  · exact e
theorem spAll_word {xs : List ByteArray} {s : ByteArray} (h : isWord s = true) : spAll xs s = spellOk xs s := by
  unfold spAll
  rw [word_cut h]
  simp
def cwrOk (xs : List ByteArray) (s t : ByteArray) : Bool := isAlpha xs && isWord s && isWord t
def cwrCode (xs : List ByteArray) (s t : ByteArray) : Int := if cwrOk xs s t = true then if (spellOk xs s && spellOk xs t) = true then 0 else 4 else 1
def cwrVal (xs : List ByteArray) (s t : ByteArray) : Int := if cwrCode xs s t = 0 then cmpI (spellList xs s) (spellList xs t) else 0
theorem cwr_impl (xs : List ByteArray) (s t : ByteArray) : (isWord s && isWord t) = true → nsCode xs [] [s, t] = cwrCode xs s t ∧ cpVal xs [] s t = cwrVal xs s t := fun h => by
  rw [Bool.and_eq_true] at h
  have e : nsCode xs [] [s, t] = cwrCode xs s t := by
    unfold nsCode cwrCode cwrOk
    simp [h.1, h.2, word_phrase h.1, word_phrase h.2, spAll_word h.1, spAll_word h.2]
  refine ⟨e, ?_⟩
  unfold cpVal cwrVal
  rw [e, cmpP_words h.1 h.2]
theorem cwr_bad {xs : List ByteArray} {s t : ByteArray} (h : cwrOk xs s t = false) : Hid (cwrCode xs s t = 1 ∧ cwrVal xs s t = 0) := by
  have e : cwrCode xs s t = 1 := by unfold cwrCode; rw [h]; rfl
  exact ⟨e, by unfold cwrVal; rw [e]; rfl⟩
set_option maxRecDepth 100000 in
set_option maxHeartbeats 2000000 in
theorem CompareWords_impl (A : Option Addr) (n c : Nat) (xs : List ByteArray) (s t : ByteArray) (w : World) (hx : Strs w A n c xs) (hs : s.size ≤ 1048576) (ht : t.size ≤ 1048576) (hm : MaxCell w) :
    Calls Tryz.prog 9 #[.slice A n c, .string s, .string t] w fun e w' => e = .returned (.tuple #[.int .i64 (cwrVal xs s t), .int .i64 (cwrCode xs s t)]) ∧ Below w.heap.size w w' := by
  have b0 := boxO w (.cells #[.string s, .string t] 9)
  have haw := areWords_any _ 2 2 [s, t] _ (strs_twoS w s t 9 hs ht)
  rw [show [s, t].all isWord = (isWord s && isWord t) by simp] at haw
  cases hw : (isWord s && isWord t) with
  | false =>
    rw [hw] at haw
    have HF := cwr_bad (xs := xs) (s := s) (t := t) (by unfold cwrOk; rw [Bool.and_assoc, hw, Bool.and_false])
    clear hw
    go_enter Tryz.func9, Tryz.ntmps9
    go_wp2_with fail
    refine haw.mono ?_
    rintro e_ w1 ⟨rfl, k1⟩
    clear haw
    go_wp2
    go_ret2
    exact ⟨by rw [HF.out.1, HF.out.2]; rfl, next b0 k1⟩
  | true =>
    rw [hw] at haw
    obtain ⟨e1, e2⟩ := cwr_impl xs s t hw
    have HC := Lib.hid (fun W h1 h2 h3 => ComparePhrases_impl A none n c 0 0 xs [] s t W h1 h2 hs ht h3)
    simp only [e1, e2] at HC
    clear hw e1 e2
    go_enter Tryz.func9, Tryz.ntmps9
    go_wp2_with fail
    refine haw.mono ?_
    rintro e_ w1 ⟨rfl, k1⟩
    clear haw
    have h2 := HC.out w1 (hx.below (next b0 k1)) ⟨rfl, ⟨Nat.le_refl _, Nat.zero_le _, rfl, fun h => absurd h (Nat.not_lt_zero _)⟩⟩ (hm.below (next b0 k1))
    go_wp2_with fail
    refine h2.mono ?_
    rintro e_ w2 ⟨rfl, k2⟩
    clear h2
    go_wp2
    go_ret2
    exact ⟨rfl, next (next b0 k1) k2⟩
set_option maxRecDepth 100000 in
set_option maxHeartbeats 2000000 in
theorem CompareWords_spec (A : Option Addr) (n c : Nat) (xs : List ByteArray) (s t : ByteArray) (w : World) (hx : Strs w A n c xs) (hs : s.size ≤ 1048576) (ht : t.size ≤ 1048576) :
    Calls Tryz.prog 10 #[.slice A n c, .string s, .string t] w fun e w' => e = .returned (.tuple #[.int .i64 (cwrVal xs s t), .int .i64 (cwrCode xs s t)]) ∧ Below w.heap.size w w' := by
  have hs' : s.size ≤ maxLen := by unfold maxLen; omega
  have ht' : t.size ≤ maxLen := by unfold maxLen; omega
  cases ha : isAlpha xs with
  | false =>
    have HF := cwr_bad (xs := xs) (s := s) (t := t) (by unfold cwrOk; rw [ha]; rfl)
    go_enter Tryz.func10, Tryz.ntmps10
    go_wp2_with fail
    refine (isb (IsAlphabet_spec A n c xs _ hx) ha).mono ?_
    rintro e_ w1 ⟨rfl, h1⟩
    have hc_w1 := bcell h1; have hf_w1 := bfree h1
    go_wp2
    go_ret2
    exact ⟨by rw [HF.out.1, HF.out.2]; rfl, h1⟩
  | true =>
  cases h1w : isWord s with
  | false =>
    have HF := cwr_bad (xs := xs) (s := s) (t := t) (by unfold cwrOk; rw [h1w]; simp)
    go_enter Tryz.func10, Tryz.ntmps10
    go_wp2_with fail
    refine (isb (IsAlphabet_spec A n c xs _ hx) ha).mono ?_
    rintro e_ w1 ⟨rfl, h1⟩
    have hc_w1 := bcell h1; have hf_w1 := bfree h1
    go_wp2_with fail
    refine (isb (IsWord_spec s _ hs') h1w).mono ?_
    rintro e_ w2 ⟨rfl, h2⟩
    have hc_w2 := bcell h2; have hf_w2 := bfree h2
    go_wp2
    go_ret2
    exact ⟨by rw [HF.out.1, HF.out.2]; rfl, next h1 h2⟩
  | true =>
  cases h2w : isWord t with
  | false =>
    have HF := cwr_bad (xs := xs) (s := s) (t := t) (by unfold cwrOk; rw [h2w]; simp)
    go_enter Tryz.func10, Tryz.ntmps10
    go_wp2_with fail
    refine (isb (IsAlphabet_spec A n c xs _ hx) ha).mono ?_
    rintro e_ w1 ⟨rfl, h1⟩
    have hc_w1 := bcell h1; have hf_w1 := bfree h1
    go_wp2_with fail
    refine (isb (IsWord_spec s _ hs') h1w).mono ?_
    rintro e_ w2 ⟨rfl, h2⟩
    have hc_w2 := bcell h2; have hf_w2 := bfree h2
    go_wp2_with fail
    refine (isb (IsWord_spec t _ ht') h2w).mono ?_
    rintro e_ w3 ⟨rfl, h3⟩
    have hc_w3 := bcell h3; have hf_w3 := bfree h3
    go_wp2
    go_ret2
    exact ⟨by rw [HF.out.1, HF.out.2]; rfl, next (next h1 h2) h3⟩
  | true =>
  have hok : cwrOk xs s t = true := by unfold cwrOk; rw [ha, h1w, h2w]; rfl
  have H1 := Lib.hid (fun W h => l03Spell_any A n c xs s W h hs ha)
  have H2 := Lib.hid (fun W h => l03Spell_any A n c xs t W h ht ha)
  have HV := Lib.hid (show cwrCode xs s t = (if (spellOk xs s && spellOk xs t) = true then 0 else 4) ∧ cwrVal xs s t = (if (spellOk xs s && spellOk xs t) = true then cmpI (spellList xs s) (spellList xs t) else 0) by
    unfold cwrVal cwrCode
    rw [hok]
    cases (spellOk xs s && spellOk xs t) <;> simp)
  cases o1 : spellOk xs s <;> cases o2 : spellOk xs t
  case true.true =>
    go_enter Tryz.func10, Tryz.ntmps10
    go_wp2_with fail
    refine (isb (IsAlphabet_spec A n c xs _ hx) ha).mono ?_
    rintro e_ w1 ⟨rfl, h1⟩
    have hc_w1 := bcell h1; have hf_w1 := bfree h1
    go_wp2_with fail
    refine (isb (IsWord_spec s _ hs') h1w).mono ?_
    rintro e_ w2 ⟨rfl, h2⟩
    have hc_w2 := bcell h2; have hf_w2 := bfree h2
    go_wp2_with fail
    refine (isb (IsWord_spec t _ ht') h2w).mono ?_
    rintro e_ w3 ⟨rfl, h3⟩
    have hc_w3 := bcell h3; have hf_w3 := bfree h3
    have b3 := next (next h1 h2) h3
    have k1 := H1.out w3 (hx.below b3)
    rw [o1] at k1
    go_wp2_with fail
    refine k1.mono ?_
    rintro e_ w4 ⟨v4, rfl, r4, h4⟩
    have k2 := H2.out w4 (hx.below (next b3 h4))
    rw [o2] at k2
    clear k1
    go_wp2_with fail
    refine k2.mono ?_
    rintro e_ w5 ⟨v5, rfl, r5, h5⟩
    clear k2
    obtain ⟨A4, c4, rfl, x4⟩ := own_ints_ (own_below r4 h5)
    obtain ⟨A5, c5, rfl, x5⟩ := own_ints_ r5
    have HF := Lib.hid (show cwrCode xs s t = 0 ∧ cwrVal xs s t = cmpI (spellList xs s) (spellList xs t) by rw [HV.out.1, HV.out.2, o1, o2]; simp)
    have HB := Lib.hid (next (next b3 h4) h5)
    clear r4 r5 h4 h5 b3 h1 h2 h3 hc_w1 hf_w1 hc_w2 hf_w2 hc_w3 hf_w3 o1 o2 ha h1w h2w hok
    go_wp2_with fail
    refine (l06Lists_any A4 A5 _ c4 _ c5 _ _ _ x4 x5).mono ?_
    rintro e_ w6 ⟨rfl, h6⟩
    have hc_w6 := bcell h6; have hf_w6 := bfree h6
    go_wp2
    go_ret2
    exact ⟨by rw [HF.out.1, HF.out.2]; rfl, next HB.out h6⟩
  all_goals
    go_enter Tryz.func10, Tryz.ntmps10
    go_wp2_with fail
    refine (isb (IsAlphabet_spec A n c xs _ hx) ha).mono ?_
    rintro e_ w1 ⟨rfl, h1⟩
    have hc_w1 := bcell h1; have hf_w1 := bfree h1
    go_wp2_with fail
    refine (isb (IsWord_spec s _ hs') h1w).mono ?_
    rintro e_ w2 ⟨rfl, h2⟩
    have hc_w2 := bcell h2; have hf_w2 := bfree h2
    go_wp2_with fail
    refine (isb (IsWord_spec t _ ht') h2w).mono ?_
    rintro e_ w3 ⟨rfl, h3⟩
    have hc_w3 := bcell h3; have hf_w3 := bfree h3
    have b3 := next (next h1 h2) h3
    have k1 := H1.out w3 (hx.below b3)
    rw [o1] at k1
    go_wp2_with fail
    refine k1.mono ?_
    rintro e_ w4 ⟨v4, rfl, r4, h4⟩
    have k2 := H2.out w4 (hx.below (next b3 h4))
    rw [o2] at k2
    clear k1
    go_wp2_with fail
    refine k2.mono ?_
    rintro e_ w5 ⟨v5, rfl, r5, h5⟩
    clear k2
    have HF := Lib.hid (show cwrCode xs s t = 4 ∧ cwrVal xs s t = 0 by rw [HV.out.1, HV.out.2, o1, o2]; simp)
    have HB := Lib.hid (next (next b3 h4) h5)
    clear r4 r5 h4 h5 b3
    go_wp2
    go_ret2
    exact ⟨by rw [HF.out.1, HF.out.2]; rfl, HB.out⟩
end Go.Proofs.YtpnbbhomkneflaaGreatDoor
