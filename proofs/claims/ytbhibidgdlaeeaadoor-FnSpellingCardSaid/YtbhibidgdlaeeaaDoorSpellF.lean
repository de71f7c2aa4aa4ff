/- IsSpelling. -/
import Derived.Test.YtbhibidgdlaeeaaDoorSpellE
import Derived.Test.YtbhibidgdlaeeaaDoorSame
namespace Go.Proofs.YtbhibidgdlaeeaaDoor
open Go.ChangeShapes Go.WideShapes Go.ChangeAt Go.RowKit

theorem cat_size {xs : List ByteArray} (h : isAlpha xs = true) (sp : List Int) : (cat xs sp).size ≤ 3 * sp.length := by
  have H : ∀ (sp : List Int) (t : ByteArray), (sp.foldl (fun t i => t ++ xs.getD i.toNat ⟨#[]⟩) t).size ≤ t.size + 3 * sp.length := by
    intro sp
    induction sp with
    | nil => intro t; simp
    | cons i r ih =>
      intro t
      rw [List.foldl_cons]
      have h1 := ih (t ++ xs.getD i.toNat ⟨#[]⟩)
      rw [ByteArray.size_append] at h1
      have h2 : (xs.getD i.toNat ⟨#[]⟩).size ≤ 3 := by
        rw [List.getD_eq_getElem?_getD]
        cases hx : xs[i.toNat]? with
        | none => exact (by decide : (⟨#[]⟩ : ByteArray).size ≤ 3)
        | some x => exact (alpha_size h hx).2
      rw [List.length_cons]
      omega
  have := H sp ⟨#[]⟩
  have e : (⟨#[]⟩ : ByteArray).size = 0 := rfl
  unfold cat
  omega
def isSp (xs : List ByteArray) (sp : List Int) : Bool := decide (jlCode xs sp = 0) && isWord (jlText xs sp) && spellOk xs (jlText xs sp) && decide (spellList xs (jlText xs sp) = sp)
theorem jl_three (xs : List ByteArray) (sp : List Int) : ((jlCode xs sp = 1 ∨ jlCode xs sp = 2) ∧ isSp xs sp = false) ∨ (jlCode xs sp = 0 ∧ isAlpha xs = true ∧ (jlText xs sp).size ≤ 48) := by
  unfold isSp
  cases ha : isAlpha xs
  · have := (jl_no sp ha).out
    left
    rw [this.2]
    simp
  · cases hb : jlBad xs sp
    · have := (jl_ok ha hb).out
      right
      refine ⟨this.2, rfl, ?_⟩
      rw [this.1]
      have h1 := cat_size ha sp
      unfold jlBad at hb
      simp at hb
      omega
    · have := (jl_bad ha hb).out
      left
      rw [this.2]
      simp
theorem isSp_of {xs : List ByteArray} {sp : List Int} {t : ByteArray} (hc : jlCode xs sp = 0) (ht : jlText xs sp = t) : isSp xs sp = (isWord t && spellOk xs t && decide (spellList xs t = sp)) := by
  unfold isSp
  rw [hc, ht]
  simp
set_option maxRecDepth 100000 in
set_option maxHeartbeats 2000000 in
theorem IsSpelling_spec (A B : Option Addr) (n c m d : Nat) (xs : List ByteArray) (sp : List Int) (w : World) (hx : Strs w A n c xs) (hy : Ints w B m d sp) :
    Calls Tryd.prog 76 #[.slice A n c, .slice B m d] w fun e w' => e = .returned (.tuple #[.bool (isSp xs sp), .int .i64 (jlCode xs sp)]) ∧ Below w.heap.size w w' := by
  have hl := l03Joined_any A B n c m d xs sp w hx hy
  rcases jl_three xs sp with ⟨hc, hi⟩ | ⟨hc, ha, hz⟩
  · have HF := Lib.hid hi
    rcases hc with hc | hc
    all_goals
      have HC := Lib.hid hc
      rw [hc] at hl
      clear hc hi
      go_enter Tryd.func76, Tryd.ntmps76
      go_wp2_with fail
      refine hl.mono ?_
      rintro e_ w1 ⟨rfl, h1⟩
      go_wp2
      go_ret2
      exact ⟨by rw [HF.out, HC.out]; rfl, h1⟩
  · have HC := Lib.hid hc
    obtain ⟨t, ht⟩ : ∃ t, jlText xs sp = t := ⟨_, rfl⟩
    have hi := isSp_of hc ht
    rw [hc, ht] at hl
    rw [ht] at hz
    clear hc ht
    have htm : t.size ≤ maxLen := by unfold maxLen; omega
    cases hw : isWord t <;> cases ho : spellOk xs t
    case true.true =>
      cases he : decide (spellList xs t = sp)
      all_goals
        rw [hw, ho, he] at hi
        have HF := Lib.hid hi
        clear hi
        go_enter Tryd.func76, Tryd.ntmps76
        go_wp2_with fail
        refine hl.mono ?_
        rintro e_ w1 ⟨rfl, h1⟩
        have hj := l03Spell_any A n c xs t w1 (hx.below h1) (by omega) ha
        rw [ho] at hj
        clear ho hz
        go_wp2_with fail
        refine hj.mono ?_
        rintro e_ w2 ⟨v, rfl, hown, h2⟩
        obtain ⟨A2, c2, rfl, hx2⟩ := own_ints_ hown
        clear hown
        go_wp2_with fail
        refine (isb (IsWord_spec t _ htm) hw).mono ?_
        rintro e_ w3 ⟨rfl, h3⟩
        have hc_w3 := bcell h3; have hf_w3 := bfree h3
        go_wp2_with fail
        refine (isb (l01Same_any _ _ _ _ _ _ _ sp _ (hx2.below h3) (((hy.below h1).below h2).below h3)) he).mono ?_
        rintro e_ w4 ⟨rfl, h4⟩
        have hc_w4 := bcell h4; have hf_w4 := bfree h4
        go_wp2
        go_ret2
        exact ⟨by rw [HF.out, HC.out]; rfl, next (next (next h1 h2) h3) h4⟩
    all_goals
      rw [hw, ho] at hi
      have HF := Lib.hid (hi.trans rfl)
      clear hi
      go_enter Tryd.func76, Tryd.ntmps76
      go_wp2_with fail
      refine hl.mono ?_
      rintro e_ w1 ⟨rfl, h1⟩
      have hj := l03Spell_any A n c xs t w1 (hx.below h1) (by omega) ha
      rw [ho] at hj
      clear ho hz
      go_wp2_with fail
      refine hj.mono ?_
      rintro e_ w2 ⟨v, rfl, hown, h2⟩
      clear hown
      go_wp2_with fail
      refine (isb (IsWord_spec t _ htm) hw).mono ?_
      rintro e_ w3 ⟨rfl, h3⟩
      have hc_w3 := bcell h3; have hf_w3 := bfree h3
      go_wp2
      go_ret2
      exact ⟨by rw [HF.out, HC.out]; rfl, next (next h1 h2) h3⟩
set_option maxRecDepth 100000 in
set_option maxHeartbeats 2000000 in
theorem IsSpelling_impl (A B : Option Addr) (n c m d : Nat) (xs : List ByteArray) (sp : List Int) (w : World) (hx : Strs w A n c xs) (hy : Ints w B m d sp) :
    Calls Tryd.prog 75 #[.slice A n c, .slice B m d] w fun e w' => e = .returned (.tuple #[.bool (isSp xs sp), .int .i64 (jlCode xs sp)]) ∧ Below w.heap.size w w' := by
  have hl := joinLetters_any A B n c m d xs sp w hx hy
  rcases jl_three xs sp with ⟨hc, hi⟩ | ⟨hc, ha, hz⟩
  · have HF := Lib.hid hi
    rcases hc with hc | hc
    all_goals
      have HC := Lib.hid hc
      rw [hc] at hl
      clear hc hi
      go_enter Tryd.func75, Tryd.ntmps75
      go_wp2_with fail
      refine hl.mono ?_
      rintro e_ w1 ⟨rfl, h1⟩
      go_wp2
      go_ret2
      exact ⟨by rw [HF.out, HC.out]; rfl, h1⟩
  · have HC := Lib.hid hc
    obtain ⟨t, ht⟩ : ∃ t, jlText xs sp = t := ⟨_, rfl⟩
    have hi := isSp_of hc ht
    rw [hc, ht] at hl
    rw [ht] at hz
    clear hc ht
    have htm : t.size ≤ maxLen := by unfold maxLen; omega
    cases hw : isWord t <;> cases ho : spellOk xs t
    case true.true =>
      cases he : decide (spellList xs t = sp)
      all_goals
        rw [hw, ho, he] at hi
        have HF := Lib.hid hi
        clear hi
        go_enter Tryd.func75, Tryd.ntmps75
        go_wp2_with fail
        refine hl.mono ?_
        rintro e_ w1 ⟨rfl, h1⟩
        have hj := spell_any A n c xs t w1 (hx.below h1) (by omega) ha
        rw [ho] at hj
        clear ho hz
        go_wp2_with fail
        refine hj.mono ?_
        rintro e_ w2 ⟨v, rfl, hown, h2⟩
        obtain ⟨A2, c2, rfl, hx2⟩ := own_ints_ hown
        clear hown
        go_wp2_with fail
        refine (isb (IsWord_impl t _ htm) hw).mono ?_
        rintro e_ w3 ⟨rfl, h3⟩
        have hc_w3 := bcell h3; have hf_w3 := bfree h3
        go_wp2_with fail
        refine (isb (slEqual_any _ _ _ _ _ _ _ sp _ (hx2.below h3) (((hy.below h1).below h2).below h3)) he).mono ?_
        rintro e_ w4 ⟨rfl, h4⟩
        have hc_w4 := bcell h4; have hf_w4 := bfree h4
        go_wp2
        go_ret2
        exact ⟨by rw [HF.out, HC.out]; rfl, next (next (next h1 h2) h3) h4⟩
    all_goals
      rw [hw, ho] at hi
      have HF := Lib.hid (hi.trans rfl)
      clear hi
      go_enter Tryd.func75, Tryd.ntmps75
      go_wp2_with fail
      refine hl.mono ?_
      rintro e_ w1 ⟨rfl, h1⟩
      have hj := spell_any A n c xs t w1 (hx.below h1) (by omega) ha
      rw [ho] at hj
      clear ho hz
      go_wp2_with fail
      refine hj.mono ?_
      rintro e_ w2 ⟨v, rfl, hown, h2⟩
      clear hown
      go_wp2_with fail
      refine (isb (IsWord_impl t _ htm) hw).mono ?_
      rintro e_ w3 ⟨rfl, h3⟩
      have hc_w3 := bcell h3; have hf_w3 := bfree h3
      go_wp2
      go_ret2
      exact ⟨by rw [HF.out, HC.out]; rfl, next (next h1 h2) h3⟩
end Go.Proofs.YtbhibidgdlaeeaaDoor
