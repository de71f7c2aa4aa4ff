/- Walks of the phrases' laws IsPhrase and WordsOf. -/
import Derived.Test.YtgeaiapompflnaaDoorMarks
namespace Go.Proofs.YtgeaiapompflnaaDoor.fnExactIsPhrase
open Go.ChangeShapes Go.WideShapes Go.ChangeAt Go.RowKit
set_option linter.unusedVariables false
set_option maxHeartbeats 400000 in
theorem walk (s : ByteArray) (hs : s.size ≤ maxLen) (w : World) (hm : MaxCell w) : Calls Tryd.prog 8 #[.string s] w fun e w' => e = .returned (.bool true) ∧ Below w.heap.size w w' := by
  have hs2 := hs
  unfold maxLen at hs2
  by_cases hbig : 1048576 < s.size
  · go_enter Tryd.func8, Tryd.ntmps8
    go_wp2
    go_ret
    exact ⟨rfl, Below.refl _ _⟩
  · have e1 : (s.size : Int) ≤ 1048576 := by omega
    have e2 : s.size ≤ 1048576 := by omega
    cases hw : isPhrase s
    all_goals
      go_enter Tryd.func8, Tryd.ntmps8
      go_wp2_with fail
      refine (IsPhrase_spec s _ e2).mono ?_
      rintro e_ w1 ⟨rfl, h1⟩
      have hc_w1 := bcell h1; have hf_w1 := bfree h1
      go_wp2_with fail
      refine (IsPhrase_impl s _ e2 (hm.below h1)).mono ?_
      rintro e_ w2 ⟨rfl, h2⟩
      have hc_w2 := bcell h2; have hf_w2 := bfree h2
      go_wp2
      go_ret
      exact ⟨rfl, next h1 h2⟩
end Go.Proofs.YtgeaiapompflnaaDoor.fnExactIsPhrase

namespace Go.Proofs.YtgeaiapompflnaaDoor.fnExactWordsOf
open Go.ChangeShapes Go.WideShapes Go.ChangeAt Go.RowKit
set_option linter.unusedVariables false
theorem ph_max {s : ByteArray} (hs : s.size ≤ 1048576) : (∀ x ∈ phWords s, x.size ≤ maxLen) ∧ (phWords s).length ≤ 8 := by
  unfold phWords
  split
  · rename_i h
    refine ⟨(cut_max hs).2, ?_⟩
    simp [isPhrase] at h
    omega
  · simp
set_option maxHeartbeats 2000000 in
theorem walk (s : ByteArray) (hs : s.size ≤ maxLen) (w : World) (hm : MaxCell w) : Calls Tryd.prog 9 #[.string s] w fun e w' => e = .returned (.bool true) ∧ Below w.heap.size w w' := by
  have hs2 := hs
  unfold maxLen at hs2
  by_cases hbig : 1048576 < s.size
  · go_enter Tryd.func9, Tryd.ntmps9
    go_wp2
    go_ret
    exact ⟨rfl, Below.refl _ _⟩
  · have e1 : (s.size : Int) ≤ 1048576 := by omega
    have e2 : s.size ≤ 1048576 := by omega
    obtain ⟨hmx, h8⟩ := ph_max e2
    have hc0 : (phCode s != phCode s) = false := by simp
    have HS := Lib.hid (WordsOf_spec s w e2)
    go_enter Tryd.func9, Tryd.ntmps9
    go_wp2_with fail
    refine HS.out.mono ?_
    rintro e_ w1 ⟨v1, rfl, ho1, hb1⟩
    obtain ⟨A1, c1, rfl, hx1⟩ := own_strs ho1 hmx
    go_wp2_with fail
    refine (WordsOf_impl s _ e2 (hm.below hb1)).mono ?_
    rintro e_ w2 ⟨v2, rfl, ho2, hb2⟩
    obtain ⟨A2, c2, rfl, hx2⟩ := own_strs ho2 hmx
    have hq := isb (eqStrs_any A2 A1 _ c2 _ c1 _ _ w2 hx2 (hx1.below hb2)) (decide_eq_true rfl)
    go_wp2_with fail
    refine hq.mono ?_
    rintro e_ w3 ⟨rfl, hb3⟩
    clear hq hx2
    have ho2 := own_below ho2 hb3
    go_wp2_with fail
    refine (markStrs_any _ 1 _ _ _ w3 ho2 (by omega) (by omega) (Nat.le_trans hb2.size hb3.size)).mono ?_
    rintro e_ w4 ⟨rfl, ho2, hb4⟩
    have B4 := (hb2.trans (hb3.mono hb2.size)).trans hb4
    clear hb2 hb3 hb4
    have hg4 := own_reads ho2 (marks_max (by omega))
    go_wp2_with fail
    refine (heldStrs_any 1 _ _ _ w4 hg4 (by omega) (by omega)).mono ?_
    rintro e_ w5 ⟨rfl, hb5⟩
    have B5 := next B4 hb5
    have hg5 := hg4.below hb5
    clear ho2 hg4 B4 hb5
    go_wp2_with fail
    refine (WordsOf_impl s _ e2 (hm.below (next hb1 B5))).mono ?_
    rintro e_ w6 ⟨v3, rfl, ho3, hb6⟩
    obtain ⟨A3, c3, rfl, hx3⟩ := own_strs ho3 hmx
    have B6 := next B5 hb6
    have hg6 := hg5.below hb6
    have hq := isb (eqStrs_any A3 A1 _ c3 _ c1 _ _ w6 hx3 (hx1.below B6)) (decide_eq_true rfl)
    go_wp2_with fail
    refine hq.mono ?_
    rintro e_ w7 ⟨rfl, hb7⟩
    have B7 := next B6 hb7
    have hg7 := hg6.below hb7
    clear hq hx3 ho3 hg6 hg5 B6 B5 hb6 hb7
    go_wp2_with fail
    refine (heldStrs_any 1 _ _ _ w7 hg7 (by omega) (by omega)).mono ?_
    rintro e_ w8 ⟨rfl, hb8⟩
    have B8 := next B7 hb8
    go_wp2
    go_ret
    exact ⟨rfl, next hb1 B8⟩
end Go.Proofs.YtgeaiapompflnaaDoor.fnExactWordsOf
