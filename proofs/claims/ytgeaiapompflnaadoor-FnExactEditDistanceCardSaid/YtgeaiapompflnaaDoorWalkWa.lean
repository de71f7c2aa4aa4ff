/- Walks of the words' laws. -/
import Derived.Test.YtgeaiapompflnaaDoorEdit
namespace Go.Proofs.YtgeaiapompflnaaDoor.fnExactIsWord
open Go.ChangeShapes Go.WideShapes Go.ChangeAt Go.RowKit
set_option linter.unusedVariables false
set_option maxHeartbeats 400000 in
theorem walk (s : ByteArray) (hs : s.size ≤ maxLen) (w : World) : Calls Tryd.prog 3 #[.string s] w fun e w' => e = .returned (.bool true) ∧ Below w.heap.size w w' := by
  have hs2 := hs
  unfold maxLen at hs2
  by_cases hbig : 1048576 < s.size
  · go_enter Tryd.func3, Tryd.ntmps3
    go_wp2
    go_ret
    exact ⟨rfl, Below.refl _ _⟩
  · have e1 : (s.size : Int) ≤ 1048576 := by omega
    cases hw : isWord s
    all_goals
      go_enter Tryd.func3, Tryd.ntmps3
      go_wp2_with fail
      refine (IsWord_spec s _ hs).mono ?_
      rintro e_ w1 ⟨rfl, h1⟩
      have hc_w1 := bcell h1; have hf_w1 := bfree h1
      go_wp2_with fail
      refine (IsWord_impl s _ hs).mono ?_
      rintro e_ w2 ⟨rfl, h2⟩
      have hc_w2 := bcell h2; have hf_w2 := bfree h2
      go_wp2
      go_ret
      exact ⟨rfl, next h1 h2⟩
end Go.Proofs.YtgeaiapompflnaaDoor.fnExactIsWord

namespace Go.Proofs.YtgeaiapompflnaaDoor.fnExactCommonStart
open Go.ChangeShapes Go.WideShapes Go.ChangeAt Go.RowKit
set_option linter.unusedVariables false
set_option maxHeartbeats 800000 in
theorem walk (a : ByteArray) (ha : a.size ≤ maxLen) (b : ByteArray) (hb : b.size ≤ maxLen) (w : World) : Calls Tryd.prog 4 #[.string a, .string b] w fun e w' => e = .returned (.bool true) ∧ Below w.heap.size w w' := by
  have ha2 := ha
  have hb2 := hb
  unfold maxLen at ha2 hb2
  by_cases hbig : 1048576 < a.size
  · go_enter Tryd.func4, Tryd.ntmps4
    go_wp2
    go_ret
    exact ⟨rfl, Below.refl _ _⟩
  · have e1 : (a.size : Int) ≤ 1048576 := by omega
    by_cases hbig2 : 1048576 < b.size
    · go_enter Tryd.func4, Tryd.ntmps4
      go_wp2
      go_ret
      exact ⟨rfl, Below.refl _ _⟩
    · have e2 : (b.size : Int) ≤ 1048576 := by omega
      have f1 : (twoCode a b != twoCode a b) = false := by simp
      go_enter Tryd.func4, Tryd.ntmps4
      go_wp2_with fail
      refine (CommonStart_spec a b _ ha hb).mono ?_
      rintro e_ w1 ⟨rfl, h1⟩
      have hc_w1 := bcell h1; have hf_w1 := bfree h1
      go_wp2_with fail
      refine (CommonStart_impl a b _ ha hb).mono ?_
      rintro e_ w2 ⟨rfl, h2⟩
      have hc_w2 := bcell h2; have hf_w2 := bfree h2
      go_wp2
      go_ret
      exact ⟨rfl, next h1 h2⟩
end Go.Proofs.YtgeaiapompflnaaDoor.fnExactCommonStart

namespace Go.Proofs.YtgeaiapompflnaaDoor.fnExactLettersInCommon
open Go.ChangeShapes Go.WideShapes Go.ChangeAt Go.RowKit
set_option linter.unusedVariables false
set_option maxHeartbeats 800000 in
theorem walk (a : ByteArray) (ha : a.size ≤ maxLen) (b : ByteArray) (hb : b.size ≤ maxLen) (w : World) : Calls Tryd.prog 5 #[.string a, .string b] w fun e w' => e = .returned (.bool true) ∧ Below w.heap.size w w' := by
  have ha2 := ha
  have hb2 := hb
  unfold maxLen at ha2 hb2
  by_cases hbig : 1048576 < a.size
  · go_enter Tryd.func5, Tryd.ntmps5
    go_wp2
    go_ret
    exact ⟨rfl, Below.refl _ _⟩
  · have e1 : (a.size : Int) ≤ 1048576 := by omega
    by_cases hbig2 : 1048576 < b.size
    · go_enter Tryd.func5, Tryd.ntmps5
      go_wp2
      go_ret
      exact ⟨rfl, Below.refl _ _⟩
    · have e2 : (b.size : Int) ≤ 1048576 := by omega
      have f1 : (twoCode a b != twoCode a b) = false := by simp
      have f2 : (lcsVal a b != lcsVal a b) = false := by simp
      go_enter Tryd.func5, Tryd.ntmps5
      go_wp2_with fail
      refine (Letters_spec a b _ ha hb).mono ?_
      rintro e_ w1 ⟨rfl, h1⟩
      have hc_w1 := bcell h1; have hf_w1 := bfree h1
      go_wp2_with fail
      refine (Letters_impl a b _ ha hb).mono ?_
      rintro e_ w2 ⟨rfl, h2⟩
      have hc_w2 := bcell h2; have hf_w2 := bfree h2
      go_wp2
      go_ret
      exact ⟨rfl, next h1 h2⟩
end Go.Proofs.YtgeaiapompflnaaDoor.fnExactLettersInCommon

namespace Go.Proofs.YtgeaiapompflnaaDoor.fnExactEditDistance
open Go.ChangeShapes Go.WideShapes Go.ChangeAt Go.RowKit
set_option linter.unusedVariables false
set_option maxHeartbeats 800000 in
theorem walk (a : ByteArray) (ha : a.size ≤ maxLen) (b : ByteArray) (hb : b.size ≤ maxLen) (w : World) : Calls Tryd.prog 6 #[.string a, .string b] w fun e w' => e = .returned (.bool true) ∧ Below w.heap.size w w' := by
  have ha2 := ha
  have hb2 := hb
  unfold maxLen at ha2 hb2
  by_cases hbig : 1048576 < a.size
  · go_enter Tryd.func6, Tryd.ntmps6
    go_wp2
    go_ret
    exact ⟨rfl, Below.refl _ _⟩
  · have e1 : (a.size : Int) ≤ 1048576 := by omega
    by_cases hbig2 : 1048576 < b.size
    · go_enter Tryd.func6, Tryd.ntmps6
      go_wp2
      go_ret
      exact ⟨rfl, Below.refl _ _⟩
    · have e2 : (b.size : Int) ≤ 1048576 := by omega
      have f1 : (twoCode a b != twoCode a b) = false := by simp
      have f2 : (edVal a b != edVal a b) = false := by simp
      go_enter Tryd.func6, Tryd.ntmps6
      go_wp2_with fail
      refine (EditDistance_spec a b _ ha hb).mono ?_
      rintro e_ w1 ⟨rfl, h1⟩
      have hc_w1 := bcell h1; have hf_w1 := bfree h1
      go_wp2_with fail
      refine (EditDistance_impl a b _ ha hb).mono ?_
      rintro e_ w2 ⟨rfl, h2⟩
      have hc_w2 := bcell h2; have hf_w2 := bfree h2
      go_wp2
      go_ret
      exact ⟨rfl, next h1 h2⟩
end Go.Proofs.YtgeaiapompflnaaDoor.fnExactEditDistance
