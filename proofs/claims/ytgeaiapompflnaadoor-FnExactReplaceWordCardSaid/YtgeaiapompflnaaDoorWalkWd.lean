/- Walk of the law ReplaceWord. -/
import Derived.Test.YtgeaiapompflnaaDoorRepl
namespace Go.Proofs.YtgeaiapompflnaaDoor.fnExactReplaceWord
open Go.ChangeShapes Go.WideShapes Go.ChangeAt Go.RowKit
set_option linter.unusedVariables false
set_option maxHeartbeats 1000000 in
theorem walk (s : ByteArray) (hs : s.size ≤ maxLen) (old : ByteArray) (ho : old.size ≤ maxLen) (word : ByteArray) (hw : word.size ≤ maxLen) (w : World) (hm : MaxCell w) : Calls Tryd.prog 11 #[.string s, .string old, .string word] w fun e w' => e = .returned (.bool true) ∧ Below w.heap.size w w' := by
  have hs2 := hs
  have ho2 := ho
  have hw2 := hw
  unfold maxLen at hs2 ho2 hw2
  by_cases hbig : 1048576 < s.size
  · go_enter Tryd.func11, Tryd.ntmps11
    go_wp2
    go_ret
    exact ⟨rfl, Below.refl _ _⟩
  · by_cases hbig2 : 1048576 < old.size
    · go_enter Tryd.func11, Tryd.ntmps11
      go_wp2
      go_ret
      exact ⟨rfl, Below.refl _ _⟩
    · by_cases hbig3 : 1048576 < word.size
      · go_enter Tryd.func11, Tryd.ntmps11
        go_wp2
        go_ret
        exact ⟨rfl, Below.refl _ _⟩
      · have e1 : s.size ≤ 1048576 := by omega
        have e2 : old.size ≤ 1048576 := by omega
        have e3 : word.size ≤ 1048576 := by omega
        have f1 : (rwCode s old word != rwCode s old word) = false := by simp
        go_enter Tryd.func11, Tryd.ntmps11
        go_wp2_with fail
        refine (ReplaceWord_spec s old word _ e1 e2 e3).mono ?_
        rintro e_ w1 ⟨rfl, h1⟩
        have hc_w1 := bcell h1; have hf_w1 := bfree h1
        go_wp2_with fail
        refine (ReplaceWord_impl s old word _ e1 e2 e3 (hm.below h1)).mono ?_
        rintro e_ w2 ⟨rfl, h2⟩
        have hc_w2 := bcell h2; have hf_w2 := bfree h2
        go_wp2
        go_ret
        exact ⟨rfl, next h1 h2⟩
end Go.Proofs.YtgeaiapompflnaaDoor.fnExactReplaceWord
