/- Walk of the law IsAlphabet. -/
import Derived.Test.YtlbigiimnpjgoaaDoorAlpha2
namespace Go.Proofs.YtlbigiimnpjgoaaDoor.fnExactIsAlphabet
open Go.ChangeShapes Go.WideShapes Go.ChangeAt Go.RowKit
set_option linter.unusedVariables false
set_option maxHeartbeats 2000000 in
theorem walk (A : Option Addr) (n c : Nat) (xs : List ByteArray) (w : World) (hx : Strs w A n c xs) : Calls Tryd.prog 3 #[.slice A n c] w fun e w' => e = .returned (.bool true) ∧ Below w.heap.size w w' := by
  have hcm := hx.2.1.cap
  have hnc := hx.2.1.le
  unfold maxLen at hcm
  by_cases hbig : (1048576 : Int) - n - total xs < 0
  · have hz : szOf 1048576 n xs = -1 := by unfold szOf; rw [if_pos hbig]
    have HZ := szStrs_any A n c xs 1048576 w hx (by omega) (by omega)
    rw [hz] at HZ
    clear hz
    go_enter Tryd.func3, Tryd.ntmps3
    go_wp2_with fail
    refine (HZ).mono ?_
    rintro e_ w1 ⟨rfl, h1⟩
    have hc_w1 := bcell h1; have hf_w1 := bfree h1
    go_wp2
    go_ret
    exact ⟨rfl, h1⟩
  · have hz : szOf 1048576 n xs = 1048576 - n - total xs := by unfold szOf; rw [if_neg hbig]
    have HZ := szStrs_any A n c xs 1048576 w hx (by omega) (by omega)
    rw [hz] at HZ
    have hn : n ≤ 1048576 := by omega
    have r0 : ¬ ((1048576 : Int) - n - total xs < 0) := hbig
    generalize (1048576 : Int) - n - total xs = left at HZ r0
    clear hz hbig
    cases ha : isAlpha xs
    all_goals
      go_enter Tryd.func3, Tryd.ntmps3
      go_wp2_with fail
      refine (HZ).mono ?_
      rintro e_ w1 ⟨rfl, h1⟩
      have hc_w1 := bcell h1; have hf_w1 := bfree h1
      have hx1 := hx.below h1
      go_wp2_with fail
      refine (toStrs_any A n c xs _ hx1 hn).mono ?_
      rintro e_ w2 ⟨rfl, ho2, h2⟩
      have hy2 := own_reads ho2 hx.2.2
      have hx2 := hx1.below h2
      have B2 := next h1 h2
      clear ho2
      go_wp2_with fail
      refine (isb (IsAlphabet_spec _ n n xs _ hy2) ha).mono ?_
      rintro e_ w3 ⟨rfl, h3⟩
      have hc_w3 := bcell h3; have hf_w3 := bfree h3
      have hx3 := hx2.below h3
      have B3 := next B2 h3
      go_wp2_with fail
      refine (toStrs_any A n c xs _ hx3 hn).mono ?_
      rintro e_ w4 ⟨rfl, ho4, h4⟩
      have hy4 := own_reads ho4 hx.2.2
      have hx4 := hx3.below h4
      have B4 := next B3 h4
      clear ho4
      go_wp2_with fail
      refine (isb (IsAlphabet_impl _ n n xs _ hy4) ha).mono ?_
      rintro e_ w5 ⟨rfl, h5⟩
      have hc_w5 := bcell h5; have hf_w5 := bfree h5
      have hx5 := hx4.below h5
      have hy5 := hy4.below h5
      have B5 := next B4 h5
      go_wp2_with fail
      refine (toStrs_any A n c xs _ hx5 hn).mono ?_
      rintro e_ w6 ⟨rfl, ho6, h6⟩
      have hy6 := own_reads ho6 hx.2.2
      have hy56 := hy5.below h6
      have B6 := next B5 h6
      clear ho6
      go_wp2_with fail
      refine (isb (eqStrs_any _ _ n n n n xs xs _ hy56 hy6) (decide_eq_true rfl)).mono ?_
      rintro e_ w7 ⟨rfl, h7⟩
      have hc_w7 := bcell h7; have hf_w7 := bfree h7
      go_wp2
      go_ret
      exact ⟨rfl, next B6 h7⟩
end Go.Proofs.YtlbigiimnpjgoaaDoor.fnExactIsAlphabet

namespace Go.Proofs.YtlbigiimnpjgoaaDoor.fnExactAlphabetText
open Go.ChangeShapes Go.WideShapes Go.ChangeAt Go.RowKit
set_option linter.unusedVariables false
set_option maxHeartbeats 2000000 in
theorem walk (A : Option Addr) (n c : Nat) (xs : List ByteArray) (w : World) (hx : Strs w A n c xs)  : Calls Tryd.prog 7 #[.slice A n c] w fun e w' => e = .returned (.bool true) ∧ Below w.heap.size w w' := by
  have hcm := hx.2.1.cap
  have hnc := hx.2.1.le
  unfold maxLen at hcm
  by_cases hbig : (1048576 : Int) - n - total xs < 0
  · have hz : szOf 1048576 n xs = -1 := by unfold szOf; rw [if_pos hbig]
    have HZ := szStrs_any A n c xs 1048576 w hx (by omega) (by omega)
    rw [hz] at HZ
    clear hz
    go_enter Tryd.func7, Tryd.ntmps7
    go_wp2_with fail
    refine (HZ).mono ?_
    rintro e_ w1 ⟨rfl, h1⟩
    have hc_w1 := bcell h1; have hf_w1 := bfree h1
    go_wp2
    go_ret
    exact ⟨rfl, h1⟩
  · have hz : szOf 1048576 n xs = 1048576 - n - total xs := by unfold szOf; rw [if_neg hbig]
    have HZ := szStrs_any A n c xs 1048576 w hx (by omega) (by omega)
    rw [hz] at HZ
    have hT : total xs + n ≤ 1048576 := by omega
    have hT2 : total xs + n ≤ 1000000000000 := by omega
    have hn : n ≤ 1048576 := by omega
    have r0 : ¬ ((1048576 : Int) - n - total xs < 0) := hbig
    generalize (1048576 : Int) - n - total xs = left at HZ r0
    clear hz hbig
    have hc0 : (alCode xs != alCode xs) = false := by simp
    go_enter Tryd.func7, Tryd.ntmps7
    go_wp2_with fail
    refine (HZ).mono ?_
    rintro e_ w1 ⟨rfl, h1⟩
    have hc_w1 := bcell h1; have hf_w1 := bfree h1
    have hx1 := hx.below h1
    go_wp2_with fail
    refine (toStrs_any A n c xs _ hx1 hn).mono ?_
    rintro e_ w2 ⟨rfl, ho2, h2⟩
    have hy2 := own_reads ho2 hx.2.2
    have hx2 := hx1.below h2
    have B2 := next h1 h2
    clear ho2
    go_wp2_with fail
    refine (AlphabetText_spec _ n n xs _ hy2 hT2).mono ?_
    rintro e_ w3 ⟨rfl, h3⟩
    have hc_w3 := bcell h3; have hf_w3 := bfree h3
    have hx3 := hx2.below h3
    have B3 := next B2 h3
    go_wp2_with fail
    refine (toStrs_any A n c xs _ hx3 hn).mono ?_
    rintro e_ w4 ⟨rfl, ho4, h4⟩
    have hy4 := own_reads ho4 hx.2.2
    have hx4 := hx3.below h4
    have B4 := next B3 h4
    clear ho4
    go_wp2_with fail
    refine (AlphabetText_impl _ n n xs _ hy4 hT2).mono ?_
    rintro e_ w5 ⟨rfl, h5⟩
    have hc_w5 := bcell h5; have hf_w5 := bfree h5
    have hx5 := hx4.below h5
    have hy5 := hy4.below h5
    have B5 := next B4 h5
    go_wp2_with fail
    refine (toStrs_any A n c xs _ hx5 hn).mono ?_
    rintro e_ w6 ⟨rfl, ho6, h6⟩
    have hy6 := own_reads ho6 hx.2.2
    have hy56 := hy5.below h6
    have B6 := next B5 h6
    clear ho6
    go_wp2_with fail
    refine (isb (eqStrs_any _ _ n n n n xs xs _ hy56 hy6) (decide_eq_true rfl)).mono ?_
    rintro e_ w7 ⟨rfl, h7⟩
    have hc_w7 := bcell h7; have hf_w7 := bfree h7
    go_wp2
    go_ret
    exact ⟨rfl, next B6 h7⟩
end Go.Proofs.YtlbigiimnpjgoaaDoor.fnExactAlphabetText

namespace Go.Proofs.YtlbigiimnpjgoaaDoor.fnExactReadAlphabet
open Go.ChangeShapes Go.WideShapes Go.ChangeAt Go.RowKit
set_option linter.unusedVariables false
set_option maxHeartbeats 2000000 in
theorem walk (s : ByteArray) (hs : s.size ≤ maxLen) (w : World) (hm : MaxCell w) : Calls Tryd.prog 10 #[.string s] w fun e w' => e = .returned (.bool true) ∧ Below w.heap.size w w' := by
  have hs2 := hs
  unfold maxLen at hs2
  by_cases hbig : 1048576 < s.size
  · go_enter Tryd.func10, Tryd.ntmps10
    go_wp2
    go_ret
    exact ⟨rfl, Below.refl _ _⟩
  · have e1 : (s.size : Int) ≤ 1048576 := by omega
    have e2 : s.size ≤ 1048576 := by omega
    obtain ⟨hmx, h8⟩ := ra_max e2
    have hc0 : (raCode s != raCode s) = false := by simp
    have HS := Lib.hid (ReadAlphabet_spec s w e2)
    go_enter Tryd.func10, Tryd.ntmps10
    go_wp2_with fail
    refine HS.out.mono ?_
    rintro e_ w1 ⟨v1, rfl, ho1, hb1⟩
    obtain ⟨A1, c1, rfl, hx1⟩ := own_strs ho1 hmx
    go_wp2_with fail
    refine (ReadAlphabet_impl s _ e2 (hm.below hb1)).mono ?_
    rintro e_ w2 ⟨v2, rfl, ho2, hb2⟩
    obtain ⟨A2, c2, rfl, hx2⟩ := own_strs ho2 hmx
    have hq := isb (eqStrs_any A2 A1 _ c2 _ c1 _ _ w2 hx2 (hx1.below hb2)) (decide_eq_true rfl)
    go_wp2_with fail
    refine hq.mono ?_
    rintro e_ w3 ⟨rfl, hb3⟩
    clear hq hx2
    have ho2 := own_below ho2 hb3
    go_wp2_with fail
    refine (markStrs_any _ 1 _ _ _ w3 ho2 (by omega) (by omega) (Nat.le_trans hb2.size hb3.size)).mono ?_
    rintro e_ w4 ⟨rfl, ho2, hb4⟩
    have B4 := (hb2.trans (hb3.mono hb2.size)).trans hb4
    clear hb2 hb3 hb4
    have hg4 := own_reads ho2 (marks_max (by omega))
    go_wp2_with fail
    refine (heldStrs_any 1 _ _ _ w4 hg4 (by omega) (by omega)).mono ?_
    rintro e_ w5 ⟨rfl, hb5⟩
    have B5 := next B4 hb5
    have hg5 := hg4.below hb5
    clear ho2 hg4 B4 hb5
    go_wp2_with fail
    refine (ReadAlphabet_impl s _ e2 (hm.below (next hb1 B5))).mono ?_
    rintro e_ w6 ⟨v3, rfl, ho3, hb6⟩
    obtain ⟨A3, c3, rfl, hx3⟩ := own_strs ho3 hmx
    have B6 := next B5 hb6
    have hg6 := hg5.below hb6
    have hq := isb (eqStrs_any A3 A1 _ c3 _ c1 _ _ w6 hx3 (hx1.below B6)) (decide_eq_true rfl)
    go_wp2_with fail
    refine hq.mono ?_
    rintro e_ w7 ⟨rfl, hb7⟩
    have B7 := next B6 hb7
    have hg7 := hg6.below hb7
    clear hq hx3 ho3 hg6 hg5 B6 B5 hb6 hb7
    go_wp2_with fail
    refine (heldStrs_any 1 _ _ _ w7 hg7 (by omega) (by omega)).mono ?_
    rintro e_ w8 ⟨rfl, hb8⟩
    have B8 := next B7 hb8
    go_wp2
    go_ret
    exact ⟨rfl, next hb1 B8⟩
end Go.Proofs.YtlbigiimnpjgoaaDoor.fnExactReadAlphabet
