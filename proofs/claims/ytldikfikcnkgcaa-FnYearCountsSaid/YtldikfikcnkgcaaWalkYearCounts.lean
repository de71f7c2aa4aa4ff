/- Walk of the law FnYearCounts. -/
import Derived.Test.YtldikfikcnkgcaaDrY4
import Derived.Test.YtldikfikcnkgcaaYcLaw
import Derived.Test.YtldikfikcnkgcaaLikeY
import Derived.Test.YtldikfikcnkgcaaBigY
namespace Go.Proofs.Ytldikfikcnkgcaa.fnYearCounts
open Go.ChangeShapes Go.WideShapes Go.ChangeAt Go.RowKit
set_option linter.unusedVariables false
set_option maxRecDepth 100000 in
set_option maxHeartbeats 4000000 in
theorem walk (A : Option Addr) (n c : Nat) (bs : List UInt8) (w : World) (hx : Bytes w A n c bs) : Calls Try.prog 5 #[.slice A n c] w fun e w' => e = .returned (.bool true) ∧ Below w.heap.size w w' := by
  go_enter Try.func5, Try.ntmps5
  go_wp2_with fail
  refine (big_any A n c w).mono ?_
  rintro e_ w0 ⟨rfl, h0⟩
  by_cases hbig : 4096 < n
  · have hb2 : (4096 : Int) < n := by omega
    go_wp2
    go_ret
    exact ⟨rfl, h0⟩
  · have hb2 : ¬ (4096 : Int) < n := by omega
    go_wp2_with fail
    refine (DrawCountYears_any A n c bs _ (hx.below h0)).mono ?_
    rintro e_ w1 ⟨g, d, xs, rfl, Y1, h1⟩
    have B1 := Lib.hid (next h0 h1)
    go_wp2_with fail
    refine (CountYears_impl _ _ _ xs _ Y1.sp).mono ?_
    rintro e_ w2 ⟨rfl, h2⟩
    have Y2 := Y1.below h2
    go_wp2_with fail
    refine (CountYears_spec _ _ _ xs _ Y2.sp).mono ?_
    rintro e_ w3 ⟨rfl, h3⟩
    have Y3 := Y2.below h3
    have B3 := Lib.hid (next (next B1.out h2) h3)
    clear Y1 Y2 h1 h2 h3 h0 B1
    go_wp2_with fail
    refine (DrawHasYear_any A n c bs _ (hx.below B3.out)).mono ?_
    rintro e_ w4 ⟨g2, d2, ys, y, rfl, Z4, h4⟩
    have Y4 := Y3.below h4
    go_wp2_with fail
    refine (HasYear_impl _ _ _ ys y _ Z4.sp).mono ?_
    rintro e_ w5 ⟨rfl, h5⟩
    have Y5 := Y4.below h5
    have Z5 := Z4.below h5
    go_wp2_with fail
    refine (HasYear_spec _ _ _ ys y _ Z5.sp).mono ?_
    rintro e_ w6 ⟨rfl, h6⟩
    have Y6 := Y5.below h6
    have B6 := Lib.hid (next (next (next B3.out h4) h5) h6)
    clear Y3 Y4 Y5 Z4 Z5 h4 h5 h6 B3
    have c1 : (codeYears xs != codeYears xs) = false := by simp
    have c2 : (cntYears xs != cntYears xs) = false := by simp
    have c3 : (codeYears ys != codeYears ys) = false := by simp
    have c4 : (hasCode ys y != hasCode ys y) = false := by simp
    cases hy : areYears xs
    · have HC : codeYears xs = 1 := by unfold codeYears; rw [hy]; rfl
      rw [HC] at *
      generalize cntYears xs = cnt at *
      generalize codeYears ys = cy at *
      generalize hasCode ys y = hc at *
      go_wp2
      go_ret
      exact ⟨rfl, B6.out⟩
    · have HC : codeYears xs = 0 := by unfold codeYears; rw [hy]; rfl
      have HN := Lib.hid (show (xs.length : Int) ≤ cntYears xs by unfold cntYears; rw [if_pos hy]; exact yr_counts hy)
      have HW := wy_self hy
      have HU := un_self hy
      rw [HC] at *
      generalize cntYears xs = cnt at *
      generalize codeYears ys = cy at *
      generalize hasCode ys y = hc at *
      have hw := fun w (Y : Yrs w g d xs) => WithoutYears_impl _ _ _ _ _ _ xs xs w Y.sp Y.sp
      have hu := fun w (Y : Yrs w g d xs) => UnionOf_impl _ _ _ _ _ _ xs xs w Y.sp Y.sp ⟨Y.ad, Y.ad⟩
      rw [HW.1, HW.2] at hw
      rw [HU.1, HU.2] at hu
      go_wp2_with fail
      refine (hw _ Y6).mono ?_
      rintro e_ w7 ⟨v, rfl, O7, h7⟩
      obtain ⟨A7, c7, rfl, _⟩ := own_formS O7
      have Y7 := Y6.below h7
      have B7 := Lib.hid (next B6.out h7)
      clear O7 Y6
      go_wp2_with fail
      refine (hu _ Y7).mono ?_
      rintro e_ w8 ⟨v, rfl, O8, h8⟩
      obtain ⟨A8, c8, rfl, _⟩ := own_formS O8
      have Y8 := Y7.below h8
      have B8 := Lib.hid (next B7.out h8)
      have X8 := own_spans O8 rfl
      clear O8 Y7 hw hu
      have hl := Y8.len
      have hle := HN.out
      go_wp2_with fail
      refine (likeSpans_same _ _ _ _ _ xs _ X8 Y8.sp).mono ?_
      rintro e_ w9 ⟨rfl, h9⟩
      have B9 := Lib.hid (next B8.out h9)
      go_wp2
      go_ret
      exact ⟨rfl, B9.out⟩
end Go.Proofs.Ytldikfikcnkgcaa.fnYearCounts
