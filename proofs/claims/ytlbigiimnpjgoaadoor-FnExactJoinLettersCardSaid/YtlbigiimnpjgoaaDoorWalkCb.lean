/- Walk of the law JoinLetters. -/
import Derived.Test.YtlbigiimnpjgoaaDoorSpellA
namespace Go.Proofs.YtlbigiimnpjgoaaDoor.fnExactJoinLetters
open Go.ChangeShapes Go.WideShapes Go.ChangeAt Go.RowKit
set_option linter.unusedVariables false
set_option maxHeartbeats 2000000 in
theorem walk (A : Option Addr) (n c : Nat) (xs : List ByteArray) (B : Option Addr) (m d : Nat) (ys : List Int) (w : World) (hx : Strs w A n c xs) (hy : Ints w B m d ys) : Calls Tryd.prog 5 #[.slice A n c, .slice B m d] w fun e w' => e = .returned (.bool true) ∧ Below w.heap.size w w' := by
  have hcm := hx.2.1.cap
  have hnc := hx.2.1.le
  have hdm := hy.2.cap
  have hmd := hy.2.le
  unfold maxLen at hcm hdm
  by_cases hbig0 : 1048576 < m
  · go_enter Tryd.func5, Tryd.ntmps5
    go_wp2
    go_ret
    exact ⟨rfl, Below.refl _ _⟩
  · have hm : m ≤ 1048576 := by omega
    by_cases hbig : (1048576 : Int) - n - total xs < 0
    · have hz : szOf 1048576 n xs = -1 := by unfold szOf; rw [if_pos hbig]
      have HZ := szStrs_any A n c xs 1048576 w hx (by omega) (by omega)
      rw [hz] at HZ
      clear hz
      go_enter Tryd.func5, Tryd.ntmps5
      go_wp2_with fail
      refine (HZ).mono ?_
      rintro e_ w1 ⟨rfl, h1⟩
      have hc_w1 := bcell h1; have hf_w1 := bfree h1
      go_wp2
      go_ret
      exact ⟨rfl, h1⟩
    · have hz : szOf 1048576 n xs = 1048576 - n - total xs := by unfold szOf; rw [if_neg hbig]
      have HZ := szStrs_any A n c xs 1048576 w hx (by omega) (by omega)
      rw [hz] at HZ
      have hn : n ≤ 1048576 := by omega
      have r0 : ¬ ((1048576 : Int) - n - total xs < 0) := hbig
      generalize (1048576 : Int) - n - total xs = left at HZ r0
      clear hz hbig
      have hc0 : (jlCode xs ys != jlCode xs ys) = false := by simp
      go_enter Tryd.func5, Tryd.ntmps5
      go_wp2_with fail
      refine (HZ).mono ?_
      rintro e_ w1 ⟨rfl, h1⟩
      have hc_w1 := bcell h1; have hf_w1 := bfree h1
      have B1 := h1
      go_wp2_with fail
      refine (toStrs_any A n c xs _ (hx.below B1) hn).mono ?_
      rintro e_ w2 ⟨rfl, ho2, h2⟩
      have p2 := own_reads ho2 hx.2.2
      have B2 := next B1 h2
      clear ho2
      go_wp2_with fail
      refine (toInts_any B m d ys _ (hy.below B2) hm).mono ?_
      rintro e_ w3 ⟨rfl, ho3, h3⟩
      have q3 := own_ints ho3
      have B3 := next B2 h3
      clear ho3
      go_wp2_with fail
      refine (JoinLetters_spec _ _ n n m m xs ys _ (p2.below h3) q3).mono ?_
      rintro e_ w4 ⟨rfl, h4⟩
      have hc_w4 := bcell h4; have hf_w4 := bfree h4
      have B4 := next B3 h4
      go_wp2_with fail
      refine (toStrs_any A n c xs _ (hx.below B4) hn).mono ?_
      rintro e_ w5 ⟨rfl, ho5, h5⟩
      have p5 := own_reads ho5 hx.2.2
      have B5 := next B4 h5
      clear ho5
      go_wp2_with fail
      refine (toInts_any B m d ys _ (hy.below B5) hm).mono ?_
      rintro e_ w6 ⟨rfl, ho6, h6⟩
      have q6 := own_ints ho6
      have p6 := p5.below h6
      have B6 := next B5 h6
      clear ho6
      go_wp2_with fail
      refine (JoinLetters_impl _ _ n n m m xs ys _ p6 q6).mono ?_
      rintro e_ w7 ⟨rfl, h7⟩
      have hc_w7 := bcell h7; have hf_w7 := bfree h7
      have p7 := p6.below h7
      have q7 := q6.below h7
      have B7 := next B6 h7
      go_wp2_with fail
      refine (toStrs_any A n c xs _ (hx.below B7) hn).mono ?_
      rintro e_ w8 ⟨rfl, ho8, h8⟩
      have p8 := own_reads ho8 hx.2.2
      have B8 := next B7 h8
      clear ho8
      go_wp2_with fail
      refine (isb (eqStrs_any _ _ n n n n xs xs _ (p7.below h8) p8) (decide_eq_true rfl)).mono ?_
      rintro e_ w9 ⟨rfl, h9⟩
      have hc_w9 := bcell h9; have hf_w9 := bfree h9
      have q9 := (q7.below h8).below h9
      have B9 := next B8 h9
      go_wp2_with fail
      refine (toInts_any B m d ys _ (hy.below B9) hm).mono ?_
      rintro e_ w10 ⟨rfl, ho10, h10⟩
      have q10 := own_ints ho10
      have B10 := next B9 h10
      clear ho10
      go_wp2_with fail
      refine (isb (eqInts_any _ _ m m m m ys ys _ (q9.below h10) q10) (decide_eq_true rfl)).mono ?_
      rintro e_ w11 ⟨rfl, h11⟩
      have hc_w11 := bcell h11; have hf_w11 := bfree h11
      go_wp2
      go_ret
      exact ⟨rfl, next B10 h11⟩
end Go.Proofs.YtlbigiimnpjgoaaDoor.fnExactJoinLetters
