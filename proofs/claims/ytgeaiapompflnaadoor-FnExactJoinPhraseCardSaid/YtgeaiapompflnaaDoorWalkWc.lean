/- Walk of the law JoinPhrase. -/
import Derived.Test.YtgeaiapompflnaaDoorJoin
namespace Go.Proofs.YtgeaiapompflnaaDoor.fnExactJoinPhrase
open Go.ChangeShapes Go.WideShapes Go.ChangeAt Go.RowKit
set_option linter.unusedVariables false
set_option maxHeartbeats 2000000 in
theorem walk (A : Option Addr) (n c : Nat) (xs : List ByteArray) (w : World) (hx : Strs w A n c xs) (hm : MaxCell w) : Calls Tryd.prog 10 #[.slice A n c] w fun e w' => e = .returned (.bool true) ∧ Below w.heap.size w w' := by
  have hcm := hx.2.1.cap
  have hnc := hx.2.1.le
  unfold maxLen at hcm
  by_cases hbig : (1048576 : Int) - n - total xs < 0
  · have hz : szOf 1048576 n xs = -1 := by unfold szOf; rw [if_pos hbig]
    have HZ := szStrs_any A n c xs 1048576 w hx (by omega) (by omega)
    rw [hz] at HZ
    clear hz
    go_enter Tryd.func10, Tryd.ntmps10
    go_wp2_with fail
    refine (HZ).mono ?_
    rintro e_ w1 ⟨rfl, h1⟩
    have hc_w1 := bcell h1; have hf_w1 := bfree h1
    go_wp2
    go_ret
    exact ⟨rfl, h1⟩
  · have hz : szOf 1048576 n xs = 1048576 - n - total xs := by unfold szOf; rw [if_neg hbig]
    have HZ := szStrs_any A n c xs 1048576 w hx (by omega) (by omega)
    rw [hz] at HZ
    have hT : total xs + n ≤ 1048576 := by omega
    have hT2 : total xs + n ≤ 1000000000000 := by omega
    have hn : n ≤ 1048576 := by omega
    have r0 : ¬ ((1048576 : Int) - n - total xs < 0) := hbig
    generalize (1048576 : Int) - n - total xs = left at HZ r0
    clear hz hbig
    have hc0 : (jpCode xs != jpCode xs) = false := by simp
    go_enter Tryd.func10, Tryd.ntmps10
    go_wp2_with fail
    refine (HZ).mono ?_
    rintro e_ w1 ⟨rfl, h1⟩
    have hc_w1 := bcell h1; have hf_w1 := bfree h1
    have hx1 := hx.below h1
    go_wp2_with fail
    refine (toStrs_any A n c xs _ hx1 hn).mono ?_
    rintro e_ w2 ⟨rfl, ho2, h2⟩
    have hy2 := own_reads ho2 hx.2.2
    have hx2 := hx1.below h2
    have B2 := next h1 h2
    clear ho2
    go_wp2_with fail
    refine (JoinPhrase_spec _ n n xs _ hy2 hT2).mono ?_
    rintro e_ w3 ⟨rfl, h3⟩
    have hc_w3 := bcell h3; have hf_w3 := bfree h3
    have hx3 := hx2.below h3
    have B3 := next B2 h3
    go_wp2_with fail
    refine (toStrs_any A n c xs _ hx3 hn).mono ?_
    rintro e_ w4 ⟨rfl, ho4, h4⟩
    have hy4 := own_reads ho4 hx.2.2
    have hx4 := hx3.below h4
    have B4 := next B3 h4
    clear ho4
    go_wp2_with fail
    refine (JoinPhrase_impl _ n n xs _ hy4 hT (hm.below B4)).mono ?_
    rintro e_ w5 ⟨rfl, h5⟩
    have hc_w5 := bcell h5; have hf_w5 := bfree h5
    have hx5 := hx4.below h5
    have hy5 := hy4.below h5
    have B5 := next B4 h5
    go_wp2_with fail
    refine (toStrs_any A n c xs _ hx5 hn).mono ?_
    rintro e_ w6 ⟨rfl, ho6, h6⟩
    have hy6 := own_reads ho6 hx.2.2
    have hy56 := hy5.below h6
    have B6 := next B5 h6
    clear ho6
    go_wp2_with fail
    refine (isb (eqStrs_any _ _ n n n n xs xs _ hy56 hy6) (decide_eq_true rfl)).mono ?_
    rintro e_ w7 ⟨rfl, h7⟩
    have hc_w7 := bcell h7; have hf_w7 := bfree h7
    go_wp2
    go_ret
    exact ⟨rfl, next B6 h7⟩
end Go.Proofs.YtgeaiapompflnaaDoor.fnExactJoinPhrase
