/- Walk of the law IsUnambiguous. -/
import Derived.Test.YtnjjfcdddkabbaaDoorHarnR
import Derived.Test.YtnjjfcdddkabbaaDoorAmbJ
namespace Go.Proofs.YtnjjfcdddkabbaaDoor.fnExactIsUnambiguous
open Go.ChangeShapes Go.WideShapes Go.ChangeAt Go.RowKit
set_option linter.unusedVariables false
set_option maxRecDepth 100000 in
set_option maxHeartbeats 2000000 in
theorem walk (A0 : Option Addr) (n0 c0 : Nat) (x0 : List Rl) (w : World) (h0 : Rules w A0 n0 c0 x0)  : Calls Tryd.prog 4 #[.slice A0 n0 c0] w fun e w' => e = .returned (.bool true) ∧ Below w.heap.size w w' := by
  have hcm0 := h0.cap.2
  have hnc0 := h0.cap.1
  unfold maxLen at hcm0
  by_cases neg0 : (1048576 : Int) - n0 - rtot x0 < 0
  · have hz : szR (1048576 : Int) n0 (rtot x0) = -1 := by unfold szR; rw [if_pos neg0]
    have HZ := fun W hW => szRules_any A0 n0 c0 x0 (1048576 : Int) W hW (by omega) (by omega)
    rw [hz] at HZ
    clear hz
    go_enter Tryd.func4, Tryd.ntmps4
    have B0 : Below w.heap.size w w := Below.refl _ _
    go_wp2_with fail
    refine (HZ _ (h0.below B0)).mono ?_
    rintro e_ v1 ⟨rfl, k1⟩
    have hc_v1 := bcell k1; have hf_v1 := bfree k1
    go_wp2
    go_ret
    exact ⟨rfl, next B0 k1⟩
  have HZ0 := fun W hW => szRules_any A0 n0 c0 x0 (1048576 : Int) W hW (by omega) (by omega)
  rw [show szR (1048576 : Int) n0 (rtot x0) = (1048576 : Int) - n0 - rtot x0 by unfold szR; rw [if_neg neg0]] at HZ0
  have le0 : n0 ≤ 1048576 := by omega
  have tt0 : rtot x0 ≤ 1048576 := by omega
  obtain ⟨left0, hleft0⟩ : ∃ l : Int, (1048576 : Int) - n0 - rtot x0 = l := ⟨_, rfl⟩
  rw [hleft0] at HZ0 neg0
  have lb0 : left0 ≤ 1048576 := by omega
  clear hleft0
  have cq0 : (iuOk x0 != iuOk x0) = false := by simp
  have cr0 : (iuOk x0 == iuOk x0) = true := by simp
  have cq1 : (iuCode x0 != iuCode x0) = false := by simp
  go_enter Tryd.func4, Tryd.ntmps4
  have B : Below w.heap.size w w := Below.refl _ _
  go_wp2_with fail
  refine (HZ0 _ (h0.below B)).mono ?_
  rintro e_ w1 ⟨rfl, hk1⟩
  have zk1 := hk1.size
  replace B := next B hk1
  go_wp2_with fail
  refine (toRules_any A0 n0 c0 x0 _ (h0.below B) le0 tt0).mono ?_
  rintro e_ w2 ⟨rfl, os0, hk2⟩
  have zk2 := hk2.size
  replace B := next B hk2
  go_wp2_with fail
  refine (IsUnambiguous_spec _ n0 n0 x0 _ (os0.reads)).mono ?_
  rintro e_ w3 ⟨rfl, hk3⟩
  have zk3 := hk3.size
  replace B := next B hk3
  replace os0 := os0.below hk3
  clear os0
  go_wp2_with fail
  refine (toRules_any A0 n0 c0 x0 _ (h0.below B) le0 tt0).mono ?_
  rintro e_ w4 ⟨rfl, ox0, hk4⟩
  have zk4 := hk4.size
  replace B := next B hk4
  go_wp2_with fail
  refine (IsUnambiguous_impl _ n0 n0 x0 _ (ox0.reads)).mono ?_
  rintro e_ w5 ⟨rfl, hk5⟩
  have zk5 := hk5.size
  replace B := next B hk5
  replace ox0 := ox0.below hk5
  go_wp2_with fail
  refine (toRules_any A0 n0 c0 x0 _ (h0.below B) le0 tt0).mono ?_
  rintro e_ w6 ⟨rfl, oy, hk6⟩
  have zk6 := hk6.size
  replace B := next B hk6
  replace ox0 := ox0.below hk6
  have ey := (ox0.reads)
  have ez := oy.reads
  go_wp2_with fail
  refine (isb (eqRules_any _ _ n0 n0 n0 n0 x0 x0 _ ey ez) (decide_eq_true rfl)).mono ?_
  rintro e_ w7 ⟨rfl, hk7⟩
  have zk7 := hk7.size
  replace B := next B hk7
  replace ox0 := ox0.below hk7
  clear oy ey ez
  go_wp2
  go_ret
  exact ⟨rfl, B⟩
end Go.Proofs.YtnjjfcdddkabbaaDoor.fnExactIsUnambiguous
