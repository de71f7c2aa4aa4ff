/- Walk of the law IsStable. -/
import Derived.Test.YtfdnmffbfgnahaaDoorHarnR
import Derived.Test.YtfdnmffbfgnahaaDoorRuleG
namespace Go.Proofs.YtfdnmffbfgnahaaDoor.fnExactIsStable
open Go.ChangeShapes Go.WideShapes Go.ChangeAt Go.RowKit
set_option linter.unusedVariables false
set_option maxRecDepth 100000 in
set_option maxHeartbeats 2000000 in
theorem walk (A0 : Option Addr) (n0 c0 : Nat) (x0 : List Rl) (A1 : Option Addr) (n1 c1 : Nat) (x1 : List Int) (w : World) (h0 : Rules w A0 n0 c0 x0) (h1 : Ints w A1 n1 c1 x1)  : Calls Tryd.prog 8 #[.slice A0 n0 c0, .slice A1 n1 c1] w fun e w' => e = .returned (.bool true) ∧ Below w.heap.size w w' := by
  have hcm0 := h0.cap.2
  have hnc0 := h0.cap.1
  unfold maxLen at hcm0
  have hcm1 := h1.2.cap
  have hnc1 := h1.2.le
  unfold maxLen at hcm1
  by_cases big1 : 1048576 < n1
  · go_enter Tryd.func8, Tryd.ntmps8
    go_wp2
    go_ret
    exact ⟨rfl, Below.refl _ _⟩
  have le1 : n1 ≤ 1048576 := by omega
  have lei1 : (n1 : Int) ≤ 1048576 := by omega
  clear big1
  by_cases neg0 : (1048576 : Int) - n0 - rtot x0 < 0
  · have hz : szR (1048576 : Int) n0 (rtot x0) = -1 := by unfold szR; rw [if_pos neg0]
    have HZ := fun W hW => szRules_any A0 n0 c0 x0 (1048576 : Int) W hW (by omega) (by omega)
    rw [hz] at HZ
    clear hz
    go_enter Tryd.func8, Tryd.ntmps8
    have B0 : Below w.heap.size w w := Below.refl _ _
    go_wp2_with fail
    refine (HZ _ (h0.below B0)).mono ?_
    rintro e_ v1 ⟨rfl, k1⟩
    have hc_v1 := bcell k1; have hf_v1 := bfree k1
    go_wp2
    go_ret
    exact ⟨rfl, next B0 k1⟩
  have HZ0 := fun W hW => szRules_any A0 n0 c0 x0 (1048576 : Int) W hW (by omega) (by omega)
  rw [show szR (1048576 : Int) n0 (rtot x0) = (1048576 : Int) - n0 - rtot x0 by unfold szR; rw [if_neg neg0]] at HZ0
  have le0 : n0 ≤ 1048576 := by omega
  have tt0 : rtot x0 ≤ 1048576 := by omega
  obtain ⟨left0, hleft0⟩ : ∃ l : Int, (1048576 : Int) - n0 - rtot x0 = l := ⟨_, rfl⟩
  rw [hleft0] at HZ0 neg0
  have lb0 : left0 ≤ 1048576 := by omega
  clear hleft0
  have cq0 : (stOk x0 x1 != stOk x0 x1) = false := by simp
  have cr0 : (stOk x0 x1 == stOk x0 x1) = true := by simp
  have cq1 : (spCode x0 x1 != spCode x0 x1) = false := by simp
  go_enter Tryd.func8, Tryd.ntmps8
  have B : Below w.heap.size w w := Below.refl _ _
  go_wp2_with fail
  refine (HZ0 _ (h0.below B)).mono ?_
  rintro e_ w1 ⟨rfl, hk1⟩
  have zk1 := hk1.size
  replace B := next B hk1
  go_wp2_with fail
  refine (toRules_any A0 n0 c0 x0 _ (h0.below B) le0 tt0).mono ?_
  rintro e_ w2 ⟨rfl, os0, hk2⟩
  have zk2 := hk2.size
  replace B := next B hk2
  go_wp2_with fail
  refine (toInts_any A1 n1 c1 x1 _ (h1.below B) le1).mono ?_
  rintro e_ w3 ⟨rfl, os1, hk3⟩
  have zk3 := hk3.size
  replace B := next B hk3
  replace os0 := os0.below hk3
  have zos1 := (os1.lt _ rfl).2
  go_wp2_with fail
  refine (IsStable_spec _ _ n0 n0 n1 n1 x0 x1 _ (os0.reads) (own_ints os1)).mono ?_
  rintro e_ w4 ⟨rfl, hk4⟩
  have zk4 := hk4.size
  replace B := next B hk4
  replace os0 := os0.below hk4
  replace os1 := own_below os1 hk4
  clear os0
  clear os1
  go_wp2_with fail
  refine (toRules_any A0 n0 c0 x0 _ (h0.below B) le0 tt0).mono ?_
  rintro e_ w5 ⟨rfl, ox0, hk5⟩
  have zk5 := hk5.size
  replace B := next B hk5
  go_wp2_with fail
  refine (toInts_any A1 n1 c1 x1 _ (h1.below B) le1).mono ?_
  rintro e_ w6 ⟨rfl, ox1, hk6⟩
  have zk6 := hk6.size
  replace B := next B hk6
  replace ox0 := ox0.below hk6
  have zox1 := (ox1.lt _ rfl).2
  go_wp2_with fail
  refine (IsStable_impl _ _ n0 n0 n1 n1 x0 x1 _ (ox0.reads) (own_ints ox1)).mono ?_
  rintro e_ w7 ⟨rfl, hk7⟩
  have zk7 := hk7.size
  replace B := next B hk7
  replace ox0 := ox0.below hk7
  replace ox1 := own_below ox1 hk7
  go_wp2_with fail
  refine (toRules_any A0 n0 c0 x0 _ (h0.below B) le0 tt0).mono ?_
  rintro e_ w8 ⟨rfl, oy, hk8⟩
  have zk8 := hk8.size
  replace B := next B hk8
  replace ox0 := ox0.below hk8
  replace ox1 := own_below ox1 hk8
  have ey := (ox0.reads)
  have ez := oy.reads
  go_wp2_with fail
  refine (isb (eqRules_any _ _ n0 n0 n0 n0 x0 x0 _ ey ez) (decide_eq_true rfl)).mono ?_
  rintro e_ w9 ⟨rfl, hk9⟩
  have zk9 := hk9.size
  replace B := next B hk9
  replace ox0 := ox0.below hk9
  replace ox1 := own_below ox1 hk9
  clear oy ey ez
  go_wp2_with fail
  refine (toInts_any A1 n1 c1 x1 _ (h1.below B) le1).mono ?_
  rintro e_ w10 ⟨rfl, oy, hk10⟩
  have zk10 := hk10.size
  replace B := next B hk10
  replace ox0 := ox0.below hk10
  replace ox1 := own_below ox1 hk10
  have ey := (own_ints ox1)
  have ez := (own_ints oy)
  go_wp2_with fail
  refine (isb (eqInts_any _ _ n1 n1 n1 n1 x1 x1 _ ey ez) (decide_eq_true rfl)).mono ?_
  rintro e_ w11 ⟨rfl, hk11⟩
  have zk11 := hk11.size
  replace B := next B hk11
  replace ox0 := ox0.below hk11
  replace ox1 := own_below ox1 hk11
  clear oy ey ez
  go_wp2
  go_ret
  exact ⟨rfl, B⟩
end Go.Proofs.YtfdnmffbfgnahaaDoor.fnExactIsStable
