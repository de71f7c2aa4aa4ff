/- Walk of the law SortKey. -/
import Derived.Test.YtnjeloggpbgloaaDoorSortM
import Derived.Test.YtnjeloggpbgloaaDoorFrame
namespace Go.Proofs.YtnjeloggpbgloaaDoor.fnExactSortKey
open Go.ChangeShapes Go.WideShapes Go.ChangeAt Go.RowKit
set_option linter.unusedVariables false
set_option maxRecDepth 100000 in
set_option maxHeartbeats 2000000 in
theorem walk (A0 : Option Addr) (n0 c0 : Nat) (x0 : List ByteArray) (s1 : ByteArray) (hs1 : s1.size ≤ maxLen) (w : World) (h0 : Strs w A0 n0 c0 x0) (hm : MaxCell w) (ht : PowTab w) : Calls Tryd.prog 3 #[.slice A0 n0 c0, .string s1] w fun e w' => e = .returned (.bool true) ∧ Below w.heap.size w w' := by
  have hcm0 := h0.2.1.cap
  have hnc0 := h0.2.1.le
  unfold maxLen at hcm0
  have hz1 := hs1
  unfold maxLen at hz1
  by_cases big1 : 1048576 < s1.size
  · go_enter Tryd.func3, Tryd.ntmps3
    go_wp2
    go_ret
    exact ⟨rfl, Below.refl _ _⟩
  have le1 : s1.size ≤ 1048576 := by omega
  have lei1 : (s1.size : Int) ≤ 1048576 := by omega
  clear big1
  by_cases neg0 : (1048576 : Int) - n0 - total x0 < 0
  · have hz : szOf (1048576 : Int) n0 x0 = -1 := by unfold szOf; rw [if_pos neg0]
    have HZ := fun W hW => szStrs_any A0 n0 c0 x0 (1048576 : Int) W hW (by omega) (by omega)
    rw [hz] at HZ
    clear hz
    go_enter Tryd.func3, Tryd.ntmps3
    have B0 : Below w.heap.size w w := Below.refl _ _
    go_wp2_with fail
    refine (HZ _ (h0.below B0)).mono ?_
    rintro e_ v1 ⟨rfl, k1⟩
    have hc_v1 := bcell k1; have hf_v1 := bfree k1
    go_wp2
    go_ret
    exact ⟨rfl, next B0 k1⟩
  have HZ0 := fun W hW => szStrs_any A0 n0 c0 x0 (1048576 : Int) W hW (by omega) (by omega)
  rw [show szOf (1048576 : Int) n0 x0 = (1048576 : Int) - n0 - total x0 by unfold szOf; rw [if_neg neg0]] at HZ0
  have le0 : n0 ≤ 1048576 := by omega
  have tt0 : total x0 ≤ 1048576 := by omega
  obtain ⟨left0, hleft0⟩ : ∃ l : Int, (1048576 : Int) - n0 - total x0 = l := ⟨_, rfl⟩
  rw [hleft0] at HZ0 neg0
  have lb0 : left0 ≤ 1048576 := by omega
  clear hleft0
  have cq0 : ((skVal x0 s1).toList == (skVal x0 s1).toList) = true := by simp
  have cq1 : (nsCode x0 [] [s1] != nsCode x0 [] [s1]) = false := by simp
  go_enter Tryd.func3, Tryd.ntmps3
  have B : Below w.heap.size w w := Below.refl _ _
  go_wp2_with fail
  refine (HZ0 _ (h0.below B)).mono ?_
  rintro e_ w1 ⟨rfl, hk1⟩
  have zk1 := hk1.size
  replace B := next B hk1
  go_wp2_with fail
  refine (toStrs_any A0 n0 c0 x0 _ (h0.below B) le0).mono ?_
  rintro e_ w2 ⟨rfl, os0, hk2⟩
  have zk2 := hk2.size
  replace B := next B hk2
  have zos0 := (os0.lt _ rfl).2
  go_wp2_with fail
  refine (SortKey_spec _ n0 n0 x0 s1 _ (own_reads os0 h0.2.2) le1).mono ?_
  rintro e_ w3 ⟨rfl, hk3⟩
  have zk3 := hk3.size
  replace B := next B hk3
  replace os0 := own_below os0 hk3
  clear os0
  go_wp2_with fail
  refine (toStrs_any A0 n0 c0 x0 _ (h0.below B) le0).mono ?_
  rintro e_ w4 ⟨rfl, ox0, hk4⟩
  have zk4 := hk4.size
  replace B := next B hk4
  have zox0 := (ox0.lt _ rfl).2
  go_wp2_with fail
  refine (SortKey_impl _ n0 n0 x0 s1 _ (own_reads ox0 h0.2.2) le1 (hm.below B) (ht.below B)).mono ?_
  rintro e_ w5 ⟨rfl, hk5⟩
  have zk5 := hk5.size
  replace B := next B hk5
  replace ox0 := own_below ox0 hk5
  go_wp2_with fail
  refine (toStrs_any A0 n0 c0 x0 _ (h0.below B) le0).mono ?_
  rintro e_ w6 ⟨rfl, oy, hk6⟩
  have zk6 := hk6.size
  replace B := next B hk6
  replace ox0 := own_below ox0 hk6
  have ey := (own_reads ox0 h0.2.2)
  have ez := (own_reads oy h0.2.2)
  go_wp2_with fail
  refine (isb (eqStrs_any _ _ n0 n0 n0 n0 x0 x0 _ ey ez) (decide_eq_true rfl)).mono ?_
  rintro e_ w7 ⟨rfl, hk7⟩
  have zk7 := hk7.size
  replace B := next B hk7
  replace ox0 := own_below ox0 hk7
  clear oy ey ez
  go_wp2
  go_ret
  exact ⟨rfl, B⟩
end Go.Proofs.YtnjeloggpbgloaaDoor.fnExactSortKey
