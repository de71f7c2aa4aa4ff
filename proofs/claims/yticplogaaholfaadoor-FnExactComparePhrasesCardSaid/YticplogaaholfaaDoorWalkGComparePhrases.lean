/- Walk of the law ComparePhrases. -/
import Derived.Test.YticplogaaholfaaDoorSortH
import Derived.Test.YticplogaaholfaaDoorFrame
namespace Go.Proofs.YticplogaaholfaaDoor.fnExactComparePhrases
open Go.ChangeShapes Go.WideShapes Go.ChangeAt Go.RowKit
set_option linter.unusedVariables false
set_option maxRecDepth 100000 in
set_option maxHeartbeats 2000000 in
theorem walk (A0 : Option Addr) (n0 c0 : Nat) (x0 : List ByteArray) (s1 : ByteArray) (hs1 : s1.size ≤ maxLen) (s2 : ByteArray) (hs2 : s2.size ≤ maxLen) (A3 : Option Addr) (n3 c3 : Nat) (x3 : List Int) (w : World) (h0 : Strs w A0 n0 c0 x0) (h3 : Ints w A3 n3 c3 x3) (hm : MaxCell w) : Calls Tryd.prog 4 #[.slice A0 n0 c0, .string s1, .string s2, .slice A3 n3 c3] w fun e w' => e = .returned (.bool true) ∧ Below w.heap.size w w' := by
  have hcm0 := h0.2.1.cap
  have hnc0 := h0.2.1.le
  unfold maxLen at hcm0
  have hz1 := hs1
  unfold maxLen at hz1
  have hz2 := hs2
  unfold maxLen at hz2
  have hcm3 := h3.2.cap
  have hnc3 := h3.2.le
  unfold maxLen at hcm3
  by_cases big1 : 1048576 < s1.size
  · go_enter Tryd.func4, Tryd.ntmps4
    go_wp2
    go_ret
    exact ⟨rfl, Below.refl _ _⟩
  have le1 : s1.size ≤ 1048576 := by omega
  have lei1 : (s1.size : Int) ≤ 1048576 := by omega
  clear big1
  by_cases big2 : 1048576 < s2.size
  · go_enter Tryd.func4, Tryd.ntmps4
    go_wp2
    go_ret
    exact ⟨rfl, Below.refl _ _⟩
  have le2 : s2.size ≤ 1048576 := by omega
  have lei2 : (s2.size : Int) ≤ 1048576 := by omega
  clear big2
  by_cases big3 : 1048576 < n3
  · go_enter Tryd.func4, Tryd.ntmps4
    go_wp2
    go_ret
    exact ⟨rfl, Below.refl _ _⟩
  have le3 : n3 ≤ 1048576 := by omega
  have lei3 : (n3 : Int) ≤ 1048576 := by omega
  clear big3
  by_cases neg0 : (1048576 : Int) - n0 - total x0 < 0
  · have hz : szOf (1048576 : Int) n0 x0 = -1 := by unfold szOf; rw [if_pos neg0]
    have HZ := fun W hW => szStrs_any A0 n0 c0 x0 (1048576 : Int) W hW (by omega) (by omega)
    rw [hz] at HZ
    clear hz
    go_enter Tryd.func4, Tryd.ntmps4
    have B0 : Below w.heap.size w w := Below.refl _ _
    go_wp2_with fail
    refine (HZ _ (h0.below B0)).mono ?_
    rintro e_ v1 ⟨rfl, k1⟩
    have hc_v1 := bcell k1; have hf_v1 := bfree k1
    go_wp2
    go_ret
    exact ⟨rfl, next B0 k1⟩
  have HZ0 := fun W hW => szStrs_any A0 n0 c0 x0 (1048576 : Int) W hW (by omega) (by omega)
  rw [show szOf (1048576 : Int) n0 x0 = (1048576 : Int) - n0 - total x0 by unfold szOf; rw [if_neg neg0]] at HZ0
  have le0 : n0 ≤ 1048576 := by omega
  have tt0 : total x0 ≤ 1048576 := by omega
  obtain ⟨left0, hleft0⟩ : ∃ l : Int, (1048576 : Int) - n0 - total x0 = l := ⟨_, rfl⟩
  rw [hleft0] at HZ0 neg0
  have lb0 : left0 ≤ 1048576 := by omega
  clear hleft0
  have cq0 : (cpVal x0 x3 s1 s2 != cpVal x0 x3 s1 s2) = false := by simp
  have cq1 : (nsCode x0 x3 [s1, s2] != nsCode x0 x3 [s1, s2]) = false := by simp
  go_enter Tryd.func4, Tryd.ntmps4
  have B : Below w.heap.size w w := Below.refl _ _
  go_wp2_with fail
  refine (HZ0 _ (h0.below B)).mono ?_
  rintro e_ w1 ⟨rfl, hk1⟩
  have zk1 := hk1.size
  replace B := next B hk1
  go_wp2_with fail
  refine (toStrs_any A0 n0 c0 x0 _ (h0.below B) le0).mono ?_
  rintro e_ w2 ⟨rfl, os0, hk2⟩
  have zk2 := hk2.size
  replace B := next B hk2
  have zos0 := (os0.lt _ rfl).2
  go_wp2_with fail
  refine (toInts_any A3 n3 c3 x3 _ (h3.below B) le3).mono ?_
  rintro e_ w3 ⟨rfl, os3, hk3⟩
  have zk3 := hk3.size
  replace B := next B hk3
  replace os0 := own_below os0 hk3
  have zos3 := (os3.lt _ rfl).2
  go_wp2_with fail
  refine (ComparePhrases_spec _ _ n0 n0 n3 n3 x0 x3 s1 s2 _ (own_reads os0 h0.2.2) (own_ints os3) le1 le2).mono ?_
  rintro e_ w4 ⟨rfl, hk4⟩
  have zk4 := hk4.size
  replace B := next B hk4
  replace os0 := own_below os0 hk4
  replace os3 := own_below os3 hk4
  clear os0
  clear os3
  go_wp2_with fail
  refine (toStrs_any A0 n0 c0 x0 _ (h0.below B) le0).mono ?_
  rintro e_ w5 ⟨rfl, ox0, hk5⟩
  have zk5 := hk5.size
  replace B := next B hk5
  have zox0 := (ox0.lt _ rfl).2
  go_wp2_with fail
  refine (toInts_any A3 n3 c3 x3 _ (h3.below B) le3).mono ?_
  rintro e_ w6 ⟨rfl, ox3, hk6⟩
  have zk6 := hk6.size
  replace B := next B hk6
  replace ox0 := own_below ox0 hk6
  have zox3 := (ox3.lt _ rfl).2
  go_wp2_with fail
  refine (ComparePhrases_impl _ _ n0 n0 n3 n3 x0 x3 s1 s2 _ (own_reads ox0 h0.2.2) (own_ints ox3) le1 le2 (hm.below B)).mono ?_
  rintro e_ w7 ⟨rfl, hk7⟩
  have zk7 := hk7.size
  replace B := next B hk7
  replace ox0 := own_below ox0 hk7
  replace ox3 := own_below ox3 hk7
  go_wp2_with fail
  refine (toStrs_any A0 n0 c0 x0 _ (h0.below B) le0).mono ?_
  rintro e_ w8 ⟨rfl, oy, hk8⟩
  have zk8 := hk8.size
  replace B := next B hk8
  replace ox0 := own_below ox0 hk8
  replace ox3 := own_below ox3 hk8
  have ey := (own_reads ox0 h0.2.2)
  have ez := (own_reads oy h0.2.2)
  go_wp2_with fail
  refine (isb (eqStrs_any _ _ n0 n0 n0 n0 x0 x0 _ ey ez) (decide_eq_true rfl)).mono ?_
  rintro e_ w9 ⟨rfl, hk9⟩
  have zk9 := hk9.size
  replace B := next B hk9
  replace ox0 := own_below ox0 hk9
  replace ox3 := own_below ox3 hk9
  clear oy ey ez
  go_wp2_with fail
  refine (toInts_any A3 n3 c3 x3 _ (h3.below B) le3).mono ?_
  rintro e_ w10 ⟨rfl, oy, hk10⟩
  have zk10 := hk10.size
  replace B := next B hk10
  replace ox0 := own_below ox0 hk10
  replace ox3 := own_below ox3 hk10
  have ey := (own_ints ox3)
  have ez := (own_ints oy)
  go_wp2_with fail
  refine (isb (eqInts_any _ _ n3 n3 n3 n3 x3 x3 _ ey ez) (decide_eq_true rfl)).mono ?_
  rintro e_ w11 ⟨rfl, hk11⟩
  have zk11 := hk11.size
  replace B := next B hk11
  replace ox0 := own_below ox0 hk11
  replace ox3 := own_below ox3 hk11
  clear oy ey ez
  go_wp2
  go_ret
  exact ⟨rfl, B⟩
end Go.Proofs.YticplogaaholfaaDoor.fnExactComparePhrases
