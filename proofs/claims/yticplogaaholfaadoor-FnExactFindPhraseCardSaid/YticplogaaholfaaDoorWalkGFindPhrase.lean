/- Walk of the law FindPhrase. -/
import Derived.Test.YticplogaaholfaaDoorSortK
import Derived.Test.YticplogaaholfaaDoorFrame
namespace Go.Proofs.YticplogaaholfaaDoor.fnExactFindPhrase
open Go.ChangeShapes Go.WideShapes Go.ChangeAt Go.RowKit
set_option linter.unusedVariables false
set_option maxRecDepth 100000 in
set_option maxHeartbeats 2000000 in
theorem walk (A0 : Option Addr) (n0 c0 : Nat) (x0 : List ByteArray) (A1 : Option Addr) (n1 c1 : Nat) (x1 : List ByteArray) (s2 : ByteArray) (hs2 : s2.size ≤ maxLen) (w : World) (h0 : Strs w A0 n0 c0 x0) (h1 : Strs w A1 n1 c1 x1) (hm : MaxCell w) : Calls Tryd.prog 6 #[.slice A0 n0 c0, .slice A1 n1 c1, .string s2] w fun e w' => e = .returned (.bool true) ∧ Below w.heap.size w w' := by
  have hcm0 := h0.2.1.cap
  have hnc0 := h0.2.1.le
  unfold maxLen at hcm0
  have hcm1 := h1.2.1.cap
  have hnc1 := h1.2.1.le
  unfold maxLen at hcm1
  have hz2 := hs2
  unfold maxLen at hz2
  by_cases big2 : 1048576 < s2.size
  · go_enter Tryd.func6, Tryd.ntmps6
    go_wp2
    go_ret
    exact ⟨rfl, Below.refl _ _⟩
  have le2 : s2.size ≤ 1048576 := by omega
  have lei2 : (s2.size : Int) ≤ 1048576 := by omega
  clear big2
  by_cases neg0 : (1048576 : Int) - n0 - total x0 < 0
  · have hz : szOf (1048576 : Int) n0 x0 = -1 := by unfold szOf; rw [if_pos neg0]
    have HZ := fun W hW => szStrs_any A0 n0 c0 x0 (1048576 : Int) W hW (by omega) (by omega)
    rw [hz] at HZ
    clear hz
    go_enter Tryd.func6, Tryd.ntmps6
    have B0 : Below w.heap.size w w := Below.refl _ _
    go_wp2_with fail
    refine (HZ _ (h0.below B0)).mono ?_
    rintro e_ v1 ⟨rfl, k1⟩
    have hc_v1 := bcell k1; have hf_v1 := bfree k1
    go_wp2
    go_ret
    exact ⟨rfl, next B0 k1⟩
  have HZ0 := fun W hW => szStrs_any A0 n0 c0 x0 (1048576 : Int) W hW (by omega) (by omega)
  rw [show szOf (1048576 : Int) n0 x0 = (1048576 : Int) - n0 - total x0 by unfold szOf; rw [if_neg neg0]] at HZ0
  have le0 : n0 ≤ 1048576 := by omega
  have tt0 : total x0 ≤ 1048576 := by omega
  obtain ⟨left0, hleft0⟩ : ∃ l : Int, (1048576 : Int) - n0 - total x0 = l := ⟨_, rfl⟩
  rw [hleft0] at HZ0 neg0
  have lb0 : left0 ≤ 1048576 := by omega
  clear hleft0
  by_cases neg1 : left0 - n1 - total x1 < 0
  · have hz : szOf left0 n1 x1 = -1 := by unfold szOf; rw [if_pos neg1]
    have HZ := fun W hW => szStrs_any A1 n1 c1 x1 left0 W hW (by omega) (by omega)
    rw [hz] at HZ
    clear hz
    go_enter Tryd.func6, Tryd.ntmps6
    have B0 : Below w.heap.size w w := Below.refl _ _
    go_wp2_with fail
    refine (HZ0 _ (h0.below B0)).mono ?_
    rintro e_ u1 ⟨rfl, g1⟩
    have hc_u1 := bcell g1; have hf_u1 := bfree g1
    have B1 := next B0 g1
    go_wp2_with fail
    refine (HZ _ (h1.below B1)).mono ?_
    rintro e_ v1 ⟨rfl, k1⟩
    have hc_v1 := bcell k1; have hf_v1 := bfree k1
    go_wp2
    go_ret
    exact ⟨rfl, next B1 k1⟩
  have HZ1 := fun W hW => szStrs_any A1 n1 c1 x1 left0 W hW (by omega) (by omega)
  rw [show szOf left0 n1 x1 = left0 - n1 - total x1 by unfold szOf; rw [if_neg neg1]] at HZ1
  have le1 : n1 ≤ 1048576 := by omega
  have tt1 : total x1 ≤ 1048576 := by omega
  obtain ⟨left1, hleft1⟩ : ∃ l : Int, left0 - n1 - total x1 = l := ⟨_, rfl⟩
  rw [hleft1] at HZ1 neg1
  have lb1 : left1 ≤ 1048576 := by omega
  clear hleft1
  have hps : ∀ s ∈ x1, s.size ≤ 1048576 := fun s hs => by have := total_mem hs; omega
  have cq0 : (fpVal x0 x1 s2 != fpVal x0 x1 s2) = false := by simp
  have cq1 : (fpCode x0 x1 s2 != fpCode x0 x1 s2) = false := by simp
  go_enter Tryd.func6, Tryd.ntmps6
  have B : Below w.heap.size w w := Below.refl _ _
  go_wp2_with fail
  refine (HZ0 _ (h0.below B)).mono ?_
  rintro e_ w1 ⟨rfl, hk1⟩
  have zk1 := hk1.size
  replace B := next B hk1
  go_wp2_with fail
  refine (HZ1 _ (h1.below B)).mono ?_
  rintro e_ w2 ⟨rfl, hk2⟩
  have zk2 := hk2.size
  replace B := next B hk2
  go_wp2_with fail
  refine (toStrs_any A0 n0 c0 x0 _ (h0.below B) le0).mono ?_
  rintro e_ w3 ⟨rfl, os0, hk3⟩
  have zk3 := hk3.size
  replace B := next B hk3
  have zos0 := (os0.lt _ rfl).2
  go_wp2_with fail
  refine (toStrs_any A1 n1 c1 x1 _ (h1.below B) le1).mono ?_
  rintro e_ w4 ⟨rfl, os1, hk4⟩
  have zk4 := hk4.size
  replace B := next B hk4
  replace os0 := own_below os0 hk4
  have zos1 := (os1.lt _ rfl).2
  go_wp2_with fail
  refine (FindPhrase_spec _ _ _ n0 n0 n1 n1 x0 x1 s2 _ (own_reads os0 h0.2.2) (own_reads os1 h1.2.2) le1 hps le2).mono ?_
  rintro e_ w5 ⟨rfl, hk5⟩
  have zk5 := hk5.size
  replace B := next B hk5
  replace os0 := own_below os0 hk5
  replace os1 := own_below os1 hk5
  clear os0
  clear os1
  go_wp2_with fail
  refine (toStrs_any A0 n0 c0 x0 _ (h0.below B) le0).mono ?_
  rintro e_ w6 ⟨rfl, ox0, hk6⟩
  have zk6 := hk6.size
  replace B := next B hk6
  have zox0 := (ox0.lt _ rfl).2
  go_wp2_with fail
  refine (toStrs_any A1 n1 c1 x1 _ (h1.below B) le1).mono ?_
  rintro e_ w7 ⟨rfl, ox1, hk7⟩
  have zk7 := hk7.size
  replace B := next B hk7
  replace ox0 := own_below ox0 hk7
  have zox1 := (ox1.lt _ rfl).2
  go_wp2_with fail
  refine (FindPhrase_impl _ _ n0 n0 n1 n1 x0 x1 s2 _ (own_reads ox0 h0.2.2) (own_reads ox1 h1.2.2) le1 hps le2 (hm.below B)).mono ?_
  rintro e_ w8 ⟨rfl, hk8⟩
  have zk8 := hk8.size
  replace B := next B hk8
  replace ox0 := own_below ox0 hk8
  replace ox1 := own_below ox1 hk8
  go_wp2_with fail
  refine (toStrs_any A0 n0 c0 x0 _ (h0.below B) le0).mono ?_
  rintro e_ w9 ⟨rfl, oy, hk9⟩
  have zk9 := hk9.size
  replace B := next B hk9
  replace ox0 := own_below ox0 hk9
  replace ox1 := own_below ox1 hk9
  have ey := (own_reads ox0 h0.2.2)
  have ez := (own_reads oy h0.2.2)
  go_wp2_with fail
  refine (isb (eqStrs_any _ _ n0 n0 n0 n0 x0 x0 _ ey ez) (decide_eq_true rfl)).mono ?_
  rintro e_ w10 ⟨rfl, hk10⟩
  have zk10 := hk10.size
  replace B := next B hk10
  replace ox0 := own_below ox0 hk10
  replace ox1 := own_below ox1 hk10
  clear oy ey ez
  go_wp2_with fail
  refine (toStrs_any A1 n1 c1 x1 _ (h1.below B) le1).mono ?_
  rintro e_ w11 ⟨rfl, oy, hk11⟩
  have zk11 := hk11.size
  replace B := next B hk11
  replace ox0 := own_below ox0 hk11
  replace ox1 := own_below ox1 hk11
  have ey := (own_reads ox1 h1.2.2)
  have ez := (own_reads oy h1.2.2)
  go_wp2_with fail
  refine (isb (eqStrs_any _ _ n1 n1 n1 n1 x1 x1 _ ey ez) (decide_eq_true rfl)).mono ?_
  rintro e_ w12 ⟨rfl, hk12⟩
  have zk12 := hk12.size
  replace B := next B hk12
  replace ox0 := own_below ox0 hk12
  replace ox1 := own_below ox1 hk12
  clear oy ey ez
  go_wp2
  go_ret
  exact ⟨rfl, B⟩
end Go.Proofs.YticplogaaholfaaDoor.fnExactFindPhrase
