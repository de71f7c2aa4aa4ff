/- Walk of the law FirstLetters. -/
import Derived.Test.YticplogaaholfaaDoorFlC
import Derived.Test.YticplogaaholfaaDoorFrame
namespace Go.Proofs.YticplogaaholfaaDoor.fnExactFirstLetters
open Go.ChangeShapes Go.WideShapes Go.ChangeAt Go.RowKit
set_option linter.unusedVariables false
set_option maxRecDepth 100000 in
set_option maxHeartbeats 2000000 in
theorem walk (A0 : Option Addr) (n0 c0 : Nat) (x0 : List ByteArray) (A1 : Option Addr) (n1 c1 : Nat) (x1 : List ByteArray) (w : World) (h0 : Strs w A0 n0 c0 x0) (h1 : Strs w A1 n1 c1 x1) (hm : MaxCell w) : Calls Tryd.prog 8 #[.slice A0 n0 c0, .slice A1 n1 c1] w fun e w' => e = .returned (.bool true) ∧ Below w.heap.size w w' := by
  have hcm0 := h0.2.1.cap
  have hnc0 := h0.2.1.le
  unfold maxLen at hcm0
  have hcm1 := h1.2.1.cap
  have hnc1 := h1.2.1.le
  unfold maxLen at hcm1
  by_cases neg0 : (1048576 : Int) - n0 - total x0 < 0
  · have hz : szOf (1048576 : Int) n0 x0 = -1 := by unfold szOf; rw [if_pos neg0]
    have HZ := fun W hW => szStrs_any A0 n0 c0 x0 (1048576 : Int) W hW (by omega) (by omega)
    rw [hz] at HZ
    clear hz
    go_enter Tryd.func8, Tryd.ntmps8
    have B0 : Below w.heap.size w w := Below.refl _ _
    go_wp2_with fail
    refine (HZ _ (h0.below B0)).mono ?_
    rintro e_ v1 ⟨rfl, k1⟩
    have hc_v1 := bcell k1; have hf_v1 := bfree k1
    go_wp2
    go_ret
    exact ⟨rfl, next B0 k1⟩
  have HZ0 := fun W hW => szStrs_any A0 n0 c0 x0 (1048576 : Int) W hW (by omega) (by omega)
  rw [show szOf (1048576 : Int) n0 x0 = (1048576 : Int) - n0 - total x0 by unfold szOf; rw [if_neg neg0]] at HZ0
  have le0 : n0 ≤ 1048576 := by omega
  have tt0 : total x0 ≤ 1048576 := by omega
  obtain ⟨left0, hleft0⟩ : ∃ l : Int, (1048576 : Int) - n0 - total x0 = l := ⟨_, rfl⟩
  rw [hleft0] at HZ0 neg0
  have lb0 : left0 ≤ 1048576 := by omega
  clear hleft0
  by_cases neg1 : left0 - n1 - total x1 < 0
  · have hz : szOf left0 n1 x1 = -1 := by unfold szOf; rw [if_pos neg1]
    have HZ := fun W hW => szStrs_any A1 n1 c1 x1 left0 W hW (by omega) (by omega)
    rw [hz] at HZ
    clear hz
    go_enter Tryd.func8, Tryd.ntmps8
    have B0 : Below w.heap.size w w := Below.refl _ _
    go_wp2_with fail
    refine (HZ0 _ (h0.below B0)).mono ?_
    rintro e_ u1 ⟨rfl, g1⟩
    have hc_u1 := bcell g1; have hf_u1 := bfree g1
    have B1 := next B0 g1
    go_wp2_with fail
    refine (HZ _ (h1.below B1)).mono ?_
    rintro e_ v1 ⟨rfl, k1⟩
    have hc_v1 := bcell k1; have hf_v1 := bfree k1
    go_wp2
    go_ret
    exact ⟨rfl, next B1 k1⟩
  have HZ1 := fun W hW => szStrs_any A1 n1 c1 x1 left0 W hW (by omega) (by omega)
  rw [show szOf left0 n1 x1 = left0 - n1 - total x1 by unfold szOf; rw [if_neg neg1]] at HZ1
  have le1 : n1 ≤ 1048576 := by omega
  have tt1 : total x1 ≤ 1048576 := by omega
  obtain ⟨left1, hleft1⟩ : ∃ l : Int, left0 - n1 - total x1 = l := ⟨_, rfl⟩
  rw [hleft1] at HZ1 neg1
  have lb1 : left1 ≤ 1048576 := by omega
  clear hleft1
  have hps : ∀ s ∈ x1, s.size ≤ 1048576 := fun s hs => by have := total_mem hs; omega
  have hll := fl_len x0 x1
  have cq1 : (l6Code x0 [] x1 != l6Code x0 [] x1) = false := by simp
  have HSP := fun a1_ a2_ a3_ a4_ a5_ => FirstLetters_spec a1_ a2_ n0 n0 n1 n1 x0 x1 a3_ a4_ a5_ hps
  have HIM := fun a1_ a2_ a3_ a4_ a5_ a6_ => FirstLetters_impl a1_ a2_ n0 n0 n1 n1 x0 x1 a3_ a4_ a5_ hps a6_
  obtain ⟨lst, hlst⟩ : ∃ l, flVal x0 x1 = l := ⟨_, rfl⟩
  rw [hlst] at HSP HIM
  try rw [hlst] at hll
  clear hlst
  go_enter Tryd.func8, Tryd.ntmps8
  have B : Below w.heap.size w w := Below.refl _ _
  go_wp2_with fail
  refine (HZ0 _ (h0.below B)).mono ?_
  rintro e_ w1 ⟨rfl, hk1⟩
  have zk1 := hk1.size
  replace B := next B hk1
  go_wp2_with fail
  refine (HZ1 _ (h1.below B)).mono ?_
  rintro e_ w2 ⟨rfl, hk2⟩
  have zk2 := hk2.size
  replace B := next B hk2
  go_wp2_with fail
  refine (toStrs_any A0 n0 c0 x0 _ (h0.below B) le0).mono ?_
  rintro e_ w3 ⟨rfl, os0, hk3⟩
  have zk3 := hk3.size
  replace B := next B hk3
  have zos0 := (os0.lt _ rfl).2
  go_wp2_with fail
  refine (toStrs_any A1 n1 c1 x1 _ (h1.below B) le1).mono ?_
  rintro e_ w4 ⟨rfl, os1, hk4⟩
  have zk4 := hk4.size
  replace B := next B hk4
  replace os0 := own_below os0 hk4
  have zos1 := (os1.lt _ rfl).2
  have HC := HSP _ _ _ (own_reads os0 h0.2.2) (own_reads os1 h1.2.2)
  go_wp2_with fail
  refine (HC).mono ?_
  rintro e_ w5 ⟨v1, rfl, r1, hk5⟩
  clear HC
  have zk5 := hk5.size
  replace B := next B hk5
  replace os0 := own_below os0 hk5
  replace os1 := own_below os1 hk5
  obtain ⟨Ar1, cr1, rfl, r1x⟩ := own_ints_ r1
  clear os0
  clear os1
  clear r1
  have D := Below.refl w5.heap.size w5
  have r1y := r1x
  go_wp2_with fail
  refine (toStrs_any A0 n0 c0 x0 _ (h0.below B) le0).mono ?_
  rintro e_ w6 ⟨rfl, ox0, hk6⟩
  have zk6 := hk6.size
  replace B := next B hk6
  replace D := next D hk6
  have zox0 := (ox0.lt _ rfl).2
  go_wp2_with fail
  refine (toStrs_any A1 n1 c1 x1 _ (h1.below B) le1).mono ?_
  rintro e_ w7 ⟨rfl, ox1, hk7⟩
  have zk7 := hk7.size
  replace B := next B hk7
  replace D := next D hk7
  replace ox0 := own_below ox0 hk7
  have zox1 := (ox1.lt _ rfl).2
  have HC := HIM _ _ _ (own_reads ox0 h0.2.2) (own_reads ox1 h1.2.2) (hm.below B)
  go_wp2_with fail
  refine (HC).mono ?_
  rintro e_ w8 ⟨v2, rfl, r2, hk8⟩
  clear HC
  have zk8 := hk8.size
  replace B := next B hk8
  replace D := next D hk8
  replace ox0 := own_below ox0 hk8
  replace ox1 := own_below ox1 hk8
  obtain ⟨Ar2, cr2, rfl, r2x⟩ := own_ints_ r2
  go_wp2_with fail
  refine (isb (eqInts_any Ar2 Ar1 _ cr2 _ cr1 _ _ _ r2x (r1x.below D)) (decide_eq_true rfl)).mono ?_
  rintro e_ w9 ⟨rfl, hk9⟩
  have zk9 := hk9.size
  replace B := next B hk9
  replace D := next D hk9
  replace ox0 := own_below ox0 hk9
  replace ox1 := own_below ox1 hk9
  replace r2 := own_below r2 hk9
  replace r2x := r2x.below hk9
  go_wp2_with fail
  refine (toStrs_any A0 n0 c0 x0 _ (h0.below B) le0).mono ?_
  rintro e_ w10 ⟨rfl, oy, hk10⟩
  have zk10 := hk10.size
  replace B := next B hk10
  replace D := next D hk10
  replace ox0 := own_below ox0 hk10
  replace ox1 := own_below ox1 hk10
  replace r2 := own_below r2 hk10
  replace r2x := r2x.below hk10
  have ey := (own_reads ox0 h0.2.2)
  have ez := (own_reads oy h0.2.2)
  go_wp2_with fail
  refine (isb (eqStrs_any _ _ n0 n0 n0 n0 x0 x0 _ ey ez) (decide_eq_true rfl)).mono ?_
  rintro e_ w11 ⟨rfl, hk11⟩
  have zk11 := hk11.size
  replace B := next B hk11
  replace D := next D hk11
  replace ox0 := own_below ox0 hk11
  replace ox1 := own_below ox1 hk11
  replace r2 := own_below r2 hk11
  replace r2x := r2x.below hk11
  clear oy ey ez
  go_wp2_with fail
  refine (toStrs_any A1 n1 c1 x1 _ (h1.below B) le1).mono ?_
  rintro e_ w12 ⟨rfl, oy, hk12⟩
  have zk12 := hk12.size
  replace B := next B hk12
  replace D := next D hk12
  replace ox0 := own_below ox0 hk12
  replace ox1 := own_below ox1 hk12
  replace r2 := own_below r2 hk12
  replace r2x := r2x.below hk12
  have ey := (own_reads ox1 h1.2.2)
  have ez := (own_reads oy h1.2.2)
  go_wp2_with fail
  refine (isb (eqStrs_any _ _ n1 n1 n1 n1 x1 x1 _ ey ez) (decide_eq_true rfl)).mono ?_
  rintro e_ w13 ⟨rfl, hk13⟩
  have zk13 := hk13.size
  replace B := next B hk13
  replace D := next D hk13
  replace ox0 := own_below ox0 hk13
  replace ox1 := own_below ox1 hk13
  replace r2 := own_below r2 hk13
  replace r2x := r2x.below hk13
  clear oy ey ez
  go_wp2_with fail
  refine (markStrs_own _ (1) n0 _ x0 _ ox0 (by omega) (by omega)).mono ?_
  rintro e_ w14 ⟨rfl, hk14⟩
  have zk14 := hk14.size
  replace B := below_grown B hk14 (Nat.le_refl _) (by omega)
  replace D := below_grown D hk14 (Nat.le_refl _) (by omega)
  replace r2 := own_grown r2 hk14 (by omega)
  clear r2x; have r2x := own_ints r2
  replace ox1 := ox1.kept hk14 (.inr (by simp [Value.ownBlock]; omega))
  clear ox0
  go_wp2_with fail
  refine (markStrs_own _ (1 + n0) n1 _ x1 _ ox1 (by omega) (by omega)).mono ?_
  rintro e_ w15 ⟨rfl, hk15⟩
  have zk15 := hk15.size
  replace B := below_grown B hk15 (Nat.le_refl _) (by omega)
  replace D := below_grown D hk15 (Nat.le_refl _) (by omega)
  replace r2 := own_grown r2 hk15 (by omega)
  clear r2x; have r2x := own_ints r2
  clear ox1
  go_wp2_with fail
  refine (isb (eqInts_any Ar2 Ar1 _ cr2 _ cr1 _ _ _ r2x (r1x.below D)) (decide_eq_true rfl)).mono ?_
  rintro e_ w16 ⟨rfl, hk16⟩
  have zk16 := hk16.size
  replace B := next B hk16
  replace D := next D hk16
  replace r2 := own_below r2 hk16
  replace r2x := r2x.below hk16
  go_wp2_with fail
  refine (markInts_any _ 1 _ _ _ _ r2 (by omega) (by omega) (by omega)).mono ?_
  rintro e_ w17 ⟨rfl, rm, hk17⟩
  have zk17 := hk17.size
  replace B := B.trans (hk17.mono (by omega))
  replace D := D.trans (hk17.mono (by omega))
  clear r2 r2x
  have rg := own_ints rm
  clear rm
  go_wp2_with fail
  refine (heldInts_any 1 _ _ _ _ rg (by omega) (by omega)).mono ?_
  rintro e_ w18 ⟨rfl, hk18⟩
  have zk18 := hk18.size
  replace B := next B hk18
  replace D := next D hk18
  replace rg := rg.below hk18
  go_wp2_with fail
  refine (toStrs_any A0 n0 c0 x0 _ (h0.below B) le0).mono ?_
  rintro e_ w19 ⟨rfl, oz0, hk19⟩
  have zk19 := hk19.size
  replace B := next B hk19
  replace D := next D hk19
  replace rg := rg.below hk19
  have zoz0 := (oz0.lt _ rfl).2
  go_wp2_with fail
  refine (toStrs_any A1 n1 c1 x1 _ (h1.below B) le1).mono ?_
  rintro e_ w20 ⟨rfl, oz1, hk20⟩
  have zk20 := hk20.size
  replace B := next B hk20
  replace D := next D hk20
  replace rg := rg.below hk20
  replace oz0 := own_below oz0 hk20
  have zoz1 := (oz1.lt _ rfl).2
  have HC := HIM _ _ _ (own_reads oz0 h0.2.2) (own_reads oz1 h1.2.2) (hm.below B)
  go_wp2_with fail
  refine (HC).mono ?_
  rintro e_ w21 ⟨v3, rfl, r3, hk21⟩
  clear HC
  have zk21 := hk21.size
  replace B := next B hk21
  replace D := next D hk21
  replace rg := rg.below hk21
  replace oz0 := own_below oz0 hk21
  replace oz1 := own_below oz1 hk21
  obtain ⟨Ar3, cr3, rfl, r3x⟩ := own_ints_ r3
  clear oz0
  clear oz1
  go_wp2_with fail
  refine (isb (eqInts_any Ar3 Ar1 _ cr3 _ cr1 _ _ _ r3x (r1x.below D)) (decide_eq_true rfl)).mono ?_
  rintro e_ w22 ⟨rfl, hk22⟩
  have zk22 := hk22.size
  replace B := next B hk22
  replace D := next D hk22
  replace rg := rg.below hk22
  replace r3x := r3x.below hk22
  go_wp2_with fail
  refine (heldInts_any 1 _ _ _ _ rg (by omega) (by omega)).mono ?_
  rintro e_ w23 ⟨rfl, hk23⟩
  have zk23 := hk23.size
  replace B := next B hk23
  replace D := next D hk23
  replace rg := rg.below hk23
  replace r3x := r3x.below hk23
  go_wp2
  go_ret
  exact ⟨rfl, B⟩
end Go.Proofs.YticplogaaholfaaDoor.fnExactFirstLetters
