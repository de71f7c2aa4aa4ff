/- Walk of the law SpellWord. -/
import Derived.Test.YtlbigiimnpjgoaaDoorSpellE
import Derived.Test.YtlbigiimnpjgoaaDoorFrame
namespace Go.Proofs.YtlbigiimnpjgoaaDoor.fnExactSpellWord
open Go.ChangeShapes Go.WideShapes Go.ChangeAt Go.RowKit
set_option linter.unusedVariables false
set_option maxRecDepth 100000 in
set_option maxHeartbeats 2000000 in
theorem walk (A0 : Option Addr) (n0 c0 : Nat) (x0 : List ByteArray) (s1 : ByteArray) (hs1 : s1.size ≤ maxLen) (w : World) (h0 : Strs w A0 n0 c0 x0)  : Calls Tryd.prog 8 #[.slice A0 n0 c0, .string s1] w fun e w' => e = .returned (.bool true) ∧ Below w.heap.size w w' := by
  have hcm0 := h0.2.1.cap
  have hnc0 := h0.2.1.le
  unfold maxLen at hcm0
  have hz1 := hs1
  unfold maxLen at hz1
  by_cases big1 : 1048576 < s1.size
  · go_enter Tryd.func8, Tryd.ntmps8
    go_wp2
    go_ret
    exact ⟨rfl, Below.refl _ _⟩
  have le1 : s1.size ≤ 1048576 := by omega
  have lei1 : (s1.size : Int) ≤ 1048576 := by omega
  clear big1
  by_cases neg0 : (1048576 : Int) - n0 - total x0 < 0
  · have hz : szOf (1048576 : Int) n0 x0 = -1 := by unfold szOf; rw [if_pos neg0]
    have HZ := fun W hW => szStrs_any A0 n0 c0 x0 (1048576 : Int) W hW (by omega) (by omega)
    rw [hz] at HZ
    clear hz
    go_enter Tryd.func8, Tryd.ntmps8
    have B0 : Below w.heap.size w w := Below.refl _ _
    go_wp2_with fail
    refine (HZ _ (h0.below B0)).mono ?_
    rintro e_ v1 ⟨rfl, k1⟩
    have hc_v1 := bcell k1; have hf_v1 := bfree k1
    go_wp2
    go_ret
    exact ⟨rfl, next B0 k1⟩
  have HZ0 := fun W hW => szStrs_any A0 n0 c0 x0 (1048576 : Int) W hW (by omega) (by omega)
  rw [show szOf (1048576 : Int) n0 x0 = (1048576 : Int) - n0 - total x0 by unfold szOf; rw [if_neg neg0]] at HZ0
  have le0 : n0 ≤ 1048576 := by omega
  obtain ⟨left0, hleft0⟩ : ∃ l : Int, (1048576 : Int) - n0 - total x0 = l := ⟨_, rfl⟩
  rw [hleft0] at HZ0 neg0
  have lb0 : left0 ≤ 1048576 := by omega
  have tt0 : total x0 ≤ 1048576 := by omega
  clear hleft0
  have hll := sw_len x0 s1 hs1
  have cq1 : (swCode x0 s1 != swCode x0 s1) = false := by simp
  go_enter Tryd.func8, Tryd.ntmps8
  have B : Below w.heap.size w w := Below.refl _ _
  go_wp2_with fail
  refine (HZ0 _ (h0.below B)).mono ?_
  rintro e_ w1 ⟨rfl, hk1⟩
  have zk1 := hk1.size
  replace B := next B hk1
  go_wp2_with fail
  refine (toStrs_any A0 n0 c0 x0 _ (h0.below B) le0).mono ?_
  rintro e_ w2 ⟨rfl, os0, hk2⟩
  have zk2 := hk2.size
  replace B := next B hk2
  have zos0 := (os0.lt _ rfl).2
  have HC := SpellWord_spec _ n0 n0 x0 s1 _ (own_reads os0 h0.2.2) hs1
  go_wp2_with fail
  refine (HC).mono ?_
  rintro e_ w3 ⟨v1, rfl, r1, hk3⟩
  clear HC
  have zk3 := hk3.size
  replace B := next B hk3
  replace os0 := own_below os0 hk3
  obtain ⟨A1, c1, rfl, r1x⟩ := own_ints_ r1
  clear os0
  clear r1
  have D := Below.refl w3.heap.size w3
  have r1y := r1x
  go_wp2_with fail
  refine (toStrs_any A0 n0 c0 x0 _ (h0.below B) le0).mono ?_
  rintro e_ w4 ⟨rfl, ox0, hk4⟩
  have zk4 := hk4.size
  replace B := next B hk4
  replace D := next D hk4
  have zox0 := (ox0.lt _ rfl).2
  have HC := SpellWord_impl _ n0 n0 x0 s1 _ (own_reads ox0 h0.2.2) hs1
  go_wp2_with fail
  refine (HC).mono ?_
  rintro e_ w5 ⟨v2, rfl, r2, hk5⟩
  clear HC
  have zk5 := hk5.size
  replace B := next B hk5
  replace D := next D hk5
  replace ox0 := own_below ox0 hk5
  obtain ⟨A2, c2, rfl, r2x⟩ := own_ints_ r2
  go_wp2_with fail
  refine (isb (eqInts_any A2 A1 _ c2 _ c1 _ _ _ r2x (r1x.below D)) (decide_eq_true rfl)).mono ?_
  rintro e_ w6 ⟨rfl, hk6⟩
  have zk6 := hk6.size
  replace B := next B hk6
  replace D := next D hk6
  replace ox0 := own_below ox0 hk6
  replace r2 := own_below r2 hk6
  replace r2x := r2x.below hk6
  go_wp2_with fail
  refine (toStrs_any A0 n0 c0 x0 _ (h0.below B) le0).mono ?_
  rintro e_ w7 ⟨rfl, oy, hk7⟩
  have zk7 := hk7.size
  replace B := next B hk7
  replace D := next D hk7
  replace ox0 := own_below ox0 hk7
  replace r2 := own_below r2 hk7
  replace r2x := r2x.below hk7
  have ey := (own_reads ox0 h0.2.2)
  have ez := (own_reads oy h0.2.2)
  go_wp2_with fail
  refine (isb (eqStrs_any _ _ n0 n0 n0 n0 x0 x0 _ ey ez) (decide_eq_true rfl)).mono ?_
  rintro e_ w8 ⟨rfl, hk8⟩
  have zk8 := hk8.size
  replace B := next B hk8
  replace D := next D hk8
  replace ox0 := own_below ox0 hk8
  replace r2 := own_below r2 hk8
  replace r2x := r2x.below hk8
  clear oy ey ez
  go_wp2_with fail
  refine (markStrs_own _ (1) n0 _ x0 _ ox0 (by omega) (by omega)).mono ?_
  rintro e_ w9 ⟨rfl, hk9⟩
  have zk9 := hk9.size
  replace B := below_grown B hk9 (Nat.le_refl _) (by omega)
  replace D := below_grown D hk9 (Nat.le_refl _) (by omega)
  replace r2 := own_grown r2 hk9 (by omega)
  clear r2x; have r2x := own_ints r2
  clear ox0
  go_wp2_with fail
  refine (isb (eqInts_any A2 A1 _ c2 _ c1 _ _ _ r2x (r1x.below D)) (decide_eq_true rfl)).mono ?_
  rintro e_ w10 ⟨rfl, hk10⟩
  have zk10 := hk10.size
  replace B := next B hk10
  replace D := next D hk10
  replace r2 := own_below r2 hk10
  replace r2x := r2x.below hk10
  go_wp2_with fail
  refine (markInts_any _ 1 _ _ _ _ r2 (by omega) (by omega) (by omega)).mono ?_
  rintro e_ w11 ⟨rfl, rm, hk11⟩
  have zk11 := hk11.size
  replace B := B.trans (hk11.mono (by omega))
  replace D := D.trans (hk11.mono (by omega))
  clear r2 r2x
  have rg := own_ints rm
  clear rm
  go_wp2_with fail
  refine (heldInts_any 1 _ _ _ _ rg (by omega) (by omega)).mono ?_
  rintro e_ w12 ⟨rfl, hk12⟩
  have zk12 := hk12.size
  replace B := next B hk12
  replace D := next D hk12
  replace rg := rg.below hk12
  go_wp2_with fail
  refine (toStrs_any A0 n0 c0 x0 _ (h0.below B) le0).mono ?_
  rintro e_ w13 ⟨rfl, oz0, hk13⟩
  have zk13 := hk13.size
  replace B := next B hk13
  replace D := next D hk13
  replace rg := rg.below hk13
  have zoz0 := (oz0.lt _ rfl).2
  have HC := SpellWord_impl _ n0 n0 x0 s1 _ (own_reads oz0 h0.2.2) hs1
  go_wp2_with fail
  refine (HC).mono ?_
  rintro e_ w14 ⟨v3, rfl, r3, hk14⟩
  clear HC
  have zk14 := hk14.size
  replace B := next B hk14
  replace D := next D hk14
  replace rg := rg.below hk14
  replace oz0 := own_below oz0 hk14
  obtain ⟨A3, c3, rfl, r3x⟩ := own_ints_ r3
  clear oz0
  go_wp2_with fail
  refine (isb (eqInts_any A3 A1 _ c3 _ c1 _ _ _ r3x (r1x.below D)) (decide_eq_true rfl)).mono ?_
  rintro e_ w15 ⟨rfl, hk15⟩
  have zk15 := hk15.size
  replace B := next B hk15
  replace D := next D hk15
  replace rg := rg.below hk15
  replace r3x := r3x.below hk15
  go_wp2_with fail
  refine (heldInts_any 1 _ _ _ _ rg (by omega) (by omega)).mono ?_
  rintro e_ w16 ⟨rfl, hk16⟩
  have zk16 := hk16.size
  replace B := next B hk16
  replace D := next D hk16
  replace rg := rg.below hk16
  replace r3x := r3x.below hk16
  go_wp2
  go_ret
  exact ⟨rfl, B⟩
end Go.Proofs.YtlbigiimnpjgoaaDoor.fnExactSpellWord
