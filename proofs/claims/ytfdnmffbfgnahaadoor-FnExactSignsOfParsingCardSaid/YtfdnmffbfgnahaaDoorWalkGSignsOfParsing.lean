/- Walk of the law SignsOfParsing. -/
import Derived.Test.YtfdnmffbfgnahaaDoorMarkT
import Derived.Test.YtfdnmffbfgnahaaDoorRuleF
namespace Go.Proofs.YtfdnmffbfgnahaaDoor.fnExactSignsOfParsing
open Go.ChangeShapes Go.WideShapes Go.ChangeAt Go.RowKit
set_option linter.unusedVariables false
set_option maxRecDepth 100000 in
set_option maxHeartbeats 2000000 in
theorem walk (A0 : Option Addr) (n0 c0 : Nat) (x0 : List Rl) (A1 : Option Addr) (n1 c1 : Nat) (x1 : List Int) (w : World) (h0 : Rules w A0 n0 c0 x0) (h1 : Ints w A1 n1 c1 x1)  : Calls Tryd.prog 6 #[.slice A0 n0 c0, .slice A1 n1 c1] w fun e w' => e = .returned (.bool true) ∧ Below w.heap.size w w' := by
  have hcm0 := h0.cap.2
  have hnc0 := h0.cap.1
  unfold maxLen at hcm0
  have hcm1 := h1.2.cap
  have hnc1 := h1.2.le
  unfold maxLen at hcm1
  by_cases big1 : 1048576 < n1
  · go_enter Tryd.func6, Tryd.ntmps6
    go_wp2
    go_ret
    exact ⟨rfl, Below.refl _ _⟩
  have le1 : n1 ≤ 1048576 := by omega
  have lei1 : (n1 : Int) ≤ 1048576 := by omega
  clear big1
  by_cases neg0 : (1048576 : Int) - n0 - rtot x0 < 0
  · have hz : szR (1048576 : Int) n0 (rtot x0) = -1 := by unfold szR; rw [if_pos neg0]
    have HZ := fun W hW => szRules_any A0 n0 c0 x0 (1048576 : Int) W hW (by omega) (by omega)
    rw [hz] at HZ
    clear hz
    go_enter Tryd.func6, Tryd.ntmps6
    have B0 : Below w.heap.size w w := Below.refl _ _
    go_wp2_with fail
    refine (HZ _ (h0.below B0)).mono ?_
    rintro e_ v1 ⟨rfl, k1⟩
    have hc_v1 := bcell k1; have hf_v1 := bfree k1
    go_wp2
    go_ret
    exact ⟨rfl, next B0 k1⟩
  have HZ0 := fun W hW => szRules_any A0 n0 c0 x0 (1048576 : Int) W hW (by omega) (by omega)
  rw [show szR (1048576 : Int) n0 (rtot x0) = (1048576 : Int) - n0 - rtot x0 by unfold szR; rw [if_neg neg0]] at HZ0
  have le0 : n0 ≤ 1048576 := by omega
  have tt0 : rtot x0 ≤ 1048576 := by omega
  obtain ⟨left0, hleft0⟩ : ∃ l : Int, (1048576 : Int) - n0 - rtot x0 = l := ⟨_, rfl⟩
  rw [hleft0] at HZ0 neg0
  have lb0 : left0 ≤ 1048576 := by omega
  clear hleft0
  have hll := sp_len x0 x1
  have cq1 : (spCode x0 x1 != spCode x0 x1) = false := by simp
  have HSP := fun a1_ a2_ a3_ a4_ a5_ => SignsOfParsing_spec a1_ a2_ n0 n0 n1 n1 x0 x1 a3_ a4_ a5_
  have HIM := fun a1_ a2_ a3_ a4_ a5_ => SignsOfParsing_impl a1_ a2_ n0 n0 n1 n1 x0 x1 a3_ a4_ a5_
  obtain ⟨lst, hlst⟩ : ∃ l, spList x0 x1 = l := ⟨_, rfl⟩
  rw [hlst] at HSP HIM
  try rw [hlst] at hll
  clear hlst
  go_enter Tryd.func6, Tryd.ntmps6
  have B : Below w.heap.size w w := Below.refl _ _
  go_wp2_with fail
  refine (HZ0 _ (h0.below B)).mono ?_
  rintro e_ w1 ⟨rfl, hk1⟩
  have zk1 := hk1.size
  replace B := next B hk1
  go_wp2_with fail
  refine (toRules_any A0 n0 c0 x0 _ (h0.below B) le0 tt0).mono ?_
  rintro e_ w2 ⟨rfl, os0, hk2⟩
  have zk2 := hk2.size
  replace B := next B hk2
  go_wp2_with fail
  refine (toInts_any A1 n1 c1 x1 _ (h1.below B) le1).mono ?_
  rintro e_ w3 ⟨rfl, os1, hk3⟩
  have zk3 := hk3.size
  replace B := next B hk3
  replace os0 := os0.below hk3
  have zos1 := (os1.lt _ rfl).2
  have HC := HSP _ _ _ (os0.reads) (own_ints os1)
  go_wp2_with fail
  refine (HC).mono ?_
  rintro e_ w4 ⟨v1, rfl, r1, hk4⟩
  clear HC
  have zk4 := hk4.size
  replace B := next B hk4
  replace os0 := os0.below hk4
  replace os1 := own_below os1 hk4
  obtain ⟨Ar1, cr1, rfl, r1x⟩ := own_ints_ r1
  clear os0
  clear os1
  clear r1
  have D := Below.refl w4.heap.size w4
  have r1y := r1x
  go_wp2_with fail
  refine (toRules_any A0 n0 c0 x0 _ (h0.below B) le0 tt0).mono ?_
  rintro e_ w5 ⟨rfl, ox0, hk5⟩
  have zk5 := hk5.size
  replace B := next B hk5
  replace D := next D hk5
  go_wp2_with fail
  refine (toInts_any A1 n1 c1 x1 _ (h1.below B) le1).mono ?_
  rintro e_ w6 ⟨rfl, ox1, hk6⟩
  have zk6 := hk6.size
  replace B := next B hk6
  replace D := next D hk6
  replace ox0 := ox0.below hk6
  have zox1 := (ox1.lt _ rfl).2
  have HC := HIM _ _ _ (ox0.reads) (own_ints ox1)
  go_wp2_with fail
  refine (HC).mono ?_
  rintro e_ w7 ⟨v2, rfl, r2, hk7⟩
  clear HC
  have zk7 := hk7.size
  replace B := next B hk7
  replace D := next D hk7
  replace ox0 := ox0.below hk7
  replace ox1 := own_below ox1 hk7
  obtain ⟨Ar2, cr2, rfl, r2x⟩ := own_ints_ r2
  go_wp2_with fail
  refine (isb (eqInts_any Ar2 Ar1 _ cr2 _ cr1 _ _ _ r2x (r1x.below D)) (decide_eq_true rfl)).mono ?_
  rintro e_ w8 ⟨rfl, hk8⟩
  have zk8 := hk8.size
  replace B := next B hk8
  replace D := next D hk8
  replace ox0 := ox0.below hk8
  replace ox1 := own_below ox1 hk8
  replace r2 := own_below r2 hk8
  replace r2x := r2x.below hk8
  go_wp2_with fail
  refine (toRules_any A0 n0 c0 x0 _ (h0.below B) le0 tt0).mono ?_
  rintro e_ w9 ⟨rfl, oy, hk9⟩
  have zk9 := hk9.size
  replace B := next B hk9
  replace D := next D hk9
  replace ox0 := ox0.below hk9
  replace ox1 := own_below ox1 hk9
  replace r2 := own_below r2 hk9
  replace r2x := r2x.below hk9
  have ey := (ox0.reads)
  have ez := oy.reads
  go_wp2_with fail
  refine (isb (eqRules_any _ _ n0 n0 n0 n0 x0 x0 _ ey ez) (decide_eq_true rfl)).mono ?_
  rintro e_ w10 ⟨rfl, hk10⟩
  have zk10 := hk10.size
  replace B := next B hk10
  replace D := next D hk10
  replace ox0 := ox0.below hk10
  replace ox1 := own_below ox1 hk10
  replace r2 := own_below r2 hk10
  replace r2x := r2x.below hk10
  clear oy ey ez
  go_wp2_with fail
  refine (toInts_any A1 n1 c1 x1 _ (h1.below B) le1).mono ?_
  rintro e_ w11 ⟨rfl, oy, hk11⟩
  have zk11 := hk11.size
  replace B := next B hk11
  replace D := next D hk11
  replace ox0 := ox0.below hk11
  replace ox1 := own_below ox1 hk11
  replace r2 := own_below r2 hk11
  replace r2x := r2x.below hk11
  have ey := (own_ints ox1)
  have ez := (own_ints oy)
  go_wp2_with fail
  refine (isb (eqInts_any _ _ n1 n1 n1 n1 x1 x1 _ ey ez) (decide_eq_true rfl)).mono ?_
  rintro e_ w12 ⟨rfl, hk12⟩
  have zk12 := hk12.size
  replace B := next B hk12
  replace D := next D hk12
  replace ox0 := ox0.below hk12
  replace ox1 := own_below ox1 hk12
  replace r2 := own_below r2 hk12
  replace r2x := r2x.below hk12
  clear oy ey ez
  have HMR0 := fun base top k v w h hk hm => markRules_any base top k n0 v x0 w h hk hm (.inr trivial)
  obtain ⟨rq0, hrq0⟩ : ∃ q, rsum x0 = q := ⟨_, rfl⟩
  have hrl0 := rsum_le x0
  rw [hrq0] at HMR0 hrl0
  clear hrq0
  go_wp2_with fail
  refine (HMR0 _ _ (1) _ _ ox0 (by omega) (by omega)).mono ?_
  rintro e_ w13 ⟨rfl, hk13⟩
  clear HMR0
  have zk13 := hk13.size
  replace B := below_zone B hk13 (Nat.le_refl _) (by omega)
  replace D := below_zone D hk13 (Nat.le_refl _) (by omega)
  replace r2 := own_above r2 hk13 (by omega)
  clear r2x; have r2x := own_ints r2
  replace ox1 := own_zone ox1 hk13 (fun k hk => by have e' := Option.some.inj hk; simp only at e'; omega)
  clear ox0
  go_wp2_with fail
  refine (markInts_own _ (1 + (n0 + rq0)) n1 _ x1 _ ox1 (by omega) (by omega)).mono ?_
  rintro e_ w14 ⟨rfl, hk14⟩
  have zk14 := hk14.size
  replace B := below_grown B hk14 (Nat.le_refl _) (by omega)
  replace D := below_grown D hk14 (Nat.le_refl _) (by omega)
  replace r2 := own_grown r2 hk14 (by omega)
  clear r2x; have r2x := own_ints r2
  clear ox1
  go_wp2_with fail
  refine (isb (eqInts_any Ar2 Ar1 _ cr2 _ cr1 _ _ _ r2x (r1x.below D)) (decide_eq_true rfl)).mono ?_
  rintro e_ w15 ⟨rfl, hk15⟩
  have zk15 := hk15.size
  replace B := next B hk15
  replace D := next D hk15
  replace r2 := own_below r2 hk15
  replace r2x := r2x.below hk15
  go_wp2_with fail
  refine (markInts_any _ 1 _ _ _ _ r2 (by omega) (by omega) (by omega)).mono ?_
  rintro e_ w16 ⟨rfl, rm, hk16⟩
  have zk16 := hk16.size
  replace B := B.trans (hk16.mono (by omega))
  replace D := D.trans (hk16.mono (by omega))
  clear r2 r2x
  have rg := own_ints rm
  clear rm
  go_wp2_with fail
  refine (heldInts_any 1 _ _ _ _ rg (by omega) (by omega)).mono ?_
  rintro e_ w17 ⟨rfl, hk17⟩
  have zk17 := hk17.size
  replace B := next B hk17
  replace D := next D hk17
  replace rg := rg.below hk17
  go_wp2_with fail
  refine (toRules_any A0 n0 c0 x0 _ (h0.below B) le0 tt0).mono ?_
  rintro e_ w18 ⟨rfl, oz0, hk18⟩
  have zk18 := hk18.size
  replace B := next B hk18
  replace D := next D hk18
  replace rg := rg.below hk18
  go_wp2_with fail
  refine (toInts_any A1 n1 c1 x1 _ (h1.below B) le1).mono ?_
  rintro e_ w19 ⟨rfl, oz1, hk19⟩
  have zk19 := hk19.size
  replace B := next B hk19
  replace D := next D hk19
  replace rg := rg.below hk19
  replace oz0 := oz0.below hk19
  have zoz1 := (oz1.lt _ rfl).2
  have HC := HIM _ _ _ (oz0.reads) (own_ints oz1)
  go_wp2_with fail
  refine (HC).mono ?_
  rintro e_ w20 ⟨v3, rfl, r3, hk20⟩
  clear HC
  have zk20 := hk20.size
  replace B := next B hk20
  replace D := next D hk20
  replace rg := rg.below hk20
  replace oz0 := oz0.below hk20
  replace oz1 := own_below oz1 hk20
  obtain ⟨Ar3, cr3, rfl, r3x⟩ := own_ints_ r3
  clear oz0
  clear oz1
  go_wp2_with fail
  refine (isb (eqInts_any Ar3 Ar1 _ cr3 _ cr1 _ _ _ r3x (r1x.below D)) (decide_eq_true rfl)).mono ?_
  rintro e_ w21 ⟨rfl, hk21⟩
  have zk21 := hk21.size
  replace B := next B hk21
  replace D := next D hk21
  replace rg := rg.below hk21
  replace r3x := r3x.below hk21
  go_wp2_with fail
  refine (heldInts_any 1 _ _ _ _ rg (by omega) (by omega)).mono ?_
  rintro e_ w22 ⟨rfl, hk22⟩
  have zk22 := hk22.size
  replace B := next B hk22
  replace D := next D hk22
  replace rg := rg.below hk22
  replace r3x := r3x.below hk22
  go_wp2
  go_ret
  exact ⟨rfl, B⟩
end Go.Proofs.YtfdnmffbfgnahaaDoor.fnExactSignsOfParsing
