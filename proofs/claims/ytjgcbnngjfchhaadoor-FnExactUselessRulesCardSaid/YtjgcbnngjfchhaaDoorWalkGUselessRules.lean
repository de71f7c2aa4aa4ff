/- Walk of the law UselessRules. -/
import Derived.Test.YtjgcbnngjfchhaaDoorMarkT
import Derived.Test.YtjgcbnngjfchhaaDoorUseC
namespace Go.Proofs.YtjgcbnngjfchhaaDoor.fnExactUselessRules
open Go.ChangeShapes Go.WideShapes Go.ChangeAt Go.RowKit
set_option linter.unusedVariables false
set_option maxRecDepth 100000 in
set_option maxHeartbeats 2000000 in
theorem walk (A0 : Option Addr) (n0 c0 : Nat) (x0 : List Rl) (w : World) (h0 : Rules w A0 n0 c0 x0)  : Calls Tryd.prog 3 #[.slice A0 n0 c0] w fun e w' => e = .returned (.bool true) ∧ Below w.heap.size w w' := by
  have hcm0 := h0.cap.2
  have hnc0 := h0.cap.1
  unfold maxLen at hcm0
  by_cases neg0 : (1048576 : Int) - n0 - rtot x0 < 0
  · have hz : szR (1048576 : Int) n0 (rtot x0) = -1 := by unfold szR; rw [if_pos neg0]
    have HZ := fun W hW => szRules_any A0 n0 c0 x0 (1048576 : Int) W hW (by omega) (by omega)
    rw [hz] at HZ
    clear hz
    go_enter Tryd.func3, Tryd.ntmps3
    have B0 : Below w.heap.size w w := Below.refl _ _
    go_wp2_with fail
    refine (HZ _ (h0.below B0)).mono ?_
    rintro e_ v1 ⟨rfl, k1⟩
    have hc_v1 := bcell k1; have hf_v1 := bfree k1
    go_wp2
    go_ret
    exact ⟨rfl, next B0 k1⟩
  have HZ0 := fun W hW => szRules_any A0 n0 c0 x0 (1048576 : Int) W hW (by omega) (by omega)
  rw [show szR (1048576 : Int) n0 (rtot x0) = (1048576 : Int) - n0 - rtot x0 by unfold szR; rw [if_neg neg0]] at HZ0
  have le0 : n0 ≤ 1048576 := by omega
  have tt0 : rtot x0 ≤ 1048576 := by omega
  obtain ⟨left0, hleft0⟩ : ∃ l : Int, (1048576 : Int) - n0 - rtot x0 = l := ⟨_, rfl⟩
  rw [hleft0] at HZ0 neg0
  have lb0 : left0 ≤ 1048576 := by omega
  clear hleft0
  have hll := ur_len x0
  have cq1 : (scCode x0 != scCode x0) = false := by simp
  have HSP := fun a1_ a2_ a3_ => UselessRules_spec a1_ n0 n0 x0 a2_ a3_
  have HIM := fun a1_ a2_ a3_ => UselessRules_impl a1_ n0 n0 x0 a2_ a3_
  obtain ⟨lst, hlst⟩ : ∃ l, urList x0 = l := ⟨_, rfl⟩
  rw [hlst] at HSP HIM
  try rw [hlst] at hll
  clear hlst
  go_enter Tryd.func3, Tryd.ntmps3
  have B : Below w.heap.size w w := Below.refl _ _
  go_wp2_with fail
  refine (HZ0 _ (h0.below B)).mono ?_
  rintro e_ w1 ⟨rfl, hk1⟩
  have zk1 := hk1.size
  replace B := next B hk1
  go_wp2_with fail
  refine (toRules_any A0 n0 c0 x0 _ (h0.below B) le0 tt0).mono ?_
  rintro e_ w2 ⟨rfl, os0, hk2⟩
  have zk2 := hk2.size
  replace B := next B hk2
  have HC := HSP _ _ (os0.reads)
  go_wp2_with fail
  refine (HC).mono ?_
  rintro e_ w3 ⟨v1, rfl, r1, hk3⟩
  clear HC
  have zk3 := hk3.size
  replace B := next B hk3
  replace os0 := os0.below hk3
  obtain ⟨Ar1, cr1, rfl, r1x⟩ := own_ints_ r1
  clear os0
  clear r1
  have D := Below.refl w3.heap.size w3
  have r1y := r1x
  go_wp2_with fail
  refine (toRules_any A0 n0 c0 x0 _ (h0.below B) le0 tt0).mono ?_
  rintro e_ w4 ⟨rfl, ox0, hk4⟩
  have zk4 := hk4.size
  replace B := next B hk4
  replace D := next D hk4
  have HC := HIM _ _ (ox0.reads)
  go_wp2_with fail
  refine (HC).mono ?_
  rintro e_ w5 ⟨v2, rfl, r2, hk5⟩
  clear HC
  have zk5 := hk5.size
  replace B := next B hk5
  replace D := next D hk5
  replace ox0 := ox0.below hk5
  obtain ⟨Ar2, cr2, rfl, r2x⟩ := own_ints_ r2
  go_wp2_with fail
  refine (isb (eqInts_any Ar2 Ar1 _ cr2 _ cr1 _ _ _ r2x (r1x.below D)) (decide_eq_true rfl)).mono ?_
  rintro e_ w6 ⟨rfl, hk6⟩
  have zk6 := hk6.size
  replace B := next B hk6
  replace D := next D hk6
  replace ox0 := ox0.below hk6
  replace r2 := own_below r2 hk6
  replace r2x := r2x.below hk6
  go_wp2_with fail
  refine (toRules_any A0 n0 c0 x0 _ (h0.below B) le0 tt0).mono ?_
  rintro e_ w7 ⟨rfl, oy, hk7⟩
  have zk7 := hk7.size
  replace B := next B hk7
  replace D := next D hk7
  replace ox0 := ox0.below hk7
  replace r2 := own_below r2 hk7
  replace r2x := r2x.below hk7
  have ey := (ox0.reads)
  have ez := oy.reads
  go_wp2_with fail
  refine (isb (eqRules_any _ _ n0 n0 n0 n0 x0 x0 _ ey ez) (decide_eq_true rfl)).mono ?_
  rintro e_ w8 ⟨rfl, hk8⟩
  have zk8 := hk8.size
  replace B := next B hk8
  replace D := next D hk8
  replace ox0 := ox0.below hk8
  replace r2 := own_below r2 hk8
  replace r2x := r2x.below hk8
  clear oy ey ez
  have HMR0 := fun base top k v w h hk hm => markRules_any base top k n0 v x0 w h hk hm (.inr trivial)
  obtain ⟨rq0, hrq0⟩ : ∃ q, rsum x0 = q := ⟨_, rfl⟩
  have hrl0 := rsum_le x0
  rw [hrq0] at HMR0 hrl0
  clear hrq0
  go_wp2_with fail
  refine (HMR0 _ _ (1) _ _ ox0 (by omega) (by omega)).mono ?_
  rintro e_ w9 ⟨rfl, hk9⟩
  clear HMR0
  have zk9 := hk9.size
  replace B := below_zone B hk9 (Nat.le_refl _) (by omega)
  replace D := below_zone D hk9 (Nat.le_refl _) (by omega)
  replace r2 := own_above r2 hk9 (by omega)
  clear r2x; have r2x := own_ints r2
  clear ox0
  go_wp2_with fail
  refine (isb (eqInts_any Ar2 Ar1 _ cr2 _ cr1 _ _ _ r2x (r1x.below D)) (decide_eq_true rfl)).mono ?_
  rintro e_ w10 ⟨rfl, hk10⟩
  have zk10 := hk10.size
  replace B := next B hk10
  replace D := next D hk10
  replace r2 := own_below r2 hk10
  replace r2x := r2x.below hk10
  go_wp2_with fail
  refine (markInts_any _ 1 _ _ _ _ r2 (by omega) (by omega) (by omega)).mono ?_
  rintro e_ w11 ⟨rfl, rm, hk11⟩
  have zk11 := hk11.size
  replace B := B.trans (hk11.mono (by omega))
  replace D := D.trans (hk11.mono (by omega))
  clear r2 r2x
  have rg := own_ints rm
  clear rm
  go_wp2_with fail
  refine (heldInts_any 1 _ _ _ _ rg (by omega) (by omega)).mono ?_
  rintro e_ w12 ⟨rfl, hk12⟩
  have zk12 := hk12.size
  replace B := next B hk12
  replace D := next D hk12
  replace rg := rg.below hk12
  go_wp2_with fail
  refine (toRules_any A0 n0 c0 x0 _ (h0.below B) le0 tt0).mono ?_
  rintro e_ w13 ⟨rfl, oz0, hk13⟩
  have zk13 := hk13.size
  replace B := next B hk13
  replace D := next D hk13
  replace rg := rg.below hk13
  have HC := HIM _ _ (oz0.reads)
  go_wp2_with fail
  refine (HC).mono ?_
  rintro e_ w14 ⟨v3, rfl, r3, hk14⟩
  clear HC
  have zk14 := hk14.size
  replace B := next B hk14
  replace D := next D hk14
  replace rg := rg.below hk14
  replace oz0 := oz0.below hk14
  obtain ⟨Ar3, cr3, rfl, r3x⟩ := own_ints_ r3
  clear oz0
  go_wp2_with fail
  refine (isb (eqInts_any Ar3 Ar1 _ cr3 _ cr1 _ _ _ r3x (r1x.below D)) (decide_eq_true rfl)).mono ?_
  rintro e_ w15 ⟨rfl, hk15⟩
  have zk15 := hk15.size
  replace B := next B hk15
  replace D := next D hk15
  replace rg := rg.below hk15
  replace r3x := r3x.below hk15
  go_wp2_with fail
  refine (heldInts_any 1 _ _ _ _ rg (by omega) (by omega)).mono ?_
  rintro e_ w16 ⟨rfl, hk16⟩
  have zk16 := hk16.size
  replace B := next B hk16
  replace D := next D hk16
  replace rg := rg.below hk16
  replace r3x := r3x.below hk16
  go_wp2
  go_ret
  exact ⟨rfl, B⟩
end Go.Proofs.YtjgcbnngjfchhaaDoor.fnExactUselessRules
