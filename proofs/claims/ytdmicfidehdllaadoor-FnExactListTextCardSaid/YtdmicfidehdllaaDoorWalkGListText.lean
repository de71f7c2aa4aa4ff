/- Walk of the law ListText. -/
import Derived.Test.YtdmicfidehdllaaDoorListT
import Derived.Test.YtdmicfidehdllaaDoorFrame
namespace Go.Proofs.YtdmicfidehdllaaDoor.fnExactListText
open Go.ChangeShapes Go.WideShapes Go.ChangeAt Go.RowKit
set_option linter.unusedVariables false
set_option maxRecDepth 100000 in
set_option maxHeartbeats 2000000 in
theorem walk (A0 : Option Addr) (n0 c0 : Nat) (x0 : List Int) (w : World) (h0 : Ints w A0 n0 c0 x0) (ht : PowTab w) : Calls Tryd.prog 4 #[.slice A0 n0 c0] w fun e w' => e = .returned (.bool true) ∧ Below w.heap.size w w' := by
  have hcm0 := h0.2.cap
  have hnc0 := h0.2.le
  unfold maxLen at hcm0
  by_cases big0 : 1048576 < n0
  · go_enter Tryd.func4, Tryd.ntmps4
    go_wp2
    go_ret
    exact ⟨rfl, Below.refl _ _⟩
  have le0 : n0 ≤ 1048576 := by omega
  have lei0 : (n0 : Int) ≤ 1048576 := by omega
  clear big0
  have cq0 : ((ltText x0).toList == (ltText x0).toList) = true := by simp
  have cq1 : (ltCode x0 != ltCode x0) = false := by simp
  go_enter Tryd.func4, Tryd.ntmps4
  have B : Below w.heap.size w w := Below.refl _ _
  go_wp2_with fail
  refine (toInts_any A0 n0 c0 x0 _ (h0.below B) le0).mono ?_
  rintro e_ w1 ⟨rfl, os0, hk1⟩
  have zk1 := hk1.size
  replace B := next B hk1
  have zos0 := (os0.lt _ rfl).2
  go_wp2_with fail
  refine (ListText_spec _ n0 n0 x0 _ (own_ints os0)).mono ?_
  rintro e_ w2 ⟨rfl, hk2⟩
  have zk2 := hk2.size
  replace B := next B hk2
  replace os0 := own_below os0 hk2
  clear os0
  go_wp2_with fail
  refine (toInts_any A0 n0 c0 x0 _ (h0.below B) le0).mono ?_
  rintro e_ w3 ⟨rfl, ox0, hk3⟩
  have zk3 := hk3.size
  replace B := next B hk3
  have zox0 := (ox0.lt _ rfl).2
  go_wp2_with fail
  refine (ListText_impl _ n0 n0 x0 _ (own_ints ox0) (ht.below B)).mono ?_
  rintro e_ w4 ⟨rfl, hk4⟩
  have zk4 := hk4.size
  replace B := next B hk4
  replace ox0 := own_below ox0 hk4
  go_wp2_with fail
  refine (toInts_any A0 n0 c0 x0 _ (h0.below B) le0).mono ?_
  rintro e_ w5 ⟨rfl, oy, hk5⟩
  have zk5 := hk5.size
  replace B := next B hk5
  replace ox0 := own_below ox0 hk5
  have ey := (own_ints ox0)
  have ez := (own_ints oy)
  go_wp2_with fail
  refine (isb (eqInts_any _ _ n0 n0 n0 n0 x0 x0 _ ey ez) (decide_eq_true rfl)).mono ?_
  rintro e_ w6 ⟨rfl, hk6⟩
  have zk6 := hk6.size
  replace B := next B hk6
  replace ox0 := own_below ox0 hk6
  clear oy ey ez
  go_wp2
  go_ret
  exact ⟨rfl, B⟩
end Go.Proofs.YtdmicfidehdllaaDoor.fnExactListText
