/- Walk of the law ReadList. -/
import Derived.Test.YtfacbdliegemgaaDoorReadL
import Derived.Test.YtfacbdliegemgaaDoorGrown
import Derived.Test.YtfacbdliegemgaaDoorMarkR
namespace Go.Proofs.YtfacbdliegemgaaDoor.fnExactReadList
open Go.ChangeShapes Go.WideShapes Go.ChangeAt Go.RowKit
set_option linter.unusedVariables false
set_option maxRecDepth 100000 in
set_option maxHeartbeats 4000000 in
theorem walk (s0 : ByteArray) (hs0 : s0.size ≤ maxLen) (w : World) (hm : MaxCell w) (he : ErrCells w) (ht : PowTab w) : Calls Tryd.prog 4 #[.string s0] w fun e w' => e = .returned (.bool true) ∧ Below w.heap.size w w' := by
  have hs2 := hs0
  unfold maxLen at hs2
  by_cases hbig : 1048576 < s0.size
  · go_enter Tryd.func4, Tryd.ntmps4
    go_wp2
    go_ret
    exact ⟨rfl, Below.refl _ _⟩
  · have e1 : (s0.size : Int) ≤ 1048576 := by omega
    have hs1 : s0.size ≤ 1048576 := by omega
    have hlen := rl_len s0
    have HSP := fun W => ReadList_spec s0 W hs1
    have HIM := fun W h1 h2 h3 => ReadList_impl s0 W hs1 h1 h2 h3
    generalize rlList s0 = xs at *
    generalize rlCode s0 = code at *
    have cq : (code != code) = false := by simp
    obtain ⟨n, hn⟩ : ∃ n, xs.length = n := ⟨_, rfl⟩
    rw [hn] at HSP HIM hlen
    clear hn
    have hq0 : ¬ (((1 + n : Nat) : Int) < 0) := by omega
    have hq1 : (((1 + n : Nat) : Int) != ((1 + n : Nat) : Int)) = false := by simp
    go_enter Tryd.func4, Tryd.ntmps4
    go_wp2_with fail
    refine (HSP _).mono ?_
    rintro e_ w1 ⟨v1, rfl, o1, k1⟩
    obtain ⟨A1, c1, rfl, x1⟩ := own_ints_ o1
    go_wp2_with fail
    refine (HIM _ (hm.below k1) (he.below k1) (ht.below k1)).mono ?_
    rintro e_ w2 ⟨v2, rfl, o2, k2⟩
    obtain ⟨A2, c2, rfl, x2⟩ := own_ints_ o2
    have B2 := Lib.hid (next k1 k2)
    have O1 := Lib.hid (own_below o1 k2)
    have hlt1 := fun k hk => o1.lt k hk
    have hwz := k1.size
    go_wp2_with fail
    refine (isb (eqInts_any A2 A1 n c2 n c1 xs xs _ x2 (own_ints O1.out)) (decide_eq_true rfl)).mono ?_
    rintro e_ w3 ⟨rfl, k3⟩
    have B3 := Lib.hid (next B2.out k3)
    have O3 := Lib.hid (own_below O1.out k3)
    have P3 := Lib.hid (own_below o2 k3)
    have hlt2 := fun k hk => o2.lt k hk
    clear k3 O1 o2 x2 o1 x1 k1 k2
    go_wp2_with fail
    refine (markInts_gen _ 1 n _ xs _ P3.out (by omega) (by omega)).mono ?_
    rintro e_ w4 ⟨rfl, o4, k4⟩
    have B4 := Lib.hid (below_own B3.out k4 (Nat.le_refl _) (fun k hk => by have := (hlt2 k hk).1; omega))
    have O4 := Lib.hid (own_far O3.out k4 (fun k hk e => by have a := (hlt1 k hk).2; have b := (hlt2 _ e).1; omega))
    have x4 := own_ints o4
    clear k4 o4 P3 O3 B3 hlt1 hlt2
    go_wp2_with fail
    refine (heldInts_any 1 n c2 A2 _ x4 (by omega) (by omega)).mono ?_
    rintro e_ w5 ⟨rfl, k5⟩
    have B5 := Lib.hid (next B4.out k5)
    have x5 := x4.below k5
    have O5 := Lib.hid (own_below O4.out k5)
    clear x4 O4 k5 B4
    go_wp2_with fail
    refine (HIM _ (hm.below B5.out) (he.below B5.out) (ht.below B5.out)).mono ?_
    rintro e_ w6 ⟨v3, rfl, o6, k6⟩
    obtain ⟨A3, c3, rfl, x6⟩ := own_ints_ o6
    have B6 := Lib.hid (next B5.out k6)
    have y6 := x5.below k6
    have O6 := own_below O5.out k6
    clear x5 O5 k6 B5
    go_wp2_with fail
    refine (isb (eqInts_any A3 A1 n c3 n c1 xs xs _ x6 (own_ints O6)) (decide_eq_true rfl)).mono ?_
    rintro e_ w7 ⟨rfl, k7⟩
    have B7 := Lib.hid (next B6.out k7)
    have x7 := y6.below k7
    clear y6 k7 B6 O6 o6 x6
    go_wp2_with fail
    refine (heldInts_any 1 n c2 A2 _ x7 (by omega) (by omega)).mono ?_
    rintro e_ w8 ⟨rfl, k8⟩
    have B8 := Lib.hid (next B7.out k8)
    clear x7 k8 B7
    go_wp2
    go_ret
    exact ⟨rfl, B8.out⟩
end Go.Proofs.YtfacbdliegemgaaDoor.fnExactReadList
