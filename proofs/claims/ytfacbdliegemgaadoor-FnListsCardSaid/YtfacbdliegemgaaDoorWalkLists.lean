/- Walk of the law FnLists. -/
import Derived.Test.YtfacbdliegemgaaDoorDrawL
import Derived.Test.YtfacbdliegemgaaDoorListsLaw
import Derived.Test.YtfacbdliegemgaaDoorLike
import Derived.Test.YtfacbdliegemgaaDoorBig
namespace Go.Proofs.YtfacbdliegemgaaDoor.fnLists
open Go.ChangeShapes Go.WideShapes Go.ChangeAt Go.RowKit
set_option linter.unusedVariables false
set_option maxRecDepth 100000 in
set_option maxHeartbeats 4000000 in
theorem walk (A : Option Addr) (n c : Nat) (bs : List UInt8) (w : World) (hx : Bytes w A n c bs) (hm : MaxCell w) (he : ErrCells w) (ht : PowTab w) : Calls Tryd.prog 6 #[.slice A n c] w fun e w' => e = .returned (.bool true) ∧ Below w.heap.size w w' := by
  go_enter Tryd.func6, Tryd.ntmps6
  go_wp2_with fail
  refine (big_any A n c w).mono ?_
  rintro e_ w0 ⟨rfl, h0⟩
  by_cases hbig : 4096 < n
  · have hb2 : (4096 : Int) < n := by omega
    go_wp2
    go_ret
    exact ⟨rfl, h0⟩
  · have hb2 : ¬ (4096 : Int) < n := by omega
    go_wp2_with fail
    refine (DrawListText_any A n c bs _ (hx.below h0)).mono ?_
    rintro e_ w1 ⟨v1, xs, rfl, hl1, o1, h1⟩
    obtain ⟨A1, c1, rfl, x1⟩ := own_ints_ o1
    have B1 := Lib.hid (next h0 h1)
    have hlm : xs.length ≤ 1048576 := by omega
    clear o1 h1 h0
    go_wp2_with fail
    refine (ListText_impl A1 _ c1 xs _ x1 (ht.below B1.out)).mono ?_
    rintro e_ w2 ⟨rfl, h2⟩
    have B2 := Lib.hid (next B1.out h2)
    have x2 := x1.below h2
    clear x1 h2 B1
    go_wp2_with fail
    refine (ListText_spec A1 _ c1 xs _ x2).mono ?_
    rintro e_ w3 ⟨rfl, h3⟩
    have B3 := Lib.hid (next B2.out h3)
    have x3 := x2.below h3
    clear x2 h3 B2
    go_wp2_with fail
    refine (DrawReadList_any A n c bs _ (hx.below B3.out)).mono ?_
    rintro e_ w4 ⟨s, rfl, hs, h4⟩
    have B4 := Lib.hid (next B3.out h4)
    have x4 := x3.below h4
    have hs1 : s.size ≤ 1048576 := by omega
    clear x3 h4 B3 hx
    go_wp2_with fail
    refine (ReadList_impl s _ hs1 (hm.below B4.out) (he.below B4.out) (ht.below B4.out)).mono ?_
    rintro e_ w5 ⟨v5, rfl, o5, h5⟩
    obtain ⟨A5, c5, rfl, y5⟩ := own_ints_ o5
    have B5 := Lib.hid (next B4.out h5)
    have x5 := x4.below h5
    clear x4 h5 B4 o5
    go_wp2_with fail
    refine (ReadList_spec s _ hs1).mono ?_
    rintro e_ w6 ⟨v6, rfl, o6, h6⟩
    obtain ⟨A6, c6, rfl, z6⟩ := own_ints_ o6
    have B6 := Lib.hid (next B5.out h6)
    have x6 := x5.below h6
    have y6 := y5.below h6
    clear x5 y5 h6 B5 o6
    have kc1 : (ltCode xs != ltCode xs) = false := by simp
    have kc2 : ((ltText xs).toList == (ltText xs).toList) = true := by simp
    have kc3 : (rlCode s != rlCode s) = false := by simp
    have kc4 : (s.toList == s.toList) = true := by simp
    have hth := Lib.hid (lists_there (xs := xs))
    have hbk := Lib.hid (lists_back (s := s))
    have hrc := rl_codes s
    have hlc := lt_codes xs
    have hz := lt_size xs
    go_wp2_with fail
    refine (isb (likeInts_any A5 A6 _ c5 _ c6 (rlList s) (rlList s) _ y6 z6) (decide_eq_true rfl)).mono ?_
    rintro e_ w7 ⟨rfl, h7⟩
    have B7 := Lib.hid (next B6.out h7)
    have x7 := x6.below h7
    have y7 := y6.below h7
    clear x6 y6 z6 h7 B6
    by_cases hr : rlCode s = 0
    · obtain ⟨q1, q2⟩ := hbk.out hr
      have hr2 : (rlCode s == 0) = true := by rw [hr]; rfl
      have hr3 : (rlCode s != 0) = false := by rw [hr]; rfl
      have hLT := fun W h1 h2 => ListText_impl A5 (rlList s).length c5 (rlList s) W h1 h2
      rw [q1, q2] at hLT
      generalize rlList s = ys at *
      go_wp2_with fail
      refine (hLT _ y7 (ht.below B7.out)).mono ?_
      rintro e_ w8 ⟨rfl, h8⟩
      have B8 := Lib.hid (next B7.out h8)
      have x8 := x7.below h8
      clear h8 x7 y7 B7
      by_cases hl : ltCode xs = 0
      · obtain ⟨p1, p2⟩ := hth.out hl
        have hl2 : (ltCode xs == 0) = true := by rw [hl]; rfl
        have hl3 : (ltCode xs != 0) = false := by rw [hl]; rfl
        have hRL := fun W h1 h2 h3 => ReadList_impl (ltText xs) W (by omega) h1 h2 h3
        rw [p1, p2] at hRL
        go_wp2_with fail
        refine (hRL _ (hm.below B8.out) (he.below B8.out) (ht.below B8.out)).mono ?_
        rintro e_ w9 ⟨v9, rfl, o9, h9⟩
        obtain ⟨A9, c9, rfl, y9⟩ := own_ints_ o9
        have B9 := Lib.hid (next B8.out h9)
        have x9 := x8.below h9
        go_wp2_with fail
        refine (isb (likeInts_any A9 A1 _ c9 _ c1 xs xs _ y9 x9) (decide_eq_true rfl)).mono ?_
        rintro e_ w10 ⟨rfl, h10⟩
        go_wp2
        go_ret
        exact ⟨rfl, next B9.out h10⟩
      · have hl3 : (ltCode xs != 0) = true := by simpa using hl
        go_wp2
        go_ret
        exact ⟨rfl, B8.out⟩
    · have hr2 : (rlCode s == 0) = false := by simpa using hr
      by_cases hl : ltCode xs = 0
      · obtain ⟨p1, p2⟩ := hth.out hl
        have hl2 : (ltCode xs == 0) = true := by rw [hl]; rfl
        have hl3 : (ltCode xs != 0) = false := by rw [hl]; rfl
        have hRL := fun W h1 h2 h3 => ReadList_impl (ltText xs) W (by omega) h1 h2 h3
        rw [p1, p2] at hRL
        go_wp2_with fail
        refine (hRL _ (hm.below B7.out) (he.below B7.out) (ht.below B7.out)).mono ?_
        rintro e_ w9 ⟨v9, rfl, o9, h9⟩
        obtain ⟨A9, c9, rfl, y9⟩ := own_ints_ o9
        have B9 := Lib.hid (next B7.out h9)
        have x9 := x7.below h9
        go_wp2_with fail
        refine (isb (likeInts_any A9 A1 _ c9 _ c1 xs xs _ y9 x9) (decide_eq_true rfl)).mono ?_
        rintro e_ w10 ⟨rfl, h10⟩
        go_wp2
        go_ret
        exact ⟨rfl, next B9.out h10⟩
      · have hl3 : (ltCode xs != 0) = true := by simpa using hl
        go_wp2
        go_ret
        exact ⟨rfl, B7.out⟩
end Go.Proofs.YtfacbdliegemgaaDoor.fnLists
