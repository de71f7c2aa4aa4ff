/- Walk of the law FnRuleTexts. -/
import Derived.Test.YtfacbdliegemgaaGreatDoorDrawR2
import Derived.Test.YtfacbdliegemgaaGreatDoorRxLaw
import Derived.Test.YtfacbdliegemgaaGreatDoorReadR2
import Derived.Test.YtfacbdliegemgaaGreatDoorLike
import Derived.Test.YtfacbdliegemgaaGreatDoorBig
namespace Go.Proofs.YtfacbdliegemgaaGreatDoor
open Go.ChangeShapes Go.WideShapes Go.ChangeAt Go.RowKit
set_option maxHeartbeats 1000000 in
theorem likeRule_any (A B : Option Addr) (n c d : Nat) (xs : List Int) (r : ByteArray) (w : World) (hx : Ints w A n c xs) (hy : Ints w B n d xs) :
    Calls Tryz.prog 11 #[.agg #[.slice A n c, .string r], .agg #[.slice B n d, .string r]] w fun e w' => e = .returned (.bool true) ∧ Below w.heap.size w w' := by
  have cq : (r.toList == r.toList) = true := by simp
  have HB := two_boxes w (.cells #[.slice A n c, .string r] 26) (.cells #[.slice B n d, .string r] 26)
  have x1 := hx.below HB
  have y1 := hy.below HB
  go_enter Tryz.func11, Tryz.ntmps11
  go_wp2_with fail
  refine (isb (likeInts_any A B n c n d xs xs _ x1 y1) (decide_eq_true rfl)).mono ?_
  rintro e_ w1 ⟨rfl, h1⟩
  go_wp2
  go_ret
  exact ⟨rfl, next HB h1⟩
end Go.Proofs.YtfacbdliegemgaaGreatDoor
namespace Go.Proofs.YtfacbdliegemgaaGreatDoor.fnRuleTexts
open Go.ChangeShapes Go.WideShapes Go.ChangeAt Go.RowKit
set_option linter.unusedVariables false
set_option maxRecDepth 100000 in
set_option maxHeartbeats 4000000 in
theorem walk (A : Option Addr) (n c : Nat) (bs : List UInt8) (w : World) (hx : Bytes w A n c bs) (hm : MaxCell w) (he : ErrCells w) (ht : PowTab w) : Calls Tryz.prog 3 #[.slice A n c] w fun e w' => e = .returned (.bool true) ∧ Below w.heap.size w w' := by
  go_enter Tryz.func3, Tryz.ntmps3
  go_wp2_with fail
  refine (big_any A n c w).mono ?_
  rintro e_ w0 ⟨rfl, h0⟩
  by_cases hbig : 4096 < n
  · have hb2 : (4096 : Int) < n := by omega
    go_wp2
    go_ret
    exact ⟨rfl, h0⟩
  · have hb2 : ¬ (4096 : Int) < n := by omega
    go_wp2_with fail
    refine (DrawRuleText_any A n c bs _ (hx.below h0)).mono ?_
    rintro e_ w1 ⟨v1, xs, r, rfl, hr1, o1, h1⟩
    obtain ⟨A1, c1, rfl, x1⟩ := own_ints_ o1
    have mr : r.size ≤ maxLen := by unfold maxLen; omega
    have BB := box1 w1 (.cells #[.slice A1 xs.length c1, .string r] 26)
    have X1 := box2_new w1 (.slice A1 xs.length c1) (.string r) 26
    have B1 := Lib.hid (next (next h0 h1) BB)
    replace x1 := x1.below BB
    clear h1 h0 o1 BB
    go_wp2_with fail
    refine (RuleText_impl A1 xs.length c1 xs r _ x1 mr (ht.below B1.out)).mono ?_
    rintro e_ w2 ⟨rfl, h2⟩
    have B2 := Lib.hid (next B1.out h2)
    have X2 := X1.below h2
    have x2 := x1.below h2
    have hc_w2 := X2.c0
    have hd_w2 := X2.c1
    clear h2 B1 X1 x1
    go_wp2_with fail
    refine (RuleText_spec A1 xs.length c1 xs r _ x2 mr).mono ?_
    rintro e_ w3 ⟨rfl, h3⟩
    have B3 := Lib.hid (next B2.out h3)
    have X3 := X2.below h3
    have x3 := x2.below h3
    clear h3 B2 X2 hc_w2 hd_w2 x2
    go_wp2_with fail
    refine (DrawReadRule_any A n c bs _ (hx.below B3.out)).mono ?_
    rintro e_ w4 ⟨s, rfl, hs, h4⟩
    have B4 := Lib.hid (next B3.out h4)
    have X4 := X3.below h4
    have x4 := x3.below h4
    have hs1 : s.size ≤ 1048576 := by omega
    clear h4 B3 X3 hx x3
    have hth := Lib.hid (rx_there (xs := xs) (r := r))
    have hbk := Lib.hid (rx_back (s := s))
    have hrc := Lib.hid (rr_codes s)
    have hlc := Lib.hid (rx_code (xs, r))
    have hz := rx_size (xs, r)
    have hsz := rr_size s
    have HRI := fun W h1 h2 h3 => ReadRule_impl (rxText (xs, r)) W (by omega) h1 h2 h3
    have HYI := fun W h1 h2 h3 => ReadRule_impl s W hs1 h1 h2 h3
    have HYS := fun W => ReadRule_spec s W hs1
    have k1 : (rxCode (xs, r) != rxCode (xs, r)) = false := by simp
    have k2 : ((rxText (xs, r)).toList == (rxText (xs, r)).toList) = true := by simp
    have k3 : (rrCode s != rrCode s) = false := by simp
    have k4 : (s.toList == s.toList) = true := by simp
    obtain ⟨ys, yr, hyr⟩ : ∃ ys yr, rrRule s = (ys, yr) := ⟨_, _, rfl⟩
    rw [hyr] at hbk hsz
    have e1 : (rrRule s).1 = ys := by rw [hyr]
    have e2 : (rrRule s).2 = yr := by rw [hyr]
    rw [e1, e2] at HYI HYS
    clear hyr e1 e2
    have myr : yr.size ≤ maxLen := by have h4 : yr.size ≤ 4 := hsz.1; unfold maxLen; omega
    go_wp2_with fail
    refine (HYI _ (hm.below B4.out) (he.below B4.out) (ht.below B4.out)).mono ?_
    rintro e_ w5 ⟨v5, rfl, o5, h5⟩
    obtain ⟨A5, c5, rfl, y5⟩ := own_ints_ o5
    have BB := box1 w5 (.cells #[.slice A5 ys.length c5, .string yr] 26)
    have Y5 := box2_new w5 (.slice A5 ys.length c5) (.string yr) 26
    have B5 := Lib.hid (next (next B4.out h5) BB)
    have X5 := (X4.below h5).below BB
    have x5 := (x4.below h5).below BB
    replace y5 := y5.below BB
    clear h5 B4 X4 x4 o5 BB
    go_wp2_with fail
    refine (HYS _).mono ?_
    rintro e_ w6 ⟨v6, rfl, o6, h6⟩
    obtain ⟨A6, c6, rfl, z6⟩ := own_ints_ o6
    have BB := Lib.hid (box1 w6 (.cells #[.slice A6 ys.length c6, .string yr] 26))
    have Z6 := box2_new w6 (.slice A6 ys.length c6) (.string yr) 26
    have B6 := Lib.hid (next (next B5.out h6) BB.out)
    have X6 := Lib.hid ((X5.below h6).below BB.out)
    have Y6 := (Y5.below h6).below BB.out
    have x6 := (x5.below h6).below BB.out
    have y6 := (y5.below h6).below BB.out
    replace z6 := z6.below BB.out
    have HY := Lib.hid Y6
    clear h6 B5 X5 x5 y5 o6 BB Y5
    obtain ⟨y0, y1, yf0, yf1, yl⟩ := Y6
    obtain ⟨z0, z1, zf0, zf1, zl⟩ := Z6
    go_wp2_with fail
    refine (likeRule_any A5 A6 ys.length c5 c6 ys yr _ y6 z6).mono ?_
    rintro e_ w7 ⟨rfl, h7⟩
    have B7 := Lib.hid (next B6.out h7)
    have HX := Lib.hid (X6.out.below h7)
    have x7 := x6.below h7
    have y7 := y6.below h7
    replace HY := Lib.hid (HY.out.below h7)
    have X7 := HX.out
    obtain ⟨g0, g1, gf0, gf1, gl⟩ := X7
    clear h7 B6 X6 x6 y6 z6 y0 y1 yf0 yf1 yl z0 z1 zf0 zf1 zl
    rcases hlc.out with ⟨l1, l2⟩ | ⟨l1, l2⟩
    · have hl2 : (rxCode (xs, r) == 0) = true := by rw [l1]; rfl
      have hl3 : (rxCode (xs, r) != 0) = false := by rw [l1]; rfl
      obtain ⟨p1, p2⟩ := hth.out l1
      have p3 : (rrRule (rxText (xs, r))).1 = xs := by rw [p2]
      have p4 : (rrRule (rxText (xs, r))).2 = r := by rw [p2]
      rw [p1, p3, p4] at HRI
      go_wp2_with fail
      refine (isb (IsRule_impl A1 xs.length c1 xs r _ x7 mr) l2).mono ?_
      rintro e_ w8 ⟨rfl, h8⟩
      have B8 := Lib.hid (next B7.out h8)
      replace HX := Lib.hid (HX.out.below h8)
      replace HY := Lib.hid (HY.out.below h8)
      have x8 := x7.below h8
      have y8 := y7.below h8
      clear h8 B7 x7 y7 g0 g1 gf0 gf1 gl
      rcases hrc.out with r1 | r1
      · obtain ⟨s1, s2⟩ := hbk.out r1
        have hr2 : (rrCode s == 0) = true := by rw [r1]; rfl
        have HST := fun W h1 h2 => RuleText_impl A5 ys.length c5 ys yr W h1 myr h2
        rw [s1, s2] at HST
        obtain ⟨y0, y1, yf0, yf1, yl⟩ := HY.out
        go_wp2_with fail
        refine (HST _ y8 (ht.below B8.out)).mono ?_
        rintro e_ w9 ⟨rfl, h9⟩
        have B9 := Lib.hid (next B8.out h9)
        replace HX := Lib.hid (HX.out.below h9)
        have x9 := x8.below h9
        clear h9 B8 x8 y8 y0 y1 yf0 yf1 yl HY
        go_wp2_with fail
        refine (HRI _ (hm.below B9.out) (he.below B9.out) (ht.below B9.out)).mono ?_
        rintro e_ w10 ⟨v10, rfl, o10, h10⟩
        obtain ⟨A10, c10, rfl, z10⟩ := own_ints_ o10
        have BB := box1 w10 (.cells #[.slice A10 xs.length c10, .string r] 26)
        have B10 := Lib.hid (next (next B9.out h10) BB)
        have q1 := z10.below BB
        have q2 := (x9.below h10).below BB
        obtain ⟨g0, g1, gf0, gf1, gl⟩ := HX.out.below h10
        clear o10 z10 h10 B9 x9
        go_wp2_with fail
        refine (likeRule_any A10 A1 xs.length c10 c1 xs r _ q1 q2).mono ?_
        rintro e_ w11 ⟨rfl, h11⟩
        go_wp2
        go_ret
        exact ⟨rfl, next B10.out h11⟩
      · have hr2 : (rrCode s == 0) = false := by rw [r1]; rfl
        go_wp2_with fail
        refine (HRI _ (hm.below B8.out) (he.below B8.out) (ht.below B8.out)).mono ?_
        rintro e_ w10 ⟨v10, rfl, o10, h10⟩
        obtain ⟨A10, c10, rfl, z10⟩ := own_ints_ o10
        have BB := box1 w10 (.cells #[.slice A10 xs.length c10, .string r] 26)
        have B10 := Lib.hid (next (next B8.out h10) BB)
        have q1 := z10.below BB
        have q2 := (x8.below h10).below BB
        obtain ⟨g0, g1, gf0, gf1, gl⟩ := HX.out.below h10
        clear o10 z10 h10 B8 x8 y8
        go_wp2_with fail
        refine (likeRule_any A10 A1 xs.length c10 c1 xs r _ q1 q2).mono ?_
        rintro e_ w11 ⟨rfl, h11⟩
        go_wp2
        go_ret
        exact ⟨rfl, next B10.out h11⟩
    · have hl2 : (rxCode (xs, r) == 0) = false := by rw [l1]; rfl
      have hl3 : (rxCode (xs, r) != 0) = true := by rw [l1]; rfl
      go_wp2_with fail
      refine (isb (IsRule_impl A1 xs.length c1 xs r _ x7 mr) l2).mono ?_
      rintro e_ w8 ⟨rfl, h8⟩
      have B8 := Lib.hid (next B7.out h8)
      replace HY := Lib.hid (HY.out.below h8)
      have y8 := y7.below h8
      clear h8 B7 x7 y7 g0 g1 gf0 gf1 gl HX
      rcases hrc.out with r1 | r1
      · obtain ⟨s1, s2⟩ := hbk.out r1
        have hr2 : (rrCode s == 0) = true := by rw [r1]; rfl
        have HST := fun W h1 h2 => RuleText_impl A5 ys.length c5 ys yr W h1 myr h2
        rw [s1, s2] at HST
        obtain ⟨y0, y1, yf0, yf1, yl⟩ := HY.out
        go_wp2_with fail
        refine (HST _ y8 (ht.below B8.out)).mono ?_
        rintro e_ w9 ⟨rfl, h9⟩
        go_wp2
        go_ret
        exact ⟨rfl, next B8.out h9⟩
      · have hr2 : (rrCode s == 0) = false := by rw [r1]; rfl
        go_wp2
        go_ret
        exact ⟨rfl, B8.out⟩
end Go.Proofs.YtfacbdliegemgaaGreatDoor.fnRuleTexts
