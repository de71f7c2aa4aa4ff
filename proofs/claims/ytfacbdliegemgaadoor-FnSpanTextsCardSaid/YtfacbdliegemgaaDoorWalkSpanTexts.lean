/- Walk of the law FnSpanTexts. -/
import Derived.Test.YtfacbdliegemgaaDoorDrawS
import Derived.Test.YtfacbdliegemgaaDoorSpansLaw
import Derived.Test.YtfacbdliegemgaaDoorReadS3
import Derived.Test.YtfacbdliegemgaaDoorBig
namespace Go.Proofs.YtfacbdliegemgaaDoor.fnSpanTexts
open Go.ChangeShapes Go.WideShapes Go.ChangeAt Go.RowKit
set_option linter.unusedVariables false
set_option maxRecDepth 100000 in
set_option maxHeartbeats 4000000 in
theorem walk (A : Option Addr) (n c : Nat) (bs : List UInt8) (w : World) (hx : Bytes w A n c bs) (hm : MaxCell w) (he : ErrCells w) (ht : PowTab w) : Calls Tryd.prog 7 #[.slice A n c] w fun e w' => e = .returned (.bool true) ∧ Below w.heap.size w w' := by
  go_enter Tryd.func7, Tryd.ntmps7
  go_wp2_with fail
  refine (big_any A n c w).mono ?_
  rintro e_ w0 ⟨rfl, h0⟩
  by_cases hbig : 4096 < n
  · have hb2 : (4096 : Int) < n := by omega
    go_wp2
    go_ret
    exact ⟨rfl, h0⟩
  · have hb2 : ¬ (4096 : Int) < n := by omega
    go_wp2_with fail
    refine (DrawSpanText_any A n c bs _ (hx.below h0)).mono ?_
    rintro e_ w1 ⟨a, b, rfl, h1⟩
    have X1 := box2_new w1 (.int .i64 a) (.int .i64 b) 35
    have B1 := Lib.hid (next (next h0 h1) (box1 w1 (.cells #[.int .i64 a, .int .i64 b] 35)))
    clear h1 h0
    go_wp2_with fail
    refine (SpanText_impl a b _ (ht.below B1.out)).mono ?_
    rintro e_ w2 ⟨rfl, h2⟩
    have B2 := Lib.hid (next B1.out h2)
    have X2 := X1.below h2
    have hc_w2 := X2.c0
    have hd_w2 := X2.c1
    clear h2 B1 X1
    go_wp2_with fail
    refine (SpanText_spec a b _).mono ?_
    rintro e_ w3 ⟨rfl, h3⟩
    have B3 := Lib.hid (next B2.out h3)
    have X3 := X2.below h3
    clear h3 B2 X2 hc_w2 hd_w2
    go_wp2_with fail
    refine (DrawReadSpan_any A n c bs _ (hx.below B3.out)).mono ?_
    rintro e_ w4 ⟨s, rfl, hs, h4⟩
    have B4 := Lib.hid (next B3.out h4)
    have X4 := X3.below h4
    have hs1 : s.size ≤ 1048576 := by omega
    clear h4 B3 X3 hx
    go_wp2_with fail
    refine (ReadSpan_impl s _ hs1 (hm.below B4.out) (he.below B4.out) (ht.below B4.out)).mono ?_
    rintro e_ w5 ⟨rfl, h5⟩
    have X5 := X4.below h5
    have Y5 := box2_new w5 (.int .i64 (rsSpan s).1) (.int .i64 (rsSpan s).2) 35
    have HB := box1 w5 (.cells #[.int .i64 (rsSpan s).1, .int .i64 (rsSpan s).2] 35)
    have B5 := Lib.hid (next (next B4.out h5) HB)
    have X5b := X5.below HB
    clear h5 B4 X4 X5 HB
    go_wp2_with fail
    refine (ReadSpan_spec s _ hs1).mono ?_
    rintro e_ w6 ⟨rfl, h6⟩
    have X6 := X5b.below h6
    have Y6 := Y5.below h6
    have B6 := Lib.hid (next B5.out h6)
    clear h6 B5 X5b Y5
    have hth := Lib.hid (spans_there (a := a) (b := b))
    have hbk := Lib.hid (spans_back (s := s))
    have hrc := Lib.hid (show rsCode s = 0 ∨ rsCode s = 6 by unfold rsCode; split <;> simp)
    have hlc := Lib.hid (st_code a b)
    have hz := st_size a b
    have HRI := fun W h1 h2 h3 => ReadSpan_impl (stText a b) W (by omega) h1 h2 h3
    have k1 : (stCode a b != stCode a b) = false := by simp
    have k2 : ((stText a b).toList == (stText a b).toList) = true := by simp
    have k3 : (rsCode s != rsCode s) = false := by simp
    have k4 : (s.toList == s.toList) = true := by simp
    have hsp := Lib.hid (show rsSpan s = ((rsSpan s).1, (rsSpan s).2) from rfl)
    generalize (rsSpan s).1 = ya at *
    generalize (rsSpan s).2 = yb at *
    have HX := Lib.hid X6
    have HY := Lib.hid Y6
    have BR := box1 w6 (.cells #[.int .i64 ya, .int .i64 yb] 35)
    obtain ⟨x0, x1, xf0, xf1, xl⟩ := X6
    obtain ⟨y0, y1, yf0, yf1, yl⟩ := Y6
    have q1 : (ya == ya) = true := by simp
    have q2 : (yb == yb) = true := by simp
    have q3 : (a == a) = true := by simp
    have q4 : (b == b) = true := by simp
    rcases hlc.out with ⟨l1, l2⟩ | ⟨l1, l2⟩
    · have hl2 : (stCode a b == 0) = true := by rw [l1]; rfl
      have hl3 : (stCode a b != 0) = false := by rw [l1]; rfl
      obtain ⟨p1, p2⟩ := hth.out l1
      rw [p1, p2] at HRI
      go_wp2_with fail
      refine (isb (isSpn_impl a b _) l2).mono ?_
      rintro e_ w7 ⟨rfl, h7⟩
      have B7 := Lib.hid (next B6.out (BR.trans (h7.mono (by simp))))
      have X7 := (HX.out.below BR).below h7
      have Y7 := (HY.out.below BR).below h7
      clear h7 BR B6 HX HY x0 x1 xf0 xf1 xl y0 y1 yf0 yf1 yl
      rcases hrc.out with r1 | r1
      · obtain ⟨s1, s2⟩ := hbk.out r1
        have hr2 : (rsCode s == 0) = true := by rw [r1]; rfl
        have HST := fun W h => SpanText_impl ya yb W h
        rw [s1, s2] at HST
        obtain ⟨y0, y1, yf0, yf1, yl⟩ := Y7
        go_wp2_with fail
        refine (HST _ (ht.below B7.out)).mono ?_
        rintro e_ w8 ⟨rfl, h8⟩
        have B8 := Lib.hid (next B7.out h8)
        have X8 := X7.below h8
        clear h8 B7 X7 y0 y1 yf0 yf1 yl
        go_wp2_with fail
        refine (HRI _ (hm.below B8.out) (he.below B8.out) (ht.below B8.out)).mono ?_
        rintro e_ w9 ⟨rfl, h9⟩
        have B9 := Lib.hid (next B8.out h9)
        obtain ⟨x0, x1, xf0, xf1, xl⟩ := X8.below h9
        go_wp2
        go_ret
        exact ⟨rfl, next B9.out (box1 _ _)⟩
      · have hr2 : (rsCode s == 0) = false := by rw [r1]; rfl
        go_wp2_with fail
        refine (HRI _ (hm.below B7.out) (he.below B7.out) (ht.below B7.out)).mono ?_
        rintro e_ w9 ⟨rfl, h9⟩
        have B9 := Lib.hid (next B7.out h9)
        obtain ⟨x0, x1, xf0, xf1, xl⟩ := X7.below h9
        go_wp2
        go_ret
        exact ⟨rfl, next B9.out (box1 _ _)⟩
    · have hl2 : (stCode a b == 0) = false := by rw [l1]; rfl
      have hl3 : (stCode a b != 0) = true := by rw [l1]; rfl
      go_wp2_with fail
      refine (isb (isSpn_impl a b _) l2).mono ?_
      rintro e_ w7 ⟨rfl, h7⟩
      have B7 := Lib.hid (next B6.out (BR.trans (h7.mono (by simp))))
      have Y7 := (HY.out.below BR).below h7
      clear h7 BR B6 HX HY x0 x1 xf0 xf1 xl y0 y1 yf0 yf1 yl
      rcases hrc.out with r1 | r1
      · obtain ⟨s1, s2⟩ := hbk.out r1
        have hr2 : (rsCode s == 0) = true := by rw [r1]; rfl
        have HST := fun W h => SpanText_impl ya yb W h
        rw [s1, s2] at HST
        obtain ⟨y0, y1, yf0, yf1, yl⟩ := Y7
        go_wp2_with fail
        refine (HST _ (ht.below B7.out)).mono ?_
        rintro e_ w8 ⟨rfl, h8⟩
        have B8 := Lib.hid (next B7.out h8)
        go_wp2
        go_ret
        exact ⟨rfl, B8.out⟩
      · have hr2 : (rsCode s == 0) = false := by rw [r1]; rfl
        go_wp2
        go_ret
        exact ⟨rfl, B7.out⟩
end Go.Proofs.YtfacbdliegemgaaDoor.fnSpanTexts
