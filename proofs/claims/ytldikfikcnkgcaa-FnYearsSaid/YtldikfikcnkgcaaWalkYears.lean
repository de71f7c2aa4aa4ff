/- Walk of the law FnYears. -/
import Derived.Test.YtldikfikcnkgcaaDrY4
import Derived.Test.YtldikfikcnkgcaaYcLaw
import Derived.Test.YtldikfikcnkgcaaLikeY
import Derived.Test.YtldikfikcnkgcaaBigY
import Derived.Test.YtldikfikcnkgcaaDice
namespace Go.Proofs.Ytldikfikcnkgcaa
open Go.ChangeShapes Go.WideShapes Go.ChangeAt Go.RowKit
theorem mo_law {a b c d : Int} (h : spTwo a b c d = 0) : doMeet a b c d = decide (moCode a b c d = 0) := by
  unfold doMeet moCode
  rw [h]
  cases spMeets a b c d <;> simp
/-- the codes of the two sets: one of them is no set, or both are -/
theorem two_years (xs ys : List Sp) : ((areYears xs = false ∨ areYears ys = false) ∧ Hid (unCode xs ys = 1 ∧ wyCode xs ys = 1 ∧ ((codeYears xs = 1) ∨ (codeYears xs = 0 ∧ codeYears ys = 1)))) ∨
    (areYears xs = true ∧ areYears ys = true ∧ Hid (codeYears xs = 0 ∧ codeYears ys = 0 ∧ unCode xs ys ≠ 1 ∧ wyCode xs ys ≠ 1)) := by
  unfold Hid codeYears unCode wyCode wyOk
  cases areYears xs <;> cases areYears ys <;> simp
  constructor <;> split <;> omega
theorem cnt_bd {xs : List Sp} (h : areYears xs = true) : 0 ≤ countYears xs ∧ countYears xs ≤ 100000 := by
  have hl := (areYears_at h).1
  have := count_bd h xs.length (Nat.le_refl _)
  rw [List.take_length] at this
  omega
/-- what the program's HasYear and CountYears return of a set of years -/
theorem has_set {A : Option Addr} {n c : Nat} {xs : List Sp} {f : Int → Bool} (ha : areYears xs = true) (hf : ∀ y, hasYear xs y = f y) (y : Int) (w : World) (hx : Spans w A n c xs) :
    Calls Try.prog 21 #[.slice A n c, .int .i64 y] w fun e w' => e = .returned (.tuple #[.bool (f y), .int .i64 0]) ∧ Below w.heap.size w w' := by
  have h := HasYear_impl A n c xs y w hx
  have e1 : hasCode xs y = f y := by unfold hasCode; rw [ha, hf y]; rfl
  have e2 : codeYears xs = 0 := by unfold codeYears; rw [ha]; rfl
  rw [e1, e2] at h
  exact h
theorem cnt_set {A : Option Addr} {n c : Nat} {xs : List Sp} {m : Int} (ha : areYears xs = true) (hm : countYears xs = m) (w : World) (hx : Spans w A n c xs) :
    Calls Try.prog 18 #[.slice A n c] w fun e w' => e = .returned (.tuple #[.int .i64 m, .int .i64 0]) ∧ Below w.heap.size w w' := by
  have h := CountYears_impl A n c xs w hx
  have e1 : cntYears xs = m := by unfold cntYears; rw [if_pos ha, hm]
  have e2 : codeYears xs = 0 := by unfold codeYears; rw [ha]; rfl
  rw [e1, e2] at h
  exact h
end Go.Proofs.Ytldikfikcnkgcaa
namespace Go.Proofs.Ytldikfikcnkgcaa.fnYears
open Go.ChangeShapes Go.WideShapes Go.ChangeAt Go.RowKit
set_option linter.unusedVariables false
set_option maxRecDepth 100000 in
set_option maxHeartbeats 4000000 in
theorem walk (A : Option Addr) (n c : Nat) (bs : List UInt8) (w : World) (hx : Bytes w A n c bs) : Calls Try.prog 6 #[.slice A n c] w fun e w' => e = .returned (.bool true) ∧ Below w.heap.size w w' := by
  go_enter Try.func6, Try.ntmps6
  go_wp2_with fail
  refine (big_any A n c w).mono ?_
  rintro e_ w0 ⟨rfl, h0⟩
  by_cases hbig : 4096 < n
  · have hb2 : (4096 : Int) < n := by omega
    go_wp2
    go_ret
    exact ⟨rfl, h0⟩
  · have hb2 : ¬ (4096 : Int) < n := by omega
    go_wp2_with fail
    refine (DrawUnionOf_any A n c bs _ (hx.below h0)).mono ?_
    rintro e_ w1 ⟨g, d, xs, g2, d2, ys, rfl, Y1, Z1, h1⟩
    have B1 := Lib.hid (next h0 h1)
    clear h0 h1
    go_wp2_with fail
    refine (UnionOf_impl _ _ _ _ _ _ xs ys _ Y1.sp Z1.sp ⟨Y1.ad, Z1.ad⟩).mono ?_
    rintro e_ w2 ⟨v, rfl, O2, h2⟩
    obtain ⟨A2, c2, rfl, _⟩ := own_formS O2
    have U2 := own_spans O2 rfl
    have Y2 := Y1.below h2
    have Z2 := Z1.below h2
    have B2 := Lib.hid (next B1.out h2)
    clear O2 Y1 Z1 B1 h2
    go_wp2_with fail
    refine (UnionOf_spec _ _ _ _ _ _ xs ys _ Y2.sp Z2.sp).mono ?_
    rintro e_ w3 ⟨v, rfl, O3, h3⟩
    obtain ⟨A3, c3, rfl, _⟩ := own_formS O3
    have V3 := own_spans O3 rfl
    have U3 := U2.below h3
    have Y3 := Y2.below h3
    have Z3 := Z2.below h3
    have B3 := Lib.hid (next B2.out h3)
    clear O3 U2 Y2 Z2 B2 h3
    go_wp2_with fail
    refine (WithoutYears_impl _ _ _ _ _ _ xs ys _ Y3.sp Z3.sp).mono ?_
    rintro e_ w4 ⟨v, rfl, O4, h4⟩
    obtain ⟨A4, c4, rfl, _⟩ := own_formS O4
    have P4 := own_spans O4 rfl
    have U4 := U3.below h4
    have V4 := V3.below h4
    have Y4 := Y3.below h4
    have Z4 := Z3.below h4
    have B4 := Lib.hid (next B3.out h4)
    clear O4 U3 V3 Y3 Z3 B3 h4
    go_wp2_with fail
    refine (WithoutYears_spec _ _ _ _ _ _ xs ys _ Y4.sp Z4.sp).mono ?_
    rintro e_ w5 ⟨v, rfl, O5, h5⟩
    obtain ⟨A5, c5, rfl, _⟩ := own_formS O5
    have Q5 := own_spans O5 rfl
    have P5 := P4.below h5
    have U5 := U4.below h5
    have V5 := V4.below h5
    have Y5 := Y4.below h5
    have Z5 := Z4.below h5
    have B5 := Lib.hid (next B4.out h5)
    clear O5 P4 U4 V4 Y4 Z4 B4 h5
    go_wp2_with fail
    refine (DrawMeetOf_any A n c bs _ (hx.below B5.out)).mono ?_
    rintro e_ w6 ⟨a, b, a', b', rfl, h6⟩
    have bx := box1 w6 (.cells #[.int .i64 a, .int .i64 b] 42)
    have D6 := box2_new w6 (.int .i64 a) (.int .i64 b) 42
    have by_ := box1 (w6.alloc (.cells #[.int .i64 a, .int .i64 b] 42)) (.cells #[.int .i64 a', .int .i64 b'] 42)
    have E6 := box2_new (w6.alloc (.cells #[.int .i64 a, .int .i64 b] 42)) (.int .i64 a') (.int .i64 b') 42
    have D7 := D6.below by_
    have hs6 : (w6.alloc (.cells #[.int .i64 a, .int .i64 b] 42)).heap.size = w6.heap.size + 1 := by simp
    rw [hs6] at E6
    have hC := Lib.hid (next (next h6 bx) by_)
    have hs7 : ((w6.alloc (.cells #[.int .i64 a, .int .i64 b] 42)).alloc (.cells #[.int .i64 a', .int .i64 b'] 42)).heap.size = w6.heap.size + 2 := by simp
    clear D6 bx by_ h6
    go_wp2_with fail
    generalize (w6.alloc (.cells #[.int .i64 a, .int .i64 b] 42)).alloc (.cells #[.int .i64 a', .int .i64 b'] 42) = W7 at *
    refine (meetOf_impl_ a b a' b' _).mono ?_
    rintro e_ w8 ⟨rfl, h8⟩
    have D8 := D7.below h8
    have E8 := E6.below h8
    have hz8 := h8.size
    have bm := box1 w8 (.cells #[.int .i64 (moFrom a b a' b'), .int .i64 (moTo a b a' b')] 42)
    have F8 := box2_new w8 (.int .i64 (moFrom a b a' b')) (.int .i64 (moTo a b a' b')) 42
    have D9 := D8.below bm
    have E9 := E8.below bm
    have hC9 := Lib.hid (next (next hC.out h8) bm)
    have hz9 : w6.heap.size + 2 ≤ w8.heap.size := by omega
    clear D7 E6 D8 E8 h8 bm hC
    have x0 := D9.c0
    have x1 := D9.c1
    have y0 := E9.c0
    have y1 := E9.c1
    go_wp2_with fail
    clear x0 x1 y0 y1
    generalize w8.alloc (.cells #[.int .i64 (moFrom a b a' b'), .int .i64 (moTo a b a' b')] 42) = W9 at *
    refine (meetOf_spec_ a b a' b' _).mono ?_
    rintro e_ w10 ⟨rfl, h10⟩
    have D10 := D9.below h10
    have E10 := E9.below h10
    have F9 : Box2 W9 w8.heap.size _ _ := F8
    have F10 := F9.below h10
    have hz10 := h10.size
    have bn := box1 w10 (.cells #[.int .i64 (moFrom a b a' b'), .int .i64 (moTo a b a' b')] 42)
    have G10 := box2_new w10 (.int .i64 (moFrom a b a' b')) (.int .i64 (moTo a b a' b')) 42
    have D11 := D10.below bn
    have E11 := E10.below bn
    have F11 := F10.below bn
    have hC11 := Lib.hid (next (next hC9.out h10) bn)
    have hz11 : w6.heap.size + 2 ≤ w10.heap.size := by have := E10.lt; omega
    have hf11 : w8.heap.size < w10.heap.size := F10.lt
    clear D9 E9 F8 F9 D10 E10 F10 h10 bn hC9
    have x0 := D11.c0
    have x1 := D11.c1
    have y0 := E11.c0
    have y1 := E11.c1
    go_wp2_with fail
    clear x0 x1 y0 y1
    generalize w10.alloc (.cells #[.int .i64 (moFrom a b a' b'), .int .i64 (moTo a b a' b')] 42) = W11 at *
    refine (doMeet_impl a b a' b' _).mono ?_
    rintro e_ w12 ⟨rfl, h12⟩
    have D12 := D11.below h12
    have E12 := E11.below h12
    have F12 := F11.below h12
    have G12 := G10.below h12
    have hC12 := Lib.hid (next hC11.out h12)
    clear D11 E11 F11 G10 hC11 h12
    have x0 := D12.c0
    have x1 := D12.c1
    have y0 := E12.c0
    have y1 := E12.c1
    go_wp2_with fail
    clear x0 x1 y0 y1
    refine (doMeet_spec a b a' b' _).mono ?_
    rintro e_ w13 ⟨rfl, h13⟩
    have F13 := F12.below h13
    have G13 := G12.below h13
    have hC13 := next hC12.out h13
    have Q13 := Lib.hid (Q5.below hC13)
    have P13 := Lib.hid (P5.below hC13)
    have U13 := Lib.hid (U5.below hC13)
    have V13 := Lib.hid (V5.below hC13)
    have Y13 := Lib.hid (Y5.below hC13)
    have Z13 := Lib.hid (Z5.below hC13)
    have B13 := Lib.hid (next B5.out hC13)
    clear D12 E12 F12 G12 hC12 hC13 h13 Q5 P5 U5 V5 Y5 Z5 B5
    have k1 : (unCode xs ys != unCode xs ys) = false := by simp
    have k2 : (wyCode xs ys != wyCode xs ys) = false := by simp
    have k3 : (moCode a b a' b' != moCode a b a' b') = false := by simp
    have k4 : (spTwo a b a' b' != spTwo a b a' b') = false := by simp
    have k5 : (doMeet a b a' b' != doMeet a b a' b') = false := by simp
    have k6 : (moFrom a b a' b' == moFrom a b a' b') = true := by simp
    have k7 : (moTo a b a' b' == moTo a b a' b') = true := by simp
    have HM := Lib.hid (mo_law (a := a) (b := b) (c := a') (d := b'))
    have HU := Lib.hid (un_len xs ys)
    have HW := Lib.hid (wy_len xs ys)
    go_wp2_with fail
    refine (likeSpans_same _ _ _ _ _ (unList xs ys) _ U13.out V13.out).mono ?_
    rintro e_ w14 ⟨rfl, h14⟩
    have P14 := Lib.hid (P13.out.below h14)
    have Q14 := Lib.hid (Q13.out.below h14)
    have F14 := F13.below h14
    have G14 := G13.below h14
    have Y14 := Lib.hid (Y13.out.below h14)
    have Z14 := Lib.hid (Z13.out.below h14)
    have U14 := Lib.hid (U13.out.below h14)
    have B14 := Lib.hid (next B13.out h14)
    clear P13 Q13 F13 G13 V13 Y13 Z13 U13 B13 h14
    go_wp2_with fail
    refine (likeSpans_same _ _ _ _ _ (wyList xs ys) _ P14.out Q14.out).mono ?_
    rintro e_ w15 ⟨rfl, h15⟩
    have P15 := Lib.hid (P14.out.below h15)
    have Y15 := Lib.hid (Y14.out.below h15)
    have Z15 := Lib.hid (Z14.out.below h15)
    have U15 := Lib.hid (U14.out.below h15)
    have B15 := Lib.hid (next B14.out h15)
    have F15 := F14.below h15
    have G15 := G14.below h15
    have f0 := F15.c0
    have f1 := F15.c1
    have g0 := G15.c0
    have g1 := G15.c1
    clear P14 Q14 F14 G14 Y14 Z14 U14 B14 F15 G15 h15
    go_wp2_with fail
    clear f0 f1 g0 g1
    refine (areYears_impl _ _ _ xs _ Y15.out.sp).mono ?_
    rintro e_ w16 ⟨rfl, h16⟩
    go_wp2_with fail
    refine (areYears_spec _ _ _ xs _ (Y15.out.sp.below h16)).mono ?_
    rintro e_ w17 ⟨rfl, h17⟩
    have h18 := next h16 h17
    have P16 := Lib.hid (P15.out.below h18)
    have Y16 := Lib.hid (Y15.out.below h18)
    have Z16 := Lib.hid (Z15.out.below h18)
    have U16 := Lib.hid (U15.out.below h18)
    have B16 := Lib.hid (next B15.out h18)
    have k8 : (areYears xs != areYears xs) = false := by simp
    clear P15 Y15 Z15 U15 B15 h16 h17 h18
    have HT := Lib.hid (two_years xs ys)
    generalize areYears xs = ay at k8 ⊢
    generalize spTwo a b a' b' = st at *
    generalize doMeet a b a' b' = dm at *
    generalize moCode a b a' b' = mc at *
    generalize moFrom a b a' b' = mf at *
    generalize moTo a b a' b' = mt at *
    have hst : ((st == 0) = true ∧ dm = (mc == 0)) ∨ (st == 0) = false := by
      by_cases h : st = 0
      · left
        refine ⟨by simp [h], ?_⟩
        rw [HM.out h]
        by_cases h2 : mc = 0
        · simp [h2]
        · simp [h2]
      · right
        simpa using h
    clear HM
    rcases hst with ⟨hst, rfl⟩ | hst
    all_goals
      go_wp2_with fail
      refine (roll_any A n c bs 201 _ (hx.below B16.out)).mono ?_
      rintro e_ w20 ⟨rfl, D20, h20⟩
      have HD := Lib.hid D20
      have HB := Lib.hid h20
      clear D20 h20 k1 k2 k3 k4 k5 k6 k7 k8
      rcases HT.out with ⟨_, hc⟩ | ⟨ha, hb, hc⟩
      · as_aux_lemma =>
          obtain ⟨e1, e2, e3⟩ := hc.out
          have hv := fun y W h => HasYear_impl (some ⟨g, 0, none⟩) xs.length d xs y W h
          have hw := fun y W h => HasYear_impl (some ⟨g2, 0, none⟩) ys.length d2 ys y W h
          rw [e1, e2] at *
          generalize hasCode xs = fa at *
          generalize hasCode ys = fb at *
          generalize hca : codeYears xs = ca at *
          generalize hcb : codeYears ys = cb at *
          clear hca hcb hc HT
          go_wp2
          go_loopw [24] (fun i wr => ∃ k : Nat, k ≤ 6 ∧ i = .int .i64 k ∧ Hid (Dice wr w17.heap.size) ∧ Hid (Below w17.heap.size w17 wr)) (fun i _ => 6 - (intOf i).toNat)
          case atStart => exact ⟨0, by omega, rfl, HD, HB⟩
          case round =>
            clear HD HB
            obtain ⟨k, hk, rfl, hD, hB⟩ := hrel
            by_cases hlt : k < 6
            · have hj : (k : Int) < 6 := by omega
              go_wp2_with fail
              refine (below_any _ 500 _ hD.out (by omega) (by omega)).mono ?_
              rintro e_ w21 ⟨r, rfl, r0, r1, D21, g21⟩
              have B21 := below_srcP hB.out g21 rfl
              have er : IntKind.i64.wrap (1000 + r) = 1000 + r := IntWalk.i64_in _ (by omega)
              go_wp2_with fail
              refine (hv _ _ (Y16.out.below B21).sp).mono ?_
              rintro e_ w22 ⟨rfl, h22⟩
              have B22 := next B21 h22
              go_wp2_with fail
              refine (hw _ _ (Z16.out.below B22).sp).mono ?_
              rintro e_ w23 ⟨rfl, h23⟩
              have B23 := Lib.hid (next B16.out (next B22 h23))
              clear hv hw
              generalize fa (1000 + r) = p1
              generalize fb (1000 + r) = p2
              clear D21 g21 B21 h22 B22 h23 hB hD
              rcases e3 with rfl | ⟨rfl, rfl⟩
              · go_wp2
                go_ret
                exact ⟨rfl, B23.out⟩
              · go_wp2
                go_ret
                exact ⟨rfl, B23.out⟩
            · obtain rfl : k = 6 := by omega
              have B23 := Lib.hid (next B16.out hB.out)
              clear hv hw
              go_wp2
              go_ret
              exact ⟨rfl, B23.out⟩
      · obtain ⟨_, _, hu1, hw1⟩ := hc.out
        have hv := fun y W h => has_set (A := some ⟨g, 0, none⟩) (n := xs.length) (c := d) ha (fun _ => rfl) y W h
        have hw := fun y W h => has_set (A := some ⟨g2, 0, none⟩) (n := ys.length) (c := d2) hb (fun _ => rfl) y W h
        have HUN := Lib.hid (fun (h : unCode xs ys = 0) y W hs => has_set (A := A2) (n := (unList xs ys).length) (c := c2) (yr_union h).2.2.1 (yr_union h).2.2.2 y W hs)
        have HWI := Lib.hid (fun (h : wyCode xs ys = 0) y W hs => has_set (A := A4) (n := (wyList xs ys).length) (c := c4) (yr_without h).2.2.1 (yr_without h).2.2.2 y W hs)
        have HCU := Lib.hid (fun (h : unCode xs ys = 0) (h2 : wyCode xs ys = 0) W hs => cnt_set (A := A2) (n := (unList xs ys).length) (c := c2) (yr_union h).2.2.1 (yr_law h h2) W hs)
        have HCW := Lib.hid (fun (h : wyCode xs ys = 0) W hs => cnt_set (A := A4) (n := (wyList xs ys).length) (c := c4) (yr_without h).2.2.1 rfl W hs)
        have HCB := Lib.hid (fun W hs => cnt_set (A := some ⟨g2, 0, none⟩) (n := ys.length) (c := d2) hb rfl W hs)
        have HB1 := Lib.hid (fun (h : wyCode xs ys = 0) => cnt_bd (yr_without h).2.2.1)
        have HB2 := Lib.hid (cnt_bd hb)
        clear hc HT
        by_cases hu0 : unCode xs ys = 0 <;> by_cases hw0 : wyCode xs ys = 0
        · as_aux_lemma =>
            have HU0 := Lib.hid hu0
            have HW0 := Lib.hid hw0
            have bu : (unCode xs ys == 0) = true := by simpa using hu0
            have nu : (unCode xs ys != 0) = false := by simpa using hu0
            have bw : (wyCode xs ys == 0) = true := by simpa using hw0
            have nw : (wyCode xs ys != 0) = false := by simpa using hw0
            have hun := HUN.out
            have hwi := HWI.out
            have hcu := HCU.out
            have hcw := HCW.out
            have hcb := HCB.out
            have hb1 := HB1.out
            have hb2 := HB2.out
            generalize hasYear xs = fa at *
            generalize hasYear ys = fb at *
            generalize countYears ys = m2 at *
            generalize countYears (wyList xs ys) = m1 at *
            generalize unList xs ys = lu at *
            generalize wyList xs ys = lw at *
            have HX1 := Lib.hid hun
            have HX2 := Lib.hid hwi
            have HX3 := Lib.hid hcu
            have HX4 := Lib.hid hcw
            have HX5 := Lib.hid hcb
            have HX6 := Lib.hid hb1
            have HX7 := Lib.hid hb2
            generalize unCode xs ys = qu at *
            generalize wyCode xs ys = qw at *
            clear hun hwi hcu hcw hcb hb1 hb2 HUN HWI HCU HCW HCB HB1 HB2 hu0 hw0 hu1 hw1 ha hb
            go_wp2
            go_loopw [24] (fun i wr => ∃ k : Nat, k ≤ 6 ∧ i = .int .i64 k ∧ Hid (Dice wr w17.heap.size) ∧ Hid (Below w17.heap.size w17 wr)) (fun i _ => 6 - (intOf i).toNat)
            case atStart => exact ⟨0, by omega, rfl, HD, HB⟩
            case round =>
              clear HD HB
              obtain ⟨k, hk, rfl, hD, hB⟩ := hrel
              by_cases hlt : k < 6
              · have hj : (k : Int) < 6 := by omega
                have ek : IntKind.i64.wrap ((k : Int) + 1) = ((k + 1 : Nat) : Int) := by rw [IntWalk.i64_in _ (by omega)]; omega
                go_wp2_with fail
                refine (below_any _ 500 _ hD.out (by omega) (by omega)).mono ?_
                rintro e_ w21 ⟨r, rfl, r0, r1, D21, g21⟩
                have B21 := below_srcP hB.out g21 rfl
                have er : IntKind.i64.wrap (1000 + r) = 1000 + r := IntWalk.i64_in _ (by omega)
                go_wp2_with fail
                refine (hv _ _ (Y16.out.below B21).sp).mono ?_
                rintro e_ w22 ⟨rfl, h22⟩
                have B22 := next B21 h22
                have D22 := D21.below h22
                go_wp2_with fail
                refine (hw _ _ (Z16.out.below B22).sp).mono ?_
                rintro e_ w23 ⟨rfl, h23⟩
                have B23 := next B22 h23
                have D23 := D22.below h23
                clear D21 g21 B21 h22 B22 h23 hB hD D22
                have hun1 := fun W hs => HX1.out HU0.out (1000 + r) W hs
                have hwi1 := fun W hs => HX2.out HW0.out (1000 + r) W hs
                generalize fa (1000 + r) = p1 at *
                generalize fb (1000 + r) = p2 at *
                cases p1 <;> cases p2
                all_goals
                  go_wp2_with fail
                  refine (hun1 _ (U16.out.below B23)).mono ?_
                  rintro e_ w24 ⟨rfl, h24⟩
                  have B24 := next B23 h24
                  have D24 := D23.below h24
                  go_wp2_with fail
                  refine (hwi1 _ (P16.out.below B24)).mono ?_
                  rintro e_ w25 ⟨rfl, h25⟩
                  have B25 := next B24 h25
                  have D25 := D24.below h25
                  go_wp2
                  have HD := Lib.hid D25
                  have HB := Lib.hid B25
                  go_roundw
                  case rel => exact ⟨k + 1, by omega, by first | rfl | go_num, HD, HB⟩
                  case measure => simp [intOf]; omega
              · obtain rfl : k = 6 := by omega
                go_wp2_with fail
                refine (HX3.out HU0.out HW0.out _ (U16.out.below hB.out)).mono ?_
                rintro e_ w24 ⟨rfl, h24⟩
                have B24 := next hB.out h24
                go_wp2_with fail
                refine (HX4.out HW0.out _ (P16.out.below B24)).mono ?_
                rintro e_ w25 ⟨rfl, h25⟩
                have B25 := next B24 h25
                go_wp2_with fail
                refine (HX5.out _ (Z16.out.below B25).sp).mono ?_
                rintro e_ w26 ⟨rfl, h26⟩
                have B26 := Lib.hid (next B16.out (next B25 h26))
                have hb1 := HX6.out HW0.out
                have hb2 := HX7.out
                have ew : IntKind.i64.wrap (m1 + m2) = m1 + m2 := IntWalk.i64_in _ (by omega)
                have eq : (m1 + m2 == m1 + m2) = true := by simp
                go_wp2
                go_ret
                exact ⟨rfl, B26.out⟩
        · as_aux_lemma =>
            have HU0 := Lib.hid hu0
            have HW0 := Lib.hid hw0
            have bu : (unCode xs ys == 0) = true := by simpa using hu0
            have nu : (unCode xs ys != 0) = false := by simpa using hu0
            have bw : (wyCode xs ys == 0) = false := by simpa using hw0
            have nw : (wyCode xs ys != 0) = true := by simpa using hw0
            have hun := HUN.out
            have hwi := HWI.out
            have hcu := HCU.out
            have hcw := HCW.out
            have hcb := HCB.out
            have hb1 := HB1.out
            have hb2 := HB2.out
            generalize hasYear xs = fa at *
            generalize hasYear ys = fb at *
            generalize countYears ys = m2 at *
            generalize countYears (wyList xs ys) = m1 at *
            generalize unList xs ys = lu at *
            generalize wyList xs ys = lw at *
            have HX1 := Lib.hid hun
            have HX2 := Lib.hid hwi
            have HX3 := Lib.hid hcu
            have HX4 := Lib.hid hcw
            have HX5 := Lib.hid hcb
            have HX6 := Lib.hid hb1
            have HX7 := Lib.hid hb2
            generalize unCode xs ys = qu at *
            generalize wyCode xs ys = qw at *
            clear hun hwi hcu hcw hcb hb1 hb2 HUN HWI HCU HCW HCB HB1 HB2 hu0 hw0 hu1 hw1 ha hb
            go_wp2
            go_loopw [24] (fun i wr => ∃ k : Nat, k ≤ 6 ∧ i = .int .i64 k ∧ Hid (Dice wr w17.heap.size) ∧ Hid (Below w17.heap.size w17 wr)) (fun i _ => 6 - (intOf i).toNat)
            case atStart => exact ⟨0, by omega, rfl, HD, HB⟩
            case round =>
              clear HD HB
              obtain ⟨k, hk, rfl, hD, hB⟩ := hrel
              by_cases hlt : k < 6
              · have hj : (k : Int) < 6 := by omega
                have ek : IntKind.i64.wrap ((k : Int) + 1) = ((k + 1 : Nat) : Int) := by rw [IntWalk.i64_in _ (by omega)]; omega
                go_wp2_with fail
                refine (below_any _ 500 _ hD.out (by omega) (by omega)).mono ?_
                rintro e_ w21 ⟨r, rfl, r0, r1, D21, g21⟩
                have B21 := below_srcP hB.out g21 rfl
                have er : IntKind.i64.wrap (1000 + r) = 1000 + r := IntWalk.i64_in _ (by omega)
                go_wp2_with fail
                refine (hv _ _ (Y16.out.below B21).sp).mono ?_
                rintro e_ w22 ⟨rfl, h22⟩
                have B22 := next B21 h22
                have D22 := D21.below h22
                go_wp2_with fail
                refine (hw _ _ (Z16.out.below B22).sp).mono ?_
                rintro e_ w23 ⟨rfl, h23⟩
                have B23 := next B22 h23
                have D23 := D22.below h23
                clear D21 g21 B21 h22 B22 h23 hB hD D22
                have hun1 := fun W hs => HX1.out HU0.out (1000 + r) W hs
                generalize fa (1000 + r) = p1 at *
                generalize fb (1000 + r) = p2 at *
                cases p1 <;> cases p2
                all_goals
                  go_wp2_with fail
                  refine (hun1 _ (U16.out.below B23)).mono ?_
                  rintro e_ w24 ⟨rfl, h24⟩
                  have B24 := next B23 h24
                  have D24 := D23.below h24
                  go_wp2_with fail
                  have HD := Lib.hid D24
                  have HB := Lib.hid B24
                  go_roundw
                  case rel => exact ⟨k + 1, by omega, by first | rfl | go_num, HD, HB⟩
                  case measure => simp [intOf]; omega
              · obtain rfl : k = 6 := by omega
                have B24 := Lib.hid (next B16.out hB.out)
                go_wp2
                go_ret
                exact ⟨rfl, B24.out⟩
        · as_aux_lemma =>
            have HU0 := Lib.hid hu0
            have HW0 := Lib.hid hw0
            have bu : (unCode xs ys == 0) = false := by simpa using hu0
            have nu : (unCode xs ys != 0) = true := by simpa using hu0
            have bw : (wyCode xs ys == 0) = true := by simpa using hw0
            have nw : (wyCode xs ys != 0) = false := by simpa using hw0
            have hun := HUN.out
            have hwi := HWI.out
            have hcu := HCU.out
            have hcw := HCW.out
            have hcb := HCB.out
            have hb1 := HB1.out
            have hb2 := HB2.out
            generalize hasYear xs = fa at *
            generalize hasYear ys = fb at *
            generalize countYears ys = m2 at *
            generalize countYears (wyList xs ys) = m1 at *
            generalize unList xs ys = lu at *
            generalize wyList xs ys = lw at *
            have HX1 := Lib.hid hun
            have HX2 := Lib.hid hwi
            have HX3 := Lib.hid hcu
            have HX4 := Lib.hid hcw
            have HX5 := Lib.hid hcb
            have HX6 := Lib.hid hb1
            have HX7 := Lib.hid hb2
            generalize unCode xs ys = qu at *
            generalize wyCode xs ys = qw at *
            clear hun hwi hcu hcw hcb hb1 hb2 HUN HWI HCU HCW HCB HB1 HB2 hu0 hw0 hu1 hw1 ha hb
            go_wp2
            go_loopw [24] (fun i wr => ∃ k : Nat, k ≤ 6 ∧ i = .int .i64 k ∧ Hid (Dice wr w17.heap.size) ∧ Hid (Below w17.heap.size w17 wr)) (fun i _ => 6 - (intOf i).toNat)
            case atStart => exact ⟨0, by omega, rfl, HD, HB⟩
            case round =>
              clear HD HB
              obtain ⟨k, hk, rfl, hD, hB⟩ := hrel
              by_cases hlt : k < 6
              · have hj : (k : Int) < 6 := by omega
                have ek : IntKind.i64.wrap ((k : Int) + 1) = ((k + 1 : Nat) : Int) := by rw [IntWalk.i64_in _ (by omega)]; omega
                go_wp2_with fail
                refine (below_any _ 500 _ hD.out (by omega) (by omega)).mono ?_
                rintro e_ w21 ⟨r, rfl, r0, r1, D21, g21⟩
                have B21 := below_srcP hB.out g21 rfl
                have er : IntKind.i64.wrap (1000 + r) = 1000 + r := IntWalk.i64_in _ (by omega)
                go_wp2_with fail
                refine (hv _ _ (Y16.out.below B21).sp).mono ?_
                rintro e_ w22 ⟨rfl, h22⟩
                have B22 := next B21 h22
                have D22 := D21.below h22
                go_wp2_with fail
                refine (hw _ _ (Z16.out.below B22).sp).mono ?_
                rintro e_ w23 ⟨rfl, h23⟩
                have B23 := next B22 h23
                have D23 := D22.below h23
                clear D21 g21 B21 h22 B22 h23 hB hD D22
                have hwi1 := fun W hs => HX2.out HW0.out (1000 + r) W hs
                generalize fa (1000 + r) = p1 at *
                generalize fb (1000 + r) = p2 at *
                cases p1 <;> cases p2
                all_goals
                  go_wp2_with fail
                  refine (hwi1 _ (P16.out.below B23)).mono ?_
                  rintro e_ w25 ⟨rfl, h25⟩
                  have B25 := next B23 h25
                  have D25 := D23.below h25
                  go_wp2
                  have HD := Lib.hid D25
                  have HB := Lib.hid B25
                  go_roundw
                  case rel => exact ⟨k + 1, by omega, by first | rfl | go_num, HD, HB⟩
                  case measure => simp [intOf]; omega
              · obtain rfl : k = 6 := by omega
                have B24 := Lib.hid (next B16.out hB.out)
                go_wp2
                go_ret
                exact ⟨rfl, B24.out⟩
        · as_aux_lemma =>
            have HU0 := Lib.hid hu0
            have HW0 := Lib.hid hw0
            have bu : (unCode xs ys == 0) = false := by simpa using hu0
            have nu : (unCode xs ys != 0) = true := by simpa using hu0
            have bw : (wyCode xs ys == 0) = false := by simpa using hw0
            have nw : (wyCode xs ys != 0) = true := by simpa using hw0
            have hun := HUN.out
            have hwi := HWI.out
            have hcu := HCU.out
            have hcw := HCW.out
            have hcb := HCB.out
            have hb1 := HB1.out
            have hb2 := HB2.out
            generalize hasYear xs = fa at *
            generalize hasYear ys = fb at *
            generalize countYears ys = m2 at *
            generalize countYears (wyList xs ys) = m1 at *
            generalize unList xs ys = lu at *
            generalize wyList xs ys = lw at *
            have HX1 := Lib.hid hun
            have HX2 := Lib.hid hwi
            have HX3 := Lib.hid hcu
            have HX4 := Lib.hid hcw
            have HX5 := Lib.hid hcb
            have HX6 := Lib.hid hb1
            have HX7 := Lib.hid hb2
            generalize unCode xs ys = qu at *
            generalize wyCode xs ys = qw at *
            clear hun hwi hcu hcw hcb hb1 hb2 HUN HWI HCU HCW HCB HB1 HB2 hu0 hw0 hu1 hw1 ha hb
            go_wp2
            go_loopw [24] (fun i wr => ∃ k : Nat, k ≤ 6 ∧ i = .int .i64 k ∧ Hid (Dice wr w17.heap.size) ∧ Hid (Below w17.heap.size w17 wr)) (fun i _ => 6 - (intOf i).toNat)
            case atStart => exact ⟨0, by omega, rfl, HD, HB⟩
            case round =>
              clear HD HB
              obtain ⟨k, hk, rfl, hD, hB⟩ := hrel
              by_cases hlt : k < 6
              · have hj : (k : Int) < 6 := by omega
                have ek : IntKind.i64.wrap ((k : Int) + 1) = ((k + 1 : Nat) : Int) := by rw [IntWalk.i64_in _ (by omega)]; omega
                go_wp2_with fail
                refine (below_any _ 500 _ hD.out (by omega) (by omega)).mono ?_
                rintro e_ w21 ⟨r, rfl, r0, r1, D21, g21⟩
                have B21 := below_srcP hB.out g21 rfl
                have er : IntKind.i64.wrap (1000 + r) = 1000 + r := IntWalk.i64_in _ (by omega)
                go_wp2_with fail
                refine (hv _ _ (Y16.out.below B21).sp).mono ?_
                rintro e_ w22 ⟨rfl, h22⟩
                have B22 := next B21 h22
                have D22 := D21.below h22
                go_wp2_with fail
                refine (hw _ _ (Z16.out.below B22).sp).mono ?_
                rintro e_ w23 ⟨rfl, h23⟩
                have B23 := next B22 h23
                have D23 := D22.below h23
                clear D21 g21 B21 h22 B22 h23 hB hD D22
                generalize fa (1000 + r) = p1 at *
                generalize fb (1000 + r) = p2 at *
                cases p1 <;> cases p2
                all_goals
                  go_wp2_with fail
                  have HD := Lib.hid D23
                  have HB := Lib.hid B23
                  go_roundw
                  case rel => exact ⟨k + 1, by omega, by first | rfl | go_num, HD, HB⟩
                  case measure => simp [intOf]; omega
              · obtain rfl : k = 6 := by omega
                have B24 := Lib.hid (next B16.out hB.out)
                go_wp2
                go_ret
                exact ⟨rfl, B24.out⟩
end Go.Proofs.Ytldikfikcnkgcaa.fnYears
