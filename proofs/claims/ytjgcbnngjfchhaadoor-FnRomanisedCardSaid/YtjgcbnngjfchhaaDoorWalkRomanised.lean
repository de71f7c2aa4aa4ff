/- Walk of the law FnRomanised. -/
import Derived.Test.YtjgcbnngjfchhaaDoorDrawX
import Derived.Test.YtjgcbnngjfchhaaDoorRomLaw
import Derived.Test.YtjgcbnngjfchhaaDoorAddC
import Derived.Test.YtjgcbnngjfchhaaDoorUseC
import Derived.Test.YtjgcbnngjfchhaaDoorLike
import Derived.Test.YtjgcbnngjfchhaaDoorBig
namespace Go.Proofs.YtjgcbnngjfchhaaDoor
open Go.ChangeShapes Go.WideShapes Go.ChangeAt Go.RowKit
theorem addr_addW (b off j : Nat) : (⟨b, off, none⟩ : Addr).add j = ⟨b, off + j, none⟩ := by simp [Addr.add]
set_option maxHeartbeats 1000000 in
theorem likeRuleR_any (A B : Option Addr) (n c d : Nat) (xs : List Int) (r : ByteArray) (w : World) (hx : Ints w A n c xs) (hy : Ints w B n d xs) :
    Calls Tryd.prog 57 #[.agg #[.slice A n c, .string r], .agg #[.slice B n d, .string r]] w fun e w' => e = .returned (.bool true) ∧ Below w.heap.size w w' := by
  have cq : (r.toList == r.toList) = true := by simp
  have HB := ((Below.refl _ w).alloc (Nat.le_refl _) (.cells #[.slice A n c, .string r] 39)).alloc (by simp) (.cells #[.slice B n d, .string r] 39)
  have x1 := hx.below HB
  have y1 := hy.below HB
  go_enter Tryd.func57, Tryd.ntmps57
  go_wp2_with fail
  refine (isb (likeInts_any A B n c n d xs xs _ x1 y1) (decide_eq_true rfl)).mono ?_
  rintro e_ w1 ⟨rfl, h1⟩
  go_wp2
  go_ret
  exact ⟨rfl, next HB h1⟩
set_option maxRecDepth 100000 in
set_option maxHeartbeats 2000000 in
theorem likeRules_same (A B : Option Addr) (n c d : Nat) (T : List Rl) (w : World) (hx : Rules w A n c T) (hy : Rules w B n d T) :
    Calls Tryd.prog 33 #[.slice A n c, .slice B n d] w fun e w' => e = .returned (.bool true) ∧ Below w.heap.size w w' := by
  have hcm := hx.cap.2
  have hnc := hx.cap.1
  unfold maxLen at hcm
  go_enter Tryd.func33, Tryd.ntmps33
  go_wp2
  go_loopw [5] (fun i wr => ∃ k : Nat, k ≤ n ∧ i = .int .i64 k ∧ Below w.heap.size w wr) (fun i _ => n - (intOf i).toNat)
  case atStart => exact ⟨0, Nat.zero_le _, rfl, Below.refl _ _⟩
  case round =>
    obtain ⟨k, hk, rfl, hb⟩ := hrel
    by_cases hlt : k < n
    · obtain ⟨b, off, rfl, hbl⟩ := hx.at_ k hlt
      obtain ⟨b', off', rfl, hbl'⟩ := hy.at_ k hlt
      obtain ⟨B1, m1, d1, xs, r, hT, c0, c1, z1, _⟩ := hx.el hb k hlt
      obtain ⟨B2, m2, d2, xs', r', hT', c0', c1', z2, _⟩ := hy.el hb k hlt
      have e := Option.some.inj (hT.out.symm.trans hT'.out)
      injection e with e1 e2
      subst e1; subst e2
      have em : m1 = m2 := z1.1.trans z2.1.symm
      subst em
      have hbw : b < wr.heap.size := Nat.lt_of_lt_of_le hbl hb.size
      have hbw' : b' < wr.heap.size := Nat.lt_of_lt_of_le hbl' hb.size
      have hk0 : (0 : Int) ≤ (k : Int) := Int.natCast_nonneg _
      have hk1 : (k : Int) < (n : Int) := by omega
      go_wp2_with fail
      refine wp_region_later (by kernel_rfl) (by kernel_rfl) ?_
      repeat (go_big_quiet_step ((go_at_call 57; exact Calls.later (likeRuleR_any B1 B2 m1 d1 d2 xs r _ (z1.below (after_below _)) (z2.below (after_below _))))))
      refine wpQuiet_nil ?_
      intro w2 hw2; have h2 := later_below hw2; clear hw2
      go_wp2
      go_roundw
      case rel => exact ⟨k + 1, by omega, by go_num, next hb h2⟩
      case measure => simp [intOf]; omega
    · go_wp2
      go_ret
      exact ⟨rfl, hb⟩
theorem OwnRules.formR {w : World} {base top n : Nat} {v : Value} {T : List Rl} (h : OwnRules w base top v n T) : ∃ A c, v = .slice A n c := by
  obtain ⟨vs, h⟩ := h
  rcases h.row.2 with ⟨hv, h0⟩ | ⟨g, cap, cur, hv, _⟩
  · exact ⟨none, 0, by rw [hv, h0]⟩
  · exact ⟨_, _, hv⟩
theorem sc_beq (T : List Rl) : (scCode T == 0) = isTab T := by
  unfold scCode
  cases isTab T <;> rfl
/-- a sum of an added table romanises its own rule -/
theorem own_roman {A B : Option Addr} {n c m d : Nat} {T : List Rl} {xs : List Int} {r : ByteArray} (h : arCode T xs r = 0) (w : World) (hx : Rules w A n c (arList T xs r)) (hy : Ints w B m d xs) :
    Calls Tryd.prog 24 #[.slice A n c, .slice B m d] w fun e w' => e = .returned (.tuple #[.string r, .int .i64 0]) ∧ Below w.heap.size w w' := by
  have h1 := Romanise_impl A B n c m d (arList T xs r) xs w hx hy
  obtain ⟨e1, e2⟩ := ar_own h
  rw [e1, e2] at h1
  exact h1
end Go.Proofs.YtjgcbnngjfchhaaDoor
namespace Go.Proofs.YtjgcbnngjfchhaaDoor.fnRomanised
open Go.ChangeShapes Go.WideShapes Go.ChangeAt Go.RowKit
set_option linter.unusedVariables false
set_option maxRecDepth 100000 in
set_option maxHeartbeats 8000000 in
theorem walk (A : Option Addr) (n c : Nat) (bs : List UInt8) (w : World) (hx : Bytes w A n c bs) : Calls Tryd.prog 5 #[.slice A n c] w fun e w' => e = .returned (.bool true) ∧ Below w.heap.size w w' := by
  obtain ⟨i0, hi, hz0, hz1, hz2⟩ := info_parts infoInt
  go_enter Tryd.func5, Tryd.ntmps5
  go_wp2_with fail
  refine (big_any A n c w).mono ?_
  rintro e_ w0 ⟨rfl, h0⟩
  by_cases hbig : 4096 < n
  · have hb2 : (4096 : Int) < n := by omega
    go_wp2
    go_ret
    exact ⟨rfl, h0⟩
  · have hb2 : ¬ (4096 : Int) < n := by omega
    go_wp2_with fail
    refine (DrawRomanise_any A n c bs _ (hx.below h0)).mono ?_
    rintro e_ w1 ⟨b1, o1, m1, d1, T, B1, f1, ss, rfl, hss, T1, J1, h1⟩
    have BB1 := Lib.hid (next h0 h1)
    clear h0 h1
    go_wp2_with fail
    refine (Romanise_impl _ _ _ _ _ _ T ss _ T1.rl J1).mono ?_
    rintro e_ w2 ⟨rfl, h2⟩
    have T2 := T1.below h2
    have J2 := J1.below h2
    go_wp2_with fail
    refine (Romanise_spec _ _ _ _ _ _ T ss _ T2.rl J2).mono ?_
    rintro e_ w3 ⟨rfl, h3⟩
    have T3 := T2.below h3
    have J3 := J2.below h3
    go_wp2_with fail
    refine (RulesUsed_impl _ _ _ _ _ _ T ss _ T3.rl J3).mono ?_
    rintro e_ w4 ⟨v, rfl, O4, h4⟩
    obtain ⟨A4, c4, rfl, U4⟩ := own_ints_ O4
    have T4 := T3.below h4
    have J4 := J3.below h4
    have BB4 := Lib.hid (next (next (next BB1.out h2) h3) h4)
    clear O4 T1 T2 T3 J1 J2 J3 h2 h3 h4 BB1
    go_wp2_with fail
    refine (RulesUsed_spec _ _ _ _ _ _ T ss _ T4.rl J4).mono ?_
    rintro e_ w5 ⟨v, rfl, O5, h5⟩
    obtain ⟨A5, c5, rfl, V5⟩ := own_ints_ O5
    have T5 := T4.below h5
    have J5 := J4.below h5
    have U5 := U4.below h5
    have BB5 := Lib.hid (next BB4.out h5)
    clear O5 T4 J4 U4 h5 BB4
    go_wp2_with fail
    refine (DrawSignsCovered_any A n c bs _ (hx.below BB5.out)).mono ?_
    rintro e_ w6 ⟨b6, o6, m6, d6, S, rfl, S6, h6⟩
    go_wp2_with fail
    refine (SignsCovered_impl _ _ _ S _ S6.rl).mono ?_
    rintro e_ w7 ⟨v, rfl, O7, h7⟩
    obtain ⟨A7, c7, rfl, C7⟩ := own_ints_ O7
    have S7 := S6.below h7
    clear O7 S6
    go_wp2_with fail
    refine (SignsCovered_spec _ _ _ S _ S7.rl).mono ?_
    rintro e_ w8 ⟨v, rfl, O8, h8⟩
    obtain ⟨A8, c8, rfl, D8⟩ := own_ints_ O8
    have S8 := S7.below h8
    have C8 := C7.below h8
    clear O8 S7 C7
    go_wp2_with fail
    refine (UselessRules_impl _ _ _ S _ S8.rl).mono ?_
    rintro e_ w9 ⟨v, rfl, O9, h9⟩
    obtain ⟨A9, c9, rfl, L9⟩ := own_ints_ O9
    have S9 := S8.below h9
    have C9 := C8.below h9
    have D9 := D8.below h9
    clear O9 S8 C8 D8
    go_wp2_with fail
    refine (UselessRules_spec _ _ _ S _ S9.rl).mono ?_
    rintro e_ w10 ⟨v, rfl, O10, h10⟩
    obtain ⟨A10, c10, rfl, M10⟩ := own_ints_ O10
    have h510 := next (next (next (next h6 h7) h8) h9) h10
    have BB10 := Lib.hid (next BB5.out h510)
    have S10 := S9.below h10
    have C10 := C9.below h10
    have D10 := D9.below h10
    have L10 := L9.below h10
    have T10 := T5.below h510
    have J10 := J5.below h510
    have U10 := U5.below h510
    have V10 := V5.below h510
    clear O10 S9 C9 D9 L9 T5 J5 U5 V5 h6 h7 h8 h9 h10 h510 BB5
    go_wp2_with fail
    refine (DrawAddRule_any A n c bs _ (hx.below BB10.out)).mono ?_
    rintro e_ w11 ⟨b11, o11, m11, d11, Y, B11, f11, rs, x, rfl, hxs, Y11, I11, h11⟩
    have bx := box1 w11 (.cells #[.slice B11 rs.length f11, .string x] 39)
    have X11 := box2_new w11 (.slice B11 rs.length f11) (.string x) 39
    have Y12 := Y11.below bx
    have I12 := I11.below bx
    have x0 := X11.c0
    have x1 := X11.c1
    have h12 := next h11 bx
    have BB12 := Lib.hid (next BB10.out h12)
    have mr : x.size ≤ maxLen := by unfold maxLen; omega
    go_wp2_with fail
    clear x0 x1
    generalize w11.alloc (.cells #[.slice B11 rs.length f11, .string x] 39) = W12 at *
    refine (AddRule_impl _ _ _ _ _ _ Y rs x _ Y12.rl I12 mr).mono ?_
    rintro e_ w13 ⟨v, rfl, O13, h13⟩
    obtain ⟨A13, c13, rfl⟩ := O13.formR
    have E13 := O13.reads
    have Y13 := Y12.below h13
    have I13 := I12.below h13
    have X13 := X11.below h13
    have x0 := X13.c0
    have x1 := X13.c1
    clear O13
    go_wp2_with fail
    clear x0 x1
    refine (AddRule_spec _ _ _ _ _ _ _ Y rs x _ Y13.rl I13 mr).mono ?_
    rintro e_ w14 ⟨v, rfl, O14, h14⟩
    obtain ⟨A14, c14, rfl⟩ := O14.formR
    have F14 := O14.reads
    have h1214 := next h13 h14
    have h1014 := next h12 h1214
    have BB := Lib.hid (next BB12.out h1214)
    have HT := Lib.hid (T10.below h1014)
    have HJ := Lib.hid (J10.below h1014)
    have HU := Lib.hid (U10.below h1014)
    have HV := Lib.hid (V10.below h1014)
    have HS := Lib.hid (S10.below h1014)
    have HC := Lib.hid (C10.below h1014)
    have HD := Lib.hid (D10.below h1014)
    have HL := Lib.hid (L10.below h1014)
    have HM := Lib.hid (M10.below h1014)
    have HI := Lib.hid (I13.below h14)
    have HE := Lib.hid (E13.below h14)
    have HF := Lib.hid F14
    have HX := Lib.hid (X13.below h14)
    clear O14 T10 J10 U10 V10 S10 C10 D10 L10 M10 I13 E13 F14 X13 Y13 Y12 I12 X11 h12 h13 h14 h1214 h1014 BB10 BB12 h11 bx Y11 I11 hx
    have k1 : (ruCode T ss != ruCode T ss) = false := by simp
    have k2 : ((roman T (ruList T ss)).toList == (roman T (ruList T ss)).toList) = true := by simp
    have k3 : (scCode S != scCode S) = false := by simp
    have k4 : (arCode Y rs x != arCode Y rs x) = false := by simp
    have k5 : (scCode S == 0) = isTab S := sc_beq S
    have hli := fun (A B : Option Addr) (n c d : Nat) (xs : List Int) W hx hy => isb (likeInts_any A B n c n d xs xs W hx hy) (decide_eq_true rfl)
    go_wp2_with fail
    refine (hli _ _ _ _ _ (ruList T ss) _ HU.out HV.out).mono ?_
    rintro e_ w15 ⟨rfl, h15⟩
    go_wp2_with fail
    refine (hli _ _ _ _ _ (scList S) _ (HC.out.below h15) (HD.out.below h15)).mono ?_
    rintro e_ w16 ⟨rfl, h16⟩
    have g16 := next h15 h16
    go_wp2_with fail
    refine (hli _ _ _ _ _ (urList S) _ (HL.out.below g16) (HM.out.below g16)).mono ?_
    rintro e_ w17 ⟨rfl, h17⟩
    have g17 := next g16 h17
    go_wp2_with fail
    refine (likeRules_same _ _ _ _ _ (arList Y rs x) _ (HE.out.below g17) (HF.out.below g17)).mono ?_
    rintro e_ w18 ⟨rfl, h18⟩
    have g18 := next g17 h18
    go_wp2_with fail
    refine (IsTable_impl _ _ _ S _ (HS.out.below g18).rl).mono ?_
    rintro e_ w19 ⟨rfl, h19⟩
    have g19 := next g18 h19
    have BB19 := Lib.hid (next BB.out g19)
    have HT9 := Lib.hid (HT.out.below g19)
    have HJ9 := Lib.hid (HJ.out.below g19)
    have HU9 := Lib.hid (HU.out.below g19)
    have HI9 := Lib.hid (HI.out.below g19)
    have HE9 := Lib.hid (HE.out.below g19)
    have HX9 := Lib.hid (HX.out.below g19)
    clear HT HJ HU HV HS HC HD HL HM HI HE HF HX BB hli h15 h16 h17 h18 h19 g16 g17 g18 g19
    have HOR := Lib.hid (fun h W hx hy => own_roman (A := A13) (B := B11) (n := (arList Y rs x).length) (c := c13) (m := rs.length) (d := f11) (T := Y) (xs := rs) (r := x) h W hx hy)
    have HRS := Lib.hid (fun (h : ruCode T ss = 0) => ru_signs h)
    have HRL := Lib.hid (fun (h : ruCode T ss = 0) => ru_code_len h)
    have hrl := ru_len T ss
    generalize arCode Y rs x = q3 at *
    generalize arList Y rs x = D at *
    generalize scCode S = q2 at *
    generalize isTab S = tb at *
    generalize hR : roman T (ruList T ss) = R at *
    generalize ruCode T ss = q1 at *
    generalize ruList T ss = l at *
    have xx : (x.toList == x.toList) = true := by simp
    by_cases hq3 : q3 = 0
    · have HB := HOR.out hq3 _ HE9.out HI9.out
      subst hq3
      have x0 := HX9.out.c0
      have x1 := HX9.out.c1
      have xl := HX9.out.lt
      go_wp2_with fail
      clear x0 x1 xl
      refine HB.mono ?_
      rintro e_ w20 ⟨rfl, h20⟩
      have HX20 := HX9.out.below h20
      have x0 := HX20.c0
      have x1 := HX20.c1
      have xl := HX20.lt
      have HT20 := Lib.hid (HT9.out.below h20)
      have HJ20 := Lib.hid (HJ9.out.below h20)
      have HU20 := Lib.hid (HU9.out.below h20)
      have BB20 := Lib.hid (next BB19.out h20)
      clear HB h20 HX20 HX9 HE9 HI9 HOR HT9 HJ9 HU9 BB19
      by_cases hq1 : q1 = 0
      · as_aux_lemma =>
          obtain ⟨hsg, hin⟩ := HRS.out hq1
          obtain ⟨hs12, htab⟩ := HRL.out hq1
          have HSG := Lib.hid hsg
          have HIN := Lib.hid hin
          have HTB := Lib.hid htab
          have HRR := Lib.hid hR
          obtain ⟨L, hL⟩ : ∃ L, l.length = L := ⟨_, rfl⟩
          have HLL := Lib.hid hL
          have hU := HU20.out
          rw [hL] at hU hrl ⊢
          clear hsg hin htab hR hL HRS HRL
          subst hq1
          go_wp2
          go_loopw [30, 31, 32] (fun tv av i wr => ∃ (k : Nat) (t : ByteArray) (P : List Int), k ≤ L ∧ i = .int .i64 k ∧ tv = .string t ∧ t.size ≤ 10 * k ∧ Hid (t = roman T (l.take k)) ∧ Hid (P = romSigns T (l.take k)) ∧ P.length ≤ 3 * k ∧ Hid (wr.ownsRow w20.heap.size 2 1 av P.length (P.map (Value.int .i64))) ∧ Below w20.heap.size w20 wr) (fun _ _ i _ => L - (intOf i).toNat)
          case atStart => exact ⟨0, ⟨#[]⟩, [], Nat.zero_le _, rfl, rfl, Nat.zero_le _, rfl, rfl, Nat.zero_le _, World.ownsRow_lit (base := w20.heap.size) (e := 2) (size := 1) w20 #[] 0 (Nat.le_refl _) (by unfold maxLen; omega) rfl, box1 _ _⟩
          case round =>
            obtain ⟨k, t, P, hk, rfl, rfl, hts, htt, hP, hPl, hown, hb⟩ := hrel
            have hz3 := hb.size
            by_cases hlt : k < L
            · obtain ⟨b2, off2, rfl, hbl2⟩ := hU.at_ k hlt
              obtain ⟨i, hi2, c0⟩ := hU.el hb hbl2 k hlt
              obtain ⟨q, rfl, hqn⟩ := HIN.out i (List.mem_of_getElem? hi2.out)
              have hqm : q < m1 := by rw [HT20.out.rl.1]; exact hqn
              obtain ⟨b', off', e', hbl⟩ := HT20.out.rl.at_ q hqm
              injection e' with e'
              injection e' with e1 e2
              subst e1; subst e2
              obtain ⟨B', m', d', xs, r, hTq, c1, c2, hz, _⟩ := HT20.out.rl.el hb q hqm
              have hrl2 := (isTab_at HTB.out hTq.out).1
              have hlx := isRl_len hrl2
              have hr4 : r.size ≤ 4 := hlx.2.2
              have HLX := Lib.hid hz.1.symm
              have hm3 : 1 ≤ m' ∧ m' ≤ 3 := by have := hz.1; omega
              obtain ⟨b3, off3, rfl, _⟩ := hz.at_ 0 (by omega)
              have hnews := Lib.hid (ints_news hz (by omega))
              have HPX := Lib.hid (show P ++ xs = romSigns T (l.take (k + 1)) by rw [romSigns_succ hi2.out hTq.out, ← hP.out])
              have HTX := Lib.hid (show t ++ r = roman T (l.take (k + 1)) by rw [roman_succ hi2.out hTq.out, ← htt.out])
              have htr : (t ++ r).size ≤ 10 * (k + 1) := by rw [ByteArray.size_append]; omega
              have hown2 := hown.out
              have hbw : b1 < wr.heap.size := Nat.lt_of_lt_of_le hbl hz3
              have hb2w : b2 < wr.heap.size := Nat.lt_of_lt_of_le hbl2 hz3
              clear hP hz hlx htt hrl2
              go_wp2_with (at_builtin; refine wpList_append_own _ rfl _ _ 24 rfl w20.heap.size 2 i0 (.int .i64 0) 1 8 Tryd.underlying24 hi hz0 hz1 hz2 rfl (by decide) _ _ _ rfl hown2 ⟨b3, off3, none⟩ m' d' (xs.map (Value.int .i64)) rfl ?c1 ?c2 ?c3 ?c4 ?c5 hz3 ?_)
              case c1 => first | (rw [List.length_map, HLX.out]; omega) | (have := HLX.out; omega)
              case c2 => first | exact hnews.out | (intro j a ha; have h := hnews.out j (.int .i64 a) (by simp [ha]); rw [addr_addW] at h; exact h)
              case c3 => first | exact ints_one xs | (intro a ha; rfl)
              case c4 => unfold maxLen; omega
              case c5 => omega
              intro v4 w4 hown4 hgrow hrest
              have HO : Hid (w4.ownsRow w20.heap.size 2 1 v4 (P ++ xs).length ((P ++ xs).map (Value.int .i64))) := by rw [List.length_append, List.map_append, HLX.out]; exact hown4
              have HB : Hid (Below w20.heap.size w20 w4) := hb.grown hgrow (by (try simp); omega) (fun z hz => (hown2.lt z hz).1)
              clear hown4 hgrow hrest
              go_wp2
              go_roundw
              case rel => exact ⟨k + 1, t ++ r, P ++ xs, by omega, by go_num, rfl, htr, HTX, HPX, by rw [List.length_append, HLX.out]; omega, HO, HB.out⟩
              case measure => simp [intOf]; omega
            · have htk : l.take k = l := List.take_of_length_le (by have := HLL.out; omega)
              have HTE := Lib.hid (show t = R by rw [htt.out, htk, HRR.out])
              have HPE : P = ss := by rw [hP.out, htk]; exact HSG.out
              clear htt hP htk
              have HTE2 := HTE.out
              subst HTE2
              subst HPE
              obtain ⟨AP, cP, rfl, XP⟩ := own_ints_ hown.out
              have tt : (t.toList == t.toList) = true := by simp
              have hlk := isb (likeInts_any AP B1 _ cP _ f1 P P _ XP (HJ20.out.below hb)) (decide_eq_true rfl)
              have BE := Lib.hid (next BB20.out hb)
              clear hown XP hb
              go_wp2_with fail
              refine hlk.mono ?_
              rintro e_ w40 ⟨rfl, h40⟩
              have BE2 := Lib.hid (next BE.out h40)
              clear hlk h40 BE
              go_wp2
              go_ret
              exact ⟨rfl, BE2.out⟩
      · have hq11 : (q1 != 0) = true := by simpa using hq1
        go_wp2
        go_ret
        exact ⟨rfl, BB20.out⟩
    · have hq31 : (q3 == 0) = false := by simpa using hq3
      clear HOR HX9 HE9 HI9
      by_cases hq1 : q1 = 0
      · as_aux_lemma =>
          obtain ⟨hsg, hin⟩ := HRS.out hq1
          obtain ⟨hs12, htab⟩ := HRL.out hq1
          have HSG := Lib.hid hsg
          have HIN := Lib.hid hin
          have HTB := Lib.hid htab
          have HRR := Lib.hid hR
          obtain ⟨L, hL⟩ : ∃ L, l.length = L := ⟨_, rfl⟩
          have HLL := Lib.hid hL
          have hU := HU9.out
          rw [hL] at hU hrl ⊢
          clear hsg hin htab hR hL HRS HRL
          subst hq1
          go_wp2
          go_loopw [30, 31, 32] (fun tv av i wr => ∃ (k : Nat) (t : ByteArray) (P : List Int), k ≤ L ∧ i = .int .i64 k ∧ tv = .string t ∧ t.size ≤ 10 * k ∧ Hid (t = roman T (l.take k)) ∧ Hid (P = romSigns T (l.take k)) ∧ P.length ≤ 3 * k ∧ Hid (wr.ownsRow w19.heap.size 2 1 av P.length (P.map (Value.int .i64))) ∧ Below w19.heap.size w19 wr) (fun _ _ i _ => L - (intOf i).toNat)
          case atStart => exact ⟨0, ⟨#[]⟩, [], Nat.zero_le _, rfl, rfl, Nat.zero_le _, rfl, rfl, Nat.zero_le _, World.ownsRow_lit (base := w19.heap.size) (e := 2) (size := 1) w19 #[] 0 (Nat.le_refl _) (by unfold maxLen; omega) rfl, box1 _ _⟩
          case round =>
            obtain ⟨k, t, P, hk, rfl, rfl, hts, htt, hP, hPl, hown, hb⟩ := hrel
            have hz3 := hb.size
            by_cases hlt : k < L
            · obtain ⟨b2, off2, rfl, hbl2⟩ := hU.at_ k hlt
              obtain ⟨i, hi2, c0⟩ := hU.el hb hbl2 k hlt
              obtain ⟨q, rfl, hqn⟩ := HIN.out i (List.mem_of_getElem? hi2.out)
              have hqm : q < m1 := by rw [HT9.out.rl.1]; exact hqn
              obtain ⟨b', off', e', hbl⟩ := HT9.out.rl.at_ q hqm
              injection e' with e'
              injection e' with e1 e2
              subst e1; subst e2
              obtain ⟨B', m', d', xs, r, hTq, c1, c2, hz, _⟩ := HT9.out.rl.el hb q hqm
              have hrl2 := (isTab_at HTB.out hTq.out).1
              have hlx := isRl_len hrl2
              have hr4 : r.size ≤ 4 := hlx.2.2
              have HLX := Lib.hid hz.1.symm
              have hm3 : 1 ≤ m' ∧ m' ≤ 3 := by have := hz.1; omega
              obtain ⟨b3, off3, rfl, _⟩ := hz.at_ 0 (by omega)
              have hnews := Lib.hid (ints_news hz (by omega))
              have HPX := Lib.hid (show P ++ xs = romSigns T (l.take (k + 1)) by rw [romSigns_succ hi2.out hTq.out, ← hP.out])
              have HTX := Lib.hid (show t ++ r = roman T (l.take (k + 1)) by rw [roman_succ hi2.out hTq.out, ← htt.out])
              have htr : (t ++ r).size ≤ 10 * (k + 1) := by rw [ByteArray.size_append]; omega
              have hown2 := hown.out
              have hbw : b1 < wr.heap.size := Nat.lt_of_lt_of_le hbl hz3
              have hb2w : b2 < wr.heap.size := Nat.lt_of_lt_of_le hbl2 hz3
              clear hP hz hlx htt hrl2
              go_wp2_with (at_builtin; refine wpList_append_own _ rfl _ _ 24 rfl w19.heap.size 2 i0 (.int .i64 0) 1 8 Tryd.underlying24 hi hz0 hz1 hz2 rfl (by decide) _ _ _ rfl hown2 ⟨b3, off3, none⟩ m' d' (xs.map (Value.int .i64)) rfl ?e1 ?e2 ?e3 ?e4 ?e5 hz3 ?_)
              case e1 => first | (rw [List.length_map, HLX.out]; omega) | (have := HLX.out; omega)
              case e2 => first | exact hnews.out | (intro j a ha; have h := hnews.out j (.int .i64 a) (by simp [ha]); rw [addr_addW] at h; exact h)
              case e3 => first | exact ints_one xs | (intro a ha; rfl)
              case e4 => unfold maxLen; omega
              case e5 => omega
              intro v4 w4 hown4 hgrow hrest
              have HO : Hid (w4.ownsRow w19.heap.size 2 1 v4 (P ++ xs).length ((P ++ xs).map (Value.int .i64))) := by rw [List.length_append, List.map_append, HLX.out]; exact hown4
              have HB : Hid (Below w19.heap.size w19 w4) := hb.grown hgrow (by (try simp); omega) (fun z hz => (hown2.lt z hz).1)
              clear hown4 hgrow hrest
              go_wp2
              go_roundw
              case rel => exact ⟨k + 1, t ++ r, P ++ xs, by omega, by go_num, rfl, htr, HTX, HPX, by rw [List.length_append, HLX.out]; omega, HO, HB.out⟩
              case measure => simp [intOf]; omega
            · have htk : l.take k = l := List.take_of_length_le (by have := HLL.out; omega)
              have HTE := Lib.hid (show t = R by rw [htt.out, htk, HRR.out])
              have HPE : P = ss := by rw [hP.out, htk]; exact HSG.out
              clear htt hP htk
              have HTE2 := HTE.out
              subst HTE2
              subst HPE
              obtain ⟨AP, cP, rfl, XP⟩ := own_ints_ hown.out
              have tt : (t.toList == t.toList) = true := by simp
              have hlk := isb (likeInts_any AP B1 _ cP _ f1 P P _ XP (HJ9.out.below hb)) (decide_eq_true rfl)
              have BE := Lib.hid (next BB19.out hb)
              clear hown XP hb
              go_wp2_with fail
              refine hlk.mono ?_
              rintro e_ w40 ⟨rfl, h40⟩
              have BE2 := Lib.hid (next BE.out h40)
              clear hlk h40 BE
              go_wp2
              go_ret
              exact ⟨rfl, BE2.out⟩
      · have hq11 : (q1 != 0) = true := by simpa using hq1
        go_wp2
        go_ret
        exact ⟨rfl, BB19.out⟩
end Go.Proofs.YtjgcbnngjfchhaaDoor.fnRomanised
