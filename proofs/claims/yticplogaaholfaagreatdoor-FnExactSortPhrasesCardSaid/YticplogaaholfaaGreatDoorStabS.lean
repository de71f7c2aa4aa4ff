/- slices.SortStableFunc at texts with the program's comparison, for 20 texts at most. -/
import Derived.Test.YticplogaaholfaaGreatDoorIterS
import Derived.Test.YticplogaaholfaaGreatDoorInsLaw
namespace Go.Proofs.YticplogaaholfaaGreatDoor
open Go.ChangeShapes Go.WideShapes Go.ChangeAt Go.RowKit
theorem drop_at_ {xs : List ByteArray} {k : Nat} {x : ByteArray} (h : xs[k]? = some x) : xs.drop k = x :: xs.drop (k + 1) := drop_cons h
set_option maxRecDepth 100000 in
set_option maxHeartbeats 4000000 in
theorem insSort_any (A B : Option Addr) (n c m d g cap q base : Nat) (xs : List ByteArray) (ig : List Int) (ps : List ByteArray) (w0 w : World) (hown : w.ownsRow base 9 1 (.slice (some ⟨g, 0, none⟩) q cap) q (ps.map Value.string))
    (hb0 : Below w0.heap.size w0 w) (hbase : w0.heap.size ≤ base) (hbw : base ≤ w.heap.size) (hx : Strs w0 A n c xs) (hy : Ints w0 B m d ig) (hm : MaxCell w0) (ha : isAlpha xs = true) (hq : q ≤ 20) (hs : ∀ s ∈ ps, s.size ≤ 1048576) (hph : ps.all isPhrase = true) (hsp : ps.all (spAll xs) = true) :
    Calls Tryz.prog 94 #[.slice (some ⟨g, 0, none⟩) q cap, .int .i64 0, .int .i64 q, .func (.func 31) #[.agg #[.slice A n c, .slice B m d]] #[]] w fun e w' => (∃ v, e = .returned v) ∧ w'.ownsRow base 9 1 (.slice (some ⟨g, 0, none⟩) q cap) q ((srt xs ig ps q).map Value.string) ∧ Below base w w' := by
  have hl := hown.1
  rw [List.length_map] at hl
  have hqc : q ≤ cap ∧ cap ≤ maxLen := by
    rcases hown.2 with ⟨h', _⟩ | ⟨g', cap', cur, h', _, _, hnc, hcm, _⟩
    · simp at h'
    · simp only [Value.slice.injEq, Option.some.injEq, Addr.mk.injEq, and_true, true_and] at h'
      obtain ⟨rfl, rfl⟩ := h'
      exact ⟨hnc, hcm⟩
  have hqc1 := hqc.1
  have hqc2 := hqc.2
  unfold maxLen at hqc2
  have HL := Lib.hid (show ps.length = q by omega)
  have HS := Lib.hid hs
  have HPH := Lib.hid (List.all_eq_true.1 hph)
  have HSP := Lib.hid (List.all_eq_true.1 hsp)
  have HC := Lib.hid (fun s t (W : World) h1 h2 h3 e1 e2 e3 e4 e5 e6 => compare_any A B n c m d xs ig s t W h1 h2 ha h3 e1 e2 e3 e4 e5 e6)
  have hgl := hown.lt g rfl
  have HOW := Lib.hid hown
  clear hs hph hsp hl hqc hown
  by_cases hq0 : q = 0
  · have HE := Lib.hid (show (srt xs ig ps q).map Value.string = ps.map Value.string by
      have e := HL.out
      rw [hq0] at e
      rw [List.eq_nil_of_length_eq_zero e, hq0]; rfl)
    have hq1 : ¬ 1 < q := by omega
    clear hq0
    go_enter Tryz.func94, Tryz.ntmps94
    go_wp2
    go_loopw [8] (fun i wr => i = .int .i64 1 ∧ w = wr) (fun _ _ => 0)
    case atStart => exact ⟨rfl, rfl⟩
    case round =>
      obtain ⟨rfl, rfl⟩ := hrel
      go_wp2
      go_end0
      exact ⟨⟨_, rfl⟩, by rw [HE.out]; exact HOW.out, Below.refl _ _⟩
  have hst : srt xs ig ps 1 ++ ps.drop 1 = ps := by
    obtain ⟨x, hx1⟩ : ∃ x, ps[0]? = some x := ⟨_, List.getElem?_eq_getElem (by rw [HL.out]; omega)⟩
    rw [srt_succ hx1]
    have e : insR xs ig x (srt xs ig ps 0) = [x] := rfl
    rw [e]
    have := drop_at_ hx1
    rw [List.drop_zero] at this
    conv => rhs; rw [this]
    rfl
  have HST := Lib.hid hst
  clear hst
  go_enter Tryz.func94, Tryz.ntmps94
  go_wp2
  go_loopw [8] (fun i wr => ∃ k : Nat, 1 ≤ k ∧ k ≤ q ∧ i = .int .i64 k ∧ Hid (wr.ownsRow base 9 1 (.slice (some ⟨g, 0, none⟩) q cap) q ((srt xs ig ps k ++ ps.drop k).map Value.string)) ∧ Hid (Below base w wr)) (fun i _ => q - (intOf i).toNat)
  case atStart => exact ⟨1, Nat.le_refl _, by omega, rfl, by rw [HST.out]; exact HOW.out, Below.refl _ _⟩
  case round =>
    obtain ⟨k, hk1, hk, rfl, hO, hB⟩ := hrel
    rename World => wo
    by_cases hlt : k < q
    · obtain ⟨x, hx1⟩ : ∃ x, ps[k]? = some x := ⟨_, List.getElem?_eq_getElem (by rw [HL.out]; exact hlt)⟩
      have hsl := srt_len xs ig ps k
      have hSm := srt_mem (xs := xs) (ig := ig) (ps := ps) (k := k) (by rw [HL.out]; exact hk)
      have HN := Lib.hid (srt_succ (xs := xs) (ig := ig) hx1)
      have hO2 := hO.out
      rw [drop_at_ hx1] at hO2
      generalize srt xs ig ps k = S at *
      have HSL := Lib.hid hsl
      have HSM := Lib.hid hSm
      have HX1 := Lib.hid (List.mem_of_getElem? hx1)
      have hrl : (ps.drop (k + 1)).length = q - (k + 1) := by rw [List.length_drop, HL.out]
      obtain ⟨R, hR⟩ : ∃ R, ps.drop (k + 1) = R := ⟨_, rfl⟩
      have HRR := Lib.hid hR
      rw [hR] at hrl hO2
      have HDR := Lib.hid (show srt xs ig ps (k + 1) ++ ps.drop (k + 1) = insR xs ig x S ++ R by rw [HN.out, hR])
      clear hR
      have HRL := Lib.hid hrl
      rw [← mid_end, hsl] at hO2
      have HO2 := Lib.hid hO2
      have HBB := Lib.hid hB.out
      clear hsl hSm hx1 hO2 hrl hO hB HN
      go_wp2
      go_loopw [9] (fun jv wr => ∃ j : Nat, j ≤ k ∧ jv = .int .i64 j ∧ Hid (posR (lssB xs ig x) S k = posR (lssB xs ig x) S j) ∧ Hid (wr.ownsRow base 9 1 (.slice (some ⟨g, 0, none⟩) q cap) q ((mid S x j R).map Value.string)) ∧ Hid (Below base w wr)) (fun jv _ => (intOf jv).toNat)
      case atStart => exact ⟨k, Nat.le_refl _, rfl, rfl, HO2.out, HBB.out⟩
      case round =>
        clear HO2 HBB
        obtain ⟨j, hj, rfl, hP, hO, hB⟩ := hrel
        have ho := hO.out
        have hbo := hB.out
        have hw0 : Below w0.heap.size w0 wr := hb0.trans (hbo.mono hbase)
        have hml := mid_len (x := x) (R := R) (show j ≤ S.length by rw [HSL.out]; exact hj)
        by_cases hj0 : 0 < j
        · obtain ⟨i, rfl⟩ : ∃ i, j = i + 1 := ⟨j - 1, by omega⟩
          obtain ⟨y, hy1⟩ : ∃ y, S[i]? = some y := ⟨_, List.getElem?_eq_getElem (by rw [HSL.out]; omega)⟩
          have c0 := ho.cellAt (i + 1) (by simp; omega)
          have c1 := ho.cellAt i (by simp; omega)
          have f0 := ho.frozenAt (i + 1)
          have f1 := ho.frozenAt i
          rw [List.getElem?_map, mid_at (by rw [HSL.out]; exact hj)] at c0
          rw [List.getElem?_map, mid_before (by rw [HSL.out]; omega), hy1] at c1
          replace c0 : wr.cell? ⟨g, i + 1, none⟩ = some (.string x) := c0
          replace c1 : wr.cell? ⟨g, i, none⟩ = some (.string y) := c1
          have hmx := HX1.out
          have hmy := HSM.out y (List.mem_of_getElem? hy1)
          have HCC := Lib.hid (fun W h1 h2 h3 => HC.out x y W h1 h2 h3 (HS.out x hmx) (HS.out y hmy) (HPH.out x hmx) (HPH.out y hmy) (HSP.out x hmx) (HSP.out y hmy))
          have HLS := Lib.hid (show lssB xs ig x (S.getD i ⟨#[]⟩) = decide (cmpP xs ig x y < 0) by unfold lssB; rw [List.getD_eq_getElem?_getD, hy1]; rfl)
          obtain ⟨r, hr⟩ : ∃ r, cmpP xs ig x y = r := ⟨_, rfl⟩
          simp only [hr] at HCC
          rw [hr] at HLS
          have hgw : g < wr.heap.size := World.block_lt_of_cell? wr _ c0
          have e1 : IntKind.i64.wrap (((i + 1 : Nat) : Int) - 1) = (i : Int) := by rw [IntWalk.i64_in _ (by omega)]; omega
          have e2 : ((i + 1 : Nat) : Int) - 1 = (i : Int) := by omega
          have e3 : IntKind.i64.wrap (i : Int) = (i : Int) := IntWalk.i64_in _ (by omega)
          have j7 : (i : Int) + 1 < (q : Int) := by omega
          have j8 : (0 : Int) ≤ (i : Int) + 1 := by omega
          have j9 : ((i : Int) + 1).toNat = i + 1 := by omega
          have j1 : (0 : Int) < ((i + 1 : Nat) : Int) := by omega
          have j2 : (0 : Int) ≤ (i : Int) := by omega
          have j3 : (i : Int) < (q : Int) := by omega
          have j4 : ((i + 1 : Nat) : Int) < (q : Int) := by omega
          have j5 : i < q := by omega
          have j6 : i + 1 < q := by omega
          have xw := hx.below hw0
          have yw := hy.below hw0
          have mw := hm.below hw0
          have HY1 := Lib.hid hy1
          clear hr hy1 hmx hmy
          by_cases h0 : r < 0
          · have HP := Lib.hid (show posR (lssB xs ig x) S k = posR (lssB xs ig x) S i by rw [hP.out]; exact posR_go (by rw [HLS.out]; exact decide_eq_true h0))
            clear hP hO hB
            go_wp2_with fail
            refine wp_region_later (by kernel_rfl) (by kernel_rfl) ?_
            repeat (go_big_quiet_step ((go_at_call 31; exact Calls.later (HCC.out _ (xw.below (after_below _)) (yw.below (after_below _)) (mw.below (after_below _))))))
            refine wpQuiet_nil ?_
            intro w2 hw2; have h2 := later_below hw2; clear hw2
            have c2 := cell_keep h2 c0
            have c3 := cell_keep h2 c1
            have o2 := own_below ho h2
            have f2 := o2.frozenAt (i + 1)
            have f3 := o2.frozenAt i
            have hgw2 : g < w2.heap.size := World.block_lt_of_cell? w2 _ c2
            have s1 := o2.stored (i + 1) (.string y)
            have s2 := s1.1.stored i (.string x)
            have em : (((mid S x (i + 1) R).map Value.string).set (i + 1) (.string y)).set i (.string x) = (mid S x i R).map Value.string := by
              rw [← List.map_set, ← List.map_set, mid_swap HY1.out]
            rw [em] at s2
            have HO3 := Lib.hid (own_below s2.1 (Below.refl _ _).drew)
            have HB3 := Lib.hid (show Below base w ((w2.setCell ⟨g, i + 1, none⟩ (.string y)).setCell ⟨g, i, none⟩ (.string x)).drew from (((hbo.trans (h2.mono (Nat.le_trans hbw hbo.size))).setCell hgl.1 _).setCell hgl.1 _).drew)
            clear s1 s2 em o2 ho hbo hw0 hml h2 c0 c1 f0 f1
            go_wp2_with fail
            go_region_law (fail)
            all_goals
              go_wp2
              go_roundw
              case rel => exact ⟨i, by omega, by first | rfl | (congr 1; omega) | go_num, HP.out, HO3.out, HB3.out⟩
              case measure => first | (simp [intOf]; done) | (simp [intOf]; omega)
          · have HD := Lib.hid (show mid S x (i + 1) R = insR xs ig x S ++ R from mid_done (by rw [HSL.out, hP.out]; exact posR_stay (by rw [HLS.out]; exact decide_eq_false h0)))
            clear hP hO hB
            go_wp2_with fail
            refine wp_region_later (by kernel_rfl) (by kernel_rfl) ?_
            repeat (go_big_quiet_step ((go_at_call 31; exact Calls.later (HCC.out _ (xw.below (after_below _)) (yw.below (after_below _)) (mw.below (after_below _))))))
            refine wpQuiet_nil ?_
            intro w2 hw2; have h2 := later_below hw2; clear hw2
            have o2 := own_below ho h2
            rw [HD.out, ← HDR.out] at o2
            have HO3 := Lib.hid o2
            have HB3 := Lib.hid (show Below base w w2 from hbo.trans (h2.mono (Nat.le_trans hbw hbo.size)))
            clear o2 ho hbo hw0 hml h2 c0 c1 f0 f1 e1 e2 e3
            go_wp2
            go_roundw
            case rel => exact ⟨k + 1, by omega, by omega, by go_num, HO3.out, HB3.out⟩
            case measure => simp [intOf]; omega
        · have hjd : decide ((0 : Int) < (j : Int)) = false := decide_eq_false (by omega)
          have hj9 : ¬ (0 : Int) < (j : Int) := by omega
          have HD := Lib.hid (show mid S x j R = insR xs ig x S ++ R from mid_done (by rw [HSL.out, hP.out]; obtain rfl : j = 0 := by omega
                                                                                       rfl))
          clear hP hO hB
          go_wp2_with fail
          refine wp_region_later (by kernel_rfl) (by kernel_rfl) ?_
          repeat (go_big_quiet_step (fail))
          refine wpQuiet_nil ?_
          intro w2 hw2; have h2 := later_below hw2; clear hw2
          have o2 := own_below ho h2
          rw [HD.out, ← HDR.out] at o2
          have HO3 := Lib.hid o2
          have HB3 := Lib.hid (show Below base w w2 from hbo.trans (h2.mono (Nat.le_trans hbw hbo.size)))
          clear o2 ho hbo hw0 hml h2
          go_wp2
          go_roundw
          case rel => exact ⟨k + 1, by omega, by omega, by go_num, HO3.out, HB3.out⟩
          case measure => simp [intOf]; omega
    · obtain rfl : k = q := by omega
      have HE := Lib.hid (show srt xs ig ps k ++ ps.drop k = srt xs ig ps k by rw [List.drop_eq_nil_of_le (by rw [HL.out]; exact Nat.le_refl _), List.append_nil])
      have hO2 := hO.out
      rw [HE.out] at hO2
      have HO2 := Lib.hid hO2
      clear hO hO2
      go_wp2
      go_end0
      exact ⟨⟨_, rfl⟩, HO2.out, hB.out⟩
set_option maxHeartbeats 800000 in
theorem insNone_any (dv cv : Value) (a b : Nat) (w : World) (hab : ¬ a + 1 < b) (hm : a ≤ 1048576) :
    Calls Tryz.prog 94 #[dv, .int .i64 a, .int .i64 b, cv] w fun e w' => (∃ v, e = .returned v) ∧ w = w' := by
  have h1 : ¬ ((a : Int) + 1 < (b : Int)) := by omega
  go_enter Tryz.func94, Tryz.ntmps94
  go_wp2
  go_loopw [8] (fun i wr => i = .int .i64 ((a : Int) + 1) ∧ w = wr) (fun _ _ => 0)
  case atStart => exact ⟨rfl, rfl⟩
  case round =>
    obtain ⟨rfl, rfl⟩ := hrel
    go_wp2
    go_end0
    exact ⟨⟨_, rfl⟩, rfl⟩
set_option maxRecDepth 100000 in
set_option maxHeartbeats 2000000 in
theorem stable_any (A B : Option Addr) (n c m d g cap q base : Nat) (xs : List ByteArray) (ig : List Int) (ps : List ByteArray) (w0 w : World) (hown : w.ownsRow base 9 1 (.slice (some ⟨g, 0, none⟩) q cap) q (ps.map Value.string))
    (hb0 : Below w0.heap.size w0 w) (hbase : w0.heap.size ≤ base) (hbw : base ≤ w.heap.size) (hx : Strs w0 A n c xs) (hy : Ints w0 B m d ig) (hm : MaxCell w0) (ha : isAlpha xs = true) (hq : q ≤ 20) (hs : ∀ s ∈ ps, s.size ≤ 1048576) (hph : ps.all isPhrase = true) (hsp : ps.all (spAll xs) = true) :
    Calls Tryz.prog 77 #[.slice (some ⟨g, 0, none⟩) q cap, .int .i64 q, .func (.func 31) #[.agg #[.slice A n c, .slice B m d]] #[]] w fun e w' => (∃ v, e = .returned v) ∧ w'.ownsRow base 9 1 (.slice (some ⟨g, 0, none⟩) q cap) q ((srt xs ig ps q).map Value.string) ∧ Below base w w' := by
  have hin := insSort_any A B n c m d g cap q base xs ig ps w0 w hown hb0 hbase hbw hx hy hm ha hq hs hph hsp
  have hnone := fun W => insNone_any (.slice (some ⟨g, 0, none⟩) q cap) (.func (.func 31) #[.agg #[.slice A n c, .slice B m d]] #[]) 20 20 W (by omega) (by omega)
  clear hown hb0 hbase hbw hx hy hm ha hs hph hsp
  by_cases h20 : q = 20
  · subst h20
    go_enter Tryz.func77, Tryz.ntmps77
    go_wp2
    go_loopw [7, 8] (fun av bv wr => (av = .int .i64 0 ∧ bv = .int .i64 20 ∧ w = wr) ∨ (av = .int .i64 20 ∧ bv = .int .i64 40 ∧ Hid (wr.ownsRow base 9 1 (.slice (some ⟨g, 0, none⟩) 20 cap) 20 ((srt xs ig ps 20).map Value.string)) ∧ Hid (Below base w wr))) (fun _ bv _ => (60 - intOf bv).toNat)
    case atStart => exact .inl ⟨rfl, rfl, rfl⟩
    case round =>
      rcases hrel with ⟨rfl, rfl, rfl⟩ | ⟨rfl, rfl, hO, hB⟩
      · go_wp2_with fail
        refine hin.mono ?_
        rintro e_ w1 ⟨⟨v, rfl⟩, o1, b1⟩
        have HO := Lib.hid o1
        have HB := Lib.hid b1
        clear hin o1 b1
        go_wp2
        go_roundw
        case rel => exact ⟨.int .i64 20, .int .i64 40, _, _, _, _, _, _, _, _, _, _, _, _, .inr ⟨rfl, rfl, HO.out, HB.out⟩, rfl⟩
        case measure => simp [intOf]
      · clear hin
        go_wp2_with fail
        refine (hnone _).mono ?_
        rintro e_ w1 ⟨⟨v, rfl⟩, rfl⟩
        clear hnone
        go_wp2
        go_loopw [6] (fun bs wr' => bs = .int .i64 20 ∧ Hid (wr'.ownsRow base 9 1 (.slice (some ⟨g, 0, none⟩) 20 cap) 20 ((srt xs ig ps 20).map Value.string)) ∧ Hid (Below base w wr')) (fun _ _ => 0)
        case atStart => exact ⟨rfl, hO.out, hB.out⟩
        case round =>
          obtain ⟨rfl, hO2, hB2⟩ := hrel
          go_wp2
          go_end0
          exact ⟨⟨_, rfl⟩, hO2.out, hB2.out⟩
  · have hlt : q < 20 := by omega
    have hn2 : ¬ (20 : Int) ≤ (q : Int) := by omega
    have hn3 : ¬ (20 : Int) < (q : Int) := by omega
    clear hnone h20
    go_enter Tryz.func77, Tryz.ntmps77
    go_wp2
    go_loopw [7, 8] (fun av bv wr => av = .int .i64 0 ∧ bv = .int .i64 20 ∧ w = wr) (fun _ _ _ => 0)
    case atStart => exact ⟨rfl, rfl, rfl⟩
    case round =>
      obtain ⟨rfl, rfl, rfl⟩ := hrel
      go_wp2_with fail
      refine hin.mono ?_
      rintro e_ w1 ⟨⟨v, rfl⟩, o1, b1⟩
      have HO := Lib.hid o1
      have HB := Lib.hid b1
      clear hin o1 b1
      go_wp2
      go_loopw [6] (fun bs wr' => bs = .int .i64 20 ∧ Hid (wr'.ownsRow base 9 1 (.slice (some ⟨g, 0, none⟩) q cap) q ((srt xs ig ps q).map Value.string)) ∧ Hid (Below base w wr')) (fun _ _ => 0)
      case atStart => exact ⟨rfl, HO.out, HB.out⟩
      case round =>
        obtain ⟨rfl, hO2, hB2⟩ := hrel
        go_wp2
        go_end0
        exact ⟨⟨_, rfl⟩, hO2.out, hB2.out⟩
set_option maxHeartbeats 800000 in
theorem stable_zero (cv : Value) (w : World) : Calls Tryz.prog 77 #[.slice none 0 0, .int .i64 0, cv] w fun e w' => (∃ v, e = .returned v) ∧ w = w' := by
  have hin := insNone_any (.slice none 0 0) cv 0 0 w (by omega) (by omega)
  go_enter Tryz.func77, Tryz.ntmps77
  go_wp2
  go_loopw [7, 8] (fun av bv wr => av = .int .i64 0 ∧ bv = .int .i64 20 ∧ w = wr) (fun _ _ _ => 0)
  case atStart => exact ⟨rfl, rfl, rfl⟩
  case round =>
    obtain ⟨rfl, rfl, rfl⟩ := hrel
    go_wp2_with fail
    refine hin.mono ?_
    rintro e_ w1 ⟨⟨v, rfl⟩, rfl⟩
    clear hin
    go_wp2
    go_loopw [6] (fun bs wr' => bs = .int .i64 20 ∧ w = wr') (fun _ _ => 0)
    case atStart => exact ⟨rfl, rfl⟩
    case round =>
      obtain ⟨rfl, rfl⟩ := hrel
      go_wp2
      go_end0
      exact ⟨⟨_, rfl⟩, rfl⟩
set_option maxRecDepth 100000 in
set_option maxHeartbeats 2000000 in
/-- slices.SortStableFunc over a row of the call's own -/
theorem sortStable_any (A B : Option Addr) (n c m d q base : Nat) (dv : Value) (xs : List ByteArray) (ig : List Int) (ps : List ByteArray) (w0 w : World) (hown : w.ownsRow base 9 1 dv q (ps.map Value.string))
    (hb0 : Below w0.heap.size w0 w) (hbase : w0.heap.size ≤ base) (hbw : base ≤ w.heap.size) (hx : Strs w0 A n c xs) (hy : Ints w0 B m d ig) (hm : MaxCell w0) (ha : isAlpha xs = true) (hq : q ≤ 20) (hs : ∀ s ∈ ps, s.size ≤ 1048576) (hph : ps.all isPhrase = true) (hsp : ps.all (spAll xs) = true) :
    Calls Tryz.prog 55 #[dv, .func (.func 31) #[.agg #[.slice A n c, .slice B m d]] #[]] w fun e w' => (∃ v, e = .returned v) ∧ w'.ownsRow base 9 1 dv q ((srt xs ig ps q).map Value.string) ∧ Below base w w' := by
  rcases hown.2 with ⟨hv, h0⟩ | ⟨g, cap, cur, hv, _, _, hqc, hcm, _⟩
  · subst hv
    have hl := hown.1
    rw [List.length_map] at hl
    have HE := Lib.hid (show (srt xs ig ps q).map Value.string = ps.map Value.string by
      rw [List.eq_nil_of_length_eq_zero (by omega : ps.length = 0), h0]; rfl)
    have hz := stable_zero (.func (.func 31) #[.agg #[.slice A n c, .slice B m d]] #[]) w
    have HO := Lib.hid hown
    clear hown hl h0
    go_enter Tryz.func55, Tryz.ntmps55
    go_wp2_with fail
    refine hz.mono ?_
    rintro e_ w1 ⟨⟨v, rfl⟩, rfl⟩
    clear hz
    go_wp2
    go_end0
    exact ⟨⟨_, rfl⟩, by rw [HE.out]; exact HO.out, Below.refl _ _⟩
  · subst hv
    have hz := stable_any A B n c m d g cap q base xs ig ps w0 w hown hb0 hbase hbw hx hy hm ha hq hs hph hsp
    unfold maxLen at hcm
    clear hown hb0 hbase hbw hx hy hm ha hs hph hsp
    go_enter Tryz.func55, Tryz.ntmps55
    go_wp2_with fail
    refine hz.mono ?_
    rintro e_ w1 ⟨⟨v, rfl⟩, o1, b1⟩
    clear hz
    go_wp2
    go_end0
    exact ⟨⟨_, rfl⟩, o1, b1⟩
end Go.Proofs.YticplogaaholfaaGreatDoor
