/- CountSpellings. -/
import Derived.Test.YtbhibidgdlaeeaaDoorCount
import Derived.Test.YtbhibidgdlaeeaaDoorMix
namespace Go.Proofs.YtbhibidgdlaeeaaDoor
open Go.ChangeShapes Go.WideShapes Go.ChangeAt Go.RowKit

theorem cs_cases (xs : List ByteArray) (s : ByteArray) :
    (Hid (lcCode xs s = 1 ∧ csNum xs s = 0) ∧ (isAlpha xs = false ∨ (isAlpha xs = true ∧ isWord s = false))) ∨
    (isAlpha xs = true ∧ isWord s = true ∧ Hid (lcCode xs s = 0 ∧ csNum xs s = (cw xs s s.size).getD 0 0)) := by
  unfold Hid lcCode csNum lcOk
  cases isAlpha xs <;> cases isWord s <;> simp
theorem ext_ext {s : ByteArray} {i n : Nat} (h : i + n ≤ s.size) : (s.extract i s.size).extract 0 n = s.extract i (i + n) := by
  rw [ByteArray.extract_extract]
  congr 1
  omega
theorem pre_at {x s : ByteArray} {i : Nat} (h : pre x (s.extract i s.size) = true) (hi : i ≤ s.size) : i + x.size ≤ s.size ∧ s.extract i (i + x.size) = x := by
  obtain ⟨h1, h2⟩ := pre_eq h
  rw [ByteArray.size_extract] at h1
  have : i + x.size ≤ s.size := by omega
  exact ⟨this, by rw [← ext_ext this]; exact h2⟩
theorem pre_not {x s : ByteArray} {i : Nat} (h : pre x (s.extract i s.size) = false) (hi : i ≤ s.size) (h1 : i + x.size ≤ s.size) : ¬ s.extract i (i + x.size) = x := by
  intro e
  unfold pre at h
  rw [ext_ext h1, e, ByteArray.size_extract] at h
  simp at h
  omega
theorem own_first (w : World) (xs : List ByteArray) (s : ByteArray) {L : Nat} (hL : s.size = L) (hn : L ≤ 1000000) :
    (w.alloc (.cells ((madeCells #[Value.int .i64 0] (L + 1)).setIfInBounds L (.int .i64 1)) 2)).ownsRow w.heap.size 2 1 (.slice (some ⟨w.heap.size, 0, none⟩) (L + 1) (L + 1)) (L + 1) ((crows xs s 0).map (Value.int .i64)) := by
  have h := World.ownsRow_lit (base := w.heap.size) (e := 2) (size := 1) w ((madeCells #[Value.int .i64 0] (L + 1)).setIfInBounds L (.int .i64 1)) (L + 1) (Nat.le_refl _) (by unfold maxLen; omega) (by rw [Array.size_setIfInBounds, size_madeCells]; omega)
  rw [Array.toList_setIfInBounds, toList_madeCells_one] at h
  rw [← crows_zero, List.map_set, List.map_replicate, hL]
  exact h
theorem crow_cell {w : World} {base g N i : Nat} {e : TypeId} {v : Int} {P : List Int} (h : w.ownsRow base e 1 (.slice (some ⟨g, 0, none⟩) N N) N ((crow i v P).map (Value.int .i64))) : w.cell? ⟨g, i, none⟩ = some (.int .i64 v) := by
  have hl : (crow i v P).length = N := by have := h.1; simpa using this
  rw [crow_len] at hl
  rw [h.cellAt i (by omega), List.getElem?_map, crow_at]
  rfl
theorem crow_cell2 {w : World} {base g N i d : Nat} {e : TypeId} {v : Int} {P : List Int} (h : w.ownsRow base e 1 (.slice (some ⟨g, 0, none⟩) N N) N ((crow i v P).map (Value.int .i64))) (h1 : 1 ≤ d) (h2 : d ≤ P.length) :
    w.cell? ⟨g, i + d, none⟩ = some (.int .i64 (P.getD (d - 1) 0)) := by
  have hl : (crow i v P).length = N := by have := h.1; simpa using this
  rw [crow_len] at hl
  rw [h.cellAt (i + d) (by omega), List.getElem?_map, show i + d = i + (d - 1) + 1 by omega, crow_in, List.getD_eq_getElem?_getD, List.getElem?_eq_getElem (by omega)]
  rfl
theorem crow_store {w : World} {base g N i : Nat} {e : TypeId} {v u : Int} {P : List Int} (h : w.ownsRow base e 1 (.slice (some ⟨g, 0, none⟩) N N) N ((crow i v P).map (Value.int .i64))) :
    (w.setCell ⟨g, i, none⟩ (.int .i64 u)).ownsRow base e 1 (.slice (some ⟨g, 0, none⟩) N N) N ((crow i u P).map (Value.int .i64)) := by
  have h1 := (h.stored i (.int .i64 u)).1
  rw [← List.map_set, crow_set] at h1
  exact h1

theorem next' {B : Nat} {a w w' : World} (h : Below B a w) (hb : Below w.heap.size w w') (hB : B ≤ w.heap.size) : Below B a w' := h.trans (hb.mono hB)

set_option maxRecDepth 100000 in
set_option maxHeartbeats 4000000 in
theorem CountSpellings_spec (A : Option Addr) (n c : Nat) (xs : List ByteArray) (s : ByteArray) (w : World) (hx : Strs w A n c xs) (hs : s.size ≤ maxLen) :
    Calls Tryd.prog 70 #[.slice A n c, .string s] w fun e w' => e = .returned (.tuple #[.int .i64 (csNum xs s), .int .i64 (lcCode xs s)]) ∧ Below w.heap.size w w' := by
  rcases cs_cases xs s with ⟨HF, _⟩ | ⟨ha, hw, HF⟩
  · go_enter Tryd.func70, Tryd.ntmps70
    go_wp2_with fail
    refine (isi (l03Code_any A n c xs s _ hx hs) HF.out.1).mono ?_
    rintro e_ w1 ⟨rfl, h1⟩
    have hc_w1 := bcell h1; have hf_w1 := bfree h1
    go_wp2
    go_ret2
    exact ⟨by rw [HF.out.1, HF.out.2]; rfl, h1⟩
  · have hz := word_size hw
    have hl := isi (l03Code_any A n c xs s w hx hs) HF.out.1
    have HA := Lib.hid ha
    have HX := Lib.hid hx.1
    have hcm := hx.2.1.cap
    have hnc := hx.2.1.le
    unfold maxLen at hcm
    obtain ⟨L, hL⟩ : ∃ L, s.size = L := ⟨_, rfl⟩
    have HL := Lib.hid hL
    clear ha hw hs
    obtain ⟨i0, hi, hz0, hz1, hz2⟩ := info_parts infoInt
    have hmk := fun W => run_make_rowN (P := Tryd.prog) 22 2 i0 _ Tryd.underlying22 hi hz0 .i64 .i64 (L + 1) (L + 1) (Nat.le_refl _) (by rw [hz2]; omega) (by omega) W
    rw [show ((L + 1 : Nat) : Int) = (L : Int) + 1 from by omega] at hmk
    go_enter Tryd.func70, Tryd.ntmps70
    go_wp2_with fail
    refine hl.mono ?_
    rintro e_ w1 ⟨rfl, h1⟩
    clear hl
    replace hx := hx.below h1
    have hown0 := own_zero w1 L (by omega)
    have HO := Lib.hid (own_first w1 xs s HL.out (by omega))
    have c0 := hown0.cellAt L (by omega)
    rw [List.getElem?_map, List.getElem?_replicate] at c0
    rw [if_pos (by omega)] at c0
    simp only [Option.map_some] at c0
    have f0 := hown0.frozenAt L
    clear hown0
    go_wp2
    have hsz : s.size = L := HL.out
    generalize hg : w1.heap.size = g at *
    have HG := Lib.hid hg
    clear hg c0 f0 hmk
    go_loopw [8] (fun v wr => ∃ j : Int, v = .int .i64 j ∧ -1 ≤ j ∧ j < L ∧ Hid (wr.ownsRow g 2 1 (.slice (some ⟨g, 0, none⟩) (L + 1) (L + 1)) (L + 1) ((crows xs s (L - 1 - j).toNat).map (Value.int .i64))) ∧ Below g w1 wr) (fun v _ => (intOf v + 1).toNat)
    case atStart =>
      refine ⟨(L : Int) - 1, by go_num, by omega, by omega, ?_, ?_⟩
      · rw [show ((L : Int) - 1 - ((L : Int) - 1)).toNat = 0 by omega]
        exact HO.out
      · exact (Below.refl g w1).alloc (by rw [HG.out]; exact Nat.le_refl _) _
    case round =>
      obtain ⟨j, rfl, hj0, hj1, ho, hb⟩ := hrel
      by_cases hj : 0 ≤ j
      · obtain ⟨i, rfl⟩ : ∃ i : Nat, j = i := ⟨j.toNat, by omega⟩
        rw [show ((L : Int) - 1 - (i : Int)).toNat = L - 1 - i by omega, crows_start (i := i) (by omega)] at ho
        obtain ⟨P, hP⟩ : ∃ P, cw xs s (L - 1 - i) = P := ⟨_, rfl⟩
        have HP := Lib.hid hP
        have hPl : P.length = L - i := by rw [← hP, cw_len]; omega
        have hPb : ∀ d, 0 ≤ P.getD d 0 ∧ P.getD d 0 ≤ 43046721 := fun d => by
          have := cw_in HA.out s (L - 1 - i) d
          have := pow3_le (m := L - 1 - i) (by omega)
          rw [hP] at *
          omega
        have HPb := Lib.hid hPb
        obtain ⟨t, ht⟩ : ∃ t, s.extract i s.size = t := ⟨_, rfl⟩
        have HT := Lib.hid ht
        rw [hP] at ho
        clear hPb hP ht
        go_wp2
        go_loopw [9] (fun v wq => ∃ k : Nat, v = .int .i64 k ∧ k ≤ n ∧ Hid (wq.ownsRow g 2 1 (.slice (some ⟨g, 0, none⟩) (L + 1) (L + 1)) (L + 1) ((crow i (csum xs t P k) P).map (Value.int .i64))) ∧ Below g w1 wq) (fun v _ => n - (intOf v).toNat)
        case atStart => exact ⟨0, rfl, Nat.zero_le _, ho, hb⟩
        case round =>
          clear ho hb
          obtain ⟨k, rfl, hk, ho, hb⟩ := hrel
          by_cases hlt : k < n
          · obtain ⟨b, off, rfl, hbl⟩ := hx.at_ k hlt
            have hbl' : b < g := by rw [← HG.out]; exact hbl
            obtain ⟨x, hxk, e0, hxm⟩ := hx.el hb hbl' k hlt
            have hx3 := alpha_size HA.out hxk.out
            have hbw : b < wr.heap.size := Nat.lt_of_lt_of_le hbl hb.size
            have hgw : g < wr.heap.size := (ho.out.lt g rfl).2
            have hgl : g ≤ wr.heap.size := Nat.le_of_lt hgw
            have hv := csum_le HA.out t (M := 43046721) (by omega) HPb.out (k := k) (by rw [← HX.out]; omega)
            have hj0 : (0 : Int) ≤ (k : Int) := Int.natCast_nonneg _
            have hj1 : (k : Int) < (n : Int) := by omega
            cases hp : pre x t
            · have HN := Lib.hid (csum_no (t := t) (P := P) hxk.out hp)
              by_cases hfit : i + x.size ≤ L
              · have hne := text_ne (pre_not (by rw [HT.out]; exact hp) (by omega) (by omega))
                have hge : (x.size : Int) ≤ (L : Int) - (i : Int) := by omega
                go_wp2
                refine wp_region_later (by kernel_rfl) (by kernel_rfl) ?_
                repeat (go_big_quiet_step (fail))
                refine wpQuiet_nil ?_
                intro w3 hw2; have h3 := later_below hw2; clear hw2
                have HO3 := Lib.hid (own_below ho.out h3)
                have HB3 := next' hb h3 hgl
                clear ho
                go_wp2
                go_roundw
                case rel => exact ⟨k + 1, by go_num, by omega, by rw [HN.out]; exact HO3.out, HB3⟩
                case measure => simp [intOf]; omega
              · have hge : (decide ((x.size : Int) ≤ (L : Int) - (i : Int))) = false := decide_eq_false (by omega)
                have hge2 : (L : Int) - (i : Int) < (x.size : Int) := by omega
                go_wp2
                refine wp_region_later (by kernel_rfl) (by kernel_rfl) ?_
                repeat (go_big_quiet_step (fail))
                refine wpQuiet_nil ?_
                intro w3 hw2; have h3 := later_below hw2; clear hw2
                have HO3 := Lib.hid (own_below ho.out h3)
                have HB3 := next' hb h3 hgl
                clear ho
                go_wp2
                go_roundw
                case rel => exact ⟨k + 1, by go_num, by omega, by rw [HN.out]; exact HO3.out, HB3⟩
                case measure => simp [intOf]; omega
            · obtain ⟨hfit, hpe⟩ := pre_at (x := x) (s := s) (i := i) (by rw [HT.out]; exact hp) (by omega)
              have hq : ((s.extract i (i + x.size)).toList == x.toList) = true := by rw [hpe]; simp
              clear hpe
              have hge : (x.size : Int) ≤ (L : Int) - (i : Int) := by omega
              have HN := Lib.hid (csum_yes (t := t) (P := P) hxk.out hp)
              have c0 := crow_cell ho.out
              have c1 := crow_cell2 ho.out (d := x.size) (by omega) (by omega)
              have f0 := ho.out.frozenAt i
              have hy := HPb.out (x.size - 1)
              generalize csum xs t P k = v at *
              generalize P.getD (x.size - 1) 0 = y at *
              go_wp2
              refine wp_region_later (by kernel_rfl) (by kernel_rfl) ?_
              repeat (go_big_quiet_step (fail))
              refine wpQuiet_nil ?_
              intro w3 hw2; have h3 := later_below hw2; clear hw2
              have hc_w3 := bcell h3; have hf_w3 := bfree h3
              have hz_w3_0 : g < w3.heap.size := by have hz_ := h3.size; (try simp at hz_); omega
              go_wp2
              refine wp_region_tail 0 14 (by kernel_rfl) (by kernel_rfl) (fun _ _ _ _ h => h) ?_
              simp only [List.take_succ_cons, List.take_zero, List.drop_succ_cons, List.drop_zero]
              repeat (go_big_quiet_step (fail))
              refine wpQuiet_nil ?_
              intro w4 hw2; have h4 := later_below hw2; clear hw2
              have hc_w4 := bcell h4; have hf_w4 := bfree h4
              have hz_w4_0 : g < w4.heap.size := by have hz_ := h4.size; (try simp at hz_); omega
              have ho4 := own_below (own_below ho.out h3) h4
              have HO4 := Lib.hid (crow_store (u := v + y) ho4)
              have HB4 := Lib.hid ((next' (next' hb h3 hgl) h4 (Nat.le_trans hgl h3.size)).setCell (p := ⟨g, i, none⟩) (Nat.le_refl _) (.int .i64 (v + y)))
              clear ho4 ho c1
              go_wp2
              go_roundw
              case rel => exact ⟨k + 1, by go_num, by omega, by rw [HN.out]; exact HO4.out, HB4.out⟩
              case measure => simp [intOf]; omega
          · obtain rfl : k = n := by omega
            have hE := crows_end (xs := xs) (s := s) (m := L - 1 - i) (i := i) (by omega)
            rw [HP.out, HT.out, ← HX.out, show L - 1 - i + 1 = L - i by omega] at hE
            rw [hE] at ho
            clear hE
            go_wp2
            go_roundw
            case rel => exact ⟨(i : Int) - 1, by go_num, by omega, by omega, by rw [show ((L : Int) - 1 - ((i : Int) - 1)).toNat = L - i by omega]; exact ho, hb⟩
            case measure => simp [intOf]; (try omega)
      · obtain rfl : j = -1 := by omega
        rw [show ((L : Int) - 1 - -1).toNat = s.size by omega, crows_last] at ho
        have hl := cw_len xs s s.size
        have c0 := ho.out.cellAt 0 (by omega)
        rw [List.getElem?_map, List.getElem?_eq_getElem (by omega)] at c0
        have HV := Lib.hid (show (cw xs s s.size).getD 0 0 = (cw xs s s.size)[0]'(by omega) by rw [List.getD_eq_getElem?_getD, List.getElem?_eq_getElem (by omega)]; rfl)
        simp only [Option.map_some] at c0
        have hgw : g < wr.heap.size := (ho.out.lt g rfl).2
        generalize (cw xs s s.size)[0]'(by omega) = v at *
        clear ho hl
        go_wp2
        go_ret2
        exact ⟨by rw [HF.out.1, HF.out.2, HV.out]; rfl, h1.trans (hb.mono (by rw [← HG.out]; exact h1.size))⟩
set_option maxRecDepth 100000 in
set_option maxHeartbeats 4000000 in
theorem CountSpellings_impl (A : Option Addr) (n c : Nat) (xs : List ByteArray) (s : ByteArray) (w : World) (hx : Strs w A n c xs) (hs : s.size ≤ maxLen) :
    Calls Tryd.prog 69 #[.slice A n c, .string s] w fun e w' => e = .returned (.tuple #[.int .i64 (csNum xs s), .int .i64 (lcCode xs s)]) ∧ Below w.heap.size w w' := by
  rcases cs_cases xs s with ⟨HF, ha | ⟨ha, hw⟩⟩ | ⟨ha, hw, HF⟩
  · go_enter Tryd.func69, Tryd.ntmps69
    go_wp2_with fail
    refine (isb (IsAlphabet_impl A n c xs _ hx) ha).mono ?_
    rintro e_ w1 ⟨rfl, h1⟩
    have hc_w1 := bcell h1; have hf_w1 := bfree h1
    go_wp2
    go_ret2
    exact ⟨by rw [HF.out.1, HF.out.2]; rfl, h1⟩
  · go_enter Tryd.func69, Tryd.ntmps69
    go_wp2_with fail
    refine (isb (IsAlphabet_impl A n c xs _ hx) ha).mono ?_
    rintro e_ w1 ⟨rfl, h1⟩
    have hc_w1 := bcell h1; have hf_w1 := bfree h1
    go_wp2_with fail
    refine (isb (IsWord_impl s _ hs) hw).mono ?_
    rintro e_ w2 ⟨rfl, h2⟩
    have hc_w2 := bcell h2; have hf_w2 := bfree h2
    go_wp2
    go_ret2
    exact ⟨by rw [HF.out.1, HF.out.2]; rfl, next h1 h2⟩
  · have hz := word_size hw
    have hl := isb (IsAlphabet_impl A n c xs w hx) ha
    have hlw := fun W => isb (IsWord_impl s W hs) hw
    have HA := Lib.hid ha
    have HX := Lib.hid hx.1
    have hcm := hx.2.1.cap
    have hnc := hx.2.1.le
    unfold maxLen at hcm
    obtain ⟨L, hL⟩ : ∃ L, s.size = L := ⟨_, rfl⟩
    have HL := Lib.hid hL
    clear ha hw hs
    obtain ⟨i0, hi, hz0, hz1, hz2⟩ := info_parts infoInt
    have hmk := fun W => run_make_rowN (P := Tryd.prog) 22 2 i0 _ Tryd.underlying22 hi hz0 .i64 .i64 (L + 1) (L + 1) (Nat.le_refl _) (by rw [hz2]; omega) (by omega) W
    rw [show ((L + 1 : Nat) : Int) = (L : Int) + 1 from by omega] at hmk
    go_enter Tryd.func69, Tryd.ntmps69
    go_wp2_with fail
    refine hl.mono ?_
    rintro e_ w0 ⟨rfl, h0⟩
    clear hl
    go_wp2_with fail
    refine (hlw _).mono ?_
    rintro e_ w1 ⟨rfl, h1⟩
    clear hlw
    replace h1 := next h0 h1
    clear h0
    replace hx := hx.below h1
    have hown0 := own_zero w1 L (by omega)
    have HO := Lib.hid (own_first w1 xs s HL.out (by omega))
    have c0 := hown0.cellAt L (by omega)
    rw [List.getElem?_map, List.getElem?_replicate] at c0
    rw [if_pos (by omega)] at c0
    simp only [Option.map_some] at c0
    have f0 := hown0.frozenAt L
    clear hown0
    go_wp2
    have hsz : s.size = L := HL.out
    generalize hg : w1.heap.size = g at *
    have HG := Lib.hid hg
    clear hg c0 f0 hmk
    go_loopw [7] (fun v wr => ∃ j : Int, v = .int .i64 j ∧ -1 ≤ j ∧ j < L ∧ Hid (wr.ownsRow g 2 1 (.slice (some ⟨g, 0, none⟩) (L + 1) (L + 1)) (L + 1) ((crows xs s (L - 1 - j).toNat).map (Value.int .i64))) ∧ Below g w1 wr) (fun v _ => (intOf v + 1).toNat)
    case atStart =>
      refine ⟨(L : Int) - 1, by go_num, by omega, by omega, ?_, ?_⟩
      · rw [show ((L : Int) - 1 - ((L : Int) - 1)).toNat = 0 by omega]
        exact HO.out
      · exact (Below.refl g w1).alloc (by rw [HG.out]; exact Nat.le_refl _) _
    case round =>
      obtain ⟨j, rfl, hj0, hj1, ho, hb⟩ := hrel
      by_cases hj : 0 ≤ j
      · obtain ⟨i, rfl⟩ : ∃ i : Nat, j = i := ⟨j.toNat, by omega⟩
        rw [show ((L : Int) - 1 - (i : Int)).toNat = L - 1 - i by omega, crows_start (i := i) (by omega)] at ho
        obtain ⟨P, hP⟩ : ∃ P, cw xs s (L - 1 - i) = P := ⟨_, rfl⟩
        have HP := Lib.hid hP
        have hPl : P.length = L - i := by rw [← hP, cw_len]; omega
        have hPb : ∀ d, 0 ≤ P.getD d 0 ∧ P.getD d 0 ≤ 43046721 := fun d => by
          have := cw_in HA.out s (L - 1 - i) d
          have := pow3_le (m := L - 1 - i) (by omega)
          rw [hP] at *
          omega
        have HPb := Lib.hid hPb
        obtain ⟨t, ht⟩ : ∃ t, s.extract i s.size = t := ⟨_, rfl⟩
        have HT := Lib.hid ht
        rw [hP] at ho
        clear hPb hP ht
        go_wp2
        go_loopw [35] (fun v wq => ∃ k : Nat, v = .int .i64 k ∧ k ≤ n ∧ Hid (wq.ownsRow g 2 1 (.slice (some ⟨g, 0, none⟩) (L + 1) (L + 1)) (L + 1) ((crow i (csum xs t P k) P).map (Value.int .i64))) ∧ Below g w1 wq) (fun v _ => n - (intOf v).toNat)
        case atStart => exact ⟨0, rfl, Nat.zero_le _, ho, hb⟩
        case round =>
          clear ho hb
          obtain ⟨k, rfl, hk, ho, hb⟩ := hrel
          by_cases hlt : k < n
          · obtain ⟨b, off, rfl, hbl⟩ := hx.at_ k hlt
            have hbl' : b < g := by rw [← HG.out]; exact hbl
            obtain ⟨x, hxk, e0, hxm⟩ := hx.el hb hbl' k hlt
            have hx3 := alpha_size HA.out hxk.out
            have hbw : b < wr.heap.size := Nat.lt_of_lt_of_le hbl hb.size
            have hgw : g < wr.heap.size := (ho.out.lt g rfl).2
            have hgl : g ≤ wr.heap.size := Nat.le_of_lt hgw
            have hv := csum_le HA.out t (M := 43046721) (by omega) HPb.out (k := k) (by rw [← HX.out]; omega)
            have hj0 : (0 : Int) ≤ (k : Int) := Int.natCast_nonneg _
            have hj1 : (k : Int) < (n : Int) := by omega
            have htm : (s.extract i L).size ≤ maxLen := by unfold maxLen; rw [ByteArray.size_extract]; omega
            cases hp : pre x t
            · have HN := Lib.hid (csum_no (t := t) (P := P) hxk.out hp)
              go_wp2_with fail
              refine (isb (HasPrefix_any (s.extract i L) x _ htm hxm) (show pre x (s.extract i L) = false by rw [← HL.out, HT.out]; exact hp)).mono ?_
              rintro e_ w3 ⟨rfl, h3⟩
              have hc_w3 := bcell h3; have hf_w3 := bfree h3
              have HO3 := Lib.hid (own_below ho.out h3)
              have HB3 := next' hb h3 hgl
              clear ho
              go_wp2
              go_roundw
              case rel => exact ⟨k + 1, by go_num, by omega, by rw [HN.out]; exact HO3.out, HB3⟩
              case measure => simp [intOf]; omega
            · obtain ⟨hfit, hpe⟩ := pre_at (x := x) (s := s) (i := i) (by rw [HT.out]; exact hp) (by omega)
              clear hpe
              have HN := Lib.hid (csum_yes (t := t) (P := P) hxk.out hp)
              have c0 := crow_cell ho.out
              have c1 := crow_cell2 ho.out (d := x.size) (by omega) (by omega)
              have f0 := ho.out.frozenAt i
              have hy := HPb.out (x.size - 1)
              generalize csum xs t P k = v at *
              generalize P.getD (x.size - 1) 0 = y at *
              go_wp2_with fail
              refine (isb (HasPrefix_any (s.extract i L) x _ htm hxm) (show pre x (s.extract i L) = true by rw [← HL.out, HT.out]; exact hp)).mono ?_
              rintro e_ w3 ⟨rfl, h3⟩
              have hc_w3 := bcell h3; have hf_w3 := bfree h3
              have hz_w3_0 : g < w3.heap.size := by have hz_ := h3.size; (try simp at hz_); omega
              go_wp2
              refine wp_region_tail 0 13 (by kernel_rfl) (by kernel_rfl) (fun _ _ _ _ h => h) ?_
              simp only [List.take_succ_cons, List.take_zero, List.drop_succ_cons, List.drop_zero]
              repeat (go_big_quiet_step (fail))
              refine wpQuiet_nil ?_
              intro w4 hw2; have h4 := later_below hw2; clear hw2
              have hc_w4 := bcell h4; have hf_w4 := bfree h4
              have hz_w4_0 : g < w4.heap.size := by have hz_ := h4.size; (try simp at hz_); omega
              have ho4 := own_below (own_below ho.out h3) h4
              have HO4 := Lib.hid (crow_store (u := v + y) ho4)
              have HB4 := Lib.hid ((next' (next' hb h3 hgl) h4 (Nat.le_trans hgl h3.size)).setCell (p := ⟨g, i, none⟩) (Nat.le_refl _) (.int .i64 (v + y)))
              clear ho4 ho c1
              go_wp2
              go_roundw
              case rel => exact ⟨k + 1, by go_num, by omega, by rw [HN.out]; exact HO4.out, HB4.out⟩
              case measure => simp [intOf]; omega
          · obtain rfl : k = n := by omega
            have hE := crows_end (xs := xs) (s := s) (m := L - 1 - i) (i := i) (by omega)
            rw [HP.out, HT.out, ← HX.out, show L - 1 - i + 1 = L - i by omega] at hE
            rw [hE] at ho
            clear hE
            go_wp2
            go_roundw
            case rel => exact ⟨(i : Int) - 1, by go_num, by omega, by omega, by rw [show ((L : Int) - 1 - ((i : Int) - 1)).toNat = L - i by omega]; exact ho, hb⟩
            case measure => simp [intOf]; (try omega)
      · obtain rfl : j = -1 := by omega
        rw [show ((L : Int) - 1 - -1).toNat = s.size by omega, crows_last] at ho
        have hl := cw_len xs s s.size
        have c0 := ho.out.cellAt 0 (by omega)
        rw [List.getElem?_map, List.getElem?_eq_getElem (by omega)] at c0
        have HV := Lib.hid (show (cw xs s s.size).getD 0 0 = (cw xs s s.size)[0]'(by omega) by rw [List.getD_eq_getElem?_getD, List.getElem?_eq_getElem (by omega)]; rfl)
        simp only [Option.map_some] at c0
        have hgw : g < wr.heap.size := (ho.out.lt g rfl).2
        generalize (cw xs s s.size)[0]'(by omega) = v at *
        clear ho hl
        go_wp2
        go_ret2
        exact ⟨by rw [HF.out.1, HF.out.2, HV.out]; rfl, h1.trans (hb.mono (by rw [← HG.out]; exact h1.size))⟩
end Go.Proofs.YtbhibidgdlaeeaaDoor
