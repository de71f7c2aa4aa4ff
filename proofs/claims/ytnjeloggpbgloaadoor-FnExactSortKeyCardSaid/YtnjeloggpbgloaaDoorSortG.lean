/- Phrases compared: the reference's l06Compare. -/
import Derived.Test.YtnjeloggpbgloaaDoorSortF
namespace Go.Proofs.YtnjeloggpbgloaaDoor
open Go.ChangeShapes Go.WideShapes Go.ChangeAt Go.RowKit
set_option maxRecDepth 100000 in
set_option maxHeartbeats 4000000 in
theorem l06Spellings_any (A B : Option Addr) (n c m d : Nat) (xs : List ByteArray) (ig : List Int) (s : ByteArray) (w : World) (hx : Strs w A n c xs) (hy : Ints w B m d ig) (ha : isAlpha xs = true) (hs : s.size ≤ 1048576) (hph : isPhrase s = true) :
    Calls Tryd.prog 10 #[.slice A n c, .string s, .slice B m d] w fun e w' => ∃ A' n' c', e = .returned (.slice A' n' c') ∧ Lists w' A' n' c' ((sps xs s).map (keepI ig)) ∧ Below w.heap.size w w' := by
  have hlp := l01Phrase_any s w hs
  rw [hph] at hlp
  have HP := Lib.hid (show (sps xs s).map (keepI ig) = (cutS 32 s).map fun t => keepI ig (spellList xs t) by unfold sps; rw [List.map_map]; rfl)
  have hmx := cut_max hs
  obtain ⟨hl8, hw16⟩ := phrase_words hph
  have HW := Lib.hid hw16
  obtain ⟨i0, hi, hz0, hz1, hz2⟩ := info_parts infoSl
  obtain ⟨i1, hi1, hy0, hy1, hy2⟩ := info_parts infoInt
  generalize cutS 32 s = L at *
  clear hw16 hph
  go_enter Tryd.func10, Tryd.ntmps10
  go_wp2_with fail
  refine hlp.mono ?_
  rintro e_ w1 ⟨v, rfl, hown, h1⟩
  replace hown := hown trivial
  obtain ⟨A1, c1, rfl, x1⟩ := own_strs hown hmx.2
  have hnc1 := x1.2.1.le
  have hcm1 := x1.2.1.cap
  unfold maxLen at hcm1
  clear hlp hown hmx
  have bl := boxO w1 (.cells #[] 30)
  have HOL := Lib.hid (OwnL.lit w1)
  go_wp2
  go_loopw [9, 10] (fun v i wr => ∃ (k : Nat) (us : List Value) (v1 : Value), k ≤ L.length ∧ i = .int .i64 k ∧ v1 = v ∧ Hid (OwnL wr w1.heap.size v1 k ((L.take k).map fun t => keepI ig (spellList xs t)) us) ∧ Below w1.heap.size w1 wr) (fun _ i _ => L.length - (intOf i).toNat)
  case atStart => exact ⟨0, [], _, Nat.zero_le _, rfl, rfl, HOL.out, bl⟩
  case round =>
    clear HOL bl
    obtain ⟨k, us, v1, hk, rfl, rfl, hown, hb⟩ := hrel
    rename World => wo
    have hz3 := hb.size
    by_cases hlt : k < L.length
    · obtain ⟨b, off, rfl, hbl⟩ := x1.at_ k hlt
      obtain ⟨t, ht, c0, htz⟩ := x1.el hb hbl k hlt
      have ht16 := HW.out t (List.mem_of_getElem? ht.out)
      have hsp := l03Spell_any A n c xs t wo (hx.below (next h1 hb)) (by omega) ha
      have hsl := spellList_len xs t
      have HT := Lib.hid (map_take_succ (f := fun t => keepI ig (spellList xs t)) ht.out)
      obtain ⟨ok, hok⟩ : ∃ o, spellOk xs t = o := ⟨_, rfl⟩
      obtain ⟨y, hy_⟩ : ∃ y, spellList xs t = y := ⟨_, rfl⟩
      rw [hok, hy_] at hsp
      rw [hy_] at hsl
      simp only [hy_] at HT
      clear hok hy_
      go_wp2_with fail
      refine hsp.mono ?_
      rintro e_ w2 ⟨v2, rfl, o2, h2⟩
      clear hsp
      obtain ⟨A2, c2, rfl, x2⟩ := own_ints_ o2
      have hnc2 := x2.2.le
      have hcm2 := x2.2.cap
      unfold maxLen at hcm2
      have bl2 := boxO w2 (.cells #[] 2)
      have OL2 := World.ownsRow_lit (base := w2.heap.size) (e := 2) (size := 1) w2 #[] 0 (Nat.le_refl _) (by unfold maxLen; omega) rfl
      have H2 := Lib.hid h2
      have hz2o := h2.size
      have hyw := (hy.below (next h1 (nextO hb h2 hz3)))
      clear o2 h2
      go_wp2
      go_loopw [13, 14] (fun rv i wr => ∃ (j : Nat) (P : List Int) (v3 : Value), j ≤ y.length ∧ i = .int .i64 j ∧ v3 = rv ∧ Hid (P = keepI ig (y.take j)) ∧ P.length ≤ j ∧ Hid (wr.ownsRow w2.heap.size 2 1 v3 P.length (P.map (Value.int .i64))) ∧ Below w2.heap.size w2 wr) (fun _ i _ => y.length - (intOf i).toNat)
      case atStart => exact ⟨0, [], _, Nat.zero_le _, rfl, rfl, by simp [Hid, keepI], Nat.le_refl _, OL2, bl2⟩
      case round =>
        clear OL2 bl2
        obtain ⟨j, P, v3, hj, rfl, rfl, hP, hPl, ho3, hb3⟩ := hrel
        have hz5 := hb3.size
        by_cases hlt2 : j < y.length
        · obtain ⟨b4, off4, rfl, hbl4⟩ := x2.at_ j hlt2
          obtain ⟨z, hz, d0⟩ := x2.el hb3 hbl4 j hlt2
          have hbw4 : b4 < wr.heap.size := Nat.lt_of_lt_of_le hbl4 hz5
          have hhas := l01Has_any B m d ig z wr (hyw.below hb3)
          cases hh : hasG ig z with
          | true =>
            rw [hh] at hhas
            have HK := Lib.hid (show P = keepI ig (y.take (j + 1)) by rw [keepI_snoc hz.out, if_pos hh, List.append_nil]; exact hP.out)
            clear hh hP
            go_wp2_with fail
            refine hhas.mono ?_
            rintro e_ w5 ⟨rfl, h5⟩
            have HO5 := Lib.hid (own_below ho3.out h5)
            have HB5 := Lib.hid (next hb3 h5)
            clear hhas ho3 h5
            go_wp2
            go_roundw
            case rel => exact ⟨j + 1, P, _, by omega, by go_num, rfl, HK.out, by omega, HO5.out, HB5.out⟩
            case measure => simp [intOf]; omega
          | false =>
            rw [hh] at hhas
            have HK := Lib.hid (show P ++ [z] = keepI ig (y.take (j + 1)) by rw [keepI_snoc hz.out, if_neg (by rw [hh]; simp), ← hP.out])
            clear hh hP
            go_wp2_with fail
            refine hhas.mono ?_
            rintro e_ w5 ⟨rfl, h5⟩
            have o5 := own_below ho3.out h5
            have d5 := cell_keep h5 d0
            have hb5 := next hb3 h5
            have hz6 := hb5.size
            have hbw5 : b4 < w5.heap.size := Nat.lt_of_lt_of_le hbw4 h5.size
            clear hhas ho3 h5 d0
            go_wp2_with (at_builtin; refine wpList_append_own _ rfl _ _ 30 rfl w2.heap.size 2 i1 (.int .i64 0) 1 8 Tryd.underlying30 hi1 hy0 hy1 hy2 rfl (by decide) _ _ _ rfl (o5.alloc _) ⟨w5.heap.size, 0, none⟩ 1 1 [.int .i64 z] rfl rfl ?c1 ?c2 ?c3 ?c4 ?c5 ?_)
            case c1 => exact cell_one_new _ _ _
            case c2 => simp [Value.oneCell']
            case c3 => unfold maxLen; omega
            case c4 => omega
            case c5 => first | omega | (simp; omega)
            intro v6 w6 o6 g6 _
            have HO6 := Lib.hid (show w6.ownsRow w2.heap.size 2 1 v6 (P ++ [z]).length ((P ++ [z]).map (Value.int .i64)) by rw [List.length_append, List.map_append]; exact o6)
            have HB6 := Lib.hid (show Below w2.heap.size w2 w6 from (hb5.alloc hz6 _).grown g6 (by first | omega | (simp; omega)) (fun q hq => (o5.lt q hq).1))
            clear o6 g6 o5
            go_wp2
            go_roundw
            case rel => exact ⟨j + 1, P ++ [z], _, by omega, by go_num, rfl, HK.out, by simp; omega, HO6.out, HB6.out⟩
            case measure => simp [intOf]; omega
        · obtain rfl : j = y.length := by omega
          have HPE := Lib.hid (show P = keepI ig y by rw [hP.out, List.take_length])
          obtain ⟨Au, cu, rfl, xu⟩ := own_ints_ ho3.out
          have hbo : Below wo.heap.size wo wr := H2.out.trans (hb3.mono hz2o)
          have hrow3 := own_below hown.out.row hbo
          have hz4 := hbo.size
          clear xu hP
          go_wp2_with (at_builtin; refine wpList_append_own_at _ rfl _ _ 31 rfl w1.heap.size 30 i0 (.slice none 0 0) 1 24 Tryd.underlying31 hi hz0 hz1 hz2 rfl (by decide) _ _ _ rfl (hrow3.alloc _) ⟨wr.heap.size, 0, none⟩ 1 1 [.slice Au P.length cu] rfl rfl ?c1 ?c2 ?c3 ?c4 ?c5 ?_)
          case c1 => exact cell_one_new _ _ _
          case c2 => simp [Value.oneCell']
          case c3 => unfold maxLen; omega
          case c4 => omega
          case c5 => first | omega | (simp; omega)
          intro v4 w4 hown4 hgrow _ hlie
          have hb4 := hbo.alloc hbo.size (.cells #[.slice Au P.length cu] 30)
          have F := hown.out.snoc (u := .slice Au P.length cu) (xs := P) hb4 (own_below (own_less ho3.out hz2o) (boxO wr _)) hgrow (by simpa using hlie) hown4 hz3
          rw [HPE.out, ← HT.out] at F
          have HO := Lib.hid F
          have HB4 := Lib.hid ((nextO hb hb4 hz3).grown hgrow (by have := hb4.size; simp at this; (first | omega | (simp; omega))) (fun q hq => (hrow3.lt q hq).1))
          clear F hown4 hgrow hlie hown ho3 hb4 hbo hrow3
          go_wp2
          go_roundw
          case rel => exact ⟨k + 1, _, _, by omega, by go_num, rfl, HO, HB4.out⟩
          case measure => simp [intOf]; omega
    · obtain rfl : k = L.length := by omega
      have h2 := hown.out
      rw [List.take_length] at h2
      obtain ⟨A4, c4, rfl, hL⟩ := h2.lists
      have HL := Lib.hid (show Lists wo A4 L.length c4 ((sps xs s).map (keepI ig)) by rw [HP.out]; exact hL)
      have HB := Lib.hid (next h1 hb)
      clear h2 hown hL
      go_wp2
      go_ret
      exact ⟨_, _, _, rfl, HL.out, HB.out⟩
theorem ints_lit0 (w : World) (t : TypeId) : Ints (w.alloc (.cells #[] t)) (some ⟨w.heap.size, 0, none⟩) 0 0 [] := ⟨rfl, ⟨Nat.le_refl _, Nat.zero_le _, rfl, fun h => absurd h (Nat.not_lt_zero _)⟩⟩
end Go.Proofs.YtnjeloggpbgloaaDoor
