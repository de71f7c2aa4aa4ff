/- SortKey: the reference's. -/
import Derived.Test.YtnjeloggpbgloaaDoorSortL
namespace Go.Proofs.YtnjeloggpbgloaaDoor
open Go.ChangeShapes Go.WideShapes Go.ChangeAt Go.RowKit
set_option maxRecDepth 100000 in
set_option maxHeartbeats 4000000 in
theorem SortKey_spec (A : Option Addr) (n c : Nat) (xs : List ByteArray) (s : ByteArray) (w : World) (hx : Strs w A n c xs) (hs : s.size ≤ 1048576) :
    Calls Tryd.prog 5 #[.slice A n c, .string s] w fun e w' => e = .returned (.tuple #[.string (skVal xs s), .int .i64 (nsCode xs [] [s])]) ∧ Below w.heap.size w w' := by
  have b0 := boxO w (.cells #[.string s] 9)
  have b1 := next b0 (boxO (w.alloc (.cells #[.string s] 9)) (.cells #[] 2))
  obtain ⟨q, hq⟩ : ∃ q, nsCode xs [] [s] = q := ⟨_, rfl⟩
  have h1 := isn_ (l06Code_any A (some ⟨w.heap.size + 1, 0, none⟩) (some ⟨w.heap.size, 0, none⟩) n c 0 0 1 1 xs [] [s] ((w.alloc (.cells #[.string s] 9)).alloc (.cells #[] 2)) (hx.below b1) (by simpa using ints_lit0 (w.alloc (.cells #[.string s] 9)) 2) ((strs_oneS w s 9 hs).below (boxO _ _)) (by simp; omega)) ((one_code xs [] s).trans hq)
  have HQ := Lib.hid hq
  by_cases h0 : q = 0
  · subst h0
    obtain ⟨ha, hph, hsp⟩ := ns_zero hq
    simp at hph hsp
    have HF := Lib.hid (show skVal xs s = kOut 0 ⟨#[]⟩ (sps xs s) by unfold skVal; rw [if_pos hq])
    have HSP := Lib.hid (fun (W : World) h1 => l06Spellings_any A (some ⟨W.heap.size, 0, none⟩) n c 0 0 xs [] s (W.alloc (.cells #[] 2)) h1 (ints_lit0 W _) ha hs hph)
    simp only [keep_none] at HSP
    obtain ⟨hl1, hl2⟩ := spell_lens xs hph
    have hrg := sps_range ha s
    have HRG := Lib.hid hrg
    have HL2 := Lib.hid hl2
    clear hq ha hph hsp hrg hl2
    generalize sps xs s = L at *
    go_enter Tryd.func5, Tryd.ntmps5
    go_wp2_with fail
    refine h1.mono ?_
    rintro e_ w1 ⟨rfl, k1⟩
    clear h1
    have hB := next (next b1 k1) (boxO w1 (.cells #[] 2))
    have h2 := HSP.out w1 (hx.below hB)
    go_wp2_with fail
    refine h2.mono ?_
    rintro e_ w2 ⟨A2, n2, c2, rfl, hL, k2⟩
    have hb2 := next hB k2
    have hcm := hL.cap.2
    have hnc := hL.cap.1
    unfold maxLen at hcm
    have HN := Lib.hid hL.1
    have hn8 : n2 ≤ 8 := by rw [HN.out]; exact hl1
    clear h2 k1 k2 hB b0 b1 hl1
    go_wp2
    go_loopw [7, 9] (fun tv i wr => ∃ (k : Nat) (t : ByteArray), k ≤ n2 ∧ i = .int .i64 k ∧ tv = .string t ∧ t.size ≤ 400 * k ∧ Hid (kOut k t (L.drop k) = kOut 0 ⟨#[]⟩ L) ∧ Below w2.heap.size w2 wr) (fun _ i _ => n2 - (intOf i).toNat)
    case atStart => exact ⟨0, ⟨#[]⟩, Nat.zero_le _, rfl, rfl, Nat.zero_le _, rfl, Below.refl _ _⟩
    case round =>
      obtain ⟨k, t, hk, rfl, rfl, hts, hE, hb⟩ := hrel
      rename World => wo
      by_cases hlt : k < n2
      · obtain ⟨b, off, rfl, hbl⟩ := hL.at_ k hlt
        obtain ⟨Bk, mk, dk, l, hl, c0, zk⟩ := hL.el hb k hlt
        have hcl := zk.2.cap
        have hcd := zk.2.le
        unfold maxLen at hcl
        have HZ := Lib.hid zk.1
        have hm16 : mk ≤ 16 := by rw [HZ.out]; exact HL2.out l (List.mem_of_getElem? hl.out)
        have HR := Lib.hid (HRG.out l (List.mem_of_getElem? hl.out))
        obtain ⟨t0, hts0, HE0, hk0⟩ : ∃ t0 : ByteArray, t0.size ≤ 400 * k + 1 ∧ Hid (kOut (k + 1) (kIn t0 l) (L.drop (k + 1)) = kOut 0 ⟨#[]⟩ L) ∧ ((¬ 0 < k ∧ t0 = t) ∨ (0 < k ∧ t0 = t ++ ⟨#[48]⟩)) := by
          rcases Nat.eq_zero_or_pos k with e | e
          · subst e
            exact ⟨t, by omega, by unfold Hid; rw [← hE.out]; exact (kOut_first hl.out).symm, .inl ⟨by omega, rfl⟩⟩
          · obtain ⟨k', rfl⟩ : ∃ k', k = k' + 1 := ⟨k - 1, by omega⟩
            exact ⟨t ++ ⟨#[48]⟩, by rw [ByteArray.size_append]; show t.size + 1 ≤ _; omega, by unfold Hid; rw [← hE.out]; exact (kOut_more hl.out).symm, .inr ⟨e, rfl⟩⟩
        clear hE hl
        rcases hk0 with ⟨hk0, rfl⟩ | ⟨hk0, rfl⟩
        · go_wp2
          go_loopw [7, 10] (fun tv i wr => ∃ (j : Nat) (u : ByteArray), j ≤ mk ∧ i = .int .i64 j ∧ tv = .string u ∧ Below wo.heap.size wo wr ∧ u.size ≤ 400 * k + 1 + 21 * j ∧ Hid (kIn u (l.drop j) = kIn t0 l) ∧ Below w2.heap.size w2 wr) (fun _ i _ => mk - (intOf i).toNat)
          case atStart => exact ⟨0, _, Nat.zero_le _, rfl, rfl, Below.refl _ _, hts0, rfl, hb⟩
          case round =>
            clear hb
            obtain ⟨j, u, hj, rfl, rfl, hbX, hus, hK, hb⟩ := hrel
            have c1 := cell_keep hbX c0
            have hbw : b < wr.heap.size := Nat.lt_of_lt_of_le hbl hb.size
            by_cases hlt2 : j < mk
            · obtain ⟨b4, off4, rfl, hbl4⟩ := zk.at_ j hlt2
              obtain ⟨i, hi, d0⟩ := zk.el hbX hbl4 j hlt2
              obtain ⟨i0, i1⟩ := HR.out i (List.mem_of_getElem? hi.out)
              obtain ⟨z, hz⟩ : ∃ z : Nat, i + 10 = (z : Int) := ⟨(i + 10).toNat, by omega⟩
              have HZN := Lib.hid (show numT (i + 10) = ⟨(Lib.decDigits z).toArray⟩ by rw [hz]; exact num_nat z)
              have HK := Lib.hid ((kIn_step (t := u) hi.out).symm.trans hK.out)
              have hsz := num_small i0 i1
              have hdec := l01Dec_any z wr (by omega)
              rw [HZN.out] at HK hsz
              rw [← hz] at hdec
              obtain ⟨tt, htt⟩ : ∃ tt : ByteArray, (⟨(Lib.decDigits z).toArray⟩ : ByteArray) = tt := ⟨_, rfl⟩
              rw [htt] at HK hsz hdec
              have hus2 : (u ++ tt).size ≤ 400 * k + 1 + 21 * (j + 1) := by rw [ByteArray.size_append]; omega
              clear hK htt HZN hz
              go_wp2_with fail
              refine hdec.mono ?_
              rintro e_ w5 ⟨rfl, h5⟩
              have HB5 := Lib.hid (next hb h5)
              have HX5 := Lib.hid (next hbX h5)
              clear hdec h5
              go_wp2
              go_roundw
              case rel => exact ⟨j + 1, u ++ tt, by omega, by go_num, rfl, HX5.out, hus2, HK.out, HB5.out⟩
              case measure => simp [intOf]; omega
            · have HE := Lib.hid (show kOut (k + 1) u (L.drop (k + 1)) = kOut 0 ⟨#[]⟩ L by
                have e := hK.out
                rw [List.drop_eq_nil_of_le (by rw [← HZ.out]; omega)] at e
                have e2 : kIn u [] = u := rfl
                rw [e2] at e
                rw [e]; exact HE0.out)
              clear hK
              go_wp2
              go_roundw
              case rel => exact ⟨k + 1, u, by omega, by go_num, rfl, by omega, HE.out, hb⟩
              case measure => simp [intOf]; omega
        · go_wp2
          go_loopw [7, 10] (fun tv i wr => ∃ (j : Nat) (u : ByteArray), j ≤ mk ∧ i = .int .i64 j ∧ tv = .string u ∧ Below wo.heap.size wo wr ∧ u.size ≤ 400 * k + 1 + 21 * j ∧ Hid (kIn u (l.drop j) = kIn (t ++ ⟨#[48]⟩) l) ∧ Below w2.heap.size w2 wr) (fun _ i _ => mk - (intOf i).toNat)
          case atStart => exact ⟨0, _, Nat.zero_le _, rfl, rfl, Below.refl _ _, hts0, rfl, hb⟩
          case round =>
            clear hb
            obtain ⟨j, u, hj, rfl, rfl, hbX, hus, hK, hb⟩ := hrel
            have c1 := cell_keep hbX c0
            have hbw : b < wr.heap.size := Nat.lt_of_lt_of_le hbl hb.size
            by_cases hlt2 : j < mk
            · obtain ⟨b4, off4, rfl, hbl4⟩ := zk.at_ j hlt2
              obtain ⟨i, hi, d0⟩ := zk.el hbX hbl4 j hlt2
              obtain ⟨i0, i1⟩ := HR.out i (List.mem_of_getElem? hi.out)
              obtain ⟨z, hz⟩ : ∃ z : Nat, i + 10 = (z : Int) := ⟨(i + 10).toNat, by omega⟩
              have HZN := Lib.hid (show numT (i + 10) = ⟨(Lib.decDigits z).toArray⟩ by rw [hz]; exact num_nat z)
              have HK := Lib.hid ((kIn_step (t := u) hi.out).symm.trans hK.out)
              have hsz := num_small i0 i1
              have hdec := l01Dec_any z wr (by omega)
              rw [HZN.out] at HK hsz
              rw [← hz] at hdec
              obtain ⟨tt, htt⟩ : ∃ tt : ByteArray, (⟨(Lib.decDigits z).toArray⟩ : ByteArray) = tt := ⟨_, rfl⟩
              rw [htt] at HK hsz hdec
              have hus2 : (u ++ tt).size ≤ 400 * k + 1 + 21 * (j + 1) := by rw [ByteArray.size_append]; omega
              clear hK htt HZN hz
              go_wp2_with fail
              refine hdec.mono ?_
              rintro e_ w5 ⟨rfl, h5⟩
              have HB5 := Lib.hid (next hb h5)
              have HX5 := Lib.hid (next hbX h5)
              clear hdec h5
              go_wp2
              go_roundw
              case rel => exact ⟨j + 1, u ++ tt, by omega, by go_num, rfl, HX5.out, hus2, HK.out, HB5.out⟩
              case measure => simp [intOf]; omega
            · have HE := Lib.hid (show kOut (k + 1) u (L.drop (k + 1)) = kOut 0 ⟨#[]⟩ L by
                have e := hK.out
                rw [List.drop_eq_nil_of_le (by rw [← HZ.out]; omega)] at e
                have e2 : kIn u [] = u := rfl
                rw [e2] at e
                rw [e]; exact HE0.out)
              clear hK
              go_wp2
              go_roundw
              case rel => exact ⟨k + 1, u, by omega, by go_num, rfl, by omega, HE.out, hb⟩
              case measure => simp [intOf]; omega
      · obtain rfl : k = n2 := by omega
        have HE := Lib.hid (show skVal xs s = t by rw [HF.out, ← hE.out, kOut_end (by rw [← HN.out]; exact Nat.le_refl _)])
        clear hE
        go_wp2
        go_ret2
        exact ⟨by rw [HE.out, HQ.out]; rfl, next hb2 hb⟩
  · have HF := Lib.hid (show skVal xs s = ⟨#[]⟩ by unfold skVal; rw [hq, if_neg h0])
    have hne : (q != 0) = true := by rw [bne_iff_ne]; exact h0
    clear hq
    go_enter Tryd.func5, Tryd.ntmps5
    go_wp2_with fail
    refine h1.mono ?_
    rintro e_ w1 ⟨rfl, k1⟩
    clear h1
    go_wp2
    go_ret2
    exact ⟨by rw [HF.out, HQ.out]; rfl, next b1 k1⟩
end Go.Proofs.YtnjeloggpbgloaaDoor
