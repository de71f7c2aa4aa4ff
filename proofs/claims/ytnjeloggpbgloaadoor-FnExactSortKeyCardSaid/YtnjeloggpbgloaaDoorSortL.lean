/- SortKey: the program's and the reference's. -/
import Derived.Test.YtnjeloggpbgloaaDoorSortK
import Derived.Test.YtnjeloggpbgloaaDoorNumJ
import Derived.Test.YtnjeloggpbgloaaDoorSpellLaw
namespace Go.Proofs.YtnjeloggpbgloaaDoor
open Go.ChangeShapes Go.WideShapes Go.ChangeAt Go.RowKit
theorem alpha_len {xs : List ByteArray} (h : isAlpha xs = true) : xs.length ≤ 40 := by
  unfold isAlpha at h
  rw [Bool.and_eq_true] at h
  exact (of_decide_eq_true h.2).2
theorem spell_range {xs : List ByteArray} (ha : isAlpha xs = true) (t : ByteArray) : ∀ i ∈ spellList xs t, 0 ≤ i ∧ i ≤ 39 := fun i hi => by
  unfold spellList at hi
  rcases h : spell xs t with _ | l
  · rw [h] at hi; simp at hi
  · rw [h] at hi
    simp at hi
    unfold spell at h
    have := (spl_cat h).1 i hi
    have := alpha_len ha
    omega
theorem sps_range {xs : List ByteArray} (ha : isAlpha xs = true) (s : ByteArray) : ∀ l ∈ sps xs s, ∀ i ∈ l, 0 ≤ i ∧ i ≤ 39 := fun l hl i hi => by
  unfold sps at hl
  obtain ⟨t, _, rfl⟩ := List.mem_map.1 hl
  exact spell_range ha t i hi
/-- the key of a phrase -/
def kIn (t : ByteArray) (l : List Int) : ByteArray := l.foldl (fun t i => t ++ numT (i + 10)) t
def kOut : Nat → ByteArray → List (List Int) → ByteArray
  | _, t, [] => t
  | 0, t, l :: r => kOut 1 (kIn t l) r
  | k + 1, t, l :: r => kOut (k + 2) (kIn (t ++ ⟨#[48]⟩) l) r
theorem kIn_step {l : List Int} {j : Nat} {i : Int} {t : ByteArray} (h : l[j]? = some i) : kIn t (l.drop j) = kIn (t ++ numT (i + 10)) (l.drop (j + 1)) := by
  rw [drop_cons h]
  rfl
theorem kOut_first {L : List (List Int)} {l : List Int} {t : ByteArray} (h : L[0]? = some l) : kOut 0 t (L.drop 0) = kOut 1 (kIn t l) (L.drop 1) := by
  rw [drop_cons h]
  rfl
theorem kOut_more {L : List (List Int)} {l : List Int} {t : ByteArray} {k : Nat} (h : L[k + 1]? = some l) : kOut (k + 1) t (L.drop (k + 1)) = kOut (k + 2) (kIn (t ++ ⟨#[48]⟩) l) (L.drop (k + 2)) := by
  rw [drop_cons h]
  rfl
theorem kOut_end {L : List (List Int)} {t : ByteArray} {k : Nat} (h : L.length ≤ k) : kOut k t (L.drop k) = t := by
  rw [List.drop_eq_nil_of_le h]
  cases k <;> rfl
theorem num_small {i : Int} (h0 : 0 ≤ i) (h1 : i ≤ 39) : (numT (i + 10)).size ≤ 21 := numT_size (by unfold numB; exact decide_eq_true (by omega))
theorem num_nat (n : Nat) : numT (n : Int) = ⟨(Lib.decDigits n).toArray⟩ := by
  unfold numT
  rw [itoa_pos (by omega)]
  rfl
def skVal (xs : List ByteArray) (s : ByteArray) : ByteArray := if nsCode xs [] [s] = 0 then kOut 0 ⟨#[]⟩ (sps xs s) else ⟨#[]⟩
theorem one_code (xs : List ByteArray) (ig : List Int) (s : ByteArray) : l6Code xs ig [s] = nsCode xs ig [s] := by
  unfold l6Code
  split
  · rename_i h; rw [h]; simp
  · rfl
theorem strs_oneS (w : World) (s : ByteArray) (ty : TypeId) (hs : s.size ≤ 1048576) : Strs (w.alloc (.cells #[.string s] ty)) (some ⟨w.heap.size, 0, none⟩) 1 1 [s] :=
  strs_alloc w [s] ty (by unfold maxLen; simp) (by unfold maxLen; simp; omega)
theorem keep_none (L : List (List Int)) : L.map (keepI []) = L := by
  induction L with
  | nil => rfl
  | cons x L ih => rw [List.map_cons, ih, keepI_nil]
set_option maxRecDepth 100000 in
set_option maxHeartbeats 4000000 in
theorem SortKey_impl (A : Option Addr) (n c : Nat) (xs : List ByteArray) (s : ByteArray) (w : World) (hx : Strs w A n c xs) (hs : s.size ≤ 1048576) (hm : MaxCell w) (ht : PowTab w) :
    Calls Tryd.prog 7 #[.slice A n c, .string s] w fun e w' => e = .returned (.tuple #[.string (skVal xs s), .int .i64 (nsCode xs [] [s])]) ∧ Below w.heap.size w w' := by
  have b0 := boxO w (.cells #[.string s] 9)
  have h1 := newSorter_any A none _ n c 0 0 1 1 xs [] [s] _ (hx.below b0) ints_none_ (strs_oneS w s 9 hs) (by simp; omega) (hm.below b0)
  obtain ⟨q, hq⟩ : ∃ q, nsCode xs [] [s] = q := ⟨_, rfl⟩
  rw [hq] at h1
  have HQ := Lib.hid hq
  by_cases h0 : q = 0
  · subst h0
    obtain ⟨ha, hph, hsp⟩ := ns_zero hq
    simp at hph hsp
    have HF := Lib.hid (show skVal xs s = kOut 0 ⟨#[]⟩ (sps xs s) by unfold skVal; rw [if_pos hq])
    have HSP := Lib.hid (fun W h1 h2 => spelled_any A n c xs s W h1 hs ha h2)
    have HOK := Lib.hid hsp
    obtain ⟨hl1, hl2⟩ := spell_lens xs hph
    have hrg := sps_range ha s
    have HRG := Lib.hid hrg
    have HL2 := Lib.hid hl2
    clear hq ha hph hsp hrg hl2
    generalize sps xs s = L at *
    go_enter Tryd.func7, Tryd.ntmps7
    go_wp2_with fail
    refine h1.mono ?_
    rintro e_ w1 ⟨A', n', c', B', m', d', rfl, hv, k1⟩
    obtain ⟨rfl, rfl, rfl, rfl, rfl, rfl⟩ := hv trivial
    clear h1 hv
    have hB := next (next b0 k1) (boxO w1 (.cells #[.slice A' n' c', .slice none 0 0] 35))
    have h2 := HSP.out _ (hx.below hB) (hm.below hB)
    rw [HOK.out] at h2
    go_wp2_with fail
    refine h2.mono ?_
    rintro e_ w2 ⟨A2, n2, c2, rfl, hL, k2⟩
    replace hL := hL trivial
    have hb2 := next hB k2
    have hcm := hL.cap.2
    have hnc := hL.cap.1
    unfold maxLen at hcm
    have HN := Lib.hid hL.1
    have hn8 : n2 ≤ 8 := by rw [HN.out]; exact hl1
    clear h2 k1 k2 hB b0 hl1
    go_wp2
    go_loopw [10, 33] (fun tv i wr => ∃ (k : Nat) (t : ByteArray), k ≤ n2 ∧ i = .int .i64 k ∧ tv = .string t ∧ t.size ≤ 400 * k ∧ Hid (kOut k t (L.drop k) = kOut 0 ⟨#[]⟩ L) ∧ Below w2.heap.size w2 wr) (fun _ i _ => n2 - (intOf i).toNat)
    case atStart => exact ⟨0, ⟨#[]⟩, Nat.zero_le _, rfl, rfl, Nat.zero_le _, rfl, Below.refl _ _⟩
    case round =>
      obtain ⟨k, t, hk, rfl, rfl, hts, hE, hb⟩ := hrel
      rename World => wo
      by_cases hlt : k < n2
      · obtain ⟨b, off, rfl, hbl⟩ := hL.at_ k hlt
        obtain ⟨Bk, mk, dk, l, hl, c0, zk⟩ := hL.el hb k hlt
        have hcl := zk.2.cap
        have hcd := zk.2.le
        unfold maxLen at hcl
        have HZ := Lib.hid zk.1
        have hm16 : mk ≤ 16 := by rw [HZ.out]; exact HL2.out l (List.mem_of_getElem? hl.out)
        have HR := Lib.hid (HRG.out l (List.mem_of_getElem? hl.out))
        obtain ⟨t0, hts0, HE0, hk0⟩ : ∃ t0 : ByteArray, t0.size ≤ 400 * k + 1 ∧ Hid (kOut (k + 1) (kIn t0 l) (L.drop (k + 1)) = kOut 0 ⟨#[]⟩ L) ∧ ((¬ 0 < k ∧ t0 = t) ∨ (0 < k ∧ t0 = t ++ ⟨#[48]⟩)) := by
          rcases Nat.eq_zero_or_pos k with e | e
          · subst e
            exact ⟨t, by omega, by unfold Hid; rw [← hE.out]; exact (kOut_first hl.out).symm, .inl ⟨by omega, rfl⟩⟩
          · obtain ⟨k', rfl⟩ : ∃ k', k = k' + 1 := ⟨k - 1, by omega⟩
            exact ⟨t ++ ⟨#[48]⟩, by rw [ByteArray.size_append]; show t.size + 1 ≤ _; omega, by unfold Hid; rw [← hE.out]; exact (kOut_more hl.out).symm, .inr ⟨e, rfl⟩⟩
        clear hE hl
        rcases hk0 with ⟨hk0, rfl⟩ | ⟨hk0, rfl⟩
        · go_wp2
          go_loopw [10, 44] (fun tv i wr => ∃ (j : Nat) (u : ByteArray), j ≤ mk ∧ i = .int .i64 j ∧ tv = .string u ∧ Below wo.heap.size wo wr ∧ u.size ≤ 400 * k + 1 + 21 * j ∧ Hid (kIn u (l.drop j) = kIn t0 l) ∧ Below w2.heap.size w2 wr) (fun _ i _ => mk - (intOf i).toNat)
          case atStart => exact ⟨0, _, Nat.zero_le _, rfl, rfl, Below.refl _ _, hts0, rfl, hb⟩
          case round =>
            clear hb
            obtain ⟨j, u, hj, rfl, rfl, hbX, hus, hK, hb⟩ := hrel
            by_cases hlt2 : j < mk
            · obtain ⟨b4, off4, rfl, hbl4⟩ := zk.at_ j hlt2
              obtain ⟨i, hi, d0⟩ := zk.el hbX hbl4 j hlt2
              obtain ⟨i0, i1⟩ := HR.out i (List.mem_of_getElem? hi.out)
              have HK := Lib.hid ((kIn_step (t := u) hi.out).symm.trans hK.out)
              have hsz := num_small i0 i1
              have hdec := decimal_any (i + 10) wr (by omega) (by omega) (ht.below (next hb2 hb))
              have hus2 : (u ++ numT (i + 10)).size ≤ 400 * k + 1 + 21 * (j + 1) := by rw [ByteArray.size_append]; omega
              clear hK
              go_wp2_with fail
              refine hdec.mono ?_
              rintro e_ w5 ⟨rfl, h5⟩
              have HB5 := Lib.hid (next hb h5)
              have HX5 := Lib.hid (next hbX h5)
              clear hdec h5
              go_wp2
              go_roundw
              case rel => exact ⟨j + 1, u ++ numT (i + 10), by omega, by go_num, rfl, HX5.out, hus2, HK.out, HB5.out⟩
              case measure => simp [intOf]; omega
            · have HE := Lib.hid (show kOut (k + 1) u (L.drop (k + 1)) = kOut 0 ⟨#[]⟩ L by
                have e := hK.out
                rw [List.drop_eq_nil_of_le (by rw [← HZ.out]; omega)] at e
                have e2 : kIn u [] = u := rfl
                rw [e2] at e
                rw [e]; exact HE0.out)
              clear hK
              go_wp2
              go_roundw
              case rel => exact ⟨k + 1, u, by omega, by go_num, rfl, by omega, HE.out, hb⟩
              case measure => simp [intOf]; omega
        · go_wp2
          go_loopw [10, 44] (fun tv i wr => ∃ (j : Nat) (u : ByteArray), j ≤ mk ∧ i = .int .i64 j ∧ tv = .string u ∧ Below wo.heap.size wo wr ∧ u.size ≤ 400 * k + 1 + 21 * j ∧ Hid (kIn u (l.drop j) = kIn (t ++ ⟨#[48]⟩) l) ∧ Below w2.heap.size w2 wr) (fun _ i _ => mk - (intOf i).toNat)
          case atStart => exact ⟨0, _, Nat.zero_le _, rfl, rfl, Below.refl _ _, hts0, rfl, hb⟩
          case round =>
            clear hb
            obtain ⟨j, u, hj, rfl, rfl, hbX, hus, hK, hb⟩ := hrel
            by_cases hlt2 : j < mk
            · obtain ⟨b4, off4, rfl, hbl4⟩ := zk.at_ j hlt2
              obtain ⟨i, hi, d0⟩ := zk.el hbX hbl4 j hlt2
              obtain ⟨i0, i1⟩ := HR.out i (List.mem_of_getElem? hi.out)
              have HK := Lib.hid ((kIn_step (t := u) hi.out).symm.trans hK.out)
              have hsz := num_small i0 i1
              have hdec := decimal_any (i + 10) wr (by omega) (by omega) (ht.below (next hb2 hb))
              have hus2 : (u ++ numT (i + 10)).size ≤ 400 * k + 1 + 21 * (j + 1) := by rw [ByteArray.size_append]; omega
              clear hK
              go_wp2_with fail
              refine hdec.mono ?_
              rintro e_ w5 ⟨rfl, h5⟩
              have HB5 := Lib.hid (next hb h5)
              have HX5 := Lib.hid (next hbX h5)
              clear hdec h5
              go_wp2
              go_roundw
              case rel => exact ⟨j + 1, u ++ numT (i + 10), by omega, by go_num, rfl, HX5.out, hus2, HK.out, HB5.out⟩
              case measure => simp [intOf]; omega
            · have HE := Lib.hid (show kOut (k + 1) u (L.drop (k + 1)) = kOut 0 ⟨#[]⟩ L by
                have e := hK.out
                rw [List.drop_eq_nil_of_le (by rw [← HZ.out]; omega)] at e
                have e2 : kIn u [] = u := rfl
                rw [e2] at e
                rw [e]; exact HE0.out)
              clear hK
              go_wp2
              go_roundw
              case rel => exact ⟨k + 1, u, by omega, by go_num, rfl, by omega, HE.out, hb⟩
              case measure => simp [intOf]; omega
      · obtain rfl : k = n2 := by omega
        have HE := Lib.hid (show skVal xs s = t by rw [HF.out, ← hE.out, kOut_end (by rw [← HN.out]; exact Nat.le_refl _)])
        clear hE
        go_wp2
        go_ret2
        exact ⟨by rw [HE.out, HQ.out]; rfl, next hb2 hb⟩
  · have HF := Lib.hid (show skVal xs s = ⟨#[]⟩ by unfold skVal; rw [hq, if_neg h0])
    have hne : (q != 0) = true := by rw [bne_iff_ne]; exact h0
    clear hq
    go_enter Tryd.func7, Tryd.ntmps7
    go_wp2_with fail
    refine h1.mono ?_
    rintro e_ w1 ⟨A', n', c', B', m', d', rfl, _, k1⟩
    clear h1
    go_wp2
    go_ret2
    exact ⟨by rw [HF.out, HQ.out]; rfl, next (next b0 k1) (boxO _ _)⟩
end Go.Proofs.YtnjeloggpbgloaaDoor
