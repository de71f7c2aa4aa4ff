/- Walk of the law FnAlphabetTexts. -/
import Derived.Test.YtbhibidgdlaeeaaDoorDrawI
import Derived.Test.YtbhibidgdlaeeaaDoorAlphaLaw
import Derived.Test.YtbhibidgdlaeeaaDoorLikeT
import Derived.Test.YtbhibidgdlaeeaaDoorBig
namespace Go.Proofs.YtbhibidgdlaeeaaDoor.fnAlphabetTexts
open Go.ChangeShapes Go.WideShapes Go.ChangeAt Go.RowKit
set_option linter.unusedVariables false
set_option maxRecDepth 100000 in
set_option maxHeartbeats 8000000 in
theorem walk (A : Option Addr) (n c : Nat) (bs : List UInt8) (w : World) (hx : Bytes w A n c bs) (hm : MaxCell w) : Calls Tryd.prog 11 #[.slice A n c] w fun e w' => e = .returned (.bool true) ∧ Below w.heap.size w w' := by
  go_enter Tryd.func11, Tryd.ntmps11
  go_wp2_with fail
  refine (big_any A n c w).mono ?_
  rintro e_ w0 ⟨rfl, h0⟩
  by_cases hbig : 4096 < n
  · have hb2 : (4096 : Int) < n := by omega
    go_wp2
    go_ret
    exact ⟨rfl, h0⟩
  · have hb2 : ¬ (4096 : Int) < n := by omega
    have B0 := Lib.hid h0
    go_wp2_with fail
    refine (DrawAlphabetText_any A n c bs _ (hx.below h0)).mono ?_
    rintro e_ w1 ⟨v1, xs, rfl, hl, hz, o1, h1⟩
    obtain ⟨A1, c1, rfl, x1⟩ := own_strs o1 (fun x hx => by have := hz x hx; unfold maxLen; omega)
    have B1 := Lib.hid (next B0.out h1)
    have ht : total xs ≤ xs.length * 4 := total_le hz
    have hts := al_size hz hl
    have HZ := Lib.hid hz
    clear h0 h1 B0 o1 hz
    go_wp2_with fail
    refine (AlphabetText_impl A1 xs.length c1 xs _ x1 (by omega)).mono ?_
    rintro e_ w2 ⟨rfl, h2⟩
    have B2 := Lib.hid (next B1.out h2)
    have x2 := x1.below h2
    clear h2 B1 x1
    go_wp2_with fail
    refine (AlphabetText_spec A1 xs.length c1 xs _ x2 (by omega)).mono ?_
    rintro e_ w3 ⟨rfl, h3⟩
    have B3 := Lib.hid (next B2.out h3)
    have x3 := x2.below h3
    clear h3 B2 x2
    go_wp2_with fail
    refine (DrawReadAlphabet_any A n c bs _ (hx.below B3.out)).mono ?_
    rintro e_ w4 ⟨s, rfl, hs, h4⟩
    have B4 := Lib.hid (next B3.out h4)
    have x4 := x3.below h4
    have hs1 : s.size ≤ 1048576 := by omega
    clear h4 B3 x3 hx
    have HM : Hid (∀ z ∈ raList s, z.size ≤ s.size) := Lib.hid fun z hz => ra_mem hz
    have hrl := ra_len s
    have hrt : total (raList s) ≤ (raList s).length * s.size := total_le fun z hz => ra_mem hz
    have hrt2 : (raList s).length * s.size ≤ 40 * 1000 := Nat.mul_le_mul hrl hs
    have k1 : (alCode xs != alCode xs) = false := by simp
    have k2 : ((alText xs).toList == (alText xs).toList) = true := by simp
    have k3 : (raCode s != raCode s) = false := by simp
    have k4 : (s.toList == s.toList) = true := by simp
    have hth := Lib.hid (al_there (xs := xs))
    have hbk := Lib.hid (al_back (s := s))
    have hac := Lib.hid (al_code xs)
    have hRA := fun W h => ReadAlphabet_impl (alText xs) W (by omega) h
    go_wp2_with fail
    refine (ReadAlphabet_impl s _ hs1 (hm.below B4.out)).mono ?_
    rintro e_ w5 ⟨v5, rfl, o5, h5⟩
    obtain ⟨A5, c5, rfl, y5⟩ := own_strs o5 (fun x hx => by have := HM.out x hx; unfold maxLen; omega)
    have B5 := Lib.hid (next B4.out h5)
    have x5 := x4.below h5
    clear h5 B4 x4 o5
    have hAT := fun W h => AlphabetText_impl A5 (raList s).length c5 (raList s) W h (by omega)
    go_wp2_with fail
    refine (ReadAlphabet_spec s _ hs1).mono ?_
    rintro e_ w6 ⟨v6, rfl, o6, h6⟩
    obtain ⟨A6, c6, rfl, z6⟩ := own_strs o6 (fun x hx => by have := HM.out x hx; unfold maxLen; omega)
    have B6 := Lib.hid (next B5.out h6)
    have x6 := x5.below h6
    have y6 := y5.below h6
    clear h6 B5 x5 y5 o6
    clear hrl hrt hrt2
    go_wp2_with fail
    refine (isb (likeTexts_any A5 A6 _ c5 _ c6 (raList s) (raList s) _ y6 z6) (decide_eq_true rfl)).mono ?_
    rintro e_ w7 ⟨rfl, h7⟩
    have B7 := Lib.hid (next B6.out h7)
    have x7 := x6.below h7
    have y7 := y6.below h7
    clear h7 B6 x6 y6 z6
    rcases hac.out with ⟨hc, ha⟩ | ⟨hc, ha⟩
    · have j2 : (alCode xs == 0) = true := by rw [hc]; rfl
      have j3 : (alCode xs != 0) = false := by rw [hc]; rfl
      obtain ⟨t1, t2⟩ := hth.out hc
      rw [t1, t2] at hRA
      go_wp2_with fail
      refine (isb (IsAlphabet_impl A1 xs.length c1 xs _ x7) ha).mono ?_
      rintro e_ w8 ⟨rfl, h8⟩
      have B8 := Lib.hid (next B7.out h8)
      have x8 := x7.below h8
      have y8 := y7.below h8
      clear h8 B7 x7 y7
      rcases ra_codes s with hr | hr
      · obtain ⟨q1, q2⟩ := hbk.out hr
        have j1 : (raCode s == 0) = true := by rw [hr]; rfl
        rw [q1, q2] at hAT
        generalize raList s = ys at *
        go_wp2_with fail
        refine (hAT _ y8).mono ?_
        rintro e_ w9 ⟨rfl, h9⟩
        have B9 := Lib.hid (next B8.out h9)
        have x9 := x8.below h9
        clear h9 B8 x8 y8
        go_wp2_with fail
        refine (hRA _ (hm.below B9.out)).mono ?_
        rintro e_ w10 ⟨v10, rfl, o10, h10⟩
        obtain ⟨A10, c10, rfl, z10⟩ := own_strs o10 (fun x hx => by have := HZ.out x hx; unfold maxLen; omega)
        have B10 := Lib.hid (next B9.out h10)
        have x10 := x9.below h10
        go_wp2_with fail
        refine (isb (likeTexts_any A10 A1 _ c10 _ c1 xs xs _ z10 x10) (decide_eq_true rfl)).mono ?_
        rintro e_ w11 ⟨rfl, h11⟩
        go_wp2
        go_ret
        exact ⟨rfl, next B10.out h11⟩
      · have j1 : (raCode s == 0) = false := by rw [hr]; rfl
        go_wp2_with fail
        refine (hRA _ (hm.below B8.out)).mono ?_
        rintro e_ w9 ⟨v9, rfl, o9, h9⟩
        obtain ⟨A9, c9, rfl, z9⟩ := own_strs o9 (fun x hx => by have := HZ.out x hx; unfold maxLen; omega)
        have B9 := Lib.hid (next B8.out h9)
        have x9 := x8.below h9
        go_wp2_with fail
        refine (isb (likeTexts_any A9 A1 _ c9 _ c1 xs xs _ z9 x9) (decide_eq_true rfl)).mono ?_
        rintro e_ w10 ⟨rfl, h10⟩
        go_wp2
        go_ret
        exact ⟨rfl, next B9.out h10⟩
    · have j2 : (alCode xs == 0) = false := by rw [hc]; rfl
      have j3 : (alCode xs != 0) = true := by rw [hc]; rfl
      go_wp2_with fail
      refine (isb (IsAlphabet_impl A1 xs.length c1 xs _ x7) ha).mono ?_
      rintro e_ w8 ⟨rfl, h8⟩
      have B8 := Lib.hid (next B7.out h8)
      have x8 := x7.below h8
      have y8 := y7.below h8
      clear h8 B7 x7 y7
      rcases ra_codes s with hr | hr
      · obtain ⟨q1, q2⟩ := hbk.out hr
        have j1 : (raCode s == 0) = true := by rw [hr]; rfl
        rw [q1, q2] at hAT
        generalize raList s = ys at *
        go_wp2_with fail
        refine (hAT _ y8).mono ?_
        rintro e_ w9 ⟨rfl, h9⟩
        have B9 := Lib.hid (next B8.out h9)
        have x9 := x8.below h9
        clear h9 B8 x8 y8
        go_wp2
        go_ret
        exact ⟨rfl, B9.out⟩
      · have j1 : (raCode s == 0) = false := by rw [hr]; rfl
        go_wp2
        go_ret
        exact ⟨rfl, B8.out⟩
end Go.Proofs.YtbhibidgdlaeeaaDoor.fnAlphabetTexts
