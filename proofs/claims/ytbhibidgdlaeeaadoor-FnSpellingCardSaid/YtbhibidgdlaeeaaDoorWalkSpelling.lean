/- Walk of the law FnSpelling. -/
import Derived.Test.YtbhibidgdlaeeaaDoorDrawJ
import Derived.Test.YtbhibidgdlaeeaaDoorSpellLaw
import Derived.Test.YtbhibidgdlaeeaaDoorSpellG
import Derived.Test.YtbhibidgdlaeeaaDoorLike
import Derived.Test.YtbhibidgdlaeeaaDoorBig
namespace Go.Proofs.YtbhibidgdlaeeaaDoor.fnSpelling
open Go.ChangeShapes Go.WideShapes Go.ChangeAt Go.RowKit
set_option linter.unusedVariables false
set_option maxRecDepth 100000 in
set_option maxHeartbeats 8000000 in
theorem walk (A : Option Addr) (n c : Nat) (bs : List UInt8) (w : World) (hx : Bytes w A n c bs) : Calls Tryd.prog 12 #[.slice A n c] w fun e w' => e = .returned (.bool true) ∧ Below w.heap.size w w' := by
  go_enter Tryd.func12, Tryd.ntmps12
  go_wp2_with fail
  refine (big_any A n c w).mono ?_
  rintro e_ w0 ⟨rfl, h0⟩
  by_cases hbig : 4096 < n
  · have hb2 : (4096 : Int) < n := by omega
    go_wp2
    go_ret
    exact ⟨rfl, h0⟩
  · have hb2 : ¬ (4096 : Int) < n := by omega
    have B0 := Lib.hid h0
    go_wp2_with fail
    refine (DrawSpellWord_any A n c bs _ (hx.below h0)).mono ?_
    rintro e_ w1 ⟨v1, xs, t, rfl, hl, hz, ht, o1, h1⟩
    obtain ⟨A1, c1, rfl, x1⟩ := own_strs o1 (fun x hx => by have := hz x hx; unfold maxLen; omega)
    have B1 := Lib.hid (next B0.out h1)
    have htm : t.size ≤ maxLen := by unfold maxLen; omega
    clear h0 h1 B0 o1 hz
    have hSI := fun W h => SpellWord_impl A1 xs.length c1 xs t W h htm
    have hSS := fun W h => SpellWord_spec A1 xs.length c1 xs t W h htm
    have hCI := fun W h => CanWrite_impl A1 xs.length c1 xs t W h htm
    have hCS := fun W h => CanWrite_spec A1 xs.length c1 xs t W h htm
    have hNI := fun W h => CountSpellings_impl A1 xs.length c1 xs t W h htm
    have hNS := fun W h => CountSpellings_spec A1 xs.length c1 xs t W h htm
    have HT := Lib.hid (sw_there (xs := xs) (s := t))
    have HP := Lib.hid (cs_pos (xs := xs) (s := t))
    have k0 : (t.toList == t.toList) = true := by simp
    rcases sw_codes xs t with ⟨e1, e2, e3⟩ | ⟨e1, e2, e3⟩ | ⟨e1, e2, e3⟩
    · rw [e1] at hSI hSS
      rw [e3, e2] at hCI hCS
      rw [e2] at hNI hNS
      obtain ⟨t1, t2, t3⟩ := HT.out e1
      have hpos := HP.out e1
      clear HT HP e1 e2 e3
      generalize swList xs t = own at *
      generalize csNum xs t = cn at *
      have k1 : (cn != cn) = false := by simp
      go_wp2_with fail
      refine (hSI _ x1).mono ?_
      rintro e_ w2 ⟨v2, rfl, o2, h2⟩
      obtain ⟨A2, c2, rfl, s2⟩ := own_ints_ o2
      have B2 := Lib.hid (next B1.out h2)
      replace x1 := x1.below h2
      clear h2 B1
      clear o2
      go_wp2_with fail
      refine (hSS _ x1).mono ?_
      rintro e_ w3 ⟨v3, rfl, o3, h3⟩
      obtain ⟨A3, c3, rfl, m3⟩ := own_ints_ o3
      have B3 := Lib.hid (next B2.out h3)
      replace x1 := x1.below h3
      replace s2 := s2.below h3
      clear h3 B2
      clear o3
      go_wp2_with fail
      refine (hCI _ x1).mono ?_
      rintro e_ w4 ⟨rfl, h4⟩
      have B4 := Lib.hid (next B3.out h4)
      replace x1 := x1.below h4
      replace s2 := s2.below h4
      replace m3 := m3.below h4
      clear h4 B3
      go_wp2_with fail
      refine (hCS _ x1).mono ?_
      rintro e_ w5 ⟨rfl, h5⟩
      have B5 := Lib.hid (next B4.out h5)
      replace x1 := x1.below h5
      replace s2 := s2.below h5
      replace m3 := m3.below h5
      clear h5 B4
      go_wp2_with fail
      refine (hNI _ x1).mono ?_
      rintro e_ w6 ⟨rfl, h6⟩
      have B6 := Lib.hid (next B5.out h6)
      replace x1 := x1.below h6
      replace s2 := s2.below h6
      replace m3 := m3.below h6
      clear h6 B5
      go_wp2_with fail
      refine (hNS _ x1).mono ?_
      rintro e_ w7 ⟨rfl, h7⟩
      have B7 := Lib.hid (next B6.out h7)
      replace x1 := x1.below h7
      replace s2 := s2.below h7
      replace m3 := m3.below h7
      clear h7 B6
      go_wp2_with fail
      refine (DrawJoinLetters_any A n c bs _ (hx.below B7.out)).mono ?_
      rintro e_ w8 ⟨v8, u8, ys, sp, rfl, hl8, hz8, hs8, o8, n8, h8⟩
      obtain ⟨A8, c8, rfl, y8⟩ := own_strs o8 (fun x hx => by have := hz8 x hx; unfold maxLen; omega)
      obtain ⟨D8, d8, rfl, i8⟩ := own_ints_ n8
      have B8 := Lib.hid (next B7.out h8)
      replace x1 := x1.below h8
      replace s2 := s2.below h8
      replace m3 := m3.below h8
      clear h8 B7
      clear o8 n8 hz8
      have hJI := fun W h1 h2 => JoinLetters_impl A8 D8 ys.length c8 sp.length d8 ys sp W h1 h2
      have hJS := fun W h1 h2 => JoinLetters_spec A8 D8 ys.length c8 sp.length d8 ys sp W h1 h2
      generalize jlText ys sp = jt at *
      generalize jlCode ys sp = jc at *
      have k2 : (jt.toList == jt.toList) = true := by simp
      have k3 : (jc != jc) = false := by simp
      go_wp2_with fail
      refine (hJI _ y8 i8).mono ?_
      rintro e_ w9 ⟨rfl, h9⟩
      have B9 := Lib.hid (next B8.out h9)
      replace x1 := x1.below h9
      replace s2 := s2.below h9
      replace m3 := m3.below h9
      replace y8 := y8.below h9
      replace i8 := i8.below h9
      clear h9 B8
      go_wp2_with fail
      refine (hJS _ y8 i8).mono ?_
      rintro e_ w10 ⟨rfl, h10⟩
      have B10 := Lib.hid (next B9.out h10)
      replace x1 := x1.below h10
      replace s2 := s2.below h10
      replace m3 := m3.below h10
      clear h10 B9
      clear y8 i8 hJI hJS
      go_wp2_with fail
      refine (DrawIsSpelling_any A n c bs _ (hx.below B10.out)).mono ?_
      rintro e_ w11 ⟨v11, u11, zs, sq, rfl, hl11, hz11, hs11, o11, n11, h11⟩
      obtain ⟨A11, c11, rfl, y11⟩ := own_strs o11 (fun x hx => by have := hz11 x hx; unfold maxLen; omega)
      obtain ⟨D11, d11, rfl, i11⟩ := own_ints_ n11
      have B11 := Lib.hid (next B10.out h11)
      replace x1 := x1.below h11
      replace s2 := s2.below h11
      replace m3 := m3.below h11
      clear h11 B10
      clear o11 n11 hz11
      have hSPI := fun W h1 h2 => IsSpelling_impl A11 D11 zs.length c11 sq.length d11 zs sq W h1 h2
      have hSPS := fun W h1 h2 => IsSpelling_spec A11 D11 zs.length c11 sq.length d11 zs sq W h1 h2
      generalize isSp zs sq = ib at *
      generalize jlCode zs sq = ic at *
      have k4 : (ib == ib) = true := by simp
      have k5 : (ic != ic) = false := by simp
      go_wp2_with fail
      refine (hSPI _ y11 i11).mono ?_
      rintro e_ w12 ⟨rfl, h12⟩
      have B12 := Lib.hid (next B11.out h12)
      replace x1 := x1.below h12
      replace s2 := s2.below h12
      replace m3 := m3.below h12
      replace y11 := y11.below h12
      replace i11 := i11.below h12
      clear h12 B11
      go_wp2_with fail
      refine (hSPS _ y11 i11).mono ?_
      rintro e_ w13 ⟨rfl, h13⟩
      have B13 := Lib.hid (next B12.out h13)
      replace x1 := x1.below h13
      replace s2 := s2.below h13
      replace m3 := m3.below h13
      clear h13 B12
      clear y11 i11 hSPI hSPS
      go_wp2_with fail
      refine (isb (likeInts_any A2 A3 _ c2 _ c3 own own _ s2 m3) (decide_eq_true rfl)).mono ?_
      rintro e_ w14 ⟨rfl, h14⟩
      have B14 := Lib.hid (next B13.out h14)
      replace x1 := x1.below h14
      replace s2 := s2.below h14
      clear h14 B13
      have hj := fun W h1 h2 => JoinLetters_impl A1 A2 xs.length c1 own.length c2 xs own W h1 h2
      have hi := fun W h1 h2 => IsSpelling_impl A1 A2 xs.length c1 own.length c2 xs own W h1 h2
      rw [t1, t2] at hj
      rw [t3, t1] at hi
      go_wp2_with fail
      refine (hj _ x1 s2).mono ?_
      rintro e_ w15 ⟨rfl, h15⟩
      have B15 := Lib.hid (next B14.out h15)
      replace x1 := x1.below h15
      replace s2 := s2.below h15
      clear h15 B14
      go_wp2_with fail
      refine (hi _ x1 s2).mono ?_
      rintro e_ w16 ⟨rfl, h16⟩
      have B16 := Lib.hid (next B15.out h16)
      clear h16 B15
      go_wp2
      go_ret
      exact ⟨rfl, B16.out⟩
    · rw [e1] at hSI hSS
      rw [e3, e2] at hCI hCS
      rw [e2] at hNI hNS
      clear HT HP e1 e2 e3
      generalize swList xs t = own at *
      generalize csNum xs t = cn at *
      have k1 : (cn != cn) = false := by simp
      go_wp2_with fail
      refine (hSI _ x1).mono ?_
      rintro e_ w2 ⟨v2, rfl, o2, h2⟩
      obtain ⟨A2, c2, rfl, s2⟩ := own_ints_ o2
      have B2 := Lib.hid (next B1.out h2)
      replace x1 := x1.below h2
      clear h2 B1
      clear o2
      go_wp2_with fail
      refine (hSS _ x1).mono ?_
      rintro e_ w3 ⟨v3, rfl, o3, h3⟩
      obtain ⟨A3, c3, rfl, m3⟩ := own_ints_ o3
      have B3 := Lib.hid (next B2.out h3)
      replace x1 := x1.below h3
      replace s2 := s2.below h3
      clear h3 B2
      clear o3
      go_wp2_with fail
      refine (hCI _ x1).mono ?_
      rintro e_ w4 ⟨rfl, h4⟩
      have B4 := Lib.hid (next B3.out h4)
      replace x1 := x1.below h4
      replace s2 := s2.below h4
      replace m3 := m3.below h4
      clear h4 B3
      go_wp2_with fail
      refine (hCS _ x1).mono ?_
      rintro e_ w5 ⟨rfl, h5⟩
      have B5 := Lib.hid (next B4.out h5)
      replace x1 := x1.below h5
      replace s2 := s2.below h5
      replace m3 := m3.below h5
      clear h5 B4
      go_wp2_with fail
      refine (hNI _ x1).mono ?_
      rintro e_ w6 ⟨rfl, h6⟩
      have B6 := Lib.hid (next B5.out h6)
      replace x1 := x1.below h6
      replace s2 := s2.below h6
      replace m3 := m3.below h6
      clear h6 B5
      go_wp2_with fail
      refine (hNS _ x1).mono ?_
      rintro e_ w7 ⟨rfl, h7⟩
      have B7 := Lib.hid (next B6.out h7)
      replace x1 := x1.below h7
      replace s2 := s2.below h7
      replace m3 := m3.below h7
      clear h7 B6
      go_wp2_with fail
      refine (DrawJoinLetters_any A n c bs _ (hx.below B7.out)).mono ?_
      rintro e_ w8 ⟨v8, u8, ys, sp, rfl, hl8, hz8, hs8, o8, n8, h8⟩
      obtain ⟨A8, c8, rfl, y8⟩ := own_strs o8 (fun x hx => by have := hz8 x hx; unfold maxLen; omega)
      obtain ⟨D8, d8, rfl, i8⟩ := own_ints_ n8
      have B8 := Lib.hid (next B7.out h8)
      replace x1 := x1.below h8
      replace s2 := s2.below h8
      replace m3 := m3.below h8
      clear h8 B7
      clear o8 n8 hz8
      have hJI := fun W h1 h2 => JoinLetters_impl A8 D8 ys.length c8 sp.length d8 ys sp W h1 h2
      have hJS := fun W h1 h2 => JoinLetters_spec A8 D8 ys.length c8 sp.length d8 ys sp W h1 h2
      generalize jlText ys sp = jt at *
      generalize jlCode ys sp = jc at *
      have k2 : (jt.toList == jt.toList) = true := by simp
      have k3 : (jc != jc) = false := by simp
      go_wp2_with fail
      refine (hJI _ y8 i8).mono ?_
      rintro e_ w9 ⟨rfl, h9⟩
      have B9 := Lib.hid (next B8.out h9)
      replace x1 := x1.below h9
      replace s2 := s2.below h9
      replace m3 := m3.below h9
      replace y8 := y8.below h9
      replace i8 := i8.below h9
      clear h9 B8
      go_wp2_with fail
      refine (hJS _ y8 i8).mono ?_
      rintro e_ w10 ⟨rfl, h10⟩
      have B10 := Lib.hid (next B9.out h10)
      replace x1 := x1.below h10
      replace s2 := s2.below h10
      replace m3 := m3.below h10
      clear h10 B9
      clear y8 i8 hJI hJS
      go_wp2_with fail
      refine (DrawIsSpelling_any A n c bs _ (hx.below B10.out)).mono ?_
      rintro e_ w11 ⟨v11, u11, zs, sq, rfl, hl11, hz11, hs11, o11, n11, h11⟩
      obtain ⟨A11, c11, rfl, y11⟩ := own_strs o11 (fun x hx => by have := hz11 x hx; unfold maxLen; omega)
      obtain ⟨D11, d11, rfl, i11⟩ := own_ints_ n11
      have B11 := Lib.hid (next B10.out h11)
      replace x1 := x1.below h11
      replace s2 := s2.below h11
      replace m3 := m3.below h11
      clear h11 B10
      clear o11 n11 hz11
      have hSPI := fun W h1 h2 => IsSpelling_impl A11 D11 zs.length c11 sq.length d11 zs sq W h1 h2
      have hSPS := fun W h1 h2 => IsSpelling_spec A11 D11 zs.length c11 sq.length d11 zs sq W h1 h2
      generalize isSp zs sq = ib at *
      generalize jlCode zs sq = ic at *
      have k4 : (ib == ib) = true := by simp
      have k5 : (ic != ic) = false := by simp
      go_wp2_with fail
      refine (hSPI _ y11 i11).mono ?_
      rintro e_ w12 ⟨rfl, h12⟩
      have B12 := Lib.hid (next B11.out h12)
      replace x1 := x1.below h12
      replace s2 := s2.below h12
      replace m3 := m3.below h12
      replace y11 := y11.below h12
      replace i11 := i11.below h12
      clear h12 B11
      go_wp2_with fail
      refine (hSPS _ y11 i11).mono ?_
      rintro e_ w13 ⟨rfl, h13⟩
      have B13 := Lib.hid (next B12.out h13)
      replace x1 := x1.below h13
      replace s2 := s2.below h13
      replace m3 := m3.below h13
      clear h13 B12
      clear y11 i11 hSPI hSPS
      go_wp2_with fail
      refine (isb (likeInts_any A2 A3 _ c2 _ c3 own own _ s2 m3) (decide_eq_true rfl)).mono ?_
      rintro e_ w14 ⟨rfl, h14⟩
      have B14 := Lib.hid (next B13.out h14)
      replace x1 := x1.below h14
      replace s2 := s2.below h14
      clear h14 B13
      go_wp2
      go_ret
      exact ⟨rfl, B14.out⟩
    · rw [e1] at hSI hSS
      rw [e3, e2] at hCI hCS
      rw [e2] at hNI hNS
      clear HT HP e1 e2 e3
      generalize swList xs t = own at *
      generalize csNum xs t = cn at *
      have k1 : (cn != cn) = false := by simp
      go_wp2_with fail
      refine (hSI _ x1).mono ?_
      rintro e_ w2 ⟨v2, rfl, o2, h2⟩
      obtain ⟨A2, c2, rfl, s2⟩ := own_ints_ o2
      have B2 := Lib.hid (next B1.out h2)
      replace x1 := x1.below h2
      clear h2 B1
      clear o2
      go_wp2_with fail
      refine (hSS _ x1).mono ?_
      rintro e_ w3 ⟨v3, rfl, o3, h3⟩
      obtain ⟨A3, c3, rfl, m3⟩ := own_ints_ o3
      have B3 := Lib.hid (next B2.out h3)
      replace x1 := x1.below h3
      replace s2 := s2.below h3
      clear h3 B2
      clear o3
      go_wp2_with fail
      refine (hCI _ x1).mono ?_
      rintro e_ w4 ⟨rfl, h4⟩
      have B4 := Lib.hid (next B3.out h4)
      replace x1 := x1.below h4
      replace s2 := s2.below h4
      replace m3 := m3.below h4
      clear h4 B3
      go_wp2_with fail
      refine (hCS _ x1).mono ?_
      rintro e_ w5 ⟨rfl, h5⟩
      have B5 := Lib.hid (next B4.out h5)
      replace x1 := x1.below h5
      replace s2 := s2.below h5
      replace m3 := m3.below h5
      clear h5 B4
      go_wp2_with fail
      refine (hNI _ x1).mono ?_
      rintro e_ w6 ⟨rfl, h6⟩
      have B6 := Lib.hid (next B5.out h6)
      replace x1 := x1.below h6
      replace s2 := s2.below h6
      replace m3 := m3.below h6
      clear h6 B5
      go_wp2_with fail
      refine (hNS _ x1).mono ?_
      rintro e_ w7 ⟨rfl, h7⟩
      have B7 := Lib.hid (next B6.out h7)
      replace x1 := x1.below h7
      replace s2 := s2.below h7
      replace m3 := m3.below h7
      clear h7 B6
      go_wp2_with fail
      refine (DrawJoinLetters_any A n c bs _ (hx.below B7.out)).mono ?_
      rintro e_ w8 ⟨v8, u8, ys, sp, rfl, hl8, hz8, hs8, o8, n8, h8⟩
      obtain ⟨A8, c8, rfl, y8⟩ := own_strs o8 (fun x hx => by have := hz8 x hx; unfold maxLen; omega)
      obtain ⟨D8, d8, rfl, i8⟩ := own_ints_ n8
      have B8 := Lib.hid (next B7.out h8)
      replace x1 := x1.below h8
      replace s2 := s2.below h8
      replace m3 := m3.below h8
      clear h8 B7
      clear o8 n8 hz8
      have hJI := fun W h1 h2 => JoinLetters_impl A8 D8 ys.length c8 sp.length d8 ys sp W h1 h2
      have hJS := fun W h1 h2 => JoinLetters_spec A8 D8 ys.length c8 sp.length d8 ys sp W h1 h2
      generalize jlText ys sp = jt at *
      generalize jlCode ys sp = jc at *
      have k2 : (jt.toList == jt.toList) = true := by simp
      have k3 : (jc != jc) = false := by simp
      go_wp2_with fail
      refine (hJI _ y8 i8).mono ?_
      rintro e_ w9 ⟨rfl, h9⟩
      have B9 := Lib.hid (next B8.out h9)
      replace x1 := x1.below h9
      replace s2 := s2.below h9
      replace m3 := m3.below h9
      replace y8 := y8.below h9
      replace i8 := i8.below h9
      clear h9 B8
      go_wp2_with fail
      refine (hJS _ y8 i8).mono ?_
      rintro e_ w10 ⟨rfl, h10⟩
      have B10 := Lib.hid (next B9.out h10)
      replace x1 := x1.below h10
      replace s2 := s2.below h10
      replace m3 := m3.below h10
      clear h10 B9
      clear y8 i8 hJI hJS
      go_wp2_with fail
      refine (DrawIsSpelling_any A n c bs _ (hx.below B10.out)).mono ?_
      rintro e_ w11 ⟨v11, u11, zs, sq, rfl, hl11, hz11, hs11, o11, n11, h11⟩
      obtain ⟨A11, c11, rfl, y11⟩ := own_strs o11 (fun x hx => by have := hz11 x hx; unfold maxLen; omega)
      obtain ⟨D11, d11, rfl, i11⟩ := own_ints_ n11
      have B11 := Lib.hid (next B10.out h11)
      replace x1 := x1.below h11
      replace s2 := s2.below h11
      replace m3 := m3.below h11
      clear h11 B10
      clear o11 n11 hz11
      have hSPI := fun W h1 h2 => IsSpelling_impl A11 D11 zs.length c11 sq.length d11 zs sq W h1 h2
      have hSPS := fun W h1 h2 => IsSpelling_spec A11 D11 zs.length c11 sq.length d11 zs sq W h1 h2
      generalize isSp zs sq = ib at *
      generalize jlCode zs sq = ic at *
      have k4 : (ib == ib) = true := by simp
      have k5 : (ic != ic) = false := by simp
      go_wp2_with fail
      refine (hSPI _ y11 i11).mono ?_
      rintro e_ w12 ⟨rfl, h12⟩
      have B12 := Lib.hid (next B11.out h12)
      replace x1 := x1.below h12
      replace s2 := s2.below h12
      replace m3 := m3.below h12
      replace y11 := y11.below h12
      replace i11 := i11.below h12
      clear h12 B11
      go_wp2_with fail
      refine (hSPS _ y11 i11).mono ?_
      rintro e_ w13 ⟨rfl, h13⟩
      have B13 := Lib.hid (next B12.out h13)
      replace x1 := x1.below h13
      replace s2 := s2.below h13
      replace m3 := m3.below h13
      clear h13 B12
      clear y11 i11 hSPI hSPS
      go_wp2_with fail
      refine (isb (likeInts_any A2 A3 _ c2 _ c3 own own _ s2 m3) (decide_eq_true rfl)).mono ?_
      rintro e_ w14 ⟨rfl, h14⟩
      have B14 := Lib.hid (next B13.out h14)
      replace x1 := x1.below h14
      replace s2 := s2.below h14
      clear h14 B13
      go_wp2
      go_ret
      exact ⟨rfl, B14.out⟩
end Go.Proofs.YtbhibidgdlaeeaaDoor.fnSpelling
