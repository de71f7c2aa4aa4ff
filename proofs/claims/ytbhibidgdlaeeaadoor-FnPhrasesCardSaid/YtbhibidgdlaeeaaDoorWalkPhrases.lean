/- Walk of the law FnPhrases. -/
import Derived.Test.YtbhibidgdlaeeaaDoorDrawQ
import Derived.Test.YtbhibidgdlaeeaaDoorPhrasesLaw
import Derived.Test.YtbhibidgdlaeeaaDoorLikeT
import Derived.Test.YtbhibidgdlaeeaaDoorBig
namespace Go.Proofs.YtbhibidgdlaeeaaDoor
theorem ph_mem {s x : ByteArray} (h : x ∈ phWords s) : x.size ≤ s.size := by
  unfold phWords at h
  split at h
  · exact cutS_each h
  · simp at h
theorem jp_size (xs : List ByteArray) (h : ∀ x ∈ xs, x.size ≤ 20) (h2 : xs.length ≤ 9) : (jpText xs).size ≤ 1000 := by
  unfold jpText
  split
  · have h1 := joined_size xs
    have h3 : total xs ≤ xs.length * 20 := total_le h
    omega
  · decide
theorem rw_size (s old word : ByteArray) (hs : s.size ≤ 100) (hw : word.size ≤ 100) : (rwText s old word).size ≤ 100000 := by
  unfold rwText
  split
  · have h1 := joined_size (repl (cutS 32 s) old word)
    have h2 : ∀ x ∈ repl (cutS 32 s) old word, x.size ≤ 100 := by
      intro x hx
      unfold repl at hx
      obtain ⟨y, hy, rfl⟩ := List.mem_map.1 hx
      have := cutS_each hy
      split <;> omega
    have h3 := total_le h2
    have h4 := cutS_size 32 s
    have h5 : (repl (cutS 32 s) old word).length = (cutS 32 s).length := by unfold repl; simp
    omega
  · decide
theorem ph_codes (s : ByteArray) : phCode s = 0 ∨ phCode s = 1 := by unfold phCode; split <;> simp
theorem ph_total (s : ByteArray) (hs : s.size ≤ 100) : total (phWords s) + (phWords s).length ≤ 1048576 := by
  have h1 : total (phWords s) ≤ (phWords s).length * 100 := total_le fun x hx => by have := ph_mem hx; omega
  have h2 : (phWords s).length ≤ 101 := by
    unfold phWords
    split
    · have := cutS_size 32 s; omega
    · simp
  omega
end Go.Proofs.YtbhibidgdlaeeaaDoor
namespace Go.Proofs.YtbhibidgdlaeeaaDoor.fnPhrases
open Go.ChangeShapes Go.WideShapes Go.ChangeAt Go.RowKit
set_option linter.unusedVariables false
set_option maxRecDepth 100000 in
set_option maxHeartbeats 8000000 in
theorem walk (A : Option Addr) (n c : Nat) (bs : List UInt8) (w : World) (hx : Bytes w A n c bs) (hm : MaxCell w) : Calls Tryd.prog 13 #[.slice A n c] w fun e w' => e = .returned (.bool true) ∧ Below w.heap.size w w' := by
  go_enter Tryd.func13, Tryd.ntmps13
  go_wp2_with fail
  refine (big_any A n c w).mono ?_
  rintro e_ w0 ⟨rfl, h0⟩
  by_cases hbig : 4096 < n
  · have hb2 : (4096 : Int) < n := by omega
    go_wp2
    go_ret
    exact ⟨rfl, h0⟩
  · have hb2 : ¬ (4096 : Int) < n := by omega
    have B0 := Lib.hid h0
    go_wp2_with fail
    refine (DrawWordsOf_any A n c bs _ (hx.below h0)).mono ?_
    rintro e_ w1 ⟨s, rfl, hs, h1⟩
    have B1 := Lib.hid (next B0.out h1)
    have hs1 : s.size ≤ 1048576 := by omega
    clear h0 h1 B0
    go_wp2_with fail
    refine (WordsOf_impl s _ hs1 (hm.below B1.out)).mono ?_
    rintro e_ w2 ⟨v2, rfl, o2, h2⟩
    obtain ⟨A2, c2, rfl, x2⟩ := own_strs o2 (fun x hx => by have := ph_mem hx; unfold maxLen; omega)
    have B2 := Lib.hid (next B1.out h2)
    clear h2 B1 o2
    go_wp2_with fail
    refine (WordsOf_spec s _ hs1).mono ?_
    rintro e_ w3 ⟨v3, rfl, o3, h3⟩
    obtain ⟨A3, c3, rfl, y3⟩ := own_strs o3 (fun x hx => by have := ph_mem hx; unfold maxLen; omega)
    have B3 := Lib.hid (next B2.out h3)
    have x3 := x2.below h3
    clear h3 B2 o3 x2
    go_wp2_with fail
    refine (DrawJoinPhrase_any A n c bs _ (hx.below B3.out)).mono ?_
    rintro e_ w4 ⟨v4, xs, rfl, hl4, hz4, o4, h4⟩
    obtain ⟨A4, c4, rfl, l4⟩ := own_strs o4 (fun x hx => by have := hz4 x hx; unfold maxLen; omega)
    have ht4 : total xs ≤ xs.length * 20 := total_le hz4
    have hj4 := jp_size xs hz4 hl4
    have B4 := Lib.hid (next B3.out h4)
    have x4 := x3.below h4
    have y4 := y3.below h4
    clear h4 B3 o4 x3 y3
    go_wp2_with fail
    refine (JoinPhrase_impl A4 xs.length c4 xs _ l4 (by omega) (hm.below B4.out)).mono ?_
    rintro e_ w5 ⟨rfl, h5⟩
    have B5 := Lib.hid (next B4.out h5)
    have x5 := x4.below h5
    have y5 := y4.below h5
    have l5 := l4.below h5
    clear h5 B4 x4 y4 l4
    go_wp2_with fail
    refine (JoinPhrase_spec A4 xs.length c4 xs _ l5 (by omega)).mono ?_
    rintro e_ w6 ⟨rfl, h6⟩
    have B6 := Lib.hid (next B5.out h6)
    have x6 := x5.below h6
    have y6 := y5.below h6
    have l6 := l5.below h6
    clear h6 B5 x5 y5 l5
    go_wp2_with fail
    refine (DrawReplaceWord_any A n c bs _ (hx.below B6.out)).mono ?_
    rintro e_ w7 ⟨a, old, word, rfl, ha, ho, hw, h7⟩
    have B7 := Lib.hid (next B6.out h7)
    have x7 := x6.below h7
    have y7 := y6.below h7
    have l7 := l6.below h7
    have hr7 := rw_size a old word ha hw
    clear h7 B6 x6 y6 l6
    go_wp2_with fail
    refine (ReplaceWord_impl a old word _ (by omega) (by omega) (by omega) (hm.below B7.out)).mono ?_
    rintro e_ w8 ⟨rfl, h8⟩
    have B8 := Lib.hid (next B7.out h8)
    have x8 := x7.below h8
    have y8 := y7.below h8
    have l8 := l7.below h8
    clear h8 B7 x7 y7 l7
    go_wp2_with fail
    refine (ReplaceWord_spec a old word _ (by omega) (by omega) (by omega)).mono ?_
    rintro e_ w9 ⟨rfl, h9⟩
    have B9 := Lib.hid (next B8.out h9)
    have x9 := x8.below h9
    have y9 := y8.below h9
    have l9 := l8.below h9
    clear h9 B8 x8 y8 l8
    go_wp2_with fail
    refine (DrawIsWord_any A n c bs _ (hx.below B9.out)).mono ?_
    rintro e_ w10 ⟨x, rfl, hxs, h10⟩
    have B10 := Lib.hid (next B9.out h10)
    have x10 := x9.below h10
    have y10 := y9.below h10
    have l10 := l9.below h10
    clear h10 B9 x9 y9 l9 hx
    have k1 : (phCode s != phCode s) = false := by simp
    have k2 : (jpCode xs != jpCode xs) = false := by simp
    have k3 : ((jpText xs).toList == (jpText xs).toList) = true := by simp
    have k4 : (rwCode a old word != rwCode a old word) = false := by simp
    have k5 : ((rwText a old word).toList == (rwText a old word).toList) = true := by simp
    have k6 : (s.toList == s.toList) = true := by simp
    have k7 : (isWord x == isWord x) = true := by simp
    have mx : x.size ≤ maxLen := by unfold maxLen; omega
    have HT1 := Lib.hid (jp_there (xs := xs))
    have HT2 := Lib.hid (rw_there (s := a) (old := old) (word := word))
    have HT3 := Lib.hid (ph_there (s := s))
    have HPH := Lib.hid (show isPhrase s = decide (phCode s = 0) by unfold phCode; cases isPhrase s <;> simp)
    have HPT := ph_total s (by omega)
    have HPM : Hid (∀ z ∈ phWords s, z.size ≤ maxLen) := Lib.hid fun z hz => by have := ph_mem hz; unfold maxLen; omega
    have HZ4 := Lib.hid hz4
    have hW1 := fun W h => WordsOf_impl (jpText xs) W (by omega) h
    have hW2 := fun W h => WordsOf_impl (rwText a old word) W (by omega) h
    have hJ3 := fun W h1 h2 => JoinPhrase_impl A2 (phWords s).length c2 (phWords s) W h1 HPT h2
    clear hz4 HPT
    go_wp2_with fail
    refine (isb (likeTexts_any A2 A3 _ c2 _ c3 (phWords s) (phWords s) _ x10 y10) (decide_eq_true rfl)).mono ?_
    rintro e_ w11 ⟨rfl, h11⟩
    have B11 := Lib.hid (next B10.out h11)
    have x11 := x10.below h11
    have l11 := l10.below h11
    clear h11 B10 x10 y10 l10
    go_wp2_with fail
    refine (IsWord_impl x _ mx).mono ?_
    rintro e_ w12 ⟨rfl, h12⟩
    have B12 := Lib.hid (next B11.out h12)
    have x12 := x11.below h12
    have l12 := l11.below h12
    clear h12 B11 x11 l11
    go_wp2_with fail
    refine (IsWord_spec x _ mx).mono ?_
    rintro e_ w13 ⟨rfl, h13⟩
    have B13 := Lib.hid (next B12.out h13)
    have x13 := x12.below h13
    have l13 := l12.below h13
    clear h13 B12 x12 l12
    generalize isWord x = iw at *
    rcases ph_codes s with hc | hc
    · have hph : isPhrase s = true := by rw [HPH.out]; exact decide_eq_true hc
      have j2 : (phCode s == 0) = true := by rw [hc]; rfl
      have j4 : (phCode s != 0) = false := by rw [hc]; rfl
      obtain ⟨t1, t2⟩ := HT3.out hc
      rw [t1, t2] at hJ3
      go_wp2_with fail
      refine (isb (IsPhrase_impl s _ hs1 (hm.below B13.out)) hph).mono ?_
      rintro e_ w14 ⟨rfl, h14⟩
      have B14 := Lib.hid (next B13.out h14)
      have x14 := x13.below h14
      have l14 := l13.below h14
      clear h14 B13 x13 l13
      by_cases h1 : jpCode xs = 0
      · obtain ⟨p1, p2⟩ := HT1.out h1
        have j1 : (jpCode xs == 0) = true := by rw [h1]; rfl
        rw [p1, p2] at hW1
        go_wp2_with fail
        refine (hW1 _ (hm.below B14.out)).mono ?_
        rintro e_ w15 ⟨v15, rfl, o15, h15⟩
        obtain ⟨A15, c15, rfl, z15⟩ := own_strs o15 (fun x hx => by have := HZ4.out x hx; unfold maxLen; omega)
        have B15 := Lib.hid (next B14.out h15)
        have x15 := x14.below h15
        have l15 := l14.below h15
        clear h15 B14 x14 l14 o15
        go_wp2_with fail
        refine (isb (likeTexts_any A15 A4 _ c15 _ c4 xs xs _ z15 l15) (decide_eq_true rfl)).mono ?_
        rintro e_ w16 ⟨rfl, h16⟩
        have B16 := Lib.hid (next B15.out h16)
        have x16 := x15.below h16
        clear h16 B15 x15 l15 z15
        by_cases h3 : rwCode a old word = 0
        · obtain ⟨q1, q2, q3⟩ := HT2.out h3
          have j3 : (rwCode a old word == 0) = true := by rw [h3]; rfl
          rw [q1] at hW2
          have hq4 : ∀ z ∈ phWords (rwText a old word), z.size ≤ maxLen := fun z hz => by have := ph_mem hz; unfold maxLen; omega
          generalize phWords (rwText a old word) = ys at *
          go_wp2_with fail
          refine (hW2 _ (hm.below B16.out)).mono ?_
          rintro e_ w17 ⟨v17, rfl, o17, h17⟩
          obtain ⟨A17, c17, rfl, z17⟩ := own_strs o17 hq4
          have B17 := Lib.hid (next B16.out h17)
          have x17 := x16.below h17
          clear h17 B16 x16 o17
          go_wp2_with fail
          refine (isb (hasText_any A17 _ c17 ys word _ z17) q2).mono ?_
          rintro e_ w18 ⟨rfl, h18⟩
          have B18 := Lib.hid (next B17.out h18)
          have x18 := x17.below h18
          have z18 := z17.below h18
          clear h18 B17 x17 z17
          by_cases how : old = word
          · have how2 : (old.toList == word.toList) = true := by rw [how]; simp
            go_wp2_with fail
            refine (hJ3 _ x18 (hm.below B18.out)).mono ?_
            rintro e_ w19 ⟨rfl, h19⟩
            go_wp2
            go_ret
            exact ⟨rfl, next B18.out h19⟩
          · have how2 := text_ne how
            go_wp2_with fail
            refine (isb (hasText_any A17 _ c17 ys old _ z18) (q3 how)).mono ?_
            rintro e_ w19 ⟨rfl, h19⟩
            have B19 := Lib.hid (next B18.out h19)
            have x19 := x18.below h19
            clear h19 B18 x18
            go_wp2_with fail
            refine (hJ3 _ x19 (hm.below B19.out)).mono ?_
            rintro e_ w20 ⟨rfl, h20⟩
            go_wp2
            go_ret
            exact ⟨rfl, next B19.out h20⟩
        · have j3 : (rwCode a old word == 0) = false := by simpa using h3
          go_wp2_with fail
          refine (hJ3 _ x16 (hm.below B16.out)).mono ?_
          rintro e_ w17 ⟨rfl, h17⟩
          go_wp2
          go_ret
          exact ⟨rfl, next B16.out h17⟩
      · have j1 : (jpCode xs == 0) = false := by simpa using h1
        by_cases h3 : rwCode a old word = 0
        · obtain ⟨q1, q2, q3⟩ := HT2.out h3
          have j3 : (rwCode a old word == 0) = true := by rw [h3]; rfl
          rw [q1] at hW2
          have hq4 : ∀ z ∈ phWords (rwText a old word), z.size ≤ maxLen := fun z hz => by have := ph_mem hz; unfold maxLen; omega
          generalize phWords (rwText a old word) = ys at *
          go_wp2_with fail
          refine (hW2 _ (hm.below B14.out)).mono ?_
          rintro e_ w15 ⟨v15, rfl, o15, h15⟩
          obtain ⟨A15, c15, rfl, z15⟩ := own_strs o15 hq4
          have B15 := Lib.hid (next B14.out h15)
          have x15 := x14.below h15
          clear h15 B14 x14 o15
          go_wp2_with fail
          refine (isb (hasText_any A15 _ c15 ys word _ z15) q2).mono ?_
          rintro e_ w16 ⟨rfl, h16⟩
          have B16 := Lib.hid (next B15.out h16)
          have x16 := x15.below h16
          have z16 := z15.below h16
          clear h16 B15 x15 z15
          by_cases how : old = word
          · have how2 : (old.toList == word.toList) = true := by rw [how]; simp
            go_wp2_with fail
            refine (hJ3 _ x16 (hm.below B16.out)).mono ?_
            rintro e_ w17 ⟨rfl, h17⟩
            go_wp2
            go_ret
            exact ⟨rfl, next B16.out h17⟩
          · have how2 := text_ne how
            go_wp2_with fail
            refine (isb (hasText_any A15 _ c15 ys old _ z16) (q3 how)).mono ?_
            rintro e_ w17 ⟨rfl, h17⟩
            have B17 := Lib.hid (next B16.out h17)
            have x17 := x16.below h17
            clear h17 B16 x16
            go_wp2_with fail
            refine (hJ3 _ x17 (hm.below B17.out)).mono ?_
            rintro e_ w18 ⟨rfl, h18⟩
            go_wp2
            go_ret
            exact ⟨rfl, next B17.out h18⟩
        · have j3 : (rwCode a old word == 0) = false := by simpa using h3
          go_wp2_with fail
          refine (hJ3 _ x14 (hm.below B14.out)).mono ?_
          rintro e_ w15 ⟨rfl, h15⟩
          go_wp2
          go_ret
          exact ⟨rfl, next B14.out h15⟩
    · have hph : isPhrase s = false := by rw [HPH.out]; exact decide_eq_false (by omega)
      have j2 : (phCode s == 0) = false := by rw [hc]; rfl
      have j4 : (phCode s != 0) = true := by rw [hc]; rfl
      go_wp2_with fail
      refine (isb (IsPhrase_impl s _ hs1 (hm.below B13.out)) hph).mono ?_
      rintro e_ w14 ⟨rfl, h14⟩
      have B14 := Lib.hid (next B13.out h14)
      have x14 := x13.below h14
      have l14 := l13.below h14
      clear h14 B13 x13 l13
      by_cases h1 : jpCode xs = 0
      · obtain ⟨p1, p2⟩ := HT1.out h1
        have j1 : (jpCode xs == 0) = true := by rw [h1]; rfl
        rw [p1, p2] at hW1
        go_wp2_with fail
        refine (hW1 _ (hm.below B14.out)).mono ?_
        rintro e_ w15 ⟨v15, rfl, o15, h15⟩
        obtain ⟨A15, c15, rfl, z15⟩ := own_strs o15 (fun x hx => by have := HZ4.out x hx; unfold maxLen; omega)
        have B15 := Lib.hid (next B14.out h15)
        have x15 := x14.below h15
        have l15 := l14.below h15
        clear h15 B14 x14 l14 o15
        go_wp2_with fail
        refine (isb (likeTexts_any A15 A4 _ c15 _ c4 xs xs _ z15 l15) (decide_eq_true rfl)).mono ?_
        rintro e_ w16 ⟨rfl, h16⟩
        have B16 := Lib.hid (next B15.out h16)
        have x16 := x15.below h16
        clear h16 B15 x15 l15 z15
        by_cases h3 : rwCode a old word = 0
        · obtain ⟨q1, q2, q3⟩ := HT2.out h3
          have j3 : (rwCode a old word == 0) = true := by rw [h3]; rfl
          rw [q1] at hW2
          have hq4 : ∀ z ∈ phWords (rwText a old word), z.size ≤ maxLen := fun z hz => by have := ph_mem hz; unfold maxLen; omega
          generalize phWords (rwText a old word) = ys at *
          go_wp2_with fail
          refine (hW2 _ (hm.below B16.out)).mono ?_
          rintro e_ w17 ⟨v17, rfl, o17, h17⟩
          obtain ⟨A17, c17, rfl, z17⟩ := own_strs o17 hq4
          have B17 := Lib.hid (next B16.out h17)
          have x17 := x16.below h17
          clear h17 B16 x16 o17
          go_wp2_with fail
          refine (isb (hasText_any A17 _ c17 ys word _ z17) q2).mono ?_
          rintro e_ w18 ⟨rfl, h18⟩
          have B18 := Lib.hid (next B17.out h18)
          have x18 := x17.below h18
          have z18 := z17.below h18
          clear h18 B17 x17 z17
          by_cases how : old = word
          · have how2 : (old.toList == word.toList) = true := by rw [how]; simp
            go_wp2
            go_ret
            exact ⟨rfl, B18.out⟩
          · have how2 := text_ne how
            go_wp2_with fail
            refine (isb (hasText_any A17 _ c17 ys old _ z18) (q3 how)).mono ?_
            rintro e_ w19 ⟨rfl, h19⟩
            have B19 := Lib.hid (next B18.out h19)
            have x19 := x18.below h19
            clear h19 B18 x18
            go_wp2
            go_ret
            exact ⟨rfl, B19.out⟩
        · have j3 : (rwCode a old word == 0) = false := by simpa using h3
          go_wp2
          go_ret
          exact ⟨rfl, B16.out⟩
      · have j1 : (jpCode xs == 0) = false := by simpa using h1
        by_cases h3 : rwCode a old word = 0
        · obtain ⟨q1, q2, q3⟩ := HT2.out h3
          have j3 : (rwCode a old word == 0) = true := by rw [h3]; rfl
          rw [q1] at hW2
          have hq4 : ∀ z ∈ phWords (rwText a old word), z.size ≤ maxLen := fun z hz => by have := ph_mem hz; unfold maxLen; omega
          generalize phWords (rwText a old word) = ys at *
          go_wp2_with fail
          refine (hW2 _ (hm.below B14.out)).mono ?_
          rintro e_ w15 ⟨v15, rfl, o15, h15⟩
          obtain ⟨A15, c15, rfl, z15⟩ := own_strs o15 hq4
          have B15 := Lib.hid (next B14.out h15)
          have x15 := x14.below h15
          clear h15 B14 x14 o15
          go_wp2_with fail
          refine (isb (hasText_any A15 _ c15 ys word _ z15) q2).mono ?_
          rintro e_ w16 ⟨rfl, h16⟩
          have B16 := Lib.hid (next B15.out h16)
          have x16 := x15.below h16
          have z16 := z15.below h16
          clear h16 B15 x15 z15
          by_cases how : old = word
          · have how2 : (old.toList == word.toList) = true := by rw [how]; simp
            go_wp2
            go_ret
            exact ⟨rfl, B16.out⟩
          · have how2 := text_ne how
            go_wp2_with fail
            refine (isb (hasText_any A15 _ c15 ys old _ z16) (q3 how)).mono ?_
            rintro e_ w17 ⟨rfl, h17⟩
            have B17 := Lib.hid (next B16.out h17)
            have x17 := x16.below h17
            clear h17 B16 x16
            go_wp2
            go_ret
            exact ⟨rfl, B17.out⟩
        · have j3 : (rwCode a old word == 0) = false := by simpa using h3
          go_wp2
          go_ret
          exact ⟨rfl, B14.out⟩
end Go.Proofs.YtbhibidgdlaeeaaDoor.fnPhrases
