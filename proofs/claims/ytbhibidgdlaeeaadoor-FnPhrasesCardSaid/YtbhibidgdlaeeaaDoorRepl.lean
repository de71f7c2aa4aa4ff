/- Words replaced: what the functions compute. -/
import Derived.Test.YtbhibidgdlaeeaaDoorJoin
namespace Go.Proofs.YtbhibidgdlaeeaaDoor
open Go.ChangeShapes Go.WideShapes Go.ChangeAt Go.RowKit

def repl (xs : List ByteArray) (old word : ByteArray) : List ByteArray := xs.map fun x => if x = old then word else x
def mid (xs : List ByteArray) (old word : ByteArray) (k : Nat) : List ByteArray := repl (xs.take k) old word ++ xs.drop k
theorem repl_len (xs : List ByteArray) (old word : ByteArray) : (repl xs old word).length = xs.length := by simp [repl]
theorem repl_at {xs : List ByteArray} (old word : ByteArray) {k : Nat} {x : ByteArray} (h : xs[k]? = some x) : repl (xs.take (k + 1)) old word = repl (xs.take k) old word ++ [if x = old then word else x] := by
  unfold repl
  rw [List.take_add_one, h]
  simp
theorem mid_zero (xs : List ByteArray) (old word : ByteArray) : mid xs old word 0 = xs := by simp [mid, repl]
theorem mid_end {xs : List ByteArray} (old word : ByteArray) {k : Nat} (h : xs.length ≤ k) : mid xs old word k = repl xs old word := by
  unfold mid
  rw [List.take_of_length_le h, List.drop_eq_nil_of_le h, List.append_nil]
theorem mid_len (xs : List ByteArray) (old word : ByteArray) (k : Nat) : (mid xs old word k).length = xs.length := by
  unfold mid
  rw [List.length_append, repl_len, ← List.length_append, List.take_append_drop]
theorem mid_at {xs : List ByteArray} (old word : ByteArray) {k : Nat} {x : ByteArray} (h : xs[k]? = some x) : (mid xs old word k)[k]? = some x := by
  obtain ⟨hk, e⟩ := List.getElem?_eq_some_iff.1 h
  unfold mid
  have hl : (repl (xs.take k) old word).length = k := by rw [repl_len, List.length_take]; omega
  rw [List.getElem?_append_right (by omega), hl, Nat.sub_self, List.getElem?_drop]
  simpa using h
theorem mid_set {xs : List ByteArray} (old word : ByteArray) {k : Nat} {x : ByteArray} (h : xs[k]? = some x) : (mid xs old word k).set k (if x = old then word else x) = mid xs old word (k + 1) := by
  obtain ⟨hk, e⟩ := List.getElem?_eq_some_iff.1 h
  have hl : (repl (xs.take k) old word).length = k := by rw [repl_len, List.length_take]; omega
  unfold mid
  have ed : xs.drop k = x :: xs.drop (k + 1) := by rw [List.drop_eq_getElem_cons hk, e]
  rw [repl_at old word h, List.set_append_right _ _ (by omega), hl, Nat.sub_self, ed]
  simp
theorem mid_keep {xs : List ByteArray} (old word : ByteArray) {k : Nat} {x : ByteArray} (h : xs[k]? = some x) (hx : ¬ x = old) : mid xs old word k = mid xs old word (k + 1) := by
  rw [← mid_set old word h, if_neg hx]
  apply List.ext_getElem?
  intro i
  by_cases e : i = k
  · subst e
    have hk := (List.getElem?_eq_some_iff.1 h).1
    rw [mid_at old word h, List.getElem?_set_self (by rw [mid_len]; exact hk)]
  · rw [List.getElem?_set_ne (fun h => e h.symm)]
theorem total_le {xs : List ByteArray} {B : Nat} (h : ∀ x ∈ xs, x.size ≤ B) : total xs ≤ xs.length * B := by
  induction xs with
  | nil => simp [total]
  | cons x r ih =>
    have h1 := ih (fun y hy => h y (by simp [hy]))
    have h2 := h x (by simp)
    unfold total at h1 ⊢
    rw [List.map_cons, List.sum_cons, List.length_cons, Nat.add_mul]
    omega
theorem repl_each {xs : List ByteArray} {old word : ByteArray} {B : Nat} (h : ∀ x ∈ xs, x.size ≤ B) (hw : word.size ≤ B) : ∀ x ∈ repl xs old word, x.size ≤ B := by
  intro y hy
  obtain ⟨x, hx, rfl⟩ := List.mem_map.1 hy
  show (if x = old then word else x).size ≤ B
  split
  · exact hw
  · exact h x hx

theorem repl_total {xs : List ByteArray} {old word : ByteArray} (h8 : xs.length ≤ 8) (h : ∀ x ∈ repl xs old word, x.size ≤ 1048576) : total (repl xs old word) + (repl xs old word).length ≤ 1000000000000 := by
  have h1 := total_le h
  rw [repl_len] at h1 ⊢
  omega
/-- ReplaceWord's answer -/
def rwOk (s old word : ByteArray) : Bool := isPhrase s && isWord old && isWord word
def hasW (xs : List ByteArray) (old : ByteArray) : Bool := xs.any fun x => decide (x = old)
def rwHas (s old : ByteArray) : Bool := hasW (cutS 32 s) old
def rwCode (s old word : ByteArray) : Int := if rwOk s old word = true then if rwHas s old = true then 0 else 4 else 1
def rwText (s old word : ByteArray) : ByteArray := if rwOk s old word = true ∧ rwHas s old = true then joined (repl (cutS 32 s) old word) else ⟨#[]⟩
theorem rw_no {s old word : ByteArray} (h : rwOk s old word = false) : Hid (rwText s old word = ⟨#[]⟩ ∧ rwCode s old word = 1) := by
  unfold Hid rwText rwCode
  rw [h]
  exact ⟨rfl, rfl⟩
theorem rw_miss {s old word : ByteArray} (h : rwOk s old word = true) (hh : rwHas s old = false) : Hid (rwText s old word = ⟨#[]⟩ ∧ rwCode s old word = 4) := by
  unfold Hid rwText rwCode
  rw [h, hh]
  exact ⟨rfl, rfl⟩
theorem rw_hit {s old word : ByteArray} (h : rwOk s old word = true) (hh : rwHas s old = true) : Hid (rwText s old word = joined (repl (cutS 32 s) old word) ∧ rwCode s old word = 0) := by
  unfold Hid rwText rwCode
  rw [h, hh]
  exact ⟨rfl, rfl⟩
theorem has_eq {xs : List ByteArray} {k : Nat} {old : ByteArray} (h : xs[k]? = some old) : hasW (xs.take (k + 1)) old = true := by
  unfold hasW
  rw [List.take_add_one, h]
  simp
theorem has_ne {xs : List ByteArray} {k : Nat} {x old : ByteArray} {b : Bool} (h : xs[k]? = some x) (hn : ¬ x = old) (hb : b = hasW (xs.take k) old) : b = hasW (xs.take (k + 1)) old := by
  rw [hb]
  unfold hasW
  rw [List.take_add_one, h]
  simp [hn]

set_option maxRecDepth 100000 in
set_option maxHeartbeats 4000000 in
theorem ReplaceWord_spec (s old word : ByteArray) (w : World) (hs : s.size ≤ 1048576) (ho : old.size ≤ 1048576) (hw : word.size ≤ 1048576) :
    Calls Tryd.prog 85 #[.string s, .string old, .string word] w fun e w' => e = .returned (.tuple #[.string (rwText s old word), .int .i64 (rwCode s old word)]) ∧ Below w.heap.size w w' := by
  have H := l01Phrase_any s w hs
  have mo : old.size ≤ maxLen := by unfold maxLen; omega
  have mw : word.size ≤ maxLen := by unfold maxLen; omega
  obtain ⟨i0, hi, hz0, hz1, hz2⟩ := info_parts infoStr
  cases hp : isPhrase s
  · have HF := rw_no (show rwOk s old word = false by unfold rwOk; rw [hp]; rfl)
    rw [hp] at H
    have H := Lib.hid H
    clear hp
    go_enter Tryd.func85, Tryd.ntmps85
    go_wp2_with fail
    refine H.out.mono ?_
    rintro e_ w1 ⟨v, rfl, _, hb1⟩
    go_wp2
    go_ret2
    exact ⟨by rw [HF.out.1, HF.out.2]; rfl, hb1⟩
  · rw [hp] at H
    have H := Lib.hid H
    cases hwo : isWord old
    · have HF := rw_no (show rwOk s old word = false by unfold rwOk; rw [hp, hwo]; rfl)
      clear hp
      go_enter Tryd.func85, Tryd.ntmps85
      go_wp2_with fail
      refine H.out.mono ?_
      rintro e_ w1 ⟨v, rfl, _, hb1⟩
      go_wp2_with fail
      refine (isb (IsWord_spec old _ mo) hwo).mono ?_
      rintro e_ w2 ⟨rfl, h2⟩
      have hc_w2 := bcell h2; have hf_w2 := bfree h2
      go_wp2
      go_ret2
      exact ⟨by rw [HF.out.1, HF.out.2]; rfl, next hb1 h2⟩
    · cases hww : isWord word
      · have HF := rw_no (show rwOk s old word = false by unfold rwOk; rw [hp, hwo, hww]; rfl)
        clear hp
        go_enter Tryd.func85, Tryd.ntmps85
        go_wp2_with fail
        refine H.out.mono ?_
        rintro e_ w1 ⟨v, rfl, _, hb1⟩
        go_wp2_with fail
        refine (isb (IsWord_spec old _ mo) hwo).mono ?_
        rintro e_ w2 ⟨rfl, h2⟩
        have hc_w2 := bcell h2; have hf_w2 := bfree h2
        go_wp2_with fail
        refine (isb (IsWord_spec word _ mw) hww).mono ?_
        rintro e_ w3 ⟨rfl, h3⟩
        have hc_w3 := bcell h3; have hf_w3 := bfree h3
        go_wp2
        go_ret2
        exact ⟨by rw [HF.out.1, HF.out.2]; rfl, next (next hb1 h2) h3⟩
      · have hok : Hid (rwOk s old word = true) := by unfold Hid rwOk; rw [hp, hwo, hww]; rfl
        have hmx := cut_max hs
        have h8 : (cutS 32 s).length ≤ 8 := by simp [isPhrase] at hp; omega
        have heach : ∀ x ∈ cutS 32 s, x.size ≤ 1048576 := fun x hx => by have := cutS_each hx; omega
        have HR := Lib.hid (repl_each (old := old) heach hw)
        obtain ⟨L, hL⟩ : ∃ L, L = cutS 32 s := ⟨_, rfl⟩
        have HLL := Lib.hid hL
        clear hp heach
        go_enter Tryd.func85, Tryd.ntmps85
        go_wp2_with fail
        refine H.out.mono ?_
        rintro e_ w1 ⟨v, rfl, hph, hb1⟩
        have hown1 := hph trivial
        rw [← hL] at hown1 hmx h8
        clear hL H hph
        obtain ⟨A, c, rfl, hx⟩ := own_strs hown1 hmx.2
        have hnc := hx.2.1.le
        have hcm := hx.2.1.cap
        unfold maxLen at hcm
        clear hown1
        go_wp2_with fail
        refine (isb (IsWord_spec old _ mo) hwo).mono ?_
        rintro e_ w2 ⟨rfl, h2⟩
        have hc_w2 := bcell h2; have hf_w2 := bfree h2
        go_wp2_with fail
        refine (isb (IsWord_spec word _ mw) hww).mono ?_
        rintro e_ w3 ⟨rfl, h3⟩
        have hc_w3 := bcell h3; have hf_w3 := bfree h3
        have B3 := next (next hb1 h2) h3
        have hx3 := (hx.below h2).below h3
        clear hb1 h2 h3 hx hc_w2 hf_w2 hc_w3 hf_w3
        go_wp2
        go_loopw [10, 11, 12] (fun f o i wr => ∃ (k : Nat) (fb : Bool), k ≤ L.length ∧ i = .int .i64 k ∧ f = .bool fb ∧ Hid (fb = hasW (L.take k) old) ∧ Hid (wr.ownsRow w3.heap.size 9 1 o k ((repl (L.take k) old word).map Value.string)) ∧ Below w3.heap.size w3 wr) (fun _ _ i _ => L.length - (intOf i).toNat)
        case atStart => exact ⟨0, false, Nat.zero_le _, rfl, rfl, by simp [Hid, hasW], World.ownsRow_lit w3 #[] 0 (Nat.le_refl _) (by unfold maxLen; omega) rfl, (Below.refl _ _).alloc (Nat.le_refl _) _⟩
        case round =>
          obtain ⟨k, fb, hk, rfl, rfl, hfb, hown, hb0⟩ := hrel
          have hz3 := hb0.size
          by_cases hlt : k < L.length
          · obtain ⟨b, off, rfl, hbl⟩ := hx3.at_ k hlt
            obtain ⟨x, hxk, c0, _⟩ := hx3.el hb0 hbl k hlt
            have hbw : b < wr.heap.size := Nat.lt_of_lt_of_le hbl hb0.size
            by_cases hxo : x = old
            · subst hxo
              have HA := Lib.hid (show repl (L.take (k + 1)) x word = repl (L.take k) x word ++ [word] by rw [repl_at x word hxk.out, if_pos rfl])
              have HH := Lib.hid (has_eq hxk.out)
              go_wp2_with (at_builtin; refine wpList_append_own _ rfl _ _ 67 rfl w3.heap.size 9 i0 (.string ⟨#[]⟩) 1 16 Tryd.underlying67 hi hz0 hz1 hz2 rfl (by decide) _ _ _ rfl (hown.out.alloc _) ⟨wr.heap.size, 0, none⟩ 1 1 [.string word] rfl rfl ?c1 ?c2 ?c3 ?c4 ?c5 ?_)
              case c1 => exact cell_one_new _ _ _
              case c2 => simp [Value.oneCell']
              case c3 => unfold maxLen; omega
              case c4 => omega
              case c5 => simp; omega
              intro v4 w4 hown4 hgrow _
              have HO : Hid (w4.ownsRow w3.heap.size 9 1 v4 (k + 1) ((repl (L.take (k + 1)) x word).map Value.string)) := by rw [HA.out, List.map_append]; exact hown4
              have HB : Hid (Below w3.heap.size w3 w4) := (hb0.alloc hz3 _).grown hgrow (by simp; omega) (fun q hq => (hown.out.lt q hq).1)
              clear hown4 hgrow hown
              go_wp2
              go_roundw
              case rel => exact ⟨k + 1, true, by omega, by go_num, rfl, HH.out.symm, HO, HB.out⟩
              case measure => simp [intOf]; omega
            · have hne := text_ne hxo
              have HA := Lib.hid (show repl (L.take (k + 1)) old word = repl (L.take k) old word ++ [x] by rw [repl_at old word hxk.out, if_neg hxo])
              have HH := Lib.hid (has_ne hxk.out hxo hfb.out)
              clear hxo
              go_wp2_with (at_builtin; refine wpList_append_own _ rfl _ _ 67 rfl w3.heap.size 9 i0 (.string ⟨#[]⟩) 1 16 Tryd.underlying67 hi hz0 hz1 hz2 rfl (by decide) _ _ _ rfl (hown.out.alloc _) ⟨wr.heap.size, 0, none⟩ 1 1 [.string x] rfl rfl ?c1 ?c2 ?c3 ?c4 ?c5 ?_)
              case c1 => exact cell_one_new _ _ _
              case c2 => simp [Value.oneCell']
              case c3 => unfold maxLen; omega
              case c4 => omega
              case c5 => simp; omega
              intro v4 w4 hown4 hgrow _
              have HO : Hid (w4.ownsRow w3.heap.size 9 1 v4 (k + 1) ((repl (L.take (k + 1)) old word).map Value.string)) := by rw [HA.out, List.map_append]; exact hown4
              have HB : Hid (Below w3.heap.size w3 w4) := (hb0.alloc hz3 _).grown hgrow (by simp; omega) (fun q hq => (hown.out.lt q hq).1)
              clear hown4 hgrow hown
              go_wp2
              go_roundw
              case rel => exact ⟨k + 1, fb, by omega, by go_num, rfl, HH.out, HO, HB.out⟩
              case measure => simp [intOf]; omega
          · have hkE : k = L.length := by omega
            have hfb2 : fb = rwHas s old := by
              have := hfb.out
              rw [List.take_of_length_le (by omega), HLL.out] at this
              exact this
            have hlk : (repl (L.take k) old word).length = k := by rw [repl_len, List.length_take]; omega
            have hrE : repl (L.take k) old word = repl L old word := by rw [List.take_of_length_le (by omega)]
            have hrl : (repl L old word).length = k := by rw [← hrE, hlk]
            cases hfc : rwHas s old
            · have HF := rw_miss hok.out hfc
              have hf3 : fb = false := hfb2.trans hfc
              subst hf3
              clear hfb hfb2
              go_wp2
              go_ret2
              exact ⟨by rw [HF.out.1, HF.out.2]; rfl, next B3 hb0⟩
            · have HF := rw_hit hok.out hfc
              have hf3 : fb = true := hfb2.trans hfc
              subst hf3
              have hown2 := hown.out
              rw [hrE] at hown2
              rw [← hrl] at hown2
              have heach : ∀ x ∈ repl L old word, x.size ≤ 1048576 := by rw [HLL.out]; exact HR.out
              have hT2 := repl_total h8 heach
              have hR8 : (repl L old word).length ≤ 8 := by rw [repl_len]; exact h8
              have HLR := Lib.hid (show repl L old word = repl (cutS 32 s) old word by rw [HLL.out])
              have hmaxR : ∀ x ∈ repl L old word, x.size ≤ maxLen := fun x hx => by have := heach x hx; unfold maxLen; omega
              clear hfb hfb2 hown heach hrE hlk hrl HR
              generalize repl L old word = R at *
              obtain ⟨A2, c2, rfl, hx2⟩ := own_strs hown2 hmaxR
              clear hown2 hmaxR
              go_wp2_with fail
              refine (l01Words_any A2 _ c2 R _ hx2 hT2).mono ?_
              rintro e_ w5 ⟨rfl, h5⟩
              have hc_w5 := bcell h5; have hf_w5 := bfree h5
              go_wp2
              go_ret2
              exact ⟨by rw [HF.out.1, HF.out.2, ← HLR.out]; rfl, next B3 (next hb0 h5)⟩

set_option maxRecDepth 100000 in
set_option maxHeartbeats 4000000 in
theorem ReplaceWord_impl (s old word : ByteArray) (w : World) (hs : s.size ≤ 1048576) (ho : old.size ≤ 1048576) (hw : word.size ≤ 1048576) (hm : MaxCell w) :
    Calls Tryd.prog 84 #[.string s, .string old, .string word] w fun e w' => e = .returned (.tuple #[.string (rwText s old word), .int .i64 (rwCode s old word)]) ∧ Below w.heap.size w w' := by
  have mo : old.size ≤ maxLen := by unfold maxLen; omega
  have mw : word.size ≤ maxLen := by unfold maxLen; omega
  cases hp : isPhrase s
  · have HF := rw_no (show rwOk s old word = false by unfold rwOk; rw [hp]; rfl)
    go_enter Tryd.func84, Tryd.ntmps84
    go_wp2_with fail
    refine (isb (IsPhrase_impl s _ hs hm) hp).mono ?_
    rintro e_ w1 ⟨rfl, h1⟩
    have hc_w1 := bcell h1; have hf_w1 := bfree h1
    go_wp2
    go_ret2
    exact ⟨by rw [HF.out.1, HF.out.2]; rfl, h1⟩
  · have hall : [old, word].all isWord = (isWord old && isWord word) := by simp
    cases hww : (isWord old && isWord word)
    · have HF := rw_no (show rwOk s old word = false by unfold rwOk; rw [Bool.and_assoc, hww, hp]; rfl)
      have HA := hall.trans hww
      clear hall hww
      go_enter Tryd.func84, Tryd.ntmps84
      go_wp2_with fail
      refine (isb (IsPhrase_impl s _ hs hm) hp).mono ?_
      rintro e_ w1 ⟨rfl, h1⟩
      have hc_w1 := bcell h1; have hf_w1 := bfree h1
      go_wp2_with fail
      refine (two_words false old word _ mo mw HA).mono ?_
      rintro e_ w2 ⟨rfl, h2⟩
      go_wp2
      go_ret2
      exact ⟨by rw [HF.out.1, HF.out.2]; rfl, next h1 h2⟩
    · have hok : Hid (rwOk s old word = true) := by unfold Hid rwOk; rw [Bool.and_assoc, hww, hp]; rfl
      have HA := hall.trans hww
      clear hall hww
      have hmx := cut_max hs
      have h8 : (cutS 32 s).length ≤ 8 := by simp [isPhrase] at hp; omega
      have heach : ∀ x ∈ cutS 32 s, x.size ≤ 1048576 := fun x hx => by have := cutS_each hx; omega
      have HR := Lib.hid (repl_each (old := old) heach hw)
      obtain ⟨L, hL⟩ : ∃ L, L = cutS 32 s := ⟨_, rfl⟩
      have HLL := Lib.hid hL
      clear heach
      go_enter Tryd.func84, Tryd.ntmps84
      go_wp2_with fail
      refine (isb (IsPhrase_impl s _ hs hm) hp).mono ?_
      rintro e_ w1 ⟨rfl, h1⟩
      have hc_w1 := bcell h1; have hf_w1 := bfree h1
      go_wp2_with fail
      refine (two_words true old word _ mo mw HA).mono ?_
      rintro e_ w2 ⟨rfl, h2⟩
      have B2 := next h1 h2
      clear h2
      go_wp2_with fail
      refine (wordsOf_any s _ hs (hm.below B2)).mono ?_
      rintro e_ w3 ⟨rfl, rfl⟩
      have ho2 := World.ownsRow_lit (base := w2.heap.size) (e := 9) (size := 1) w2 ((cutS 32 s).map Value.string).toArray (cutS 32 s).length (Nat.le_refl _) hmx.1 (by simp)
      have B3 : Below w2.heap.size w2 (w2.alloc (.cells ((cutS 32 s).map Value.string).toArray 9)) := (Below.refl _ _).alloc (Nat.le_refl _) _
      rw [← hL] at ho2 hmx h8 B3 ⊢
      rw [List.toList_toArray] at ho2
      have hmn := hmx.1
      unfold maxLen at hmn
      clear hL
      generalize w2.alloc (.cells (L.map Value.string).toArray 9) = w3 at *
      have hg : w2.heap.size < w3.heap.size := (ho2.lt _ rfl).2
      have hrlen : (repl L old word).length = L.length := repl_len L old word
      have heachR : ∀ x ∈ repl L old word, x.size ≤ 1048576 := by rw [HLL.out]; exact HR.out
      have hT2 := repl_total h8 heachR
      have HRL := Lib.hid (show repl L old word = repl (cutS 32 s) old word by rw [HLL.out])
      have HRM : ∀ x ∈ repl L old word, x.size ≤ maxLen := fun x hx => by have := heachR x hx; unfold maxLen; omega
      have HRM := Lib.hid HRM
      have HE := Lib.hid (mid_end (xs := L) old word (Nat.le_refl _))
      have HO := Lib.hid (show w3.ownsRow w2.heap.size 9 1 (.slice (some ⟨w2.heap.size, 0, none⟩) L.length L.length) L.length ((mid L old word 0).map Value.string) by rw [mid_zero]; exact ho2)
      clear ho2 HR heachR
      generalize hRR : repl L old word = R at *
      have HRR := Lib.hid hRR
      clear hRR
      go_wp2
      go_loopw [9, 26] (fun f i wr => ∃ (k : Nat) (fb : Bool), k ≤ L.length ∧ i = .int .i64 k ∧ f = .bool fb ∧ Hid (fb = hasW (L.take k) old) ∧
          Hid (wr.ownsRow w2.heap.size 9 1 (.slice (some ⟨w2.heap.size, 0, none⟩) L.length L.length) L.length ((mid L old word k).map Value.string)) ∧ Below w2.heap.size w3 wr) (fun _ i _ => L.length - (intOf i).toNat)
      case atStart => exact ⟨0, false, Nat.zero_le _, rfl, rfl, by simp [Hid, hasW], HO, Below.refl _ _⟩
      case round =>
        clear HO
        obtain ⟨k, fb, hk, rfl, rfl, hfb, hown, hb0⟩ := hrel
        have hgr : w2.heap.size < wr.heap.size := Nat.lt_of_lt_of_le hg hb0.size
        by_cases hlt : k < L.length
        · obtain ⟨x, hxk⟩ : ∃ x, Hid (L[k]? = some x) := ⟨_, List.getElem?_eq_getElem hlt⟩
          have d0 := hown.out.cellAt k (by omega)
          rw [List.getElem?_map, mid_at old word hxk.out, Option.map_some] at d0
          have f0 := hown.out.frozenAt k
          by_cases hxo : x = old
          · subst hxo
            have HH := Lib.hid (has_eq hxk.out)
            have hst := (hown.out.stored k (.string word)).1
            have hms := mid_set x word hxk.out
            rw [if_pos rfl] at hms
            rw [← List.map_set, hms] at hst
            have HST := Lib.hid hst
            clear hst hms hown
            go_wp2
            go_roundw
            case rel => exact ⟨k + 1, true, by omega, by go_num, rfl, HH.out.symm, HST, hb0.setCell (Nat.le_refl _) _⟩
            case measure => simp [intOf]; omega
          · have hne := text_ne hxo
            have HH := Lib.hid (has_ne hxk.out hxo hfb.out)
            have hown2 := hown.out
            rw [mid_keep old word hxk.out hxo] at hown2
            have HST := Lib.hid hown2
            clear hown2 hown hxo
            go_wp2
            go_roundw
            case rel => exact ⟨k + 1, fb, by omega, by go_num, rfl, HH.out, HST, hb0⟩
            case measure => simp [intOf]; omega
        · have hkE : k = L.length := by omega
          have hfb2 : fb = rwHas s old := by
            have := hfb.out
            rw [List.take_of_length_le (by omega), HLL.out] at this
            exact this
          have hown2 := hown.out
          rw [hkE, HE.out] at hown2
          clear hfb hown
          cases hfc : rwHas s old
          · have HF := rw_miss hok.out hfc
            have hf3 : fb = false := hfb2.trans hfc
            subst hf3
            clear hfb2 hown2
            go_wp2
            go_ret2
            exact ⟨by rw [HF.out.1, HF.out.2]; rfl, next B2 (B3.trans hb0)⟩
          · have HF := rw_hit hok.out hfc
            have hf3 : fb = true := hfb2.trans hfc
            subst hf3
            have hxR := own_reads hown2 HRM.out
            clear hfb2 hown2 hkE
            rw [hrlen] at hT2
            go_wp2_with fail
            refine (join_any _ _ _ R _ hxR hT2).mono ?_
            rintro e_ w5 ⟨rfl, h5⟩
            have hc_w5 := bcell h5; have hf_w5 := bfree h5
            go_wp2
            go_ret2
            exact ⟨by rw [HF.out.1, HF.out.2, ← HRL.out]; rfl, next B2 (next (B3.trans hb0) h5)⟩
end Go.Proofs.YtbhibidgdlaeeaaDoor
