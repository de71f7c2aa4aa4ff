/- Lists of texts compared by the laws. -/
import Derived.Test.YtbhibidgdlaeeaaDoorMarks
import Derived.Test.YtbhibidgdlaeeaaDoorRepl
namespace Go.Proofs.YtbhibidgdlaeeaaDoor
open Go.ChangeShapes Go.WideShapes Go.ChangeAt Go.RowKit
set_option maxRecDepth 100000 in
set_option maxHeartbeats 1000000 in
theorem likeTexts_any (A B : Option Addr) (n c m d : Nat) (xs ys : List ByteArray) (w : World) (hx : Strs w A n c xs) (hy : Strs w B m d ys) :
    Calls Tryd.prog 62 #[.slice A n c, .slice B m d] w fun e w' => e = .returned (.bool (decide (xs = ys))) ∧ Below w.heap.size w w' := by
  have hcm := hx.2.1.cap
  have hnc := hx.2.1.le
  have hdm := hy.2.1.cap
  have hmd := hy.2.1.le
  have HX := Lib.hid hx.1
  have HY := Lib.hid hy.1
  unfold maxLen at hcm hdm
  by_cases hnm : n = m
  · subst hnm
    go_enter Tryd.func62, Tryd.ntmps62
    go_wp2
    go_loopw [5] (fun i wr => ∃ (k : Nat), k ≤ n ∧ i = .int .i64 k ∧ Hid (xs.take k = ys.take k) ∧ Below w.heap.size w wr) (fun i _ => n - (intOf i).toNat)
    case atStart => exact ⟨0, Nat.zero_le _, rfl, rfl, Below.refl _ _⟩
    case round =>
      obtain ⟨k, hk, rfl, hq, hb⟩ := hrel
      by_cases hlt : k < n
      · obtain ⟨b, off, rfl, hbl⟩ := hx.at_ k hlt
        obtain ⟨s, hs, c0, _⟩ := hx.el hb hbl k hlt
        obtain ⟨b2, off2, rfl, hbl2⟩ := hy.at_ k hlt
        obtain ⟨t, ht, c1, _⟩ := hy.el hb hbl2 k hlt
        by_cases hst : s = t
        · have HQ := Lib.hid (show xs.take (k + 1) = ys.take (k + 1) by rw [List.take_add_one, List.take_add_one, hq.out, hs.out, ht.out, hst])
          have hbw : b < wr.heap.size := Nat.lt_of_lt_of_le hbl hb.size
          have hbw2 : b2 < wr.heap.size := Nat.lt_of_lt_of_le hbl2 hb.size
          subst hst
          have hj0 : (0 : Int) ≤ (k : Int) := Int.natCast_nonneg _
          have hj1 : (k : Int) < (n : Int) := by omega
          go_wp2
          refine wp_region_later (by kernel_rfl) (by kernel_rfl) ?_
          repeat (go_big_quiet_step (fail))
          refine wpQuiet_nil ?_
          intro w2 hw2; have h2 := later_below hw2; clear hw2
          go_wp2
          go_roundw
          case rel => exact ⟨k + 1, by omega, by go_num, HQ, next hb h2⟩
          case measure => simp [intOf]; omega
        · have hne := text_ne hst
          have HF := Lib.hid (show decide (xs = ys) = false by
            rw [decide_eq_false_iff_not]
            intro e
            have h1 := hs.out
            rw [e, ht.out] at h1
            exact hst (Option.some.inj h1).symm)
          clear hst
          have hbw : b < wr.heap.size := Nat.lt_of_lt_of_le hbl hb.size
          have hbw2 : b2 < wr.heap.size := Nat.lt_of_lt_of_le hbl2 hb.size
          have hj0 : (0 : Int) ≤ (k : Int) := Int.natCast_nonneg _
          have hj1 : (k : Int) < (n : Int) := by omega
          go_wp2
          refine wp_region_later (by kernel_rfl) (by kernel_rfl) ?_
          repeat (go_big_quiet_step (fail))
          refine wpQuiet_nil ?_
          intro w2 hw2; have h2 := later_below hw2; clear hw2
          go_wp2
          go_ret
          exact ⟨by rw [HF.out]; rfl, next hb h2⟩
      · have HT := Lib.hid (show decide (xs = ys) = true by
          have := hq.out
          rw [List.take_of_length_le (by have := HX.out; omega), List.take_of_length_le (by have := HY.out; omega)] at this
          exact decide_eq_true this)
        clear hq
        go_wp2
        go_ret
        exact ⟨by rw [HT.out]; rfl, hb⟩
  · have HF := Lib.hid (show decide (xs = ys) = false by
      rw [decide_eq_false_iff_not]
      intro e
      exact hnm (by rw [HX.out, HY.out, e]))
    go_enter Tryd.func62, Tryd.ntmps62
    go_wp2
    go_ret
    exact ⟨by rw [HF.out]; rfl, Below.refl _ _⟩
set_option maxRecDepth 100000 in
set_option maxHeartbeats 1000000 in
theorem hasText_any (A : Option Addr) (n c : Nat) (xs : List ByteArray) (s : ByteArray) (w : World) (hx : Strs w A n c xs) :
    Calls Tryd.prog 90 #[.slice A n c, .string s] w fun e w' => e = .returned (.bool (hasW xs s)) ∧ Below w.heap.size w w' := by
  have hcm := hx.2.1.cap
  have hnc := hx.2.1.le
  have HX := Lib.hid hx.1
  unfold maxLen at hcm
  go_enter Tryd.func90, Tryd.ntmps90
  go_wp2
  go_loopw [5] (fun i wr => ∃ (k : Nat), k ≤ n ∧ i = .int .i64 k ∧ Hid (hasW (xs.take k) s = false) ∧ Below w.heap.size w wr) (fun i _ => n - (intOf i).toNat)
  case atStart => exact ⟨0, Nat.zero_le _, rfl, rfl, Below.refl _ _⟩
  case round =>
    obtain ⟨k, hk, rfl, hup, hb⟩ := hrel
    by_cases hlt : k < n
    · obtain ⟨b, off, rfl, hbl⟩ := hx.at_ k hlt
      obtain ⟨x, hxk, c0, hsz⟩ := hx.el hb hbl k hlt
      by_cases hst : x = s
      · have HF := Lib.hid (show hasW xs s = true by
          unfold hasW
          rw [List.any_eq_true]
          exact ⟨x, List.mem_of_getElem? hxk.out, decide_eq_true hst⟩)
        subst hst
        have hq : (x.toList == x.toList) = true := by simp
        clear hup
        go_wp2
        go_ret
        exact ⟨by rw [HF.out]; rfl, hb⟩
      · have hne := text_ne hst
        have HU := Lib.hid (show hasW (xs.take (k + 1)) s = false by
          unfold hasW at *
          rw [List.take_add_one, hxk.out, List.any_append, hup.out]
          simp [hst])
        clear hup hst
        go_wp2
        go_roundw
        case rel => exact ⟨k + 1, by omega, by go_num, HU, hb⟩
        case measure => simp [intOf]; omega
    · have HF := Lib.hid (show hasW xs s = false by have := hup.out; rwa [List.take_of_length_le (by have := HX.out; omega)] at this)
      clear hup
      go_wp2
      go_ret
      exact ⟨by rw [HF.out]; rfl, hb⟩
end Go.Proofs.YtbhibidgdlaeeaaDoor
