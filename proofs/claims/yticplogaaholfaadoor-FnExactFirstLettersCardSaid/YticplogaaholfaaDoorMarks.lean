/- The harness's texts: equal slices of texts, marks, copies. -/
import Derived.Test.YticplogaaholfaaDoorSplit
namespace Go.Proofs.YticplogaaholfaaDoor
open Go.ChangeShapes Go.WideShapes Go.ChangeAt Go.RowKit

theorem text_ne {s t : ByteArray} (h : ¬ s = t) : (s.toList == t.toList) = false := by
  rw [beq_eq_false_iff_ne, ByteArray.toList_eq, ByteArray.toList_eq]
  intro e
  exact h (ByteArray.ext (Array.toList_inj.1 e))
def digs : Nat → Nat → List UInt8 → List UInt8
  | 0, _, acc => acc
  | f + 1, n, acc => if n = 0 then acc else digs f (n / 10) (UInt8.ofNat (48 + n % 10) :: acc)
theorem digs_more : ∀ (f g n : Nat) (acc : List UInt8), n ≤ f → n ≤ g → digs f n acc = digs g n acc
  | 0, g, n, acc, hf, _ => by
    obtain rfl : n = 0 := by omega
    cases g <;> simp [digs]
  | f + 1, 0, n, acc, _, hg => by
    obtain rfl : n = 0 := by omega
    simp [digs]
  | f + 1, g + 1, n, acc, hf, hg => by
    unfold digs
    split
    · rfl
    · exact digs_more f g _ _ (by omega) (by omega)
def digits (n : Nat) (acc : List UInt8) : List UInt8 := digs n n acc
theorem digits_zero (acc : List UInt8) : digits 0 acc = acc := rfl
theorem digits_step {n : Nat} (acc : List UInt8) (h : 0 < n) : digits n acc = digits (n / 10) (UInt8.ofNat (48 + n % 10) :: acc) := by
  unfold digits
  cases n with
  | zero => omega
  | succ n =>
    conv => lhs; unfold digs
    rw [if_neg (by omega), digs_more n ((n + 1) / 10) _ _ (by omega) (Nat.le_refl _)]
/-- the mark of a number that is greater than 0 -/
def markT (k : Nat) : ByteArray := ⟨#[109]⟩ ++ ⟨(digits k []).toArray⟩

theorem digs_len : ∀ (f n : Nat) (acc : List UInt8), n ≤ f → (digs f n acc).length ≤ acc.length + n
  | 0, n, acc, h => by simp [digs]
  | f + 1, n, acc, h => by
    unfold digs
    split
    · omega
    · have := digs_len f (n / 10) (UInt8.ofNat (48 + n % 10) :: acc) (by omega)
      rw [List.length_cons] at this
      omega
theorem markT_size (k : Nat) : (markT k).size ≤ k + 1 := by
  have := digs_len k k [] (Nat.le_refl _)
  unfold markT digits
  have h1 : (ByteArray.mk (digs k k []).toArray).size = (digs k k []).length := by simp [ByteArray.size]
  have h2 : (ByteArray.mk #[109]).size = 1 := rfl
  rw [ByteArray.size_append, h1, h2]
  simp at this
  omega
theorem conv_one (W : World) (d : Int) (h0 : 0 ≤ d) (hd : d < 10) :
    (convert 81 9 (.slice (some ⟨W.heap.size, 0, none⟩) 1 1)).run Tryd.prog (W.alloc (.cells #[.int .u8 (48 + d)] 5)) = .ok (.string ⟨#[UInt8.ofNat (48 + d.toNat)]⟩) (W.alloc (.cells #[.int .u8 (48 + d)] 5)) := by
  have h := run_convert_bytes_back (P := Tryd.prog) (W.alloc (.cells #[.int .u8 (48 + d)] 5)) 81 9 5 ⟨W.heap.size, 0, none⟩ 1 [UInt8.ofNat (48 + d.toNat)] Tryd.underlying81 Tryd.underlying5 Tryd.underlying9 ?_
  · simpa using h
  · intro j hj
    have : j = 0 := by simpa using hj
    subst this
    have e : ((UInt8.ofNat (48 + d.toNat)).toNat : Int) = 48 + d := by
      rw [UInt8.toNat_ofNat']; omega
    simp only [List.getElem_cons_zero, e]
    go_simp
theorem cat_one (n : Nat) (acc : List UInt8) : ByteArray.mk #[48 + UInt8.ofNat n] ++ ByteArray.mk acc.toArray = ByteArray.mk (UInt8.ofNat (48 + n) :: acc).toArray := by
  apply ByteArray.ext
  simp [ByteArray.data_append, UInt8.ofNat_add]
set_option maxRecDepth 100000 in
set_option maxHeartbeats 1000000 in
theorem markText_any (k : Nat) (w : World) (hk : 0 < k) (hm : k ≤ 1000000000000) :
    Calls Tryd.prog 49 #[.int .i64 k] w fun e w' => e = .returned (.string (markT k)) ∧ Below w.heap.size w w' := by
  go_enter Tryd.func49, Tryd.ntmps49
  go_wp2
  go_loopw [0, 3] (fun n o wr => ∃ (j : Nat) (acc : List UInt8), n = .int .i64 j ∧ o = .string ⟨acc.toArray⟩ ∧ Hid (digits k [] = digits j acc) ∧ j + acc.length ≤ k ∧ Below w.heap.size w wr) (fun n _ _ => (intOf n).toNat)
  case atStart => exact ⟨k, [], rfl, rfl, rfl, by simp, Below.refl _ _⟩
  case round =>
    obtain ⟨j, acc, rfl, rfl, hd, hl, hb⟩ := hrel
    by_cases hj : 0 < j
    · have hc := conv_one wr ((j : Int) % 10) (by omega) (by omega)
      have HD := Lib.hid (hd.out.trans (digits_step acc hj))
      clear hd
      go_wp2
      go_roundw
      case rel => exact ⟨j / 10, UInt8.ofNat (48 + j % 10) :: acc, by go_num, by rw [cat_one], HD, by simp; omega, hb.alloc hb.size _⟩
      case measure => simp [intOf]; omega
    · obtain rfl : j = 0 := by omega
      go_wp2
      go_ret
      exact ⟨by unfold markT; rw [hd.out, digits_zero]; rfl, hb⟩


def marks (k n : Nat) : List ByteArray := (List.range n).map fun i => markT (k + i)
theorem marks_len (k n : Nat) : (marks k n).length = n := by simp [marks]
theorem marks_at (k n i : Nat) (h : i < n) : (marks k n)[i]? = some (markT (k + i)) := by
  unfold marks
  rw [List.getElem?_map, List.getElem?_range h]; rfl

theorem marks_max {k n : Nat} (h : k + n ≤ 1000000000000) : ∀ x ∈ marks k n, x.size ≤ maxLen := by
  intro x hx
  unfold marks at hx
  obtain ⟨i, hi, rfl⟩ := List.mem_map.1 hx
  have := markT_size (k + i)
  have := List.mem_range.1 hi
  unfold maxLen
  omega
theorem own_reads {w : World} {base : Nat} {e : TypeId} {A : Option Addr} {n c : Nat} {xs : List ByteArray} (h : w.ownsRow base e 1 (.slice A n c) n (xs.map Value.string)) (hs : ∀ x ∈ xs, x.size ≤ maxLen) : Strs w A n c xs :=
  ⟨by have := h.1; simpa using this.symm, Reads.of_own h, hs⟩
set_option maxRecDepth 100000 in
set_option maxHeartbeats 1000000 in
theorem markStrs_any (base k n : Nat) (v : Value) (xs : List ByteArray) (w : World) (hown : w.ownsRow base 9 1 v n (xs.map Value.string)) (hk : 0 < k) (hm : k + n ≤ 1000000000000) (hbase : base ≤ w.heap.size) :
    Calls Tryd.prog 26 #[v, .int .i64 k] w fun e w' => e = .returned (.int .i64 (k + n : Nat)) ∧ w'.ownsRow base 9 1 v n ((marks k n).map Value.string) ∧ Below base w w' := by
  have hxl : xs.length = n := by have := hown.1; simpa using this
  have hform : ∃ A c, v = .slice A n c ∧ n ≤ c ∧ c ≤ maxLen ∧ (0 < n → ∃ g, A = some ⟨g, 0, none⟩ ∧ base ≤ g ∧ g < w.heap.size) := by
    rcases hown.2 with ⟨hv, hn⟩ | ⟨g, cap, cur, hv, hb, hg, hnc, hcm, _⟩
    · subst hv
      exact ⟨none, 0, by rw [hn], by omega, by unfold maxLen; omega, fun h => by omega⟩
    · subst hv
      exact ⟨_, _, rfl, hnc, hcm, fun _ => ⟨g, rfl, (hown.lt g rfl)⟩⟩
  obtain ⟨A, c, rfl, hnc, hcm, hA⟩ := hform
  unfold maxLen at hcm
  go_enter Tryd.func26, Tryd.ntmps26
  go_wp2
  go_loopw [1, 5] (fun q i wr => ∃ (j : Nat) (ys : List ByteArray), j ≤ n ∧ i = .int .i64 j ∧ q = .int .i64 (k + j : Nat) ∧ Hid (ys.take j = (marks k n).take j) ∧ Hid (wr.ownsRow base 9 1 (.slice A n c) n (ys.map Value.string)) ∧ Below base w wr) (fun _ i _ => n - (intOf i).toNat)
  case atStart => exact ⟨0, xs, Nat.zero_le _, rfl, by simp, rfl, hown, Below.refl _ _⟩
  case round =>
    clear hown
    obtain ⟨j, ys, hj, rfl, rfl, hys, ho, hb⟩ := hrel
    have hyl : ys.length = n := by have := ho.out.1; simpa using this
    by_cases hlt : j < n
    · obtain ⟨g, rfl, hg1, hg2⟩ := hA (by omega)
      go_wp2_with fail
      refine (markText_any (k + j) _ (by omega) (by omega)).mono ?_
      rintro e_ w2 ⟨rfl, h2⟩
      have hown2 := own_below ho.out h2
      have d0 := hown2.cellAt j (by omega)
      rw [List.getElem?_map, List.getElem?_eq_getElem (by omega)] at d0
      have f0 := hown2.frozenAt j
      have hst := (hown2.stored j (.string (markT (k + j)))).1
      rw [← List.map_set] at hst
      have HST := Lib.hid hst
      have HY := Lib.hid (take_set1 ys (marks k n) j (markT (k + j)) hys.out (by rw [hyl, marks_len]) (marks_at k n j hlt))
      simp only [Option.map_some] at d0
      clear hst hys hown2 ho
      generalize ys[j] = u0 at d0
      go_wp2
      go_roundw
      case rel => exact ⟨j + 1, _, by omega, by go_num, by go_num, HY.out, HST, (hb.trans (h2.mono (Nat.le_trans hbase hb.size))).setCell hg1 _⟩
      case measure => simp [intOf]; omega
    · obtain rfl : j = n := by omega
      have hE : ys = marks k j := by
        have := hys.out
        rw [List.take_of_length_le (by omega), List.take_of_length_le (by rw [marks_len]; omega)] at this
        exact this
      rw [hE] at ho
      clear hE hys
      go_wp2
      go_ret
      exact ⟨rfl, ho.out, hb⟩

set_option maxRecDepth 100000 in
set_option maxHeartbeats 1000000 in
theorem eqStrs_any (A B : Option Addr) (n c m d : Nat) (xs ys : List ByteArray) (w : World) (hx : Strs w A n c xs) (hy : Strs w B m d ys) :
    Calls Tryd.prog 13 #[.slice A n c, .slice B m d] w fun e w' => e = .returned (.bool (decide (xs = ys))) ∧ Below w.heap.size w w' := by
  have hcm := hx.2.1.cap
  have hnc := hx.2.1.le
  have hdm := hy.2.1.cap
  have hmd := hy.2.1.le
  have HX := Lib.hid hx.1
  have HY := Lib.hid hy.1
  unfold maxLen at hcm hdm
  by_cases hnm : n = m
  · subst hnm
    go_enter Tryd.func13, Tryd.ntmps13
    go_wp2
    go_loopw [5] (fun i wr => ∃ (k : Nat), k ≤ n ∧ i = .int .i64 k ∧ Hid (xs.take k = ys.take k) ∧ Below w.heap.size w wr) (fun i _ => n - (intOf i).toNat)
    case atStart => exact ⟨0, Nat.zero_le _, rfl, rfl, Below.refl _ _⟩
    case round =>
      obtain ⟨k, hk, rfl, hq, hb⟩ := hrel
      by_cases hlt : k < n
      · obtain ⟨b, off, rfl, hbl⟩ := hx.at_ k hlt
        obtain ⟨s, hs, c0, _⟩ := hx.el hb hbl k hlt
        obtain ⟨b2, off2, rfl, hbl2⟩ := hy.at_ k hlt
        obtain ⟨t, ht, c1, _⟩ := hy.el hb hbl2 k hlt
        by_cases hst : s = t
        · have HQ := Lib.hid (show xs.take (k + 1) = ys.take (k + 1) by rw [List.take_add_one, List.take_add_one, hq.out, hs.out, ht.out, hst])
          have hbw : b < wr.heap.size := Nat.lt_of_lt_of_le hbl hb.size
          have hbw2 : b2 < wr.heap.size := Nat.lt_of_lt_of_le hbl2 hb.size
          subst hst
          have hj0 : (0 : Int) ≤ (k : Int) := Int.natCast_nonneg _
          have hj1 : (k : Int) < (n : Int) := by omega
          go_wp2
          refine wp_region_later (by kernel_rfl) (by kernel_rfl) ?_
          repeat (go_big_quiet_step (fail))
          refine wpQuiet_nil ?_
          intro w2 hw2; have h2 := later_below hw2; clear hw2
          go_wp2
          go_roundw
          case rel => exact ⟨k + 1, by omega, by go_num, HQ, next hb h2⟩
          case measure => simp [intOf]; omega
        · have hne := text_ne hst
          have HF := Lib.hid (show decide (xs = ys) = false by
            rw [decide_eq_false_iff_not]
            intro e
            have h1 := hs.out
            rw [e, ht.out] at h1
            exact hst (Option.some.inj h1).symm)
          clear hst
          have hbw : b < wr.heap.size := Nat.lt_of_lt_of_le hbl hb.size
          have hbw2 : b2 < wr.heap.size := Nat.lt_of_lt_of_le hbl2 hb.size
          have hj0 : (0 : Int) ≤ (k : Int) := Int.natCast_nonneg _
          have hj1 : (k : Int) < (n : Int) := by omega
          go_wp2
          refine wp_region_later (by kernel_rfl) (by kernel_rfl) ?_
          repeat (go_big_quiet_step (fail))
          refine wpQuiet_nil ?_
          intro w2 hw2; have h2 := later_below hw2; clear hw2
          go_wp2
          go_ret
          exact ⟨by rw [HF.out]; rfl, next hb h2⟩
      · have HT := Lib.hid (show decide (xs = ys) = true by
          have := hq.out
          rw [List.take_of_length_le (by have := HX.out; omega), List.take_of_length_le (by have := HY.out; omega)] at this
          exact decide_eq_true this)
        clear hq
        go_wp2
        go_ret
        exact ⟨by rw [HT.out]; rfl, hb⟩
  · have HF := Lib.hid (show decide (xs = ys) = false by
      rw [decide_eq_false_iff_not]
      intro e
      exact hnm (by rw [HX.out, HY.out, e]))
    go_enter Tryd.func13, Tryd.ntmps13
    go_wp2
    go_ret
    exact ⟨by rw [HF.out]; rfl, Below.refl _ _⟩
end Go.Proofs.YticplogaaholfaaDoor
