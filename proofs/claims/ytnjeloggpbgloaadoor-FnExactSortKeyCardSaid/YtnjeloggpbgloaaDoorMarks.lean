/- The harness's texts: equal slices of texts, marks, copies. -/
import Derived.Test.YtnjeloggpbgloaaDoorSplit
namespace Go.Proofs.YtnjeloggpbgloaaDoor
open Go.ChangeShapes Go.WideShapes Go.ChangeAt Go.RowKit

theorem text_ne {s t : ByteArray} (h : ¬ s = t) : (s.toList == t.toList) = false := by
  rw [beq_eq_false_iff_ne, ByteArray.toList_eq, ByteArray.toList_eq]
  intro e
  exact h (ByteArray.ext (Array.toList_inj.1 e))
def digs : Nat → Nat → List UInt8 → List UInt8
  | 0, _, acc => acc
  | f + 1, n, acc => if n = 0 then acc else digs f (n / 10) (UInt8.ofNat (48 + n % 10) :: acc)
theorem digs_more : ∀ (f g n : Nat) (acc : List UInt8), n ≤ f → n ≤ g → digs f n acc = digs g n acc
  | 0, g, n, acc, hf, _ => by
    obtain rfl : n = 0 := by omega
    cases g <;> simp [digs]
  | f + 1, 0, n, acc, _, hg => by
    obtain rfl : n = 0 := by omega
    simp [digs]
  | f + 1, g + 1, n, acc, hf, hg => by
    unfold digs
    split
    · rfl
    · exact digs_more f g _ _ (by omega) (by omega)
def digits (n : Nat) (acc : List UInt8) : List UInt8 := digs n n acc
theorem digits_zero (acc : List UInt8) : digits 0 acc = acc := rfl
theorem digits_step {n : Nat} (acc : List UInt8) (h : 0 < n) : digits n acc = digits (n / 10) (UInt8.ofNat (48 + n % 10) :: acc) := by
  unfold digits
  cases n with
  | zero => omega
  | succ n =>
    conv => lhs; unfold digs
    rw [if_neg (by omega), digs_more n ((n + 1) / 10) _ _ (by omega) (Nat.le_refl _)]
/-- the mark of a number that is greater than 0 -/
def markT (k : Nat) : ByteArray := ⟨#[109]⟩ ++ ⟨(digits k []).toArray⟩

theorem digs_len : ∀ (f n : Nat) (acc : List UInt8), n ≤ f → (digs f n acc).length ≤ acc.length + n
  | 0, n, acc, h => by simp [digs]
  | f + 1, n, acc, h => by
    unfold digs
    split
    · omega
    · have := digs_len f (n / 10) (UInt8.ofNat (48 + n % 10) :: acc) (by omega)
      rw [List.length_cons] at this
      omega
theorem markT_size (k : Nat) : (markT k).size ≤ k + 1 := by
  have := digs_len k k [] (Nat.le_refl _)
  unfold markT digits
  have h1 : (ByteArray.mk (digs k k []).toArray).size = (digs k k []).length := by simp [ByteArray.size]
  have h2 : (ByteArray.mk #[109]).size = 1 := rfl
  rw [ByteArray.size_append, h1, h2]
  simp at this
  omega
theorem conv_one (W : World) (d : Int) (h0 : 0 ≤ d) (hd : d < 10) :
    (convert 48 9 (.slice (some ⟨W.heap.size, 0, none⟩) 1 1)).run Tryd.prog (W.alloc (.cells #[.int .u8 (48 + d)] 5)) = .ok (.string ⟨#[UInt8.ofNat (48 + d.toNat)]⟩) (W.alloc (.cells #[.int .u8 (48 + d)] 5)) := by
  have h := run_convert_bytes_back (P := Tryd.prog) (W.alloc (.cells #[.int .u8 (48 + d)] 5)) 48 9 5 ⟨W.heap.size, 0, none⟩ 1 [UInt8.ofNat (48 + d.toNat)] Tryd.underlying48 Tryd.underlying5 Tryd.underlying9 ?_
  · simpa using h
  · intro j hj
    have : j = 0 := by simpa using hj
    subst this
    have e : ((UInt8.ofNat (48 + d.toNat)).toNat : Int) = 48 + d := by
      rw [UInt8.toNat_ofNat']; omega
    simp only [List.getElem_cons_zero, e]
    go_simp
theorem cat_one (n : Nat) (acc : List UInt8) : ByteArray.mk #[48 + UInt8.ofNat n] ++ ByteArray.mk acc.toArray = ByteArray.mk (UInt8.ofNat (48 + n) :: acc).toArray := by
  apply ByteArray.ext
  simp [ByteArray.data_append, UInt8.ofNat_add]
def marks (k n : Nat) : List ByteArray := (List.range n).map fun i => markT (k + i)
theorem marks_len (k n : Nat) : (marks k n).length = n := by simp [marks]
theorem marks_at (k n i : Nat) (h : i < n) : (marks k n)[i]? = some (markT (k + i)) := by
  unfold marks
  rw [List.getElem?_map, List.getElem?_range h]; rfl

theorem marks_max {k n : Nat} (h : k + n ≤ 1000000000000) : ∀ x ∈ marks k n, x.size ≤ maxLen := by
  intro x hx
  unfold marks at hx
  obtain ⟨i, hi, rfl⟩ := List.mem_map.1 hx
  have := markT_size (k + i)
  have := List.mem_range.1 hi
  unfold maxLen
  omega
theorem own_reads {w : World} {base : Nat} {e : TypeId} {A : Option Addr} {n c : Nat} {xs : List ByteArray} (h : w.ownsRow base e 1 (.slice A n c) n (xs.map Value.string)) (hs : ∀ x ∈ xs, x.size ≤ maxLen) : Strs w A n c xs :=
  ⟨by have := h.1; simpa using this.symm, Reads.of_own h, hs⟩
set_option maxRecDepth 100000 in
set_option maxHeartbeats 1000000 in
theorem eqStrs_any (A B : Option Addr) (n c m d : Nat) (xs ys : List ByteArray) (w : World) (hx : Strs w A n c xs) (hy : Strs w B m d ys) :
    Calls Tryd.prog 8 #[.slice A n c, .slice B m d] w fun e w' => e = .returned (.bool (decide (xs = ys))) ∧ Below w.heap.size w w' := by
  have hcm := hx.2.1.cap
  have hnc := hx.2.1.le
  have hdm := hy.2.1.cap
  have hmd := hy.2.1.le
  have HX := Lib.hid hx.1
  have HY := Lib.hid hy.1
  unfold maxLen at hcm hdm
  by_cases hnm : n = m
  · subst hnm
    go_enter Tryd.func8, Tryd.ntmps8
    go_wp2
    go_loopw [5] (fun i wr => ∃ (k : Nat), k ≤ n ∧ i = .int .i64 k ∧ Hid (xs.take k = ys.take k) ∧ Below w.heap.size w wr) (fun i _ => n - (intOf i).toNat)
    case atStart => exact ⟨0, Nat.zero_le _, rfl, rfl, Below.refl _ _⟩
    case round =>
      obtain ⟨k, hk, rfl, hq, hb⟩ := hrel
      by_cases hlt : k < n
      · obtain ⟨b, off, rfl, hbl⟩ := hx.at_ k hlt
        obtain ⟨s, hs, c0, _⟩ := hx.el hb hbl k hlt
        obtain ⟨b2, off2, rfl, hbl2⟩ := hy.at_ k hlt
        obtain ⟨t, ht, c1, _⟩ := hy.el hb hbl2 k hlt
        by_cases hst : s = t
        · have HQ := Lib.hid (show xs.take (k + 1) = ys.take (k + 1) by rw [List.take_add_one, List.take_add_one, hq.out, hs.out, ht.out, hst])
          have hbw : b < wr.heap.size := Nat.lt_of_lt_of_le hbl hb.size
          have hbw2 : b2 < wr.heap.size := Nat.lt_of_lt_of_le hbl2 hb.size
          subst hst
          have hj0 : (0 : Int) ≤ (k : Int) := Int.natCast_nonneg _
          have hj1 : (k : Int) < (n : Int) := by omega
          go_wp2
          refine wp_region_later (by kernel_rfl) (by kernel_rfl) ?_
          repeat (go_big_quiet_step (fail))
          refine wpQuiet_nil ?_
          intro w2 hw2; have h2 := later_below hw2; clear hw2
          go_wp2
          go_roundw
          case rel => exact ⟨k + 1, by omega, by go_num, HQ, next hb h2⟩
          case measure => simp [intOf]; omega
        · have hne := text_ne hst
          have HF := Lib.hid (show decide (xs = ys) = false by
            rw [decide_eq_false_iff_not]
            intro e
            have h1 := hs.out
            rw [e, ht.out] at h1
            exact hst (Option.some.inj h1).symm)
          clear hst
          have hbw : b < wr.heap.size := Nat.lt_of_lt_of_le hbl hb.size
          have hbw2 : b2 < wr.heap.size := Nat.lt_of_lt_of_le hbl2 hb.size
          have hj0 : (0 : Int) ≤ (k : Int) := Int.natCast_nonneg _
          have hj1 : (k : Int) < (n : Int) := by omega
          go_wp2
          refine wp_region_later (by kernel_rfl) (by kernel_rfl) ?_
          repeat (go_big_quiet_step (fail))
          refine wpQuiet_nil ?_
          intro w2 hw2; have h2 := later_below hw2; clear hw2
          go_wp2
          go_ret
          exact ⟨by rw [HF.out]; rfl, next hb h2⟩
      · have HT := Lib.hid (show decide (xs = ys) = true by
          have := hq.out
          rw [List.take_of_length_le (by have := HX.out; omega), List.take_of_length_le (by have := HY.out; omega)] at this
          exact decide_eq_true this)
        clear hq
        go_wp2
        go_ret
        exact ⟨by rw [HT.out]; rfl, hb⟩
  · have HF := Lib.hid (show decide (xs = ys) = false by
      rw [decide_eq_false_iff_not]
      intro e
      exact hnm (by rw [HX.out, HY.out, e]))
    go_enter Tryd.func8, Tryd.ntmps8
    go_wp2
    go_ret
    exact ⟨by rw [HF.out]; rfl, Below.refl _ _⟩
end Go.Proofs.YtnjeloggpbgloaaDoor
