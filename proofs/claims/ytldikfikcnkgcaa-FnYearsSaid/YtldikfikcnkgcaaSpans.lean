/- What the functions over spans compute: contracts over the whole translation, callees first. -/
import Derived.Test.YtldikfikcnkgcaaBase
import Derived.Outline
import Derived.WalkLawsBesides
import Derived.Lib.Hide
import Derived.Laws.MakeOwn
import Derived.Laws.Entries
namespace Go.Proofs.Ytldikfikcnkgcaa
open Go.ChangeShapes Go.WideShapes Go.ChangeAt Go.RowKit

theorem ret_bool {p q : Bool} (h : p = q) : Ending.returned (.bool p) = .returned (.bool q) := by rw [h]

/-! ## plain words -/
def isSpan (s : Int × Int) : Bool := decide (-3000 ≤ s.1 ∧ s.1 ≤ 3000 ∧ -3000 ≤ s.2 ∧ s.2 ≤ 3000 ∧ s.1 ≤ s.2)
def yrAt (xs : List (Int × Int)) (i : Nat) : Bool := isSpan (xs.getD i (0, 0)) && (i == 0 || decide ((xs.getD (i - 1) (0, 0)).2 + 2 ≤ (xs.getD i (0, 0)).1))
def yrUpto (xs : List (Int × Int)) (k : Nat) : Prop := ∀ i, i < k → yrAt xs i = true
def areYears (xs : List (Int × Int)) : Bool := (List.range xs.length).all (yrAt xs) && decide (xs.length ≤ 12)
def spMeets (a b c d : Int) : Bool := decide (a ≤ d ∧ c ≤ b)
def spSame (a b c d : Int) : Bool := decide (a = c ∧ b = d)
def spHas (s : Int × Int) (y : Int) : Bool := decide (s.1 ≤ y ∧ y ≤ s.2)
def hasYear (xs : List (Int × Int)) (y : Int) : Bool := xs.any fun s => spHas s y
def countYears (xs : List (Int × Int)) : Int := (xs.map fun s => s.2 - s.1 + 1).sum

theorem yrAt_no1 {xs : List (Int × Int)} {k : Nat} {f t : Int} (h : Hid (xs.getD k (0, 0) = (f, t))) (hs : isSpan (f, t) = false) : yrAt xs k = false := by
  unfold yrAt; rw [h.out, hs]; rfl
theorem yrAt_no2 {xs : List (Int × Int)} {k : Nat} {f t f0 t0 : Int} (h : Hid (xs.getD k (0, 0) = (f, t))) (h0 : Hid (xs.getD (k - 1) (0, 0) = (f0, t0))) (hk : 0 < k) (hs : f < t0 + 2) : yrAt xs k = false := by
  unfold yrAt; rw [h.out, h0.out]
  rw [Bool.and_eq_false_iff]; right
  simp; omega
theorem yrAt_yes {xs : List (Int × Int)} {k : Nat} {f t f0 t0 : Int} (h : Hid (xs.getD k (0, 0) = (f, t))) (h0 : Hid (xs.getD (k - 1) (0, 0) = (f0, t0))) (hs : isSpan (f, t) = true) (hlt : ¬ f < t0 + 2) : yrAt xs k = true := by
  unfold yrAt; rw [h.out, h0.out, hs]
  simp; omega
theorem yrAt_zero {xs : List (Int × Int)} {k : Nat} {f t : Int} (h : Hid (xs.getD k (0, 0) = (f, t))) (hs : isSpan (f, t) = true) (hk : ¬ 0 < k) : yrAt xs k = true := by
  unfold yrAt; rw [h.out, hs]
  simp; omega
theorem yrUpto_succ {xs : List (Int × Int)} {k : Nat} (h : yrUpto xs k) (hk : yrAt xs k = true) : yrUpto xs (k + 1) := fun i hi => by
  by_cases e : i = k
  · rw [e]; exact hk
  · exact h i (by omega)
theorem areYears_no {xs : List (Int × Int)} {n k : Nat} (hn : n = xs.length) (hk : k < n) (h : yrAt xs k = false) : areYears xs = false := by
  unfold areYears
  rw [Bool.and_eq_false_iff]
  left
  rw [List.all_eq_false]
  exact ⟨k, by simp; omega, by simp [h]⟩
theorem areYears_end {xs : List (Int × Int)} {n k : Nat} (hn : n = xs.length) (hk : k ≤ n) (hge : ¬ k < n) (h : yrUpto xs k) : areYears xs = decide (n ≤ 12) := by
  unfold areYears
  have : (List.range xs.length).all (yrAt xs) = true := by
    rw [List.all_eq_true]
    intro i hi
    exact h i (by simp at hi; omega)
  rw [this, hn]; rfl
theorem yr_bounds {xs : List (Int × Int)} {k : Nat} {f t : Int} (h : Hid (xs.getD k (0, 0) = (f, t))) (hs : yrAt xs k = true) : -3000 ≤ f ∧ f ≤ 3000 ∧ -3000 ≤ t ∧ t ≤ 3000 ∧ f ≤ t := by
  unfold yrAt at hs
  rw [h.out, Bool.and_eq_true] at hs
  have := hs.1
  simp [isSpan] at this
  omega
theorem isSpan_bounds {f t : Int} (hs : isSpan (f, t) = true) : -3000 ≤ f ∧ f ≤ 3000 ∧ -3000 ≤ t ∧ t ≤ 3000 ∧ f ≤ t := by
  simp [isSpan] at hs
  omega
theorem areYears_at {xs : List (Int × Int)} (h : areYears xs = true) : xs.length ≤ 12 ∧ ∀ i, i < xs.length → yrAt xs i = true := by
  unfold areYears at h
  rw [Bool.and_eq_true, List.all_eq_true] at h
  exact ⟨by simpa using h.2, fun i hi => h.1 i (by simpa using hi)⟩

/-! ## walks -/
set_option maxHeartbeats 400000 in
theorem isSpan_impl (a b : Int) (w : World) :
    Calls Try.prog 48 #[.agg #[.int .i64 a, .int .i64 b]] w fun e w' => e = .returned (.bool (isSpan (a, b))) ∧ Below w.heap.size w w' := by
  go_enter Try.func48, Try.ntmps48
  go_wp2
  all_goals
    go_ret
    refine ⟨?_, (Below.refl _ _).alloc (Nat.le_refl _) _⟩
    apply ret_bool
    rw [Bool.eq_iff_iff]
    simp [isSpan]
    try omega

set_option maxHeartbeats 400000 in
theorem isSpan_spec (a b : Int) (w : World) :
    Calls Try.prog 53 #[.agg #[.int .i64 a, .int .i64 b]] w fun e w' => e = .returned (.bool (isSpan (a, b))) ∧ Below w.heap.size w w' := by
  go_enter Try.func53, Try.ntmps53
  go_wp2
  all_goals
    go_ret
    refine ⟨?_, (Below.refl _ _).alloc (Nat.le_refl _) _⟩
    apply ret_bool
    rw [Bool.eq_iff_iff]
    simp [isSpan]
    try omega

set_option maxHeartbeats 1000000 in
theorem areYears_spec (A : Option Addr) (n c : Nat) (xs : List (Int × Int)) (w : World) (hx : Spans w A n c xs) :
    Calls Try.prog 31 #[.slice A n c] w fun e w' => e = .returned (.bool (areYears xs)) ∧ Below w.heap.size w w' := by
  have hm := hx.2.cap
  have hnc := hx.2.le
  unfold maxLen at hm
  go_enter Try.func31, Try.ntmps31
  go_wp2
  go_loopw [3] (fun i wr => ∃ k : Nat, k ≤ n ∧ i = .int .i64 k ∧ yrUpto xs k ∧ Below w.heap.size w wr) (fun i _ => n - (intOf i).toNat)
  case atStart => exact ⟨0, Nat.zero_le _, rfl, fun i hi => absurd hi (by omega), Below.refl _ _⟩
  case round =>
    obtain ⟨k, hk, rfl, hup, hb⟩ := hrel
    by_cases hlt : k < n
    · obtain ⟨b, off, rfl, hbl, _⟩ := hx.at_ k hlt
      obtain ⟨f, t, hft, c0, c1⟩ := hx.el hb hbl k hlt
      have hbw : b < wr.heap.size := Nat.lt_of_lt_of_le hbl hb.size
      have hk0 : (0 : Int) ≤ (k : Int) := Int.natCast_nonneg _
      have hk1 : (k : Int) < (n : Int) := by omega
      cases hs : isSpan (f, t)
      · go_wp2
        refine wp_region_later (by kernel_rfl) (by kernel_rfl) ?_
        repeat (go_big_quiet_step ((go_at_call 53; exact Calls.later (isSpan_spec f t _))))
        refine wpQuiet_nil ?_
        intro w2 hw2; have h2 := later_below hw2; clear hw2
        go_wp2
        go_ret
        exact ⟨ret_bool (areYears_no hx.1 hlt (yrAt_no1 hft hs)).symm, hb.trans (h2.mono hb.size)⟩
      · by_cases h0 : 0 < k
        · obtain ⟨f0, t0, hft0, d0, d1⟩ := hx.el hb hbl (k - 1) (by omega)
          have hs0 := hup (k - 1) (by omega)
          have hd : decide (0 < k) = true := by simpa using h0
          have hbd := yr_bounds hft0 hs0
          clear hs0
          by_cases hlt2 : f < t0 + 2
          · go_wp2
            refine wp_region_later (by kernel_rfl) (by kernel_rfl) ?_
            repeat (go_big_quiet_step ((go_at_call 53; exact Calls.later (isSpan_spec f t _))))
            refine wpQuiet_nil ?_
            intro w2 hw2; have h2 := later_below hw2; clear hw2
            go_wp2
            go_ret
            exact ⟨ret_bool (areYears_no hx.1 hlt (yrAt_no2 hft hft0 h0 hlt2)).symm, hb.trans (h2.mono hb.size)⟩
          · go_wp2
            refine wp_region_later (by kernel_rfl) (by kernel_rfl) ?_
            repeat (go_big_quiet_step ((go_at_call 53; exact Calls.later (isSpan_spec f t _))))
            refine wpQuiet_nil ?_
            intro w2 hw2; have h2 := later_below hw2; clear hw2
            go_wp2
            go_roundw
            case rel => exact ⟨k + 1, by omega, by go_num, yrUpto_succ hup (yrAt_yes hft hft0 hs (by omega)), hb.trans (h2.mono hb.size)⟩
            case measure => simp [intOf]; omega
        · have hd : decide (0 < k) = false := by simpa using h0
          go_wp2
          refine wp_region_later (by kernel_rfl) (by kernel_rfl) ?_
          repeat (go_big_quiet_step ((go_at_call 53; exact Calls.later (isSpan_spec f t _))))
          refine wpQuiet_nil ?_
          intro w2 hw2; have h2 := later_below hw2; clear hw2
          go_wp2
          go_roundw
          case rel => exact ⟨k + 1, by omega, by go_num, yrUpto_succ hup (yrAt_zero hft hs h0), hb.trans (h2.mono hb.size)⟩
          case measure => simp [intOf]; omega
    · go_wp2
      go_ret
      exact ⟨ret_bool (by rw [areYears_end hx.1 hk hlt hup]; simp; omega), hb⟩

set_option maxHeartbeats 1000000 in
theorem areYears_impl (A : Option Addr) (n c : Nat) (xs : List (Int × Int)) (w : World) (hx : Spans w A n c xs) :
    Calls Try.prog 30 #[.slice A n c] w fun e w' => e = .returned (.bool (areYears xs)) ∧ Below w.heap.size w w' := by
  have hm := hx.2.cap
  have hnc := hx.2.le
  unfold maxLen at hm
  go_enter Try.func30, Try.ntmps30
  go_wp2
  go_loopw [7] (fun i wr => ∃ k : Nat, k ≤ n ∧ i = .int .i64 k ∧ yrUpto xs k ∧ Below w.heap.size w wr) (fun i _ => n - (intOf i).toNat)
  case atStart => exact ⟨0, Nat.zero_le _, rfl, fun i hi => absurd hi (by omega), Below.refl _ _⟩
  case round =>
    obtain ⟨k, hk, rfl, hup, hb⟩ := hrel
    by_cases hlt : k < n
    · obtain ⟨b, off, rfl, hbl, _⟩ := hx.at_ k hlt
      obtain ⟨f, t, hft, c0, c1⟩ := hx.el hb hbl k hlt
      have hbw : b < wr.heap.size := Nat.lt_of_lt_of_le hbl hb.size
      have hk0 : (0 : Int) ≤ (k : Int) := Int.natCast_nonneg _
      have hk1 : (k : Int) < (n : Int) := by omega
      have hbw1 : b < wr.heap.size + 1 := by omega
      cases hs : isSpan (f, t)
      · go_wp2
        refine wp_region_later (by kernel_rfl) (by kernel_rfl) ?_
        repeat (go_big_quiet_step ((go_at_call 48; exact Calls.later (isSpan_impl f t _))))
        refine wpQuiet_nil ?_
        intro w2 hw2; have h2 := later_below hw2; clear hw2
        go_wp2
        go_ret
        exact ⟨ret_bool (areYears_no hx.1 hlt (yrAt_no1 hft hs)).symm, (hb.alloc hb.size _).trans (h2.mono (by simp; have := hb.size; omega))⟩
      · by_cases h0 : 0 < k
        · obtain ⟨f0, t0, hft0, d0, d1⟩ := hx.el hb hbl (k - 1) (by omega)
          have hs0 := hup (k - 1) (by omega)
          have hd : decide (0 < k) = true := by simpa using h0
          have hbd := yr_bounds hft0 hs0
          clear hs0
          by_cases hlt2 : f < t0 + 2
          · go_wp2
            refine wp_region_later (by kernel_rfl) (by kernel_rfl) ?_
            repeat (go_big_quiet_step ((go_at_call 48; exact Calls.later (isSpan_impl f t _))))
            refine wpQuiet_nil ?_
            intro w2 hw2; have h2 := later_below hw2; clear hw2
            go_wp2
            go_ret
            exact ⟨ret_bool (areYears_no hx.1 hlt (yrAt_no2 hft hft0 h0 hlt2)).symm, (hb.alloc hb.size _).trans (h2.mono (by simp; have := hb.size; omega))⟩
          · go_wp2
            refine wp_region_later (by kernel_rfl) (by kernel_rfl) ?_
            repeat (go_big_quiet_step ((go_at_call 48; exact Calls.later (isSpan_impl f t _))))
            refine wpQuiet_nil ?_
            intro w2 hw2; have h2 := later_below hw2; clear hw2
            go_wp2
            go_roundw
            case rel => exact ⟨k + 1, by omega, by go_num, yrUpto_succ hup (yrAt_yes hft hft0 hs (by omega)), (hb.alloc hb.size _).trans (h2.mono (by simp; have := hb.size; omega))⟩
            case measure => simp [intOf]; omega
        · have hd : decide (0 < k) = false := by simpa using h0
          go_wp2
          refine wp_region_later (by kernel_rfl) (by kernel_rfl) ?_
          repeat (go_big_quiet_step ((go_at_call 48; exact Calls.later (isSpan_impl f t _))))
          refine wpQuiet_nil ?_
          intro w2 hw2; have h2 := later_below hw2; clear hw2
          go_wp2
          go_roundw
          case rel => exact ⟨k + 1, by omega, by go_num, yrUpto_succ hup (yrAt_zero hft hs h0), (hb.alloc hb.size _).trans (h2.mono (by simp; have := hb.size; omega))⟩
          case measure => simp [intOf]; omega
    · go_wp2
      go_ret
      exact ⟨ret_bool (by rw [areYears_end hx.1 hk hlt hup]; simp; omega), hb⟩

/-! ## the law's own helpers -/
theorem eqS_no {xs ys : List (Int × Int)} {k : Nat} {f t f' t' : Int} (h : Hid (xs.getD k (0, 0) = (f, t))) (h' : Hid (ys.getD k (0, 0) = (f', t'))) (hs : spSame f t f' t' = false) : decide (xs = ys) = false := by
  rw [decide_eq_false_iff_not]
  intro e
  subst e
  have := h.out.symm.trans h'.out
  simp only [Prod.mk.injEq] at this
  simp [spSame] at hs
  exact hs this.1 this.2
theorem eqS_yes {xs ys : List (Int × Int)} {k : Nat} {f t f' t' : Int} (hup : ∀ i, i < k → xs.getD i (0, 0) = ys.getD i (0, 0)) (h : Hid (xs.getD k (0, 0) = (f, t))) (h' : Hid (ys.getD k (0, 0) = (f', t'))) (hs : spSame f t f' t' = true) :
    ∀ i, i < k + 1 → xs.getD i (0, 0) = ys.getD i (0, 0) := fun i hi => by
  by_cases e : i = k
  · subst e
    rw [h.out, h'.out]
    simp [spSame] at hs
    rw [hs.1, hs.2]
  · exact hup i (by omega)
theorem eqS_end {xs ys : List (Int × Int)} {n k : Nat} (hx : n = xs.length) (hy : n = ys.length) (_hk : k ≤ n) (hge : n ≤ k) (hup : ∀ i, i < k → xs.getD i (0, 0) = ys.getD i (0, 0)) : decide (xs = ys) = true := by
  rw [decide_eq_true_iff]
  apply List.ext_getElem (by omega)
  intro i h1 h2
  have := hup i (by omega)
  rw [List.getD_eq_getElem?_getD, List.getD_eq_getElem?_getD, List.getElem?_eq_getElem h1, List.getElem?_eq_getElem h2] at this
  simpa using this
/-- a new slice of spans, the call's own -/
def OwnsSpans (w : World) (xs : List (Int × Int)) (e : Ending) (w' : World) : Prop :=
  ∃ g, e = .returned (.slice (some ⟨g, 0, none⟩) xs.length xs.length) ∧ w.heap.size ≤ g ∧ w'.ownsRow w.heap.size 42 2 (.slice (some ⟨g, 0, none⟩) xs.length xs.length) xs.length (spanCells xs) ∧ Below w.heap.size w w'
theorem infoSpan : (Try.prog.info? 42).map (fun i => (i.zero, i.size, i.bytes)) = some (some (.agg #[.int .i64 0, .int .i64 0]), 2, 16) := by kernel_rfl

set_option maxHeartbeats 400000 in
theorem toSpan_any (a b : Int) (w : World) :
    Calls Try.prog 35 #[.agg #[.int .i64 a, .int .i64 b]] w fun e w' => e = .returned (.agg #[.int .i64 a, .int .i64 b]) ∧ Below w.heap.size w w' := by
  go_enter Try.func35, Try.ntmps35
  go_wp2
  exact bodyPost_ret (v := .agg #[.int .i64 a, .int .i64 b]) (by simp [results, Try.results35, go_sem]) rfl ⟨rfl, (((Below.refl _ _).alloc (Nat.le_refl _) _).alloc (by simp) _).alloc (by simp; omega) _⟩

set_option maxHeartbeats 400000 in
theorem szSpanS_any (A : Option Addr) (n c : Nat) (left : Int) (w : World) (hn : n ≤ 9223372036854775807) (h0 : 0 ≤ left) (h1 : left ≤ 1048576) :
    Calls Try.prog 7 #[.slice A n c, .int .i64 left] w fun e w' => e = .returned (.int .i64 (if left < n then -1 else left - n)) ∧ w = w' := by
  by_cases h : left < n
  · go_enter Try.func7, Try.ntmps7
    go_wp2
    go_ret
    exact ⟨rfl, rfl⟩
  · go_enter Try.func7, Try.ntmps7
    go_wp2
    go_ret
    exact ⟨rfl, rfl⟩

set_option maxHeartbeats 400000 in
theorem eqSpan_any (a b c d : Int) (w : World) :
    Calls Try.prog 38 #[.agg #[.int .i64 a, .int .i64 b], .agg #[.int .i64 c, .int .i64 d]] w fun e w' => e = .returned (.bool (spSame a b c d)) ∧ Below w.heap.size w w' := by
  by_cases h1 : a = c
  · by_cases h2 : b = d
    · subst h1; subst h2
      go_enter Try.func38, Try.ntmps38
      go_wp2
      go_ret
      exact ⟨ret_bool (by simp [spSame]), ((Below.refl _ _).alloc (Nat.le_refl _) _).alloc (by simp) _⟩
    · subst h1
      have e2 : (b != d) = true := by simpa using h2
      go_enter Try.func38, Try.ntmps38
      go_wp2
      go_ret
      exact ⟨ret_bool (by simp [spSame, h2]), ((Below.refl _ _).alloc (Nat.le_refl _) _).alloc (by simp) _⟩
  · have e1 : (a != c) = true := by simpa using h1
    go_enter Try.func38, Try.ntmps38
    go_wp2
    go_ret
    exact ⟨ret_bool (by simp [spSame, h1]), ((Below.refl _ _).alloc (Nat.le_refl _) _).alloc (by simp) _⟩

set_option maxHeartbeats 1000000 in
theorem eqSpanS_any (A A' : Option Addr) (n n' c c' : Nat) (xs ys : List (Int × Int)) (w : World) (hx : Spans w A n c xs) (hy : Spans w A' n' c' ys) :
    Calls Try.prog 11 #[.slice A n c, .slice A' n' c'] w fun e w' => e = .returned (.bool (decide (xs = ys))) ∧ Below w.heap.size w w' := by
  have hm := hx.2.cap
  have hnc := hx.2.le
  unfold maxLen at hm
  have hxn := hx.1
  have hyn := hy.1
  by_cases hnn : n = n'
  · have Hx := Lib.hid hxn
    have Hy := Lib.hid hyn
    subst hnn
    clear hxn hyn
    go_enter Try.func11, Try.ntmps11
    go_wp2
    go_loopw [5] (fun i wr => ∃ k : Nat, k ≤ n ∧ i = .int .i64 k ∧ (∀ i, i < k → xs.getD i (0, 0) = ys.getD i (0, 0)) ∧ Below w.heap.size w wr) (fun i _ => n - (intOf i).toNat)
    case atStart => exact ⟨0, Nat.zero_le _, rfl, fun i hi => absurd hi (by omega), Below.refl _ _⟩
    case round =>
      obtain ⟨k, hk, rfl, hup, hb⟩ := hrel
      have Hup := Lib.hid hup
      clear hup
      by_cases hlt : k < n
      · obtain ⟨b, off, rfl, hbl, _⟩ := hx.at_ k hlt
        obtain ⟨b', off', rfl, hbl', _⟩ := hy.at_ k hlt
        obtain ⟨f, t, hft, c0, c1⟩ := hx.el hb hbl k hlt
        obtain ⟨f', t', hft', c0', c1'⟩ := hy.el hb hbl' k hlt
        have hbw : b < wr.heap.size := Nat.lt_of_lt_of_le hbl hb.size
        have hbw' : b' < wr.heap.size := Nat.lt_of_lt_of_le hbl' hb.size
        have hk0 : (0 : Int) ≤ (k : Int) := Int.natCast_nonneg _
        have hk1 : (k : Int) < (n : Int) := by omega
        cases hs : spSame f t f' t'
        · go_wp2
          refine wp_region_later (by kernel_rfl) (by kernel_rfl) ?_
          repeat (go_big_quiet_step ((go_at_call 38; exact Calls.later (eqSpan_any f t f' t' _))))
          refine wpQuiet_nil ?_
          intro w2 hw2; have h2 := later_below hw2; clear hw2
          go_wp2
          go_ret
          exact ⟨ret_bool (eqS_no hft hft' hs).symm, hb.trans (h2.mono hb.size)⟩
        · go_wp2
          refine wp_region_later (by kernel_rfl) (by kernel_rfl) ?_
          repeat (go_big_quiet_step ((go_at_call 38; exact Calls.later (eqSpan_any f t f' t' _))))
          refine wpQuiet_nil ?_
          intro w2 hw2; have h2 := later_below hw2; clear hw2
          go_wp2
          go_roundw
          case rel => exact ⟨k + 1, by omega, by go_num, eqS_yes Hup.out hft hft' hs, hb.trans (h2.mono hb.size)⟩
          case measure => simp [intOf]; omega
      · go_wp2
        go_ret
        exact ⟨ret_bool (eqS_end Hx.out Hy.out hk (by omega) Hup.out).symm, hb⟩
  · have e1 : ((n : Int) != (n' : Int)) = true := by simp; omega
    have hne : ¬ xs = ys := fun e => hnn (by rw [hxn, hyn, e])
    have Hx := Lib.hid hxn
    have Hy := Lib.hid hyn
    clear hxn hyn
    go_enter Try.func11, Try.ntmps11
    go_wp2
    go_ret
    exact ⟨ret_bool (by simp [hne]), Below.refl _ _⟩

set_option maxHeartbeats 1000000 in
theorem toSpanS_any (A : Option Addr) (n c : Nat) (xs : List (Int × Int)) (w : World) (hx : Spans w A n c xs) (hn : n ≤ 1048576) :
    Calls Try.prog 9 #[.slice A n c] w fun e w' => OwnsSpans w xs e w' := by
  have hm := hx.2.cap
  have hnc := hx.2.le
  unfold maxLen at hm
  obtain ⟨i0, hi, hz0, hz1, hz2⟩ := info_parts infoSpan
  have hmk := fun W => run_make_rowN (P := Try.prog) 24 42 i0 _ Try.underlying24 hi hz0 .i64 .i64 n n (Nat.le_refl _) (by rw [hz2]; omega) (by omega) W
  go_enter Try.func9, Try.ntmps9
  go_wp2
  go_loopw [4] (fun i wr => ∃ (k : Nat) (ys : List Value), k ≤ n ∧ i = .int .i64 k ∧ Hid (ys.take (k * 2) = (spanCells xs).take (k * 2)) ∧
      wr.ownsRow w.heap.size 42 2 (.slice (some ⟨w.heap.size, 0, none⟩) n n) n ys ∧ Below w.heap.size w wr) (fun i _ => n - (intOf i).toNat)
  case atStart => exact ⟨0, (madeCells #[.int .i64 0, .int .i64 0] (n * 2)).toList, Nat.zero_le _, rfl, rfl, World.ownsRow_lit w _ n (Nat.le_refl _) (by unfold maxLen; omega) (size_madeCells _ _), (Below.refl _ _).alloc (Nat.le_refl _) _⟩
  case round =>
    obtain ⟨k, ys, hk, rfl, hys, hown, hb⟩ := hrel
    by_cases hlt : k < n
    · obtain ⟨b, off, rfl, hbl, _⟩ := hx.at_ k hlt
      obtain ⟨f, t, hft, c0, c1⟩ := hx.el hb hbl k hlt
      have hbw : b < wr.heap.size := Nat.lt_of_lt_of_le hbl hb.size
      go_wp2_with fail
      refine (toSpan_any f t _).mono ?_
      rintro e_ w1 ⟨rfl, h1⟩
      have hown1 := own_below hown h1
      have hyl := hown1.1
      have d0 := hown1.cellAt (k * 2) (by omega)
      have d1 := hown1.cellAt (k * 2 + 1) (by omega)
      rw [List.getElem?_eq_getElem (by omega)] at d0 d1
      have e0 := hown1.frozenAt (k * 2)
      have e1 := hown1.frozenAt (k * 2 + 1)
      generalize ys[k * 2] = u0 at d0
      generalize ys[k * 2 + 1] = u1 at d1
      have hs1 := hown1.stored (k * 2) (.int .i64 f)
      have hs2 := hs1.1.stored (k * 2 + 1) (.int .i64 t)
      have hc := spanCells_at xs k (by rw [← hx.1]; exact hlt)
      have hlen := spanCells_len xs
      have H1 := Lib.hid (take_set2 ys (spanCells xs) (k * 2) (.int .i64 f) (.int .i64 t) hys.out (by have := hx.1; omega) (by rw [hc.1, hft.out]) (by rw [hc.2, hft.out]))
      have HS := Lib.hid hs2.1
      clear hs1 hs2 hc hlen hown1 hys
      go_wp2
      go_roundw
      case rel => exact ⟨k + 1, _, by omega, by go_num, by rw [Nat.add_mul]; exact H1, HS.out, ((hb.trans (h1.mono hb.size)).setCell (Nat.le_refl _) _).setCell (Nat.le_refl _) _⟩
      case measure => simp [intOf]; omega
    · have hkn : k = n := by omega
      have hyl := hown.1
      have hlen := spanCells_len xs
      have hxn := hx.1
      have hys' : ys = spanCells xs := by
        have := hys.out
        rw [List.take_of_length_le (by omega), List.take_of_length_le (by omega)] at this
        exact this
      have hfin : OwnsSpans w xs (.returned (.slice (some ⟨w.heap.size, 0, none⟩) n n)) wr := ⟨w.heap.size, by rw [hxn], Nat.le_refl _, by rw [← hys', ← hxn]; exact hown, hb⟩
      have HF := Lib.hid hfin
      clear hfin hys' hxn hlen hyl hkn hys hown
      go_wp2
      go_ret
      exact HF.out
end Go.Proofs.Ytldikfikcnkgcaa
