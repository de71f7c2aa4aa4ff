/- CountYears and HasYear: what the functions compute. -/
import Derived.Test.YtldikfikcnkgcaaSpans
import Derived.Laws.EntriesVeiled
namespace Go.Proofs.Ytldikfikcnkgcaa
open Go.ChangeShapes Go.WideShapes Go.ChangeAt Go.RowKit

theorem count_succ {xs : List (Int × Int)} {k : Nat} {f t : Int} (h : Hid (xs.getD k (0, 0) = (f, t))) (hk : k < xs.length) : countYears (xs.take (k + 1)) = countYears (xs.take k) + (t - f + 1) := by
  have e : xs[k] = (f, t) := by
    have := h.out
    rw [List.getD_eq_getElem?_getD, List.getElem?_eq_getElem hk] at this
    simpa using this
  rw [List.take_succ_eq_append_getElem hk, e]
  unfold countYears
  simp
theorem count_bd {xs : List (Int × Int)} (h : areYears xs = true) (k : Nat) (hk : k ≤ xs.length) : 0 ≤ countYears (xs.take k) ∧ countYears (xs.take k) ≤ 6001 * k := by
  induction k with
  | zero => simp [countYears]
  | succ k ih =>
    have ih := ih (by omega)
    obtain ⟨f, t, e⟩ : ∃ f t, Hid (xs.getD k (0, 0) = (f, t)) := ⟨_, _, rfl⟩
    rw [count_succ e (by omega)]
    have := yr_bounds e ((areYears_at h).2 k (by omega))
    omega

set_option maxHeartbeats 800000 in
theorem countYears_any (A : Option Addr) (n c : Nat) (xs : List (Int × Int)) (w : World) (hx : Spans w A n c xs) (hy : areYears xs = true) :
    Calls Try.prog 43 #[.slice A n c] w fun e w' => e = .returned (.int .i64 (countYears xs)) ∧ Below w.heap.size w w' := by
  have hm := hx.2.cap
  have hnc := hx.2.le
  unfold maxLen at hm
  have h12 := (areYears_at hy).1
  have hxn := hx.1
  have hn12 : n ≤ 12 := by omega
  have HX := Lib.hid hxn
  have HY := Lib.hid hy
  clear hxn h12 hy
  go_enter Try.func43, Try.ntmps43
  go_wp2
  go_loopw [3, 8] (fun s i wr => ∃ (k : Nat) (q : Int), k ≤ n ∧ i = .int .i64 k ∧ s = .int .i64 q ∧ Hid (q = countYears (xs.take k)) ∧ 0 ≤ q ∧ q ≤ 6001 * k ∧ Below w.heap.size w wr) (fun _ i _ => n - (intOf i).toNat)
  case atStart => exact ⟨0, 0, Nat.zero_le _, rfl, rfl, by simp [Hid, countYears], by omega, by omega, Below.refl _ _⟩
  case round =>
    obtain ⟨k, q, hk, rfl, rfl, hq, q0, q1, hb⟩ := hrel
    by_cases hlt : k < n
    · obtain ⟨b, off, rfl, hbl, _⟩ := hx.at_ k hlt
      obtain ⟨f, t, hft, c0, c1⟩ := hx.el hb hbl k hlt
      have hbd := yr_bounds hft ((areYears_at HY.out).2 k (by have := HX.out; omega))
      have hq' := count_bd HY.out (k + 1) (by have := HX.out; omega)
      have hq2 := count_succ hft (by have := HX.out; omega)
      rw [← hq.out] at hq2
      have HQ2 := Lib.hid hq2.symm
      rw [hq2] at hq'
      clear hq2 hq
      go_wp2
      go_roundw
      case rel => exact ⟨k + 1, q + (t - f + 1), by omega, by go_num, rfl, HQ2, by omega, by omega, hb.alloc hb.size _⟩
      case measure => simp [intOf]; omega
    · have hkn : k = n := by omega
      have HF := Lib.hid (show q = countYears xs by rw [hq.out, List.take_of_length_le (by have := HX.out; omega)])
      clear hq hkn
      go_wp2
      go_ret
      exact ⟨by rw [← HF.out]; rfl, hb⟩

def codeYears (xs : List (Int × Int)) : Int := if areYears xs = true then 0 else 1
def cntYears (xs : List (Int × Int)) : Int := if areYears xs = true then countYears xs else 0

set_option maxHeartbeats 800000 in
theorem CountYears_impl (A : Option Addr) (n c : Nat) (xs : List (Int × Int)) (w : World) (hx : Spans w A n c xs) :
    Calls Try.prog 18 #[.slice A n c] w fun e w' => e = .returned (.tuple #[.int .i64 (cntYears xs), .int .i64 (codeYears xs)]) ∧ Below w.heap.size w w' := by
  cases hy : areYears xs
  · have H1 := Lib.hid (show cntYears xs = 0 by simp [cntYears, hy])
    have H2 := Lib.hid (show codeYears xs = 1 by simp [codeYears, hy])
    go_enter Try.func18, Try.ntmps18
    go_wp2_with fail
    refine (areYears_impl A n c xs _ hx).mono ?_
    rintro e_ w1 ⟨rfl, hb1⟩
    have hc_w1 := bcell hb1; have hf_w1 := bfree hb1
    go_wp2
    go_ret2
    exact ⟨by rw [H1.out, H2.out]; rfl, hb1⟩
  · have H1 := Lib.hid (show cntYears xs = countYears xs by simp [cntYears, hy])
    have H2 := Lib.hid (show codeYears xs = 0 by simp [codeYears, hy])
    go_enter Try.func18, Try.ntmps18
    go_wp2_with fail
    refine (areYears_impl A n c xs _ hx).mono ?_
    rintro e_ w1 ⟨rfl, hb1⟩
    have hc_w1 := bcell hb1; have hf_w1 := bfree hb1
    go_wp2_with fail
    refine (countYears_any A n c xs _ (hx.below hb1) hy).mono ?_
    rintro e_ w2 ⟨rfl, hb2⟩
    have hc_w2 := bcell hb2; have hf_w2 := bfree hb2
    go_wp2
    go_ret2
    exact ⟨by rw [H1.out, H2.out]; rfl, next hb1 hb2⟩

set_option maxHeartbeats 800000 in
theorem CountYears_spec (A : Option Addr) (n c : Nat) (xs : List (Int × Int)) (w : World) (hx : Spans w A n c xs) :
    Calls Try.prog 19 #[.slice A n c] w fun e w' => e = .returned (.tuple #[.int .i64 (cntYears xs), .int .i64 (codeYears xs)]) ∧ Below w.heap.size w w' := by
  have hm := hx.2.cap
  have hnc := hx.2.le
  unfold maxLen at hm
  cases hy : areYears xs
  · have H1 := Lib.hid (show cntYears xs = 0 by simp [cntYears, hy])
    have H2 := Lib.hid (show codeYears xs = 1 by simp [codeYears, hy])
    go_enter Try.func19, Try.ntmps19
    go_wp2_with fail
    refine (areYears_spec A n c xs _ hx).mono ?_
    rintro e_ w1 ⟨rfl, hb1⟩
    have hc_w1 := bcell hb1; have hf_w1 := bfree hb1
    go_wp2
    go_ret2
    exact ⟨by rw [H1.out, H2.out]; rfl, hb1⟩
  · have H1 := Lib.hid (show cntYears xs = countYears xs by simp [cntYears, hy])
    have H2 := Lib.hid (show codeYears xs = 0 by simp [codeYears, hy])
    have h12 := (areYears_at hy).1
    have hxn := hx.1
    have hn12 : n ≤ 12 := by omega
    have HX := Lib.hid hxn
    have HY := Lib.hid hy
    clear hxn h12
    go_enter Try.func19, Try.ntmps19
    go_wp2_with fail
    refine (areYears_spec A n c xs _ hx).mono ?_
    rintro e_ w1 ⟨rfl, hb1⟩
    have hc_w1 := bcell hb1; have hf_w1 := bfree hb1
    go_wp2
    clear hy hc_w1 hf_w1
    go_loopw [4, 5] (fun s i wr => ∃ (k : Nat) (q : Int), k ≤ n ∧ i = .int .i64 k ∧ s = .int .i64 q ∧ Hid (q = countYears (xs.take k)) ∧ 0 ≤ q ∧ q ≤ 6001 * k ∧ Below w.heap.size w wr) (fun _ i _ => n - (intOf i).toNat)
    case atStart => exact ⟨0, 0, Nat.zero_le _, rfl, rfl, by simp [Hid, countYears], by omega, by omega, hb1⟩
    case round =>
      obtain ⟨k, q, hk, rfl, rfl, hq, q0, q1, hb⟩ := hrel
      by_cases hlt : k < n
      · obtain ⟨b, off, rfl, hbl, _⟩ := hx.at_ k hlt
        obtain ⟨f, t, hft, c0, c1⟩ := hx.el hb hbl k hlt
        have hbw : b < wr.heap.size := Nat.lt_of_lt_of_le hbl hb.size
        have hk0 : (0 : Int) ≤ (k : Int) := Int.natCast_nonneg _
        have hk1 : (k : Int) < (n : Int) := by omega
        have hbd := yr_bounds hft ((areYears_at HY.out).2 k (by have := HX.out; omega))
        have hq' := count_bd HY.out (k + 1) (by have := HX.out; omega)
        have hq2 := count_succ hft (by have := HX.out; omega)
        rw [← hq.out] at hq2
        have HQ2 := Lib.hid (show q + t - f + 1 = countYears (xs.take (k + 1)) by omega)
        rw [hq2] at hq'
        clear hq2 hq
        go_wp2
        refine wp_region_later (by kernel_rfl) (by kernel_rfl) ?_
        repeat (go_big_quiet_step (fail))
        refine wpQuiet_nil ?_
        intro w2 hw2; have h2 := later_below hw2; clear hw2
        go_wp2
        go_roundw
        case rel => exact ⟨k + 1, q + t - f + 1, by omega, by go_num, rfl, HQ2, by omega, by omega, hb.trans (h2.mono hb.size)⟩
        case measure => simp [intOf]; omega
      · have hkn : k = n := by omega
        have HF := Lib.hid (show q = countYears xs by rw [hq.out, List.take_of_length_le (by have := HX.out; omega)])
        clear hq hkn
        go_wp2
        go_ret2
        exact ⟨by rw [H1.out, H2.out, ← HF.out]; rfl, hb⟩

/-! ## HasYear -/
/-- the index of the first that p holds of, or -1 -/
def idxOf {α : Type} (p : α → Bool) (xs : List α) : Int := match xs.findIdx? p with | some i => i | none => -1
theorem idxOf_yes {α : Type} {p : α → Bool} {xs : List α} {d : α} {k : Nat} (hk : k < xs.length) (hup : ∀ i, i < k → p (xs.getD i d) = false) (h : p (xs.getD k d) = true) : idxOf p xs = k := by
  unfold idxOf
  have : xs.findIdx? p = some k := by
    rw [List.findIdx?_eq_some_iff_getElem]
    refine ⟨hk, ?_, fun j hj => ?_⟩
    · rw [List.getD_eq_getElem?_getD, List.getElem?_eq_getElem hk] at h; simpa using h
    · have := hup j hj
      rw [List.getD_eq_getElem?_getD, List.getElem?_eq_getElem (by omega)] at this
      simpa using this
  rw [this]
theorem idxOf_no {α : Type} {p : α → Bool} {xs : List α} {d : α} (hup : ∀ i, i < xs.length → p (xs.getD i d) = false) : idxOf p xs = -1 := by
  unfold idxOf
  have : xs.findIdx? p = none := by
    rw [List.findIdx?_eq_none_iff]
    intro x hx
    obtain ⟨i, hi, rfl⟩ := List.getElem_of_mem hx
    have := hup i hi
    rw [List.getD_eq_getElem?_getD, List.getElem?_eq_getElem hi] at this
    simpa using this
  rw [this]
theorem idxOf_any {α : Type} (p : α → Bool) (xs : List α) : decide (0 ≤ idxOf p xs) = xs.any p := by
  unfold idxOf
  cases h : xs.findIdx? p with
  | none =>
    rw [List.findIdx?_eq_none_iff] at h
    have : xs.any p = false := by rw [List.any_eq_false]; intro x hx; simp [h x hx]
    rw [this]; simp
  | some i =>
    rw [List.findIdx?_eq_some_iff_getElem] at h
    obtain ⟨hi, hp, _⟩ := h
    have : xs.any p = true := by rw [List.any_eq_true]; exact ⟨xs[i], List.getElem_mem hi, hp⟩
    rw [this]; simp
theorem has_no {xs : List (Int × Int)} {k : Nat} {f t y : Int} (hup : ∀ i, i < k → spHas (xs.getD i (0, 0)) y = false) (h : Hid (xs.getD k (0, 0) = (f, t))) (hs : spHas (f, t) y = false) :
    ∀ i, i < k + 1 → spHas (xs.getD i (0, 0)) y = false := fun i hi => by
  by_cases e : i = k
  · subst e; rw [h.out]; exact hs
  · exact hup i (by omega)
theorem has_yes {xs : List (Int × Int)} {k n : Nat} {f t y : Int} (hn : n = xs.length) (hk : k < n) (h : Hid (xs.getD k (0, 0) = (f, t))) (hs : spHas (f, t) y = true) : hasYear xs y = true := by
  unfold hasYear
  rw [List.any_eq_true]
  refine ⟨xs[k]'(by omega), List.getElem_mem _, ?_⟩
  have := h.out
  rw [List.getD_eq_getElem?_getD, List.getElem?_eq_getElem (by omega)] at this
  simp at this
  rw [this]; exact hs
theorem has_end {xs : List (Int × Int)} {k n : Nat} {y : Int} (hn : n = xs.length) (hk : n ≤ k) (hup : ∀ i, i < k → spHas (xs.getD i (0, 0)) y = false) : hasYear xs y = false := by
  unfold hasYear
  rw [List.any_eq_false]
  intro s hs
  obtain ⟨i, hi, rfl⟩ := List.getElem_of_mem hs
  have := hup i (by omega)
  rw [List.getD_eq_getElem?_getD, List.getElem?_eq_getElem hi] at this
  simpa using this

set_option maxHeartbeats 400000 in
theorem l01In_any (y f t : Int) (w : World) :
    Calls Try.prog 64 #[.int .i64 y, .int .i64 f, .int .i64 t] w fun e w' => e = .returned (.bool (spHas (f, t) y)) ∧ Below w.heap.size w w' := by
  go_enter Try.func64, Try.ntmps64
  go_wp2
  all_goals
    go_ret
    exact ⟨ret_bool (by rw [Bool.eq_iff_iff]; simp [spHas]; try omega), Below.refl _ _⟩
set_option maxHeartbeats 400000 in
theorem within_any (y f t : Int) (w : World) :
    Calls Try.prog 74 #[.int .i64 y, .int .i64 f, .int .i64 t] w fun e w' => e = .returned (.bool (spHas (f, t) y)) ∧ Below w.heap.size w w' := by
  go_enter Try.func74, Try.ntmps74
  go_wp2
  all_goals
    go_ret
    exact ⟨ret_bool (by rw [Bool.eq_iff_iff]; simp [spHas]; try omega), Below.refl _ _⟩

set_option maxHeartbeats 800000 in
theorem l02Has_any (A : Option Addr) (n c : Nat) (xs : List (Int × Int)) (y : Int) (w : World) (hx : Spans w A n c xs) :
    Calls Try.prog 46 #[.slice A n c, .int .i64 y] w fun e w' => e = .returned (.bool (hasYear xs y)) ∧ Below w.heap.size w w' := by
  have hm := hx.2.cap
  have hnc := hx.2.le
  unfold maxLen at hm
  go_enter Try.func46, Try.ntmps46
  go_wp2
  go_loopw [5] (fun i wr => ∃ k : Nat, k ≤ n ∧ i = .int .i64 k ∧ Hid (∀ i, i < k → spHas (xs.getD i (0, 0)) y = false) ∧ Below w.heap.size w wr) (fun i _ => n - (intOf i).toNat)
  case atStart => exact ⟨0, Nat.zero_le _, rfl, fun i hi => absurd hi (by omega), Below.refl _ _⟩
  case round =>
    obtain ⟨k, hk, rfl, hup, hb⟩ := hrel
    by_cases hlt : k < n
    · obtain ⟨b, off, rfl, hbl, _⟩ := hx.at_ k hlt
      obtain ⟨f, t, hft, c0, c1⟩ := hx.el hb hbl k hlt
      have hbw : b < wr.heap.size := Nat.lt_of_lt_of_le hbl hb.size
      have hk0 : (0 : Int) ≤ (k : Int) := Int.natCast_nonneg _
      have hk1 : (k : Int) < (n : Int) := by omega
      cases hs : spHas (f, t) y
      · go_wp2
        refine wp_region_later (by kernel_rfl) (by kernel_rfl) ?_
        repeat (go_big_quiet_step ((go_at_call 64; exact Calls.later (isb (l01In_any y f t _) hs))))
        refine wpQuiet_nil ?_
        intro w2 hw2; have h2 := later_below hw2; clear hw2
        go_wp2
        go_roundw
        case rel => exact ⟨k + 1, by omega, by go_num, has_no hup.out hft hs, hb.trans (h2.mono hb.size)⟩
        case measure => simp [intOf]; omega
      · go_wp2
        refine wp_region_later (by kernel_rfl) (by kernel_rfl) ?_
        repeat (go_big_quiet_step ((go_at_call 64; exact Calls.later (isb (l01In_any y f t _) hs))))
        refine wpQuiet_nil ?_
        intro w2 hw2; have h2 := later_below hw2; clear hw2
        go_wp2
        go_ret
        exact ⟨ret_bool (has_yes hx.1 hlt hft hs).symm, hb.trans (h2.mono hb.size)⟩
    · go_wp2
      go_ret
      exact ⟨ret_bool (has_end hx.1 (by omega) hup.out).symm, hb⟩

def hasCode (xs : List (Int × Int)) (y : Int) : Bool := areYears xs && hasYear xs y

set_option maxHeartbeats 800000 in
theorem HasYear_spec (A : Option Addr) (n c : Nat) (xs : List (Int × Int)) (y : Int) (w : World) (hx : Spans w A n c xs) :
    Calls Try.prog 22 #[.slice A n c, .int .i64 y] w fun e w' => e = .returned (.tuple #[.bool (hasCode xs y), .int .i64 (codeYears xs)]) ∧ Below w.heap.size w w' := by
  cases hy : areYears xs
  · have H1 := Lib.hid (show hasCode xs y = false by simp [hasCode, hy])
    have H2 := Lib.hid (show codeYears xs = 1 by simp [codeYears, hy])
    go_enter Try.func22, Try.ntmps22
    go_wp2_with fail
    refine (areYears_spec A n c xs _ hx).mono ?_
    rintro e_ w1 ⟨rfl, hb1⟩
    have hc_w1 := bcell hb1; have hf_w1 := bfree hb1
    go_wp2
    go_ret2
    exact ⟨by rw [H1.out, H2.out]; rfl, hb1⟩
  · have H1 := Lib.hid (show hasCode xs y = hasYear xs y by simp [hasCode, hy])
    have H2 := Lib.hid (show codeYears xs = 0 by simp [codeYears, hy])
    go_enter Try.func22, Try.ntmps22
    go_wp2_with fail
    refine (areYears_spec A n c xs _ hx).mono ?_
    rintro e_ w1 ⟨rfl, hb1⟩
    have hc_w1 := bcell hb1; have hf_w1 := bfree hb1
    go_wp2_with fail
    refine (l02Has_any A n c xs y _ (hx.below hb1)).mono ?_
    rintro e_ w2 ⟨rfl, hb2⟩
    have hc_w2 := bcell hb2; have hf_w2 := bfree hb2
    go_wp2
    go_ret2
    exact ⟨by rw [H1.out, H2.out]; rfl, next hb1 hb2⟩

set_option maxHeartbeats 800000 in
theorem hasYear1_any (s : Int × Int) (y : Int) (p : Nat) (w : World) (hp : w.cell? ⟨p, 0, none⟩ = some (.int .i64 y)) (hpl : p < w.heap.size) :
    Calls Try.prog 62 #[.agg #[.int .i64 s.1, .int .i64 s.2], .pointer (some ⟨p, 0, none⟩)] w fun e w' => e = .returned (.bool (spHas s y)) ∧ Below w.heap.size w w' := by
  go_enter Try.func62, Try.ntmps62
  go_wp2
  all_goals
    go_ret
    refine ⟨ret_bool (by rw [Bool.eq_iff_iff]; simp [spHas]; try omega), two_boxes _ _ _⟩

set_option maxHeartbeats 800000 in
theorem IndexFunc_has (A : Option Addr) (n c : Nat) (xs : List (Int × Int)) (y : Int) (p : Nat) (w : World) (hx : Spans w A n c xs) (hp : w.cell? ⟨p, 0, none⟩ = some (.int .i64 y)) (hpl : p < w.heap.size) :
    Calls Try.prog 73 #[.slice A n c, .func (.func 62) #[] #[.pointer (some ⟨p, 0, none⟩)]] w fun e w' => e = .returned (.int .i64 (idxOf (spHas · y) xs)) ∧ Below w.heap.size w w' := by
  have hm := hx.2.cap
  have hnc := hx.2.le
  unfold maxLen at hm
  go_enter Try.func73, Try.ntmps73
  go_wp2
  go_loopw [8] (fun i wr => ∃ k : Nat, k ≤ n ∧ i = .int .i64 k ∧ Hid (∀ i, i < k → spHas (xs.getD i (0, 0)) y = false) ∧ Below w.heap.size w wr) (fun i _ => n - (intOf i).toNat)
  case atStart => exact ⟨0, Nat.zero_le _, rfl, fun i hi => absurd hi (by omega), Below.refl _ _⟩
  case round =>
    obtain ⟨k, hk, rfl, hup, hb⟩ := hrel
    by_cases hlt : k < n
    · obtain ⟨b, off, rfl, hbl, _⟩ := hx.at_ k hlt
      obtain ⟨f, t, hft, c0, c1⟩ := hx.el hb hbl k hlt
      have hxn := hx.1
      have HX := Lib.hid hxn
      clear hxn
      cases hs : spHas (f, t) y
      · go_wp2_with fail
        refine (hasYear1_any (f, t) y p _ ((hb.cell (p := ⟨p, 0, none⟩) hpl).trans hp) (Nat.lt_of_lt_of_le hpl hb.size)).mono ?_
        rintro e_ w1 ⟨rfl, h1⟩
        have hc_w1 := bcell h1; have hf_w1 := bfree h1
        go_wp2
        go_roundw
        case rel => exact ⟨k + 1, by omega, by go_num, has_no hup.out hft hs, next hb h1⟩
        case measure => simp [intOf]; omega
      · go_wp2_with fail
        refine (hasYear1_any (f, t) y p _ ((hb.cell (p := ⟨p, 0, none⟩) hpl).trans hp) (Nat.lt_of_lt_of_le hpl hb.size)).mono ?_
        rintro e_ w1 ⟨rfl, h1⟩
        have hc_w1 := bcell h1; have hf_w1 := bfree h1
        have HI := Lib.hid (idxOf_yes (p := (spHas · y)) (d := (0, 0)) (by rw [← HX.out]; exact hlt) hup.out (by show spHas _ y = true; rw [hft.out]; exact hs))
        go_wp2
        go_ret
        exact ⟨by rw [HI.out]; rfl, next hb h1⟩
    · have HI := Lib.hid (idxOf_no (p := (spHas · y)) (d := (0, 0)) (fun i hi => hup.out i (by have := hx.1; omega)))
      go_wp2
      go_ret
      exact ⟨by rw [HI.out]; rfl, hb⟩

set_option maxHeartbeats 800000 in
theorem ContainsFunc_has (A : Option Addr) (n c : Nat) (xs : List (Int × Int)) (y : Int) (p : Nat) (w : World) (hx : Spans w A n c xs) (hp : w.cell? ⟨p, 0, none⟩ = some (.int .i64 y)) (hpl : p < w.heap.size) :
    Calls Try.prog 61 #[.slice A n c, .func (.func 62) #[] #[.pointer (some ⟨p, 0, none⟩)]] w fun e w' => e = .returned (.bool (hasYear xs y)) ∧ Below w.heap.size w w' := by
  have HI := Lib.hid (idxOf_any (spHas · y) xs)
  go_enter Try.func61, Try.ntmps61
  go_wp2_with fail
  refine (IndexFunc_has A n c xs y p _ hx hp hpl).mono ?_
  rintro e_ w1 ⟨rfl, h1⟩
  have hc_w1 := bcell h1; have hf_w1 := bfree h1
  go_wp2
  go_ret
  exact ⟨ret_bool HI.out, h1⟩

set_option maxHeartbeats 800000 in
theorem hasYear_any (A : Option Addr) (n c : Nat) (xs : List (Int × Int)) (y : Int) (w : World) (hx : Spans w A n c xs) :
    Calls Try.prog 45 #[.slice A n c, .int .i64 y] w fun e w' => e = .returned (.bool (hasYear xs y)) ∧ Below w.heap.size w w' := by
  go_enter Try.func45, Try.ntmps45
  go_wp2_with fail
  refine (ContainsFunc_has A n c xs y w.heap.size _ (hx.below ((Below.refl _ _).alloc (Nat.le_refl _) _)) (by simp) (by simp)).mono ?_
  rintro e_ w1 ⟨rfl, h1⟩
  have hc_w1 := bcell h1; have hf_w1 := bfree h1
  go_wp2
  go_ret
  exact ⟨rfl, next ((Below.refl _ _).alloc (Nat.le_refl _) _) h1⟩

set_option maxHeartbeats 800000 in
theorem HasYear_impl (A : Option Addr) (n c : Nat) (xs : List (Int × Int)) (y : Int) (w : World) (hx : Spans w A n c xs) :
    Calls Try.prog 21 #[.slice A n c, .int .i64 y] w fun e w' => e = .returned (.tuple #[.bool (hasCode xs y), .int .i64 (codeYears xs)]) ∧ Below w.heap.size w w' := by
  cases hy : areYears xs
  · have H1 := Lib.hid (show hasCode xs y = false by simp [hasCode, hy])
    have H2 := Lib.hid (show codeYears xs = 1 by simp [codeYears, hy])
    go_enter Try.func21, Try.ntmps21
    go_wp2_with fail
    refine (areYears_impl A n c xs _ hx).mono ?_
    rintro e_ w1 ⟨rfl, hb1⟩
    have hc_w1 := bcell hb1; have hf_w1 := bfree hb1
    go_wp2
    go_ret2
    exact ⟨by rw [H1.out, H2.out]; rfl, hb1⟩
  · have H1 := Lib.hid (show hasCode xs y = hasYear xs y by simp [hasCode, hy])
    have H2 := Lib.hid (show codeYears xs = 0 by simp [codeYears, hy])
    go_enter Try.func21, Try.ntmps21
    go_wp2_with fail
    refine (areYears_impl A n c xs _ hx).mono ?_
    rintro e_ w1 ⟨rfl, hb1⟩
    have hc_w1 := bcell hb1; have hf_w1 := bfree hb1
    go_wp2_with fail
    refine (hasYear_any A n c xs y _ (hx.below hb1)).mono ?_
    rintro e_ w2 ⟨rfl, hb2⟩
    have hc_w2 := bcell hb2; have hf_w2 := bfree hb2
    go_wp2
    go_ret2
    exact ⟨by rw [H1.out, H2.out]; rfl, next hb1 hb2⟩
end Go.Proofs.Ytldikfikcnkgcaa
