/- DoMeet and MeetOf: what the functions compute. -/
import Derived.Test.YtldikfikcnkgcaaSpans
namespace Go.Proofs.Ytldikfikcnkgcaa
open Go.ChangeShapes Go.WideShapes Go.ChangeAt Go.RowKit

theorem meets_no {a b c d : Int} (h : spMeets a b c d = false) (h1 : a ≤ d) : b < c := by
  simp [spMeets] at h; omega

set_option maxHeartbeats 400000 in
theorem l02Meet_any (a b c d : Int) (w : World) :
    Calls Try.prog 52 #[.agg #[.int .i64 a, .int .i64 b], .agg #[.int .i64 c, .int .i64 d]] w fun e w' => e = .returned (.bool (spMeets a b c d)) ∧ Below w.heap.size w w' := by
  by_cases h1 : a ≤ d
  · go_enter Try.func52, Try.ntmps52
    go_wp2
    go_ret
    exact ⟨ret_bool (by simp [spMeets, h1]), ((Below.refl _ _).alloc (Nat.le_refl _) _).alloc (by simp) _⟩
  · go_enter Try.func52, Try.ntmps52
    go_wp2
    go_ret
    exact ⟨ret_bool (by simp [spMeets]; omega), ((Below.refl _ _).alloc (Nat.le_refl _) _).alloc (by simp) _⟩

set_option maxHeartbeats 400000 in
theorem meets_any (a b c d : Int) (w : World) :
    Calls Try.prog 49 #[.agg #[.int .i64 a, .int .i64 b], .agg #[.int .i64 c, .int .i64 d]] w fun e w' => e = .returned (.bool (spMeets a b c d)) ∧ Below w.heap.size w w' := by
  by_cases h1 : a ≤ d
  · go_enter Try.func49, Try.ntmps49
    go_wp2
    go_ret
    exact ⟨ret_bool (by simp [spMeets, h1]), ((Below.refl _ _).alloc (Nat.le_refl _) _).alloc (by simp) _⟩
  · go_enter Try.func49, Try.ntmps49
    go_wp2
    go_ret
    exact ⟨ret_bool (by simp [spMeets]; omega), ((Below.refl _ _).alloc (Nat.le_refl _) _).alloc (by simp) _⟩

def spTwo (a b c d : Int) : Int := if isSpan (a, b) = true ∧ isSpan (c, d) = true then 0 else 1

set_option maxHeartbeats 400000 in
theorem l02Two_any (a b c d : Int) (w : World) :
    Calls Try.prog 51 #[.agg #[.int .i64 a, .int .i64 b], .agg #[.int .i64 c, .int .i64 d]] w fun e w' => e = .returned (.int .i64 (spTwo a b c d)) ∧ Below w.heap.size w w' := by
  cases h1 : isSpan (a, b)
  · go_enter Try.func51, Try.ntmps51
    go_wp2_with fail
    refine (isSpan_spec a b _).mono ?_
    rintro e_ w1 ⟨rfl, hb1⟩
    have hc_w1 := bcell hb1; have hf_w1 := bfree hb1
    go_wp2
    go_ret
    exact ⟨by simp [spTwo, h1], next (((Below.refl _ _).alloc (Nat.le_refl _) _).alloc (by simp) _) ‹_›⟩
  · cases h2 : isSpan (c, d)
    · go_enter Try.func51, Try.ntmps51
      go_wp2_with fail
      refine (isSpan_spec a b _).mono ?_
      rintro e_ w1 ⟨rfl, hb1⟩
      have hc_w1 := bcell hb1; have hf_w1 := bfree hb1
      have hz_w1_0 : w.heap.size < w1.heap.size := by have hz_ := hb1.size; (try simp at hz_); omega
      have hz_w1_1 : w.heap.size + 1 < w1.heap.size := by have hz_ := hb1.size; (try simp at hz_); omega
      go_wp2_with fail
      refine (isSpan_spec c d _).mono ?_
      rintro e_ w2 ⟨rfl, hb2⟩
      have hc_w2 := bcell hb2; have hf_w2 := bfree hb2
      have hz_w2_0 : w.heap.size < w2.heap.size := by have hz_ := hb2.size; (try simp at hz_); omega
      go_wp2
      go_ret
      exact ⟨by simp [spTwo, h2], next (next (((Below.refl _ _).alloc (Nat.le_refl _) _).alloc (by simp) _) hb1) hb2⟩
    · go_enter Try.func51, Try.ntmps51
      go_wp2_with fail
      refine (isSpan_spec a b _).mono ?_
      rintro e_ w1 ⟨rfl, hb1⟩
      have hc_w1 := bcell hb1; have hf_w1 := bfree hb1
      have hz_w1_0 : w.heap.size < w1.heap.size := by have hz_ := hb1.size; (try simp at hz_); omega
      have hz_w1_1 : w.heap.size + 1 < w1.heap.size := by have hz_ := hb1.size; (try simp at hz_); omega
      go_wp2_with fail
      refine (isSpan_spec c d _).mono ?_
      rintro e_ w2 ⟨rfl, hb2⟩
      have hc_w2 := bcell hb2; have hf_w2 := bfree hb2
      have hz_w2_0 : w.heap.size < w2.heap.size := by have hz_ := hb2.size; (try simp at hz_); omega
      go_wp2
      go_ret
      exact ⟨by simp [spTwo, h1, h2], next (next (((Below.refl _ _).alloc (Nat.le_refl _) _).alloc (by simp) _) hb1) hb2⟩

theorem spTwo_cases (a b c d : Int) : (spTwo a b c d = 0 ∧ isSpan (a, b) = true ∧ isSpan (c, d) = true) ∨ (spTwo a b c d = 1 ∧ (isSpan (a, b) = false ∨ isSpan (c, d) = false)) := by
  unfold spTwo
  split
  · rename_i h; exact .inl ⟨rfl, h.1, h.2⟩
  · rename_i h
    refine .inr ⟨rfl, ?_⟩
    cases h1 : isSpan (a, b)
    · exact .inl rfl
    · cases h2 : isSpan (c, d)
      · exact .inr rfl
      · exact absurd ⟨h1, h2⟩ h
def doMeet (a b c d : Int) : Bool := decide (spTwo a b c d = 0) && spMeets a b c d

set_option maxHeartbeats 400000 in
theorem doMeet_spec (a b c d : Int) (w : World) :
    Calls Try.prog 29 #[.agg #[.int .i64 a, .int .i64 b], .agg #[.int .i64 c, .int .i64 d]] w fun e w' => e = .returned (.tuple #[.bool (doMeet a b c d), .int .i64 (spTwo a b c d)]) ∧ Below w.heap.size w w' := by
  rcases spTwo_cases a b c d with ⟨h, _, _⟩ | ⟨h, _⟩
  · have e0 : (spTwo a b c d != 0) = false := by simp [h]
    have HD := Lib.hid (show doMeet a b c d = spMeets a b c d by simp [doMeet, h])
    have HZ := Lib.hid h
    clear h
    go_enter Try.func29, Try.ntmps29
    go_wp2_with fail
    refine (l02Two_any a b c d _).mono ?_
    rintro e_ w1 ⟨rfl, hb1⟩
    have hc_w1 := bcell hb1; have hf_w1 := bfree hb1
    have hz_w1_0 : w.heap.size < w1.heap.size := by have hz_ := hb1.size; (try simp at hz_); omega
    have hz_w1_1 : w.heap.size + 1 < w1.heap.size := by have hz_ := hb1.size; (try simp at hz_); omega
    go_wp2_with fail
    refine (l02Meet_any a b c d _).mono ?_
    rintro e_ w2 ⟨rfl, hb2⟩
    have hc_w2 := bcell hb2; have hf_w2 := bfree hb2
    go_wp2
    go_ret2
    exact ⟨by rw [HD.out, HZ.out]; rfl, next (next (two_boxes _ _ _) hb1) hb2⟩
  · have e0 : (spTwo a b c d != 0) = true := by simp [h]
    have HD := Lib.hid (show doMeet a b c d = false by simp [doMeet, h])
    have HZ := Lib.hid h
    clear h
    go_enter Try.func29, Try.ntmps29
    go_wp2_with fail
    refine (l02Two_any a b c d _).mono ?_
    rintro e_ w1 ⟨rfl, hb1⟩
    have hc_w1 := bcell hb1; have hf_w1 := bfree hb1
    go_wp2
    go_ret2
    exact ⟨by rw [HD.out, HZ.out]; rfl, next (two_boxes _ _ _) hb1⟩

set_option maxHeartbeats 400000 in
theorem doMeet_impl (a b c d : Int) (w : World) :
    Calls Try.prog 28 #[.agg #[.int .i64 a, .int .i64 b], .agg #[.int .i64 c, .int .i64 d]] w fun e w' => e = .returned (.tuple #[.bool (doMeet a b c d), .int .i64 (spTwo a b c d)]) ∧ Below w.heap.size w w' := by
  rcases spTwo_cases a b c d with ⟨h, h1, h2⟩ | ⟨h, h3⟩
  · have HD := Lib.hid (show doMeet a b c d = spMeets a b c d by simp [doMeet, h])
    have HZ := Lib.hid h
    clear h
    go_enter Try.func28, Try.ntmps28
    go_wp2_with fail
    refine (isSpan_impl a b _).mono ?_
    rintro e_ w1 ⟨rfl, hb1⟩
    have hc_w1 := bcell hb1; have hf_w1 := bfree hb1
    have hz_w1_0 : w.heap.size < w1.heap.size := by have hz_ := hb1.size; (try simp at hz_); omega
    have hz_w1_1 : w.heap.size + 1 < w1.heap.size := by have hz_ := hb1.size; (try simp at hz_); omega
    go_wp2_with fail
    refine (isSpan_impl c d _).mono ?_
    rintro e_ w2 ⟨rfl, hb2⟩
    have hc_w2 := bcell hb2; have hf_w2 := bfree hb2
    have hz_w2_0 : w.heap.size < w2.heap.size := by have hz_ := hb2.size; (try simp at hz_); omega
    have hz_w2_1 : w.heap.size + 1 < w2.heap.size := by have hz_ := hb2.size; (try simp at hz_); omega
    go_wp2_with fail
    refine (meets_any a b c d _).mono ?_
    rintro e_ w3 ⟨rfl, hb3⟩
    have hc_w3 := bcell hb3; have hf_w3 := bfree hb3
    go_wp2
    go_ret2
    exact ⟨by rw [HD.out, HZ.out]; rfl, next (next (next (two_boxes _ _ _) hb1) hb2) hb3⟩
  · have HD := Lib.hid (show doMeet a b c d = false by simp [doMeet, h])
    have HZ := Lib.hid h
    clear h
    cases h1 : isSpan (a, b)
    · clear h3
      go_enter Try.func28, Try.ntmps28
      go_wp2_with fail
      refine (isSpan_impl a b _).mono ?_
      rintro e_ w1 ⟨rfl, hb1⟩
      have hc_w1 := bcell hb1; have hf_w1 := bfree hb1
      go_wp2
      go_ret2
      exact ⟨by rw [HD.out, HZ.out]; rfl, next (two_boxes _ _ _) hb1⟩
    · have h2 : isSpan (c, d) = false := by rcases h3 with h3 | h3; · rw [h1] at h3; cases h3
                                            · exact h3
      clear h3
      go_enter Try.func28, Try.ntmps28
      go_wp2_with fail
      refine (isSpan_impl a b _).mono ?_
      rintro e_ w1 ⟨rfl, hb1⟩
      have hc_w1 := bcell hb1; have hf_w1 := bfree hb1
      have hz_w1_0 : w.heap.size < w1.heap.size := by have hz_ := hb1.size; (try simp at hz_); omega
      have hz_w1_1 : w.heap.size + 1 < w1.heap.size := by have hz_ := hb1.size; (try simp at hz_); omega
      go_wp2_with fail
      refine (isSpan_impl c d _).mono ?_
      rintro e_ w2 ⟨rfl, hb2⟩
      have hc_w2 := bcell hb2; have hf_w2 := bfree hb2
      go_wp2
      go_ret2
      exact ⟨by rw [HD.out, HZ.out]; rfl, next (next (two_boxes _ _ _) hb1) hb2⟩

/-- what MeetOf gives: the code, and the span -/
def moCode (a b c d : Int) : Int := if spTwo a b c d = 0 then (if spMeets a b c d = true then 0 else 4) else 1
def moFrom (a b c d : Int) : Int := if moCode a b c d = 0 then max a c else 0
def moTo (a b c d : Int) : Int := if moCode a b c d = 0 then min b d else 0
theorem mo_yes {a b c d : Int} (h : spTwo a b c d = 0) (hm : spMeets a b c d = true) : Hid (moCode a b c d = 0) ∧ Hid (moFrom a b c d = max a c) ∧ Hid (moTo a b c d = min b d) := by
  simp [Hid, moCode, moFrom, moTo, h, hm]
theorem mo_apart {a b c d : Int} (h : spTwo a b c d = 0) (hm : spMeets a b c d = false) : Hid (moCode a b c d = 4) ∧ Hid (moFrom a b c d = 0) ∧ Hid (moTo a b c d = 0) := by
  simp [Hid, moCode, moFrom, moTo, h, hm]
theorem mo_bad {a b c d : Int} (h : spTwo a b c d = 1) : Hid (moCode a b c d = 1) ∧ Hid (moFrom a b c d = 0) ∧ Hid (moTo a b c d = 0) := by
  simp [Hid, moCode, moFrom, moTo, h]
def MO (a b c d : Int) (w : World) (e : Ending) (w' : World) : Prop :=
  e = .returned (.tuple #[.agg #[.int .i64 (moFrom a b c d), .int .i64 (moTo a b c d)], .int .i64 (moCode a b c d)]) ∧ Below w.heap.size w w'
theorem max_if (a c : Int) : (if a < c then c else a) = max a c := by omega

set_option maxHeartbeats 800000 in
theorem meetOf_spec (a b c d : Int) (w : World) :
    Calls Try.prog 27 #[.agg #[.int .i64 a, .int .i64 b], .agg #[.int .i64 c, .int .i64 d]] w (MO a b c d w) := by
  rcases spTwo_cases a b c d with ⟨h, _, _⟩ | ⟨h, _⟩
  · have e0 : (spTwo a b c d == 0) = true := by simp [h]
    have e1 : (spTwo a b c d != 0) = false := by simp [h]
    cases hm : spMeets a b c d
    · obtain ⟨m1, m2, m3⟩ := mo_apart h hm
      clear h
      go_enter Try.func27, Try.ntmps27
      go_wp2_with fail
      refine (l02Two_any a b c d _).mono ?_
      rintro e_ w1 ⟨rfl, hb1⟩
      have hc_w1 := bcell hb1; have hf_w1 := bfree hb1
      have hz_w1_0 : w.heap.size < w1.heap.size := by have hz_ := hb1.size; (try simp at hz_); omega
      have hz_w1_1 : w.heap.size + 1 < w1.heap.size := by have hz_ := hb1.size; (try simp at hz_); omega
      have hz_w1_2 : w.heap.size + 1 + 1 < w1.heap.size := by have hz_ := hb1.size; (try simp at hz_); omega
      go_wp2_with fail
      refine (l02Meet_any a b c d _).mono ?_
      rintro e_ w2 ⟨rfl, hb2⟩
      have hc_w2 := bcell hb2; have hf_w2 := bfree hb2
      have hz_w2_0 : w.heap.size < w2.heap.size := by have hz_ := hb2.size; (try simp at hz_); omega
      have hz_w2_1 : w.heap.size + 1 < w2.heap.size := by have hz_ := hb2.size; (try simp at hz_); omega
      have hz_w2_2 : w.heap.size + 1 + 1 < w2.heap.size := by have hz_ := hb2.size; (try simp at hz_); omega
      go_wp2
      all_goals
        refine bodyPost_ret (v := .tuple #[.agg #[.int .i64 (moFrom a b c d), .int .i64 (moTo a b c d)], .int .i64 (moCode a b c d)]) ?_ rfl ⟨rfl, ((next (next (three_boxes _ _ _ _) hb1) hb2).setCell (by simp; omega) _).setCell (by simp; omega) _⟩
        rw [m1.out, m2.out, m3.out]
        first
          | rw [show max a c = a from by omega, show min b d = b from by omega]
          | rw [show max a c = a from by omega, show min b d = d from by omega]
          | rw [show max a c = c from by omega, show min b d = b from by omega]
          | rw [show max a c = c from by omega, show min b d = d from by omega]
          | skip
        simp [results, Try.results27, go_sem, *]
    · obtain ⟨m1, m2, m3⟩ := mo_yes h hm
      clear h
      go_enter Try.func27, Try.ntmps27
      go_wp2_with fail
      refine (l02Two_any a b c d _).mono ?_
      rintro e_ w1 ⟨rfl, hb1⟩
      have hc_w1 := bcell hb1; have hf_w1 := bfree hb1
      have hz_w1_0 : w.heap.size < w1.heap.size := by have hz_ := hb1.size; (try simp at hz_); omega
      have hz_w1_1 : w.heap.size + 1 < w1.heap.size := by have hz_ := hb1.size; (try simp at hz_); omega
      have hz_w1_2 : w.heap.size + 1 + 1 < w1.heap.size := by have hz_ := hb1.size; (try simp at hz_); omega
      go_wp2_with fail
      refine (l02Meet_any a b c d _).mono ?_
      rintro e_ w2 ⟨rfl, hb2⟩
      have hc_w2 := bcell hb2; have hf_w2 := bfree hb2
      have hz_w2_0 : w.heap.size < w2.heap.size := by have hz_ := hb2.size; (try simp at hz_); omega
      have hz_w2_1 : w.heap.size + 1 < w2.heap.size := by have hz_ := hb2.size; (try simp at hz_); omega
      have hz_w2_2 : w.heap.size + 1 + 1 < w2.heap.size := by have hz_ := hb2.size; (try simp at hz_); omega
      go_wp2
      all_goals
        refine bodyPost_ret (v := .tuple #[.agg #[.int .i64 (moFrom a b c d), .int .i64 (moTo a b c d)], .int .i64 (moCode a b c d)]) ?_ rfl ⟨rfl, ((next (next (three_boxes _ _ _ _) hb1) hb2).setCell (by simp; omega) _).setCell (by simp; omega) _⟩
        rw [m1.out, m2.out, m3.out]
        first
          | rw [show max a c = a from by omega, show min b d = b from by omega]
          | rw [show max a c = a from by omega, show min b d = d from by omega]
          | rw [show max a c = c from by omega, show min b d = b from by omega]
          | rw [show max a c = c from by omega, show min b d = d from by omega]
          | skip
        simp [results, Try.results27, go_sem, *]
  · have e0 : (spTwo a b c d == 0) = false := by simp [h]
    have e1 : (spTwo a b c d != 0) = true := by simp [h]
    obtain ⟨m1, m2, m3⟩ := mo_bad h
    have HZ := Lib.hid h
    clear h
    go_enter Try.func27, Try.ntmps27
    go_wp2_with fail
    refine (l02Two_any a b c d _).mono ?_
    rintro e_ w1 ⟨rfl, hb1⟩
    have hc_w1 := bcell hb1; have hf_w1 := bfree hb1
    have hz_w1_0 : w.heap.size < w1.heap.size := by have hz_ := hb1.size; (try simp at hz_); omega
    have hz_w1_1 : w.heap.size + 1 < w1.heap.size := by have hz_ := hb1.size; (try simp at hz_); omega
    have hz_w1_2 : w.heap.size + 1 + 1 < w1.heap.size := by have hz_ := hb1.size; (try simp at hz_); omega
    go_wp2
    all_goals
      refine bodyPost_ret (v := .tuple #[.agg #[.int .i64 (moFrom a b c d), .int .i64 (moTo a b c d)], .int .i64 (moCode a b c d)]) ?_ rfl ⟨rfl, ((next (three_boxes _ _ _ _) hb1).setCell (by simp; omega) _).setCell (by simp; omega) _⟩
      rw [m1.out, m2.out, m3.out]
      first
        | rw [show max a c = a from by omega, show min b d = b from by omega]
        | rw [show max a c = a from by omega, show min b d = d from by omega]
        | rw [show max a c = c from by omega, show min b d = b from by omega]
        | rw [show max a c = c from by omega, show min b d = d from by omega]
        | skip
      simp [results, Try.results27, go_sem, *]
      exact HZ.out

set_option maxHeartbeats 400000 in
theorem meet_any (a b c d : Int) (w : World) :
    Calls Try.prog 50 #[.agg #[.int .i64 a, .int .i64 b], .agg #[.int .i64 c, .int .i64 d]] w fun e w' => e = .returned (.agg #[.int .i64 (max a c), .int .i64 (min b d)]) ∧ Below w.heap.size w w' := by
  go_enter Try.func50, Try.ntmps50
  go_wp2
  all_goals
    refine bodyPost_ret (v := .agg #[.int .i64 (max a c), .int .i64 (min b d)]) ?_ rfl ⟨rfl, three_boxes _ _ _ _⟩
    first
      | rw [show max a c = a from by omega, show min b d = b from by omega]
      | rw [show max a c = a from by omega, show min b d = d from by omega]
      | rw [show max a c = c from by omega, show min b d = b from by omega]
      | rw [show max a c = c from by omega, show min b d = d from by omega]
    simp [results, Try.results50, go_sem]

set_option maxHeartbeats 800000 in
theorem meetOf_impl (a b c d : Int) (w : World) :
    Calls Try.prog 26 #[.agg #[.int .i64 a, .int .i64 b], .agg #[.int .i64 c, .int .i64 d]] w (MO a b c d w) := by
  rcases spTwo_cases a b c d with ⟨h, h1, h2⟩ | ⟨h, h3⟩
  · cases hm : spMeets a b c d
    · obtain ⟨m1, m2, m3⟩ := mo_apart h hm
      clear h
      go_enter Try.func26, Try.ntmps26
      go_wp2_with fail
      refine (isSpan_impl a b _).mono ?_
      rintro e_ w1 ⟨rfl, hb1⟩
      have hc_w1 := bcell hb1; have hf_w1 := bfree hb1
      have hz_w1_0 : w.heap.size < w1.heap.size := by have hz_ := hb1.size; (try simp at hz_); omega
      have hz_w1_1 : w.heap.size + 1 < w1.heap.size := by have hz_ := hb1.size; (try simp at hz_); omega
      have hz_w1_2 : w.heap.size + 1 + 1 < w1.heap.size := by have hz_ := hb1.size; (try simp at hz_); omega
      go_wp2_with fail
      refine (isSpan_impl c d _).mono ?_
      rintro e_ w2 ⟨rfl, hb2⟩
      have hc_w2 := bcell hb2; have hf_w2 := bfree hb2
      have hz_w2_0 : w.heap.size < w2.heap.size := by have hz_ := hb2.size; (try simp at hz_); omega
      have hz_w2_1 : w.heap.size + 1 < w2.heap.size := by have hz_ := hb2.size; (try simp at hz_); omega
      have hz_w2_2 : w.heap.size + 1 + 1 < w2.heap.size := by have hz_ := hb2.size; (try simp at hz_); omega
      go_wp2_with fail
      refine (meets_any a b c d _).mono ?_
      rintro e_ w3 ⟨rfl, hb3⟩
      have hc_w3 := bcell hb3; have hf_w3 := bfree hb3
      have hz_w3_0 : w.heap.size < w3.heap.size := by have hz_ := hb3.size; (try simp at hz_); omega
      have hz_w3_1 : w.heap.size + 1 < w3.heap.size := by have hz_ := hb3.size; (try simp at hz_); omega
      have hz_w3_2 : w.heap.size + 1 + 1 < w3.heap.size := by have hz_ := hb3.size; (try simp at hz_); omega
      go_wp2
      all_goals
        refine bodyPost_ret (v := .tuple #[.agg #[.int .i64 (moFrom a b c d), .int .i64 (moTo a b c d)], .int .i64 (moCode a b c d)]) ?_ rfl ⟨rfl, ((next (next (next (three_boxes _ _ _ _) hb1) hb2) hb3).setCell (by simp; omega) _).setCell (by simp; omega) _⟩
        rw [m1.out, m2.out, m3.out]
        first
          | rw [show max a c = a from by omega, show min b d = b from by omega]
          | rw [show max a c = a from by omega, show min b d = d from by omega]
          | rw [show max a c = c from by omega, show min b d = b from by omega]
          | rw [show max a c = c from by omega, show min b d = d from by omega]
          | skip
        simp [results, Try.results26, go_sem, *]

    · obtain ⟨m1, m2, m3⟩ := mo_yes h hm
      clear h
      go_enter Try.func26, Try.ntmps26
      go_wp2_with fail
      refine (isSpan_impl a b _).mono ?_
      rintro e_ w1 ⟨rfl, hb1⟩
      have hc_w1 := bcell hb1; have hf_w1 := bfree hb1
      have hz_w1_0 : w.heap.size < w1.heap.size := by have hz_ := hb1.size; (try simp at hz_); omega
      have hz_w1_1 : w.heap.size + 1 < w1.heap.size := by have hz_ := hb1.size; (try simp at hz_); omega
      have hz_w1_2 : w.heap.size + 1 + 1 < w1.heap.size := by have hz_ := hb1.size; (try simp at hz_); omega
      go_wp2_with fail
      refine (isSpan_impl c d _).mono ?_
      rintro e_ w2 ⟨rfl, hb2⟩
      have hc_w2 := bcell hb2; have hf_w2 := bfree hb2
      have hz_w2_0 : w.heap.size < w2.heap.size := by have hz_ := hb2.size; (try simp at hz_); omega
      have hz_w2_1 : w.heap.size + 1 < w2.heap.size := by have hz_ := hb2.size; (try simp at hz_); omega
      have hz_w2_2 : w.heap.size + 1 + 1 < w2.heap.size := by have hz_ := hb2.size; (try simp at hz_); omega
      go_wp2_with fail
      refine (meets_any a b c d _).mono ?_
      rintro e_ w3 ⟨rfl, hb3⟩
      have hc_w3 := bcell hb3; have hf_w3 := bfree hb3
      have hz_w3_0 : w.heap.size < w3.heap.size := by have hz_ := hb3.size; (try simp at hz_); omega
      have hz_w3_1 : w.heap.size + 1 < w3.heap.size := by have hz_ := hb3.size; (try simp at hz_); omega
      have hz_w3_2 : w.heap.size + 1 + 1 < w3.heap.size := by have hz_ := hb3.size; (try simp at hz_); omega
      go_wp2_with fail
      refine (meet_any a b c d _).mono ?_
      rintro e_ w4 ⟨rfl, hb4⟩
      have hc_w4 := bcell hb4; have hf_w4 := bfree hb4
      have hz_w4_0 : w.heap.size < w4.heap.size := by have hz_ := hb4.size; (try simp at hz_); omega
      have hz_w4_1 : w.heap.size + 1 < w4.heap.size := by have hz_ := hb4.size; (try simp at hz_); omega
      have hz_w4_2 : w.heap.size + 1 + 1 < w4.heap.size := by have hz_ := hb4.size; (try simp at hz_); omega
      go_wp2
      all_goals
        refine bodyPost_ret (v := .tuple #[.agg #[.int .i64 (moFrom a b c d), .int .i64 (moTo a b c d)], .int .i64 (moCode a b c d)]) ?_ rfl ⟨rfl, ((next (next (next (next (three_boxes _ _ _ _) hb1) hb2) hb3) hb4).setCell (by simp; omega) _).setCell (by simp; omega) _⟩
        rw [m1.out, m2.out, m3.out]
        first
          | rw [show max a c = a from by omega, show min b d = b from by omega]
          | rw [show max a c = a from by omega, show min b d = d from by omega]
          | rw [show max a c = c from by omega, show min b d = b from by omega]
          | rw [show max a c = c from by omega, show min b d = d from by omega]
          | skip
        simp [results, Try.results26, go_sem, *]

  · obtain ⟨m1, m2, m3⟩ := mo_bad h
    clear h
    cases h1 : isSpan (a, b)
    · clear h3
      go_enter Try.func26, Try.ntmps26
      go_wp2_with fail
      refine (isSpan_impl a b _).mono ?_
      rintro e_ w1 ⟨rfl, hb1⟩
      have hc_w1 := bcell hb1; have hf_w1 := bfree hb1
      have hz_w1_0 : w.heap.size < w1.heap.size := by have hz_ := hb1.size; (try simp at hz_); omega
      have hz_w1_1 : w.heap.size + 1 < w1.heap.size := by have hz_ := hb1.size; (try simp at hz_); omega
      have hz_w1_2 : w.heap.size + 1 + 1 < w1.heap.size := by have hz_ := hb1.size; (try simp at hz_); omega
      go_wp2
      all_goals
        refine bodyPost_ret (v := .tuple #[.agg #[.int .i64 (moFrom a b c d), .int .i64 (moTo a b c d)], .int .i64 (moCode a b c d)]) ?_ rfl ⟨rfl, ((next (three_boxes _ _ _ _) hb1).setCell (by simp; omega) _).setCell (by simp; omega) _⟩
        rw [m1.out, m2.out, m3.out]
        first
          | rw [show max a c = a from by omega, show min b d = b from by omega]
          | rw [show max a c = a from by omega, show min b d = d from by omega]
          | rw [show max a c = c from by omega, show min b d = b from by omega]
          | rw [show max a c = c from by omega, show min b d = d from by omega]
          | skip
        simp [results, Try.results26, go_sem, *]

    · have h2 : isSpan (c, d) = false := by rcases h3 with h3 | h3; · rw [h1] at h3; cases h3
                                            · exact h3
      clear h3
      go_enter Try.func26, Try.ntmps26
      go_wp2_with fail
      refine (isSpan_impl a b _).mono ?_
      rintro e_ w1 ⟨rfl, hb1⟩
      have hc_w1 := bcell hb1; have hf_w1 := bfree hb1
      have hz_w1_0 : w.heap.size < w1.heap.size := by have hz_ := hb1.size; (try simp at hz_); omega
      have hz_w1_1 : w.heap.size + 1 < w1.heap.size := by have hz_ := hb1.size; (try simp at hz_); omega
      have hz_w1_2 : w.heap.size + 1 + 1 < w1.heap.size := by have hz_ := hb1.size; (try simp at hz_); omega
      go_wp2_with fail
      refine (isSpan_impl c d _).mono ?_
      rintro e_ w2 ⟨rfl, hb2⟩
      have hc_w2 := bcell hb2; have hf_w2 := bfree hb2
      have hz_w2_0 : w.heap.size < w2.heap.size := by have hz_ := hb2.size; (try simp at hz_); omega
      have hz_w2_1 : w.heap.size + 1 < w2.heap.size := by have hz_ := hb2.size; (try simp at hz_); omega
      have hz_w2_2 : w.heap.size + 1 + 1 < w2.heap.size := by have hz_ := hb2.size; (try simp at hz_); omega
      go_wp2
      all_goals
        refine bodyPost_ret (v := .tuple #[.agg #[.int .i64 (moFrom a b c d), .int .i64 (moTo a b c d)], .int .i64 (moCode a b c d)]) ?_ rfl ⟨rfl, ((next (next (three_boxes _ _ _ _) hb1) hb2).setCell (by simp; omega) _).setCell (by simp; omega) _⟩
        rw [m1.out, m2.out, m3.out]
        first
          | rw [show max a c = a from by omega, show min b d = b from by omega]
          | rw [show max a c = a from by omega, show min b d = d from by omega]
          | rw [show max a c = c from by omega, show min b d = b from by omega]
          | rw [show max a c = c from by omega, show min b d = d from by omega]
          | skip
        simp [results, Try.results26, go_sem, *]


theorem meetOf_spec_ (a b c d : Int) (w : World) :
    Calls Try.prog 27 #[.agg #[.int .i64 a, .int .i64 b], .agg #[.int .i64 c, .int .i64 d]] w fun e w' =>
      e = .returned (.tuple #[.agg #[.int .i64 (moFrom a b c d), .int .i64 (moTo a b c d)], .int .i64 (moCode a b c d)]) ∧ Below w.heap.size w w' := meetOf_spec a b c d w

theorem meetOf_impl_ (a b c d : Int) (w : World) :
    Calls Try.prog 26 #[.agg #[.int .i64 a, .int .i64 b], .agg #[.int .i64 c, .int .i64 d]] w fun e w' =>
      e = .returned (.tuple #[.agg #[.int .i64 (moFrom a b c d), .int .i64 (moTo a b c d)], .int .i64 (moCode a b c d)]) ∧ Below w.heap.size w w' := meetOf_impl a b c d w
end Go.Proofs.Ytldikfikcnkgcaa
