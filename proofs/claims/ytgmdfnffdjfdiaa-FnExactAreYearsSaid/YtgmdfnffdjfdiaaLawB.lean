/- The laws FnExactAreYears, FnExactCountYears, FnExactHasYear return true for every input, and leave their arguments as they were. -/
import Derived.Test.YtgmdfnffdjfdiaaOpen
import Derived.Test.YtgmdfnffdjfdiaaSpans3

namespace Go.Proofs.Ytgmdfnffdjfdiaa
open Go.RowKit
theorem OwnsSpans.ret {w w' : World} {xs : List (Int × Int)} {e : Ending} (h : OwnsSpans w xs e w') :
    ∃ g, e = .returned (.slice (some ⟨g, 0, none⟩) xs.length xs.length) ∧ Spans w' (some ⟨g, 0, none⟩) xs.length xs.length xs ∧ Below w.heap.size w w' := by
  obtain ⟨g, he, _, hown, hb⟩ := h
  exact ⟨g, he, ⟨rfl, Reads.of_own hown⟩, hb⟩
end Go.Proofs.Ytgmdfnffdjfdiaa

namespace Go.Proofs.Ytgmdfnffdjfdiaa.fnExactAreYears
open Go.ChangeShapes Go.WideShapes Go.ChangeAt Go.RowKit Go.Joins
set_option linter.unusedVariables false
set_option maxHeartbeats 1000000 in
theorem walk (A : Option Addr) (n c : Nat) (xs : List (Int × Int)) (w : World) (hx : Spans w A n c xs) : Calls Try.prog 7 #[.slice A n c] w fun e w' => e = .returned (.bool true) ∧ Below w.heap.size w w' := by
  have hm := hx.2.cap
  have hnc := hx.2.le
  have hxn := hx.1
  unfold maxLen at hm
  have Hx := Lib.hid hx
  clear hx
  by_cases hbig : 1048576 < n
  · have e1 : (if (1048576 : Int) < n then (-1 : Int) else 1048576 - n) = -1 := by rw [if_pos (by omega)]
    have Hn := Lib.hid hxn
    clear hxn
    go_enter Try.func7, Try.ntmps7
    go_wp2_with fail
    refine (szSpanS_any A n c 1048576 _ (by omega) (by omega) (by omega)).mono ?_
    rintro e_ w1 ⟨rfl, rfl⟩
    go_wp2
    go_ret
    exact ⟨rfl, Below.refl _ _⟩
  · have e1 : (if (1048576 : Int) < n then (-1 : Int) else 1048576 - n) = 1048576 - n := by rw [if_neg (by omega)]
    have Hn := Lib.hid hxn
    clear hxn
    have e2 : decide (xs = xs) = true := by simp
    have hn0 : (n : Int) ≤ 1048576 := by omega
    cases hy : areYears xs
    all_goals
      go_enter Try.func7, Try.ntmps7
      go_wp2_with fail
      refine (szSpanS_any A n c 1048576 _ (by omega) (by omega) (by omega)).mono ?_
      rintro e_ w1 ⟨rfl, rfl⟩
      go_wp2_with fail
      refine (toSpanS_any A n c xs _ Hx.out (by omega)).mono ?_
      intro e_ w1 h_; obtain ⟨g1, rfl, s1, hb1⟩ := h_.ret
      go_wp2_with fail
      refine (areYears_spec _ _ _ xs _ s1).mono ?_
      rintro e_ w2 ⟨rfl, hb2⟩
      go_wp2_with fail
      refine (toSpanS_any A n c xs _ ((Hx.out.below hb1).below hb2) (by omega)).mono ?_
      intro e_ w3 h_; obtain ⟨g3, rfl, s3, hb3⟩ := h_.ret
      go_wp2_with fail
      refine (areYears_impl _ _ _ xs _ s3).mono ?_
      rintro e_ w4 ⟨rfl, hb4⟩
      go_wp2_with fail
      refine (toSpanS_any A n c xs _ ((((Hx.out.below hb1).below hb2).below hb3).below hb4) (by omega)).mono ?_
      intro e_ w5 h_; obtain ⟨g5, rfl, s5, hb5⟩ := h_.ret
      go_wp2_with fail
      refine (eqSpanS_any _ _ _ _ _ _ xs xs _ ((s3.below hb4).below hb5) s5).mono ?_
      rintro e_ w6 ⟨rfl, hb6⟩
      go_wp2
      go_ret
      exact ⟨rfl, next (next (next (next (next hb1 hb2) hb3) hb4) hb5) hb6⟩
theorem own : ownKnob Try.prog.godebug = none := by kernel_rfl
theorem laidOut : laidOutB Try.prog = true := by kernel_rfl
set_option maxRecDepth 100000 in
theorem lifted (os : Os) (started : os.Started) (H : Type) (enc : TypeId × Value → H) :
    ReturnsInHanded {} Try.checked os 7 .any (Rows.fnExactAreYearsSpec.pre6 enc Try.prog Try.f7 Rows.fnExactAreYearsRow.domain false) (Rows.fnExactAreYearsSpec.post enc Try.prog Try.f7 false true false false) := by
  refine returnsInHanded_of_change (C := Try.checked) own started (by kernel_rfl) Try.func7
    (ChangeSpec.witness6 (enc := enc) (C := Try.checked) false ⟨#[], #[.slice none 0 0], []⟩ 8 (by kernel_rfl) (by kernel_rfl) (by kernel_rfl) (by kernel_rfl)) ?_
  intro W base args ds gs before hval0 hW hcnd _
  have hval : ∀ (j : Nat) t v, Try.f7.params[j]? = some t → args[j]? = some v → Value.okWide Try.prog W .any base t v := hval0
  have hW' := hW
  obtain ⟨p, q, hA0, hV, rfl, hfz, hnd⟩ := hW
  have hA : DataW.TrodAll enc Try.prog W 0 (fun _ => true) true Try.f7.params.toList args.toList ds p := hA0
  rw [Try.params7] at hA hval
  obtain ⟨v0, vs0, d0, ds0, p0, q0, hargs, rfl, rfl, h0, r0⟩ := trodAll_cons hA
  obtain ⟨rfl, rfl, rfl⟩ := trodAll_nil r0
  obtain rfl : args = #[v0] := by cases args; simp_all
  obtain ⟨rfl, rfl⟩ := trodVars_none hV
  have k0 := h0
  have lt0 : ∀ x ∈ p0, x.block < W.heap.size := by obtain ⟨m, hm⟩ := k0; exact DataW.trod_lt m _ _ _ hm
  obtain ⟨A0, n0, c0, x0, rfl, hx0⟩ := open_spans Try.underlying35 Try.underlying24 (by kernel_rfl) (by kernel_rfl) rfl rfl Try.underlying2 (hval 0 35 v0 rfl rfl) h0
  clear hA0 hval0
  refine (walk A0 n0 c0 x0 W hx0).mono fun e W' ⟨he, bel⟩ => ?_
  subst he
  exact ⟨_, rfl, _, _, _, [], _, [], hW', trodAll_mk1 (shut_bool Try.underlying4 _), (trodAll_cons_mk (Below.trod laidOut (by kernel_rfl) (of_decide_eq_true (by kernel_rfl)) k0 bel lt0) trodAll_mk0), rfl, bel.frame _, fun h => by cases h⟩
theorem over : Rows.fnExactAreYearsRow.holds Try.pinned (OpenSpec.ofChange Rows.fnExactAreYearsSpec) :=
  OpenClaim.holds_of_wide 7 Try.f7 rfl rfl rfl rfl rfl rfl rfl ⟨rfl, rfl, rfl, rfl, rfl⟩ rfl rfl rfl rfl rfl (by kernel_rfl) Try.func7 (by kernel_rfl)
    (of_decide_eq_true (by kernel_rfl)) (by unfold Func.isWrapper; first | (rw [if_pos (by decide +kernel)]; kernel_rfl) | (rw [if_neg (by decide +kernel)]; exact ⟨rfl, rfl⟩))
    (fun os started H enc _ => lifted os started H enc)
/-- The statement. -/
theorem proved : Rows.FnExactAreYearsSaid := over
end Go.Proofs.Ytgmdfnffdjfdiaa.fnExactAreYears

namespace Go.Proofs.Ytgmdfnffdjfdiaa.fnExactCountYears
open Go.ChangeShapes Go.WideShapes Go.ChangeAt Go.RowKit Go.Joins
set_option linter.unusedVariables false
set_option maxHeartbeats 1000000 in
theorem walk (A : Option Addr) (n c : Nat) (xs : List (Int × Int)) (w : World) (hx : Spans w A n c xs) : Calls Try.prog 8 #[.slice A n c] w fun e w' => e = .returned (.bool true) ∧ Below w.heap.size w w' := by
  have hm := hx.2.cap
  have hnc := hx.2.le
  have hxn := hx.1
  unfold maxLen at hm
  have Hx := Lib.hid hx
  clear hx
  by_cases hbig : 1048576 < n
  · have e1 : (if (1048576 : Int) < n then (-1 : Int) else 1048576 - n) = -1 := by rw [if_pos (by omega)]
    have Hn := Lib.hid hxn
    clear hxn
    go_enter Try.func8, Try.ntmps8
    go_wp2_with fail
    refine (szSpanS_any A n c 1048576 _ (by omega) (by omega) (by omega)).mono ?_
    rintro e_ w1 ⟨rfl, rfl⟩
    go_wp2
    go_ret
    exact ⟨rfl, Below.refl _ _⟩
  · have e1 : (if (1048576 : Int) < n then (-1 : Int) else 1048576 - n) = 1048576 - n := by rw [if_neg (by omega)]
    have Hn := Lib.hid hxn
    clear hxn
    have e3 : (cntYears xs != cntYears xs) = false := by simp
    have e4 : (codeYears xs != codeYears xs) = false := by simp
    have e2 : decide (xs = xs) = true := by simp
    have hn0 : (n : Int) ≤ 1048576 := by omega
    go_enter Try.func8, Try.ntmps8
    go_wp2_with fail
    refine (szSpanS_any A n c 1048576 _ (by omega) (by omega) (by omega)).mono ?_
    rintro e_ w1 ⟨rfl, rfl⟩
    go_wp2_with fail
    refine (toSpanS_any A n c xs _ Hx.out (by omega)).mono ?_
    intro e_ w1 h_; obtain ⟨g1, rfl, s1, hb1⟩ := h_.ret
    go_wp2_with fail
    refine (CountYears_spec _ _ _ xs _ s1).mono ?_
    rintro e_ w2 ⟨rfl, hb2⟩
    go_wp2_with fail
    refine (toSpanS_any A n c xs _ ((Hx.out.below hb1).below hb2) (by omega)).mono ?_
    intro e_ w3 h_; obtain ⟨g3, rfl, s3, hb3⟩ := h_.ret
    go_wp2_with fail
    refine (CountYears_impl _ _ _ xs _ s3).mono ?_
    rintro e_ w4 ⟨rfl, hb4⟩
    go_wp2_with fail
    refine (toSpanS_any A n c xs _ ((((Hx.out.below hb1).below hb2).below hb3).below hb4) (by omega)).mono ?_
    intro e_ w5 h_; obtain ⟨g5, rfl, s5, hb5⟩ := h_.ret
    go_wp2_with fail
    refine (eqSpanS_any _ _ _ _ _ _ xs xs _ ((s3.below hb4).below hb5) s5).mono ?_
    rintro e_ w6 ⟨rfl, hb6⟩
    go_wp2
    go_ret
    exact ⟨rfl, next (next (next (next (next hb1 hb2) hb3) hb4) hb5) hb6⟩
theorem own : ownKnob Try.prog.godebug = none := by kernel_rfl
theorem laidOut : laidOutB Try.prog = true := by kernel_rfl
set_option maxRecDepth 100000 in
theorem lifted (os : Os) (started : os.Started) (H : Type) (enc : TypeId × Value → H) :
    ReturnsInHanded {} Try.checked os 8 .any (Rows.fnExactCountYearsSpec.pre6 enc Try.prog Try.f8 Rows.fnExactCountYearsRow.domain false) (Rows.fnExactCountYearsSpec.post enc Try.prog Try.f8 false true false false) := by
  refine returnsInHanded_of_change (C := Try.checked) own started (by kernel_rfl) Try.func8
    (ChangeSpec.witness6 (enc := enc) (C := Try.checked) false ⟨#[], #[.slice none 0 0], []⟩ 8 (by kernel_rfl) (by kernel_rfl) (by kernel_rfl) (by kernel_rfl)) ?_
  intro W base args ds gs before hval0 hW hcnd _
  have hval : ∀ (j : Nat) t v, Try.f8.params[j]? = some t → args[j]? = some v → Value.okWide Try.prog W .any base t v := hval0
  have hW' := hW
  obtain ⟨p, q, hA0, hV, rfl, hfz, hnd⟩ := hW
  have hA : DataW.TrodAll enc Try.prog W 0 (fun _ => true) true Try.f8.params.toList args.toList ds p := hA0
  rw [Try.params8] at hA hval
  obtain ⟨v0, vs0, d0, ds0, p0, q0, hargs, rfl, rfl, h0, r0⟩ := trodAll_cons hA
  obtain ⟨rfl, rfl, rfl⟩ := trodAll_nil r0
  obtain rfl : args = #[v0] := by cases args; simp_all
  obtain ⟨rfl, rfl⟩ := trodVars_none hV
  have k0 := h0
  have lt0 : ∀ x ∈ p0, x.block < W.heap.size := by obtain ⟨m, hm⟩ := k0; exact DataW.trod_lt m _ _ _ hm
  obtain ⟨A0, n0, c0, x0, rfl, hx0⟩ := open_spans Try.underlying35 Try.underlying24 (by kernel_rfl) (by kernel_rfl) rfl rfl Try.underlying2 (hval 0 35 v0 rfl rfl) h0
  clear hA0 hval0
  refine (walk A0 n0 c0 x0 W hx0).mono fun e W' ⟨he, bel⟩ => ?_
  subst he
  exact ⟨_, rfl, _, _, _, [], _, [], hW', trodAll_mk1 (shut_bool Try.underlying4 _), (trodAll_cons_mk (Below.trod laidOut (by kernel_rfl) (of_decide_eq_true (by kernel_rfl)) k0 bel lt0) trodAll_mk0), rfl, bel.frame _, fun h => by cases h⟩
theorem over : Rows.fnExactCountYearsRow.holds Try.pinned (OpenSpec.ofChange Rows.fnExactCountYearsSpec) :=
  OpenClaim.holds_of_wide 8 Try.f8 rfl rfl rfl rfl rfl rfl rfl ⟨rfl, rfl, rfl, rfl, rfl⟩ rfl rfl rfl rfl rfl (by kernel_rfl) Try.func8 (by kernel_rfl)
    (of_decide_eq_true (by kernel_rfl)) (by unfold Func.isWrapper; first | (rw [if_pos (by decide +kernel)]; kernel_rfl) | (rw [if_neg (by decide +kernel)]; exact ⟨rfl, rfl⟩))
    (fun os started H enc _ => lifted os started H enc)
/-- The statement. -/
theorem proved : Rows.FnExactCountYearsSaid := over
end Go.Proofs.Ytgmdfnffdjfdiaa.fnExactCountYears

namespace Go.Proofs.Ytgmdfnffdjfdiaa.fnExactHasYear
open Go.ChangeShapes Go.WideShapes Go.ChangeAt Go.RowKit Go.Joins
set_option linter.unusedVariables false
set_option maxHeartbeats 1000000 in
theorem walk (A : Option Addr) (n c : Nat) (xs : List (Int × Int)) (y : Int) (w : World) (hx : Spans w A n c xs) : Calls Try.prog 9 #[.slice A n c, .int .i64 y] w fun e w' => e = .returned (.bool true) ∧ Below w.heap.size w w' := by
  have hm := hx.2.cap
  have hnc := hx.2.le
  have hxn := hx.1
  unfold maxLen at hm
  have Hx := Lib.hid hx
  clear hx
  by_cases hbig : 1048576 < n
  · have e1 : (if (1048576 : Int) < n then (-1 : Int) else 1048576 - n) = -1 := by rw [if_pos (by omega)]
    have Hn := Lib.hid hxn
    clear hxn
    go_enter Try.func9, Try.ntmps9
    go_wp2_with fail
    refine (szSpanS_any A n c 1048576 _ (by omega) (by omega) (by omega)).mono ?_
    rintro e_ w1 ⟨rfl, rfl⟩
    go_wp2
    go_ret
    exact ⟨rfl, Below.refl _ _⟩
  · have e1 : (if (1048576 : Int) < n then (-1 : Int) else 1048576 - n) = 1048576 - n := by rw [if_neg (by omega)]
    have Hn := Lib.hid hxn
    clear hxn
    have e4 : (codeYears xs != codeYears xs) = false := by simp
    have e2 : decide (xs = xs) = true := by simp
    have hn0 : (n : Int) ≤ 1048576 := by omega
    cases hy : hasCode xs y
    all_goals
      go_enter Try.func9, Try.ntmps9
      go_wp2_with fail
      refine (szSpanS_any A n c 1048576 _ (by omega) (by omega) (by omega)).mono ?_
      rintro e_ w1 ⟨rfl, rfl⟩
      go_wp2_with fail
      refine (toSpanS_any A n c xs _ Hx.out (by omega)).mono ?_
      intro e_ w1 h_; obtain ⟨g1, rfl, s1, hb1⟩ := h_.ret
      go_wp2_with fail
      refine (HasYear_spec _ _ _ xs y _ s1).mono ?_
      rintro e_ w2 ⟨rfl, hb2⟩
      go_wp2_with fail
      refine (toSpanS_any A n c xs _ ((Hx.out.below hb1).below hb2) (by omega)).mono ?_
      intro e_ w3 h_; obtain ⟨g3, rfl, s3, hb3⟩ := h_.ret
      go_wp2_with fail
      refine (HasYear_impl _ _ _ xs y _ s3).mono ?_
      rintro e_ w4 ⟨rfl, hb4⟩
      go_wp2_with fail
      refine (toSpanS_any A n c xs _ ((((Hx.out.below hb1).below hb2).below hb3).below hb4) (by omega)).mono ?_
      intro e_ w5 h_; obtain ⟨g5, rfl, s5, hb5⟩ := h_.ret
      go_wp2_with fail
      refine (eqSpanS_any _ _ _ _ _ _ xs xs _ ((s3.below hb4).below hb5) s5).mono ?_
      rintro e_ w6 ⟨rfl, hb6⟩
      go_wp2
      go_ret
      exact ⟨rfl, next (next (next (next (next hb1 hb2) hb3) hb4) hb5) hb6⟩
theorem own : ownKnob Try.prog.godebug = none := by kernel_rfl
theorem laidOut : laidOutB Try.prog = true := by kernel_rfl
set_option maxRecDepth 100000 in
theorem lifted (os : Os) (started : os.Started) (H : Type) (enc : TypeId × Value → H) :
    ReturnsInHanded {} Try.checked os 9 .any (Rows.fnExactHasYearSpec.pre6 enc Try.prog Try.f9 Rows.fnExactHasYearRow.domain false) (Rows.fnExactHasYearSpec.post enc Try.prog Try.f9 false true false false) := by
  refine returnsInHanded_of_change (C := Try.checked) own started (by kernel_rfl) Try.func9
    (ChangeSpec.witness6 (enc := enc) (C := Try.checked) false ⟨#[], #[.slice none 0 0, .int .i64 0], []⟩ 8 (by kernel_rfl) (by kernel_rfl) (by kernel_rfl) (by kernel_rfl)) ?_
  intro W base args ds gs before hval0 hW hcnd _
  have hval : ∀ (j : Nat) t v, Try.f9.params[j]? = some t → args[j]? = some v → Value.okWide Try.prog W .any base t v := hval0
  have hW' := hW
  obtain ⟨p, q, hA0, hV, rfl, hfz, hnd⟩ := hW
  have hA : DataW.TrodAll enc Try.prog W 0 (fun _ => true) true Try.f9.params.toList args.toList ds p := hA0
  rw [Try.params9] at hA hval
  obtain ⟨v0, vs0, d0, ds0, p0, q0, hargs, rfl, rfl, h0, r0⟩ := trodAll_cons hA
  obtain ⟨v1, vs1, d1, ds1, p1, q1, rfl, rfl, rfl, h1, r1⟩ := trodAll_cons r0
  obtain ⟨rfl, rfl, rfl⟩ := trodAll_nil r1
  obtain rfl : args = #[v0, v1] := by cases args; simp_all
  obtain ⟨rfl, rfl⟩ := trodVars_none hV
  have k0 := h0
  have lt0 : ∀ x ∈ p0, x.block < W.heap.size := by obtain ⟨m, hm⟩ := k0; exact DataW.trod_lt m _ _ _ hm
  have k1 := h1
  have lt1 : ∀ x ∈ p1, x.block < W.heap.size := by obtain ⟨m, hm⟩ := k1; exact DataW.trod_lt m _ _ _ hm
  obtain ⟨A0, n0, c0, x0, rfl, hx0⟩ := open_spans Try.underlying35 Try.underlying24 (by kernel_rfl) (by kernel_rfl) rfl rfl Try.underlying2 (hval 0 35 v0 rfl rfl) h0
  obtain ⟨a1, rfl, _, _, w1⟩ := open_int Try.underlying2 (hval 1 2 v1 rfl rfl) h1
  clear hA0 hval0
  refine (walk A0 n0 c0 x0 a1 W hx0).mono fun e W' ⟨he, bel⟩ => ?_
  subst he
  exact ⟨_, rfl, _, _, _, [], _, [], hW', trodAll_mk1 (shut_bool Try.underlying4 _), (trodAll_cons_mk (Below.trod laidOut (by kernel_rfl) (of_decide_eq_true (by kernel_rfl)) k0 bel lt0) (trodAll_cons_mk (Below.trod laidOut (by kernel_rfl) (of_decide_eq_true (by kernel_rfl)) k1 bel lt1) trodAll_mk0)), rfl, bel.frame _, fun h => by cases h⟩
theorem over : Rows.fnExactHasYearRow.holds Try.pinned (OpenSpec.ofChange Rows.fnExactHasYearSpec) :=
  OpenClaim.holds_of_wide 9 Try.f9 rfl rfl rfl rfl rfl rfl rfl ⟨rfl, rfl, rfl, rfl, rfl⟩ rfl rfl rfl rfl rfl (by kernel_rfl) Try.func9 (by kernel_rfl)
    (of_decide_eq_true (by kernel_rfl)) (by unfold Func.isWrapper; first | (rw [if_pos (by decide +kernel)]; kernel_rfl) | (rw [if_neg (by decide +kernel)]; exact ⟨rfl, rfl⟩))
    (fun os started H enc _ => lifted os started H enc)
/-- The statement. -/
theorem proved : Rows.FnExactHasYearSaid := over
end Go.Proofs.Ytgmdfnffdjfdiaa.fnExactHasYear
