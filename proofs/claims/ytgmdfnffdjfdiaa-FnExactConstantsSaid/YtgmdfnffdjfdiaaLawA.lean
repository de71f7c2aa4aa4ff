/- The laws FnExactConstants, FnExactIsSpan, FnExactDoMeet return true for every input, and leave their arguments as they were. -/
import Derived.Test.YtgmdfnffdjfdiaaOpen
import Derived.Test.YtgmdfnffdjfdiaaSpans2
namespace Go.Proofs.Ytgmdfnffdjfdiaa.fnExactConstants
open Go.ChangeShapes Go.WideShapes Go.ChangeAt Go.RowKit Go.Joins
set_option linter.unusedVariables false
theorem walk (w : World) : Calls Try.prog 3 #[] w fun e w' => e = .returned (.bool true) ∧ Below w.heap.size w w' := by
  go_enter Try.func3, Try.ntmps3
  go_wp2
  go_ret
  exact ⟨rfl, Below.refl _ _⟩
theorem own : ownKnob Try.prog.godebug = none := by kernel_rfl
theorem laidOut : laidOutB Try.prog = true := by kernel_rfl
set_option maxRecDepth 100000 in
theorem lifted (os : Os) (started : os.Started) (H : Type) (enc : TypeId × Value → H) :
    ReturnsInHanded {} Try.checked os 3 .any (Rows.fnExactConstantsSpec.pre6 enc Try.prog Try.f3 Rows.fnExactConstantsRow.domain false) (Rows.fnExactConstantsSpec.post enc Try.prog Try.f3 false true false false) := by
  refine returnsInHanded_of_change (C := Try.checked) own started (by kernel_rfl) Try.func3
    (ChangeSpec.witness6 (enc := enc) (C := Try.checked) false ⟨#[], #[], []⟩ 8 (by kernel_rfl) (by kernel_rfl) (by kernel_rfl) (by kernel_rfl)) ?_
  intro W base args ds gs before hval0 hW hcnd _
  have hval : ∀ (j : Nat) t v, Try.f3.params[j]? = some t → args[j]? = some v → Value.okWide Try.prog W .any base t v := hval0
  have hW' := hW
  obtain ⟨p, q, hA0, hV, rfl, hfz, hnd⟩ := hW
  have hA : DataW.TrodAll enc Try.prog W 0 (fun _ => true) true Try.f3.params.toList args.toList ds p := hA0
  rw [Try.params3] at hA hval
  obtain ⟨hargs, rfl, rfl⟩ := trodAll_none hA
  obtain rfl : args = #[] := by cases args; simp_all
  obtain ⟨rfl, rfl⟩ := trodVars_none hV
  clear hA0 hval0
  refine (walk  W ).mono fun e W' ⟨he, bel⟩ => ?_
  subst he
  exact ⟨_, rfl, _, _, _, [], _, [], hW', trodAll_mk1 (shut_bool Try.underlying4 _), trodAll_mk0, rfl, bel.frame _, fun h => by cases h⟩
theorem over : Rows.fnExactConstantsRow.holds Try.pinned (OpenSpec.ofChange Rows.fnExactConstantsSpec) :=
  OpenClaim.holds_of_wide 3 Try.f3 rfl rfl rfl rfl rfl rfl rfl ⟨rfl, rfl, rfl, rfl, rfl⟩ rfl rfl rfl rfl rfl (by kernel_rfl) Try.func3 (by kernel_rfl)
    (of_decide_eq_true (by kernel_rfl)) (by unfold Func.isWrapper; first | (rw [if_pos (by decide +kernel)]; kernel_rfl) | (rw [if_neg (by decide +kernel)]; exact ⟨rfl, rfl⟩))
    (fun os started H enc _ => lifted os started H enc)
/-- The statement. -/
theorem proved : Rows.FnExactConstantsSaid := over
end Go.Proofs.Ytgmdfnffdjfdiaa.fnExactConstants

namespace Go.Proofs.Ytgmdfnffdjfdiaa.fnExactIsSpan
open Go.ChangeShapes Go.WideShapes Go.ChangeAt Go.RowKit Go.Joins
set_option linter.unusedVariables false
set_option maxHeartbeats 400000 in
theorem walk (a b : Int) (w : World) : Calls Try.prog 4 #[.agg #[.int .i64 a, .int .i64 b]] w fun e w' => e = .returned (.bool true) ∧ Below w.heap.size w w' := by
  cases hs : isSpan (a, b)
  all_goals
    go_enter Try.func4, Try.ntmps4
    go_wp2_with fail
    refine (toSpan_any a b _).mono ?_
    rintro e_ w1 ⟨rfl, h1⟩
    have hc_w1 := bcell h1; have hf_w1 := bfree h1
    have hz_w1_0 : w.heap.size < w1.heap.size := by have hz_ := h1.size; (try simp at hz_); omega
    go_wp2_with fail
    refine (isSpan_spec a b _).mono ?_
    rintro e_ w2 ⟨rfl, h2⟩
    have hc_w2 := bcell h2; have hf_w2 := bfree h2
    have hz_w2_0 : w.heap.size < w2.heap.size := by have hz_ := h2.size; (try simp at hz_); omega
    go_wp2_with fail
    refine (toSpan_any a b _).mono ?_
    rintro e_ w3 ⟨rfl, h3⟩
    have hc_w3 := bcell h3; have hf_w3 := bfree h3
    have hz_w3_0 : w.heap.size < w3.heap.size := by have hz_ := h3.size; (try simp at hz_); omega
    go_wp2_with fail
    refine (isSpan_impl a b _).mono ?_
    rintro e_ w4 ⟨rfl, h4⟩
    have hc_w4 := bcell h4; have hf_w4 := bfree h4
    have hz_w4_0 : w.heap.size < w4.heap.size := by have hz_ := h4.size; (try simp at hz_); omega
    go_wp2
    go_ret
    exact ⟨rfl, next (next (next (next ((Below.refl _ _).alloc (Nat.le_refl _) _) h1) h2) h3) h4⟩
theorem own : ownKnob Try.prog.godebug = none := by kernel_rfl
theorem laidOut : laidOutB Try.prog = true := by kernel_rfl
set_option maxRecDepth 100000 in
theorem lifted (os : Os) (started : os.Started) (H : Type) (enc : TypeId × Value → H) :
    ReturnsInHanded {} Try.checked os 4 .any (Rows.fnExactIsSpanSpec.pre6 enc Try.prog Try.f4 Rows.fnExactIsSpanRow.domain false) (Rows.fnExactIsSpanSpec.post enc Try.prog Try.f4 false true false false) := by
  refine returnsInHanded_of_change (C := Try.checked) own started (by kernel_rfl) Try.func4
    (ChangeSpec.witness6 (enc := enc) (C := Try.checked) false ⟨#[], #[.agg #[.int .i64 0, .int .i64 0]], []⟩ 8 (by kernel_rfl) (by kernel_rfl) (by kernel_rfl) (by kernel_rfl)) ?_
  intro W base args ds gs before hval0 hW hcnd _
  have hval : ∀ (j : Nat) t v, Try.f4.params[j]? = some t → args[j]? = some v → Value.okWide Try.prog W .any base t v := hval0
  have hW' := hW
  obtain ⟨p, q, hA0, hV, rfl, hfz, hnd⟩ := hW
  have hA : DataW.TrodAll enc Try.prog W 0 (fun _ => true) true Try.f4.params.toList args.toList ds p := hA0
  rw [Try.params4] at hA hval
  obtain ⟨v0, vs0, d0, ds0, p0, q0, hargs, rfl, rfl, h0, r0⟩ := trodAll_cons hA
  obtain ⟨rfl, rfl, rfl⟩ := trodAll_nil r0
  obtain rfl : args = #[v0] := by cases args; simp_all
  obtain ⟨rfl, rfl⟩ := trodVars_none hV
  have k0 := h0
  have lt0 : ∀ x ∈ p0, x.block < W.heap.size := by obtain ⟨m, hm⟩ := k0; exact DataW.trod_lt m _ _ _ hm
  obtain ⟨c0_0, c1_0, y0_0, y1_0, m0, rfl, _, _, g0_0, g1_0⟩ := open_agg2 Try.underlying24 (by kernel_rfl) (by kernel_rfl) (hval 0 24 v0 rfl rfl) h0
  obtain ⟨a0, e0_0, _, _⟩ := DataW.trod_int Try.underlying2 g0_0
  obtain ⟨b0, e1_0, _, _⟩ := DataW.trod_int Try.underlying2 g1_0
  simp only [List.cons.injEq, and_true] at e0_0 e1_0
  subst e0_0 e1_0
  clear hA0 hval0
  refine (walk a0 b0 W ).mono fun e W' ⟨he, bel⟩ => ?_
  subst he
  exact ⟨_, rfl, _, _, _, [], _, [], hW', trodAll_mk1 (shut_bool Try.underlying4 _), (trodAll_cons_mk (Below.trod laidOut (by kernel_rfl) (of_decide_eq_true (by kernel_rfl)) k0 bel lt0) trodAll_mk0), rfl, bel.frame _, fun h => by cases h⟩
theorem over : Rows.fnExactIsSpanRow.holds Try.pinned (OpenSpec.ofChange Rows.fnExactIsSpanSpec) :=
  OpenClaim.holds_of_wide 4 Try.f4 rfl rfl rfl rfl rfl rfl rfl ⟨rfl, rfl, rfl, rfl, rfl⟩ rfl rfl rfl rfl rfl (by kernel_rfl) Try.func4 (by kernel_rfl)
    (of_decide_eq_true (by kernel_rfl)) (by unfold Func.isWrapper; first | (rw [if_pos (by decide +kernel)]; kernel_rfl) | (rw [if_neg (by decide +kernel)]; exact ⟨rfl, rfl⟩))
    (fun os started H enc _ => lifted os started H enc)
/-- The statement. -/
theorem proved : Rows.FnExactIsSpanSaid := over
end Go.Proofs.Ytgmdfnffdjfdiaa.fnExactIsSpan

namespace Go.Proofs.Ytgmdfnffdjfdiaa.fnExactDoMeet
open Go.ChangeShapes Go.WideShapes Go.ChangeAt Go.RowKit Go.Joins
set_option linter.unusedVariables false
set_option maxHeartbeats 1000000 in
theorem walk (a b c d : Int) (w : World) : Calls Try.prog 5 #[.agg #[.int .i64 a, .int .i64 b], .agg #[.int .i64 c, .int .i64 d]] w fun e w' => e = .returned (.bool true) ∧ Below w.heap.size w w' := by
  have e1 : (spTwo a b c d != spTwo a b c d) = false := by simp
  cases hs : doMeet a b c d
  all_goals
    go_enter Try.func5, Try.ntmps5
    go_wp2_with fail
    refine wp_region_later (by kernel_rfl) (by kernel_rfl) ?_
    repeat (go_big_quiet_step ((first | (go_at_call 11; exact Calls.later (toSpan_any _ _ _)) | (go_at_call 13; exact Calls.later (doMeet_spec _ _ _ _ _)))))
    refine wpQuiet_nil ?_
    intro w1 hw2; have h1 := later_below hw2; clear hw2
    have hc_w1 := bcell h1; have hf_w1 := bfree h1
    have hz_w1_0 : w.heap.size < w1.heap.size := by have hz_ := h1.size; (try simp at hz_); omega
    have hz_w1_1 : w.heap.size + 1 < w1.heap.size := by have hz_ := h1.size; (try simp at hz_); omega
    go_wp2_with fail
    refine wp_region_later (by kernel_rfl) (by kernel_rfl) ?_
    repeat (go_big_quiet_step ((first | (go_at_call 11; exact Calls.later (toSpan_any _ _ _)) | (go_at_call 14; exact Calls.later (doMeet_impl _ _ _ _ _)))))
    refine wpQuiet_nil ?_
    intro w2 hw2; have h2 := later_below hw2; clear hw2
    have hc_w2 := bcell h2; have hf_w2 := bfree h2
    have hz_w2_0 : w.heap.size < w2.heap.size := by have hz_ := h2.size; (try simp at hz_); omega
    have hz_w2_1 : w.heap.size + 1 < w2.heap.size := by have hz_ := h2.size; (try simp at hz_); omega
    go_wp2
    go_ret
    exact ⟨rfl, next (next (two_boxes _ _ _) h1) h2⟩
theorem own : ownKnob Try.prog.godebug = none := by kernel_rfl
theorem laidOut : laidOutB Try.prog = true := by kernel_rfl
set_option maxRecDepth 100000 in
theorem lifted (os : Os) (started : os.Started) (H : Type) (enc : TypeId × Value → H) :
    ReturnsInHanded {} Try.checked os 5 .any (Rows.fnExactDoMeetSpec.pre6 enc Try.prog Try.f5 Rows.fnExactDoMeetRow.domain false) (Rows.fnExactDoMeetSpec.post enc Try.prog Try.f5 false true false false) := by
  refine returnsInHanded_of_change (C := Try.checked) own started (by kernel_rfl) Try.func5
    (ChangeSpec.witness6 (enc := enc) (C := Try.checked) false ⟨#[], #[.agg #[.int .i64 0, .int .i64 0], .agg #[.int .i64 0, .int .i64 0]], []⟩ 8 (by kernel_rfl) (by kernel_rfl) (by kernel_rfl) (by kernel_rfl)) ?_
  intro W base args ds gs before hval0 hW hcnd _
  have hval : ∀ (j : Nat) t v, Try.f5.params[j]? = some t → args[j]? = some v → Value.okWide Try.prog W .any base t v := hval0
  have hW' := hW
  obtain ⟨p, q, hA0, hV, rfl, hfz, hnd⟩ := hW
  have hA : DataW.TrodAll enc Try.prog W 0 (fun _ => true) true Try.f5.params.toList args.toList ds p := hA0
  rw [Try.params5] at hA hval
  obtain ⟨v0, vs0, d0, ds0, p0, q0, hargs, rfl, rfl, h0, r0⟩ := trodAll_cons hA
  obtain ⟨v1, vs1, d1, ds1, p1, q1, rfl, rfl, rfl, h1, r1⟩ := trodAll_cons r0
  obtain ⟨rfl, rfl, rfl⟩ := trodAll_nil r1
  obtain rfl : args = #[v0, v1] := by cases args; simp_all
  obtain ⟨rfl, rfl⟩ := trodVars_none hV
  have k0 := h0
  have lt0 : ∀ x ∈ p0, x.block < W.heap.size := by obtain ⟨m, hm⟩ := k0; exact DataW.trod_lt m _ _ _ hm
  have k1 := h1
  have lt1 : ∀ x ∈ p1, x.block < W.heap.size := by obtain ⟨m, hm⟩ := k1; exact DataW.trod_lt m _ _ _ hm
  obtain ⟨c0_0, c1_0, y0_0, y1_0, m0, rfl, _, _, g0_0, g1_0⟩ := open_agg2 Try.underlying24 (by kernel_rfl) (by kernel_rfl) (hval 0 24 v0 rfl rfl) h0
  obtain ⟨a0, e0_0, _, _⟩ := DataW.trod_int Try.underlying2 g0_0
  obtain ⟨b0, e1_0, _, _⟩ := DataW.trod_int Try.underlying2 g1_0
  simp only [List.cons.injEq, and_true] at e0_0 e1_0
  subst e0_0 e1_0
  obtain ⟨c0_1, c1_1, y0_1, y1_1, m1, rfl, _, _, g0_1, g1_1⟩ := open_agg2 Try.underlying24 (by kernel_rfl) (by kernel_rfl) (hval 1 24 v1 rfl rfl) h1
  obtain ⟨a1, e0_1, _, _⟩ := DataW.trod_int Try.underlying2 g0_1
  obtain ⟨b1, e1_1, _, _⟩ := DataW.trod_int Try.underlying2 g1_1
  simp only [List.cons.injEq, and_true] at e0_1 e1_1
  subst e0_1 e1_1
  clear hA0 hval0
  refine (walk a0 b0 a1 b1 W ).mono fun e W' ⟨he, bel⟩ => ?_
  subst he
  exact ⟨_, rfl, _, _, _, [], _, [], hW', trodAll_mk1 (shut_bool Try.underlying4 _), (trodAll_cons_mk (Below.trod laidOut (by kernel_rfl) (of_decide_eq_true (by kernel_rfl)) k0 bel lt0) (trodAll_cons_mk (Below.trod laidOut (by kernel_rfl) (of_decide_eq_true (by kernel_rfl)) k1 bel lt1) trodAll_mk0)), rfl, bel.frame _, fun h => by cases h⟩
theorem over : Rows.fnExactDoMeetRow.holds Try.pinned (OpenSpec.ofChange Rows.fnExactDoMeetSpec) :=
  OpenClaim.holds_of_wide 5 Try.f5 rfl rfl rfl rfl rfl rfl rfl ⟨rfl, rfl, rfl, rfl, rfl⟩ rfl rfl rfl rfl rfl (by kernel_rfl) Try.func5 (by kernel_rfl)
    (of_decide_eq_true (by kernel_rfl)) (by unfold Func.isWrapper; first | (rw [if_pos (by decide +kernel)]; kernel_rfl) | (rw [if_neg (by decide +kernel)]; exact ⟨rfl, rfl⟩))
    (fun os started H enc _ => lifted os started H enc)
/-- The statement. -/
theorem proved : Rows.FnExactDoMeetSaid := over
end Go.Proofs.Ytgmdfnffdjfdiaa.fnExactDoMeet
