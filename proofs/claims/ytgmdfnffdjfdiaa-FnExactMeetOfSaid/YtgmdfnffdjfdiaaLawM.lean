/- FnExactMeetOf returns true for every input, and leaves its arguments as they were. -/
import Derived.Test.YtgmdfnffdjfdiaaOpen
import Derived.Test.YtgmdfnffdjfdiaaSpans2
import Derived.Deep.DeepCutAuto
import Derived.Deep.RegionWith
import Derived.Deep.RegionHeld3
namespace Go.Proofs.Ytgmdfnffdjfdiaa.fnExactMeetOf
open Go.ChangeShapes Go.WideShapes Go.ChangeAt Go.RowKit Go.Joins
set_option linter.unusedVariables false
theorem cell_alloc_ {w : World} {a : Addr} {v : Value} {o : Obj} (h : w.cell? a = some v) : (w.alloc o).cell? a = some v := cell_keep ((Below.refl _ _).alloc (Nat.le_refl _) o) h
theorem below_swap {B : Nat} {a w : World} {o o' : Obj} (h : Below B a (w.alloc o)) (hB : B ≤ w.heap.size) : Below B a (w.alloc o') :=
  ⟨h.os, h.tape, h.output, by simpa using h.size, fun k hk => by rw [Below.heap_alloc w o' k (by omega), ← Below.heap_alloc w o k (by omega)]; exact h.block k hk⟩
theorem cell_swap {w : World} {b k : Nat} {v : Value} {o o' : Obj} (h : (w.alloc o).cell? ⟨b, k, none⟩ = some v) (hb : b < w.heap.size) : (w.alloc o').cell? ⟨b, k, none⟩ = some v := by
  rw [World.cell?_of_block (w := w) (a := ⟨b, k, none⟩) (Below.heap_alloc w o b hb)] at h
  exact cell_alloc_ h
theorem cell_set2 {w : World} {b k g j j' : Nat} {v u u' : Value} (h : w.cell? ⟨b, k, none⟩ = some v) (hne : b ≠ g) : ((w.setCell ⟨g, j, none⟩ u).setCell ⟨g, j', none⟩ u').cell? ⟨b, k, none⟩ = some v := by
  rw [World.cell?_of_block (w := w.setCell ⟨g, j, none⟩ u) (a := ⟨b, k, none⟩) (Below.heap_setCell _ _ _ b hne), World.cell?_of_block (w := w) (a := ⟨b, k, none⟩) (Below.heap_setCell _ _ _ b hne)]
  exact h
set_option maxHeartbeats 8000000 in
theorem walk (a b c d : Int) (w : World) : Calls Try.prog 6 #[.agg #[.int .i64 a, .int .i64 b], .agg #[.int .i64 c, .int .i64 d]] w fun e w' => e = .returned (.bool true) ∧ Below w.heap.size w w' := by
  have e1 : (moCode a b c d != moCode a b c d) = false := by simp
  have e2 : spSame (moFrom a b c d) (moTo a b c d) (moFrom a b c d) (moTo a b c d) = true := by simp [spSame]
  go_enter Try.func6, Try.ntmps6
  go_upto_region 1 with fail
  go_cut [5, 6] (fun s5 s6 wx => ∃ k : Nat, s5 = .pointer (some ⟨k, 0, none⟩) ∧ s6 = .int .i64 (moCode a b c d) ∧ k < wx.heap.size ∧ wx.cell? ⟨k, 0, none⟩ = some (.int .i64 (moFrom a b c d)) ∧ wx.cell? ⟨k, 1, none⟩ = some (.int .i64 (moTo a b c d)) ∧ Below w.heap.size w wx ∧ w.heap.size + 1 < wx.heap.size ∧ wx.cell? ⟨w.heap.size, 0, none⟩ = some (.int .i64 a) ∧ wx.cell? ⟨w.heap.size, 1, none⟩ = some (.int .i64 b) ∧ wx.cell? ⟨w.heap.size + 1, 0, none⟩ = some (.int .i64 c) ∧ wx.cell? ⟨w.heap.size + 1, 1, none⟩ = some (.int .i64 d))
  case first =>
    have c0 : ((w.alloc (.cells #[.int .i64 a, .int .i64 b] 24)).alloc (.cells #[.int .i64 c, .int .i64 d] 24)).cell? ⟨w.heap.size, 0, none⟩ = some (.int .i64 a) := by go_simp
    have c1 : ((w.alloc (.cells #[.int .i64 a, .int .i64 b] 24)).alloc (.cells #[.int .i64 c, .int .i64 d] 24)).cell? ⟨w.heap.size, 1, none⟩ = some (.int .i64 b) := by go_simp
    have c2 : ((w.alloc (.cells #[.int .i64 a, .int .i64 b] 24)).alloc (.cells #[.int .i64 c, .int .i64 d] 24)).cell? ⟨w.heap.size + 1, 0, none⟩ = some (.int .i64 c) := by go_simp
    have c3 : ((w.alloc (.cells #[.int .i64 a, .int .i64 b] 24)).alloc (.cells #[.int .i64 c, .int .i64 d] 24)).cell? ⟨w.heap.size + 1, 1, none⟩ = some (.int .i64 d) := by go_simp
    have hb0 := two_boxes w (.cells #[.int .i64 a, .int .i64 b] 24) (.cells #[.int .i64 c, .int .i64 d] 24)
    have hs0 : w.heap.size + 1 < ((w.alloc (.cells #[.int .i64 a, .int .i64 b] 24)).alloc (.cells #[.int .i64 c, .int .i64 d] 24)).heap.size := by simp
    generalize (w.alloc (.cells #[.int .i64 a, .int .i64 b] 24)).alloc (.cells #[.int .i64 c, .int .i64 d] 24) = W at *
    have hs00 : w.heap.size < W.heap.size := by omega
    first | (go_region_held3 (fun w' => Below w.heap.size w w' ∧ w.heap.size + 1 < w'.heap.size ∧ w'.cell? ⟨w.heap.size, 0, none⟩ = some (.int .i64 a) ∧ w'.cell? ⟨w.heap.size, 1, none⟩ = some (.int .i64 b) ∧ w'.cell? ⟨w.heap.size + 1, 0, none⟩ = some (.int .i64 c) ∧ w'.cell? ⟨w.heap.size + 1, 1, none⟩ = some (.int .i64 d)) (first | exact ⟨hb0.drew, hs0, c0, c1, c2, c3⟩ | assumption | (go_split_ands; exact ⟨‹_›, ‹_›, ‹_›, ‹_›, ‹_›, ‹_›⟩) | (go_split_ands; refine ⟨next ‹_› h1, Nat.lt_of_lt_of_le ‹_› h1.size, cell_keep h1 ‹_›, cell_keep h1 ‹_›, cell_keep h1 ‹_›, cell_keep h1 ‹_›⟩) | (go_split_ands; refine ⟨next ‹_› h2, Nat.lt_of_lt_of_le ‹_› h2.size, cell_keep h2 ‹_›, cell_keep h2 ‹_›, cell_keep h2 ‹_›, cell_keep h2 ‹_›⟩) | (go_split_ands; refine ⟨next ‹_› h3, Nat.lt_of_lt_of_le ‹_› h3.size, cell_keep h3 ‹_›, cell_keep h3 ‹_›, cell_keep h3 ‹_›, cell_keep h3 ‹_›⟩) | (go_split_ands; refine ⟨Below.alloc ‹_› (by omega) _, by simp; omega, cell_alloc_ ‹_›, cell_alloc_ ‹_›, cell_alloc_ ‹_›, cell_alloc_ ‹_›⟩) | (go_split_ands; refine ⟨below_swap ‹_› (by omega), by simp; omega, cell_swap ‹_› (by omega), cell_swap ‹_› (by omega), cell_swap ‹_› (by omega), cell_swap ‹_› (by omega)⟩) | (go_split_ands; refine ⟨Below.setCell (Below.setCell ‹_› (by simp; omega) _) (by simp; omega) _, by simp; omega, cell_set2 ‹_› (by omega), cell_set2 ‹_› (by omega), cell_set2 ‹_› (by omega), cell_set2 ‹_› (by omega)⟩)) (first | (go_at_call_of 11 (Value.agg #[Value.int IntKind.i64 a, Value.int IntKind.i64 b]); refine (toSpan_any a b _).mono ?_; rintro e_ w1 ⟨rfl, h1⟩; (have hc_w1 := bcell h1); (have hf_w1 := bfree h1); (have zl_w1_W : W.heap.size ≤ w1.heap.size := by have hz_ := h1.size; (try simp at hz_); omega); (try (have zs_w1_W : W.heap.size < w1.heap.size := by have hz_ := h1.size; (try simp at hz_); omega)); (have zw_w1 : w.heap.size < w1.heap.size := by omega); (have zv_w1 : w.heap.size + 1 < w1.heap.size := by omega)) | (go_at_call_of 11 (Value.agg #[Value.int IntKind.i64 c, Value.int IntKind.i64 d]); refine (toSpan_any c d _).mono ?_; rintro e_ w2 ⟨rfl, h2⟩; (have hc_w2 := bcell h2); (have hf_w2 := bfree h2); (have zl_w2_w1 : w1.heap.size ≤ w2.heap.size := by have hz_ := h2.size; (try simp at hz_); omega); (try (have zs_w2_w1 : w1.heap.size < w2.heap.size := by have hz_ := h2.size; (try simp at hz_); omega)); (have zl_w2_W : W.heap.size ≤ w2.heap.size := by have hz_ := h2.size; (try simp at hz_); omega); (try (have zs_w2_W : W.heap.size < w2.heap.size := by have hz_ := h2.size; (try simp at hz_); omega)); (have zw_w2 : w.heap.size < w2.heap.size := by omega); (have zv_w2 : w.heap.size + 1 < w2.heap.size := by omega)) | (go_at_call 15; refine (meetOf_spec_ a b c d _).mono ?_; rintro e_ w3 ⟨rfl, h3⟩; (have hc_w3 := bcell h3); (have hf_w3 := bfree h3); (have zl_w3_w2 : w2.heap.size ≤ w3.heap.size := by have hz_ := h3.size; (try simp at hz_); omega); (try (have zs_w3_w2 : w2.heap.size < w3.heap.size := by have hz_ := h3.size; (try simp at hz_); omega)); (have zl_w3_w1 : w1.heap.size ≤ w3.heap.size := by have hz_ := h3.size; (try simp at hz_); omega); (try (have zs_w3_w1 : w1.heap.size < w3.heap.size := by have hz_ := h3.size; (try simp at hz_); omega)); (have zl_w3_W : W.heap.size ≤ w3.heap.size := by have hz_ := h3.size; (try simp at hz_); omega); (try (have zs_w3_W : W.heap.size < w3.heap.size := by have hz_ := h3.size; (try simp at hz_); omega)); (have zw_w3 : w.heap.size < w3.heap.size := by omega); (have zv_w3 : w.heap.size + 1 < w3.heap.size := by omega)))) | fail
    all_goals (go_wp2_with fail; go_meet)
    all_goals refine ⟨_, rfl, rfl, ?_, ?_, ?_, ?_⟩
    all_goals first | assumption | (go_split_ands; exact ⟨‹_›, ‹_›, ‹_›, ‹_›, ‹_›, ‹_›⟩) | (simp; omega) | (simp; done) | (simp [*]; done) | (go_simp; done) | skip
  case rest =>
    obtain ⟨g, rfl, rfl, hg, m0, m1, hb1, hs1, c0, c1, c2, c3⟩ := hcut
    have hs00 : w.heap.size < wc.heap.size := by omega
    go_upto_region 2 with fail
    go_cut [7, 8] (fun s5 s6 wx => ∃ k : Nat, s5 = .pointer (some ⟨k, 0, none⟩) ∧ s6 = .int .i64 (moCode a b c d) ∧ k < wx.heap.size ∧ wx.cell? ⟨k, 0, none⟩ = some (.int .i64 (moFrom a b c d)) ∧ wx.cell? ⟨k, 1, none⟩ = some (.int .i64 (moTo a b c d)) ∧ Below w.heap.size w wx ∧ w.heap.size + 1 < wx.heap.size ∧ wx.cell? ⟨w.heap.size, 0, none⟩ = some (.int .i64 a) ∧ wx.cell? ⟨w.heap.size, 1, none⟩ = some (.int .i64 b) ∧ wx.cell? ⟨w.heap.size + 1, 0, none⟩ = some (.int .i64 c) ∧ wx.cell? ⟨w.heap.size + 1, 1, none⟩ = some (.int .i64 d) ∧ wx.cell? ⟨g, 0, none⟩ = some (.int .i64 (moFrom a b c d)) ∧ wx.cell? ⟨g, 1, none⟩ = some (.int .i64 (moTo a b c d)))
    case first =>
      first | (go_region_held3 (fun w' => Below w.heap.size w w' ∧ w.heap.size + 1 < w'.heap.size ∧ w'.cell? ⟨w.heap.size, 0, none⟩ = some (.int .i64 a) ∧ w'.cell? ⟨w.heap.size, 1, none⟩ = some (.int .i64 b) ∧ w'.cell? ⟨w.heap.size + 1, 0, none⟩ = some (.int .i64 c) ∧ w'.cell? ⟨w.heap.size + 1, 1, none⟩ = some (.int .i64 d) ∧ w'.cell? ⟨g, 0, none⟩ = some (.int .i64 (moFrom a b c d)) ∧ w'.cell? ⟨g, 1, none⟩ = some (.int .i64 (moTo a b c d))) (first | exact ⟨hb1.drew, hs1, c0, c1, c2, c3, m0, m1⟩ | assumption | (go_split_ands; exact ⟨‹_›, ‹_›, ‹_›, ‹_›, ‹_›, ‹_›, ‹_›, ‹_›⟩) | (go_split_ands; refine ⟨next ‹_› h1, Nat.lt_of_lt_of_le ‹_› h1.size, cell_keep h1 ‹_›, cell_keep h1 ‹_›, cell_keep h1 ‹_›, cell_keep h1 ‹_›, cell_keep h1 ‹_›, cell_keep h1 ‹_›⟩) | (go_split_ands; refine ⟨next ‹_› h2, Nat.lt_of_lt_of_le ‹_› h2.size, cell_keep h2 ‹_›, cell_keep h2 ‹_›, cell_keep h2 ‹_›, cell_keep h2 ‹_›, cell_keep h2 ‹_›, cell_keep h2 ‹_›⟩) | (go_split_ands; refine ⟨next ‹_› h3, Nat.lt_of_lt_of_le ‹_› h3.size, cell_keep h3 ‹_›, cell_keep h3 ‹_›, cell_keep h3 ‹_›, cell_keep h3 ‹_›, cell_keep h3 ‹_›, cell_keep h3 ‹_›⟩) | (go_split_ands; refine ⟨Below.alloc ‹_› (by omega) _, by simp; omega, cell_alloc_ ‹_›, cell_alloc_ ‹_›, cell_alloc_ ‹_›, cell_alloc_ ‹_›, cell_alloc_ ‹_›, cell_alloc_ ‹_›⟩) | (go_split_ands; refine ⟨below_swap ‹_› (by omega), by simp; omega, cell_swap ‹_› (by omega), cell_swap ‹_› (by omega), cell_swap ‹_› (by omega), cell_swap ‹_› (by omega), cell_swap ‹_› (by omega), cell_swap ‹_› (by omega)⟩) | (go_split_ands; refine ⟨Below.setCell (Below.setCell ‹_› (by simp; omega) _) (by simp; omega) _, by simp; omega, cell_set2 ‹_› (by omega), cell_set2 ‹_› (by omega), cell_set2 ‹_› (by omega), cell_set2 ‹_› (by omega), cell_set2 ‹_› (by omega), cell_set2 ‹_› (by omega)⟩)) (first | (go_at_call_of 11 (Value.agg #[Value.int IntKind.i64 a, Value.int IntKind.i64 b]); refine (toSpan_any a b _).mono ?_; rintro e_ w1 ⟨rfl, h1⟩; (have hc_w1 := bcell h1); (have hf_w1 := bfree h1); (have zl_w1_wc : wc.heap.size ≤ w1.heap.size := by have hz_ := h1.size; (try simp at hz_); omega); (try (have zs_w1_wc : wc.heap.size < w1.heap.size := by have hz_ := h1.size; (try simp at hz_); omega)); (have zw_w1 : w.heap.size < w1.heap.size := by omega); (have zv_w1 : w.heap.size + 1 < w1.heap.size := by omega)) | (go_at_call_of 11 (Value.agg #[Value.int IntKind.i64 c, Value.int IntKind.i64 d]); refine (toSpan_any c d _).mono ?_; rintro e_ w2 ⟨rfl, h2⟩; (have hc_w2 := bcell h2); (have hf_w2 := bfree h2); (have zl_w2_w1 : w1.heap.size ≤ w2.heap.size := by have hz_ := h2.size; (try simp at hz_); omega); (try (have zs_w2_w1 : w1.heap.size < w2.heap.size := by have hz_ := h2.size; (try simp at hz_); omega)); (have zl_w2_wc : wc.heap.size ≤ w2.heap.size := by have hz_ := h2.size; (try simp at hz_); omega); (try (have zs_w2_wc : wc.heap.size < w2.heap.size := by have hz_ := h2.size; (try simp at hz_); omega)); (have zw_w2 : w.heap.size < w2.heap.size := by omega); (have zv_w2 : w.heap.size + 1 < w2.heap.size := by omega)) | (go_at_call 16; refine (meetOf_impl_ a b c d _).mono ?_; rintro e_ w3 ⟨rfl, h3⟩; (have hc_w3 := bcell h3); (have hf_w3 := bfree h3); (have zl_w3_w2 : w2.heap.size ≤ w3.heap.size := by have hz_ := h3.size; (try simp at hz_); omega); (try (have zs_w3_w2 : w2.heap.size < w3.heap.size := by have hz_ := h3.size; (try simp at hz_); omega)); (have zl_w3_w1 : w1.heap.size ≤ w3.heap.size := by have hz_ := h3.size; (try simp at hz_); omega); (try (have zs_w3_w1 : w1.heap.size < w3.heap.size := by have hz_ := h3.size; (try simp at hz_); omega)); (have zl_w3_wc : wc.heap.size ≤ w3.heap.size := by have hz_ := h3.size; (try simp at hz_); omega); (try (have zs_w3_wc : wc.heap.size < w3.heap.size := by have hz_ := h3.size; (try simp at hz_); omega)); (have zw_w3 : w.heap.size < w3.heap.size := by omega); (have zv_w3 : w.heap.size + 1 < w3.heap.size := by omega)))) | fail
      all_goals (go_wp2_with fail; go_meet)
      all_goals refine ⟨_, rfl, rfl, ?_, ?_, ?_, ?_⟩
      all_goals first | assumption | (go_split_ands; exact ⟨‹_›, ‹_›, ‹_›, ‹_›, ‹_›, ‹_›, ‹_›, ‹_›⟩) | (simp; omega) | (simp; done) | (simp [*]; done) | (go_simp; done) | skip
    case rest =>
      obtain ⟨g2, rfl, rfl, hg2, n0, n1, hb2, hs2, d0, d1, d2, d3, o0, o1⟩ := hcut
      go_wp2_with fail
      refine (eqSpan_any _ _ _ _ _).mono ?_
      rintro e_ w9 ⟨rfl, h9⟩
      go_wp2
      go_ret
      exact ⟨rfl, next hb2 h9⟩
theorem own : ownKnob Try.prog.godebug = none := by kernel_rfl
theorem laidOut : laidOutB Try.prog = true := by kernel_rfl
set_option maxRecDepth 100000 in
theorem lifted (os : Os) (started : os.Started) (H : Type) (enc : TypeId × Value → H) :
    ReturnsInHanded {} Try.checked os 6 .any (Rows.fnExactMeetOfSpec.pre6 enc Try.prog Try.f6 Rows.fnExactMeetOfRow.domain false) (Rows.fnExactMeetOfSpec.post enc Try.prog Try.f6 false true false false) := by
  refine returnsInHanded_of_change (C := Try.checked) own started (by kernel_rfl) Try.func6
    (ChangeSpec.witness6 (enc := enc) (C := Try.checked) false ⟨#[], #[.agg #[.int .i64 0, .int .i64 0], .agg #[.int .i64 0, .int .i64 0]], []⟩ 8 (by kernel_rfl) (by kernel_rfl) (by kernel_rfl) (by kernel_rfl)) ?_
  intro W base args ds gs before hval0 hW hcnd _
  have hval : ∀ (j : Nat) t v, Try.f6.params[j]? = some t → args[j]? = some v → Value.okWide Try.prog W .any base t v := hval0
  have hW' := hW
  obtain ⟨p, q, hA0, hV, rfl, hfz, hnd⟩ := hW
  have hA : DataW.TrodAll enc Try.prog W 0 (fun _ => true) true Try.f6.params.toList args.toList ds p := hA0
  rw [Try.params6] at hA hval
  obtain ⟨v0, vs0, d0, ds0, p0, q0, hargs, rfl, rfl, h0, r0⟩ := trodAll_cons hA
  obtain ⟨v1, vs1, d1, ds1, p1, q1, rfl, rfl, rfl, h1, r1⟩ := trodAll_cons r0
  obtain ⟨rfl, rfl, rfl⟩ := trodAll_nil r1
  obtain rfl : args = #[v0, v1] := by cases args; simp_all
  obtain ⟨rfl, rfl⟩ := trodVars_none hV
  have k0 := h0
  have lt0 : ∀ x ∈ p0, x.block < W.heap.size := by obtain ⟨m, hm⟩ := k0; exact DataW.trod_lt m _ _ _ hm
  have k1 := h1
  have lt1 : ∀ x ∈ p1, x.block < W.heap.size := by obtain ⟨m, hm⟩ := k1; exact DataW.trod_lt m _ _ _ hm
  obtain ⟨c0_0, c1_0, y0_0, y1_0, m0, rfl, _, _, g0_0, g1_0⟩ := open_agg2 Try.underlying24 (by kernel_rfl) (by kernel_rfl) (hval 0 24 v0 rfl rfl) h0
  obtain ⟨a0, e0_0, _, _⟩ := DataW.trod_int Try.underlying2 g0_0
  obtain ⟨b0, e1_0, _, _⟩ := DataW.trod_int Try.underlying2 g1_0
  simp only [List.cons.injEq, and_true] at e0_0 e1_0
  subst e0_0 e1_0
  obtain ⟨c0_1, c1_1, y0_1, y1_1, m1, rfl, _, _, g0_1, g1_1⟩ := open_agg2 Try.underlying24 (by kernel_rfl) (by kernel_rfl) (hval 1 24 v1 rfl rfl) h1
  obtain ⟨a1, e0_1, _, _⟩ := DataW.trod_int Try.underlying2 g0_1
  obtain ⟨b1, e1_1, _, _⟩ := DataW.trod_int Try.underlying2 g1_1
  simp only [List.cons.injEq, and_true] at e0_1 e1_1
  subst e0_1 e1_1
  clear hA0 hval0
  refine (walk a0 b0 a1 b1 W ).mono fun e W' ⟨he, bel⟩ => ?_
  subst he
  exact ⟨_, rfl, _, _, _, [], _, [], hW', trodAll_mk1 (shut_bool Try.underlying4 _), (trodAll_cons_mk (Below.trod laidOut (by kernel_rfl) (of_decide_eq_true (by kernel_rfl)) k0 bel lt0) (trodAll_cons_mk (Below.trod laidOut (by kernel_rfl) (of_decide_eq_true (by kernel_rfl)) k1 bel lt1) trodAll_mk0)), rfl, bel.frame _, fun h => by cases h⟩
theorem over : Rows.fnExactMeetOfRow.holds Try.pinned (OpenSpec.ofChange Rows.fnExactMeetOfSpec) :=
  OpenClaim.holds_of_wide 6 Try.f6 rfl rfl rfl rfl rfl rfl rfl ⟨rfl, rfl, rfl, rfl, rfl⟩ rfl rfl rfl rfl rfl (by kernel_rfl) Try.func6 (by kernel_rfl)
    (of_decide_eq_true (by kernel_rfl)) (by unfold Func.isWrapper; first | (rw [if_pos (by decide +kernel)]; kernel_rfl) | (rw [if_neg (by decide +kernel)]; exact ⟨rfl, rfl⟩))
    (fun os started H enc _ => lifted os started H enc)
/-- The statement. -/
theorem proved : Rows.FnExactMeetOfSaid := over
end Go.Proofs.Ytgmdfnffdjfdiaa.fnExactMeetOf
