/- The text of a span. -/
import Derived.Test.YtfacbdliegemgaaDoorNum
import Derived.Test.YtfacbdliegemgaaDoorNumJ
namespace Go.Proofs.YtfacbdliegemgaaDoor
open Go.ChangeShapes Go.WideShapes Go.ChangeAt Go.RowKit

def isSpn (a b : Int) : Bool := decide (-3000 ≤ a ∧ a ≤ 3000 ∧ -3000 ≤ b ∧ b ≤ 3000 ∧ a ≤ b)
def spnT (a b : Int) : ByteArray := numT a ++ ⟨#[46, 46]⟩ ++ numT b
def stText (a b : Int) : ByteArray := if isSpn a b = true then spnT a b else ⟨#[]⟩
def stCode (a b : Int) : Int := if isSpn a b = true then 0 else 1
def spnSame (a b c d : Int) : Bool := decide (a = c ∧ b = d)
theorem spn_box (w : World) (x : Obj) : Below w.heap.size w (w.alloc x) := (Below.refl _ _).alloc (Nat.le_refl _) _
set_option maxHeartbeats 400000 in
theorem isSpn_impl (a b : Int) (w : World) :
    Calls Tryd.prog 31 #[.agg #[.int .i64 a, .int .i64 b]] w fun e w' => e = .returned (.bool (isSpn a b)) ∧ Below w.heap.size w w' := by
  go_enter Tryd.func31, Tryd.ntmps31
  go_wp2
  all_goals
    go_ret
    refine ⟨?_, (Below.refl _ _).alloc (Nat.le_refl _) _⟩
    apply ret_bool
    rw [Bool.eq_iff_iff]
    simp [isSpn]
    try omega
set_option maxHeartbeats 400000 in
theorem isSpn_spec (a b : Int) (w : World) :
    Calls Tryd.prog 43 #[.agg #[.int .i64 a, .int .i64 b]] w fun e w' => e = .returned (.bool (isSpn a b)) ∧ Below w.heap.size w w' := by
  go_enter Tryd.func43, Tryd.ntmps43
  go_wp2
  all_goals
    go_ret
    refine ⟨?_, (Below.refl _ _).alloc (Nat.le_refl _) _⟩
    apply ret_bool
    rw [Bool.eq_iff_iff]
    simp [isSpn]
    try omega
set_option maxHeartbeats 400000 in
theorem eqSpn_any (a b : Int) (w : World) :
    Calls Tryd.prog 20 #[.agg #[.int .i64 a, .int .i64 b], .agg #[.int .i64 a, .int .i64 b]] w fun e w' => e = .returned (.bool true) ∧ Below w.heap.size w w' := by
  go_enter Tryd.func20, Tryd.ntmps20
  go_wp2
  go_ret
  exact ⟨rfl, ((Below.refl _ _).alloc (Nat.le_refl _) _).alloc (by simp) _⟩
theorem spn_bd {a b : Int} (h : isSpn a b = true) : (-3000 ≤ a ∧ a ≤ 3000) ∧ (-3000 ≤ b ∧ b ≤ 3000) := by
  have := of_decide_eq_true h
  omega
set_option maxHeartbeats 1000000 in
theorem spanText_any (a b : Int) (w : World) (h : isSpn a b = true) (ht : PowTab w) :
    Calls Tryd.prog 53 #[.agg #[.int .i64 a, .int .i64 b]] w fun e w' => e = .returned (.string (spnT a b)) ∧ Below w.heap.size w w' := by
  obtain ⟨ha, hb⟩ := spn_bd h
  have za := numT_size (n := a) (decide_eq_true (by omega))
  have zb := numT_size (n := b) (decide_eq_true (by omega))
  have da := fun W hW => decimal_any a W (by omega) (by omega) hW
  have db := fun W hW => decimal_any b W (by omega) (by omega) hW
  have HF := Lib.hid (show spnT a b = numT a ++ ⟨#[46, 46]⟩ ++ numT b from rfl)
  obtain ⟨s, hs⟩ : ∃ s, numT a = s := ⟨_, rfl⟩
  obtain ⟨t, htt⟩ : ∃ s, numT b = s := ⟨_, rfl⟩
  rw [hs] at da HF za
  rw [htt] at db HF zb
  clear hs htt h
  go_enter Tryd.func53, Tryd.ntmps53
  have ht1 := ht.below (spn_box w (.cells #[.int .i64 a, .int .i64 b] 35))
  go_wp2_with fail
  refine wp_region_later (by kernel_rfl) (by kernel_rfl) ?_
  repeat (go_big_quiet_step ((first | (go_at_call_of 70 (Value.int IntKind.i64 a); exact Calls.later (da _ (ht1.below (after_below _)))) | (go_at_call_of 70 (Value.int IntKind.i64 b); exact Calls.later (db _ (ht1.below (after_below _)))))))
  refine wpQuiet_nil ?_
  intro w2 hw2; have h2 := later_below hw2; clear hw2
  go_wp2
  go_ret
  exact ⟨by rw [HF.out]; rfl, next (spn_box _ _) h2⟩
set_option maxHeartbeats 1000000 in
theorem l02Text_any (a b : Int) (w : World) (h : isSpn a b = true) :
    Calls Tryd.prog 44 #[.agg #[.int .i64 a, .int .i64 b]] w fun e w' => e = .returned (.string (spnT a b)) ∧ Below w.heap.size w w' := by
  obtain ⟨ha, hb⟩ := spn_bd h
  have za := numT_size (n := a) (decide_eq_true (by omega))
  have zb := numT_size (n := b) (decide_eq_true (by omega))
  have da := fun W => l01Number_any a W (by omega) (by omega)
  have db := fun W => l01Number_any b W (by omega) (by omega)
  have HF := Lib.hid (show spnT a b = numT a ++ ⟨#[46, 46]⟩ ++ numT b from rfl)
  obtain ⟨s, hs⟩ : ∃ s, numT a = s := ⟨_, rfl⟩
  obtain ⟨t, htt⟩ : ∃ s, numT b = s := ⟨_, rfl⟩
  rw [hs] at da HF za
  rw [htt] at db HF zb
  clear hs htt h
  go_enter Tryd.func44, Tryd.ntmps44
  go_wp2_with fail
  refine wp_region_later (by kernel_rfl) (by kernel_rfl) ?_
  repeat (go_big_quiet_step ((first | (go_at_call_of 68 (Value.int IntKind.i64 a); exact Calls.later (da _)) | (go_at_call_of 68 (Value.int IntKind.i64 b); exact Calls.later (db _)))))
  refine wpQuiet_nil ?_
  intro w2 hw2; have h2 := later_below hw2; clear hw2
  go_wp2
  go_ret
  exact ⟨by rw [HF.out]; rfl, next (spn_box _ _) h2⟩
set_option maxHeartbeats 1000000 in
theorem SpanText_impl (a b : Int) (w : World) (ht : PowTab w) :
    Calls Tryd.prog 28 #[.agg #[.int .i64 a, .int .i64 b]] w fun e w' => e = .returned (.tuple #[.string (stText a b), .int .i64 (stCode a b)]) ∧ Below w.heap.size w w' := by
  cases ha : isSpn a b
  · have HF := Lib.hid (show stText a b = ⟨#[]⟩ ∧ stCode a b = 1 by unfold stText stCode; rw [ha]; exact ⟨rfl, rfl⟩)
    go_enter Tryd.func28, Tryd.ntmps28
    go_wp2_with fail
    refine (isb (isSpn_impl a b _) ha).mono ?_
    rintro e_ w1 ⟨rfl, h1⟩
    have hc_w1 := bcell h1; have hf_w1 := bfree h1
    go_wp2
    go_ret2
    exact ⟨by rw [HF.out.1, HF.out.2]; rfl, next (spn_box _ _) h1⟩
  · have HF := Lib.hid (show stText a b = spnT a b ∧ stCode a b = 0 by unfold stText stCode; rw [ha]; exact ⟨rfl, rfl⟩)
    have hl := fun W h => spanText_any a b W ha h
    obtain ⟨t, htt⟩ : ∃ s, spnT a b = s := ⟨_, rfl⟩
    rw [htt] at hl HF
    clear htt
    go_enter Tryd.func28, Tryd.ntmps28
    go_wp2_with fail
    refine (isb (isSpn_impl a b _) ha).mono ?_
    rintro e_ w1 ⟨rfl, h1⟩
    have hc_w1 := bcell h1; have hf_w1 := bfree h1
    have hz_w1_0 : w.heap.size < w1.heap.size := by have hz_ := h1.size; (try simp at hz_); omega
    go_wp2_with fail
    refine (hl _ (ht.below (next (spn_box _ _) h1))).mono ?_
    rintro e_ w2 ⟨rfl, h2⟩
    have hc_w2 := bcell h2; have hf_w2 := bfree h2
    go_wp2
    go_ret2
    exact ⟨by rw [HF.out.1, HF.out.2]; rfl, next (next (spn_box _ _) h1) h2⟩
set_option maxHeartbeats 1000000 in
theorem SpanText_spec (a b : Int) (w : World) :
    Calls Tryd.prog 29 #[.agg #[.int .i64 a, .int .i64 b]] w fun e w' => e = .returned (.tuple #[.string (stText a b), .int .i64 (stCode a b)]) ∧ Below w.heap.size w w' := by
  cases ha : isSpn a b
  · have HF := Lib.hid (show stText a b = ⟨#[]⟩ ∧ stCode a b = 1 by unfold stText stCode; rw [ha]; exact ⟨rfl, rfl⟩)
    go_enter Tryd.func29, Tryd.ntmps29
    go_wp2_with fail
    refine (isb (isSpn_spec a b _) ha).mono ?_
    rintro e_ w1 ⟨rfl, h1⟩
    have hc_w1 := bcell h1; have hf_w1 := bfree h1
    go_wp2
    go_ret2
    exact ⟨by rw [HF.out.1, HF.out.2]; rfl, next (spn_box _ _) h1⟩
  · have HF := Lib.hid (show stText a b = spnT a b ∧ stCode a b = 0 by unfold stText stCode; rw [ha]; exact ⟨rfl, rfl⟩)
    have hl := fun W => l02Text_any a b W ha
    obtain ⟨t, htt⟩ : ∃ s, spnT a b = s := ⟨_, rfl⟩
    rw [htt] at hl HF
    clear htt
    go_enter Tryd.func29, Tryd.ntmps29
    go_wp2_with fail
    refine (isb (isSpn_spec a b _) ha).mono ?_
    rintro e_ w1 ⟨rfl, h1⟩
    have hc_w1 := bcell h1; have hf_w1 := bfree h1
    have hz_w1_0 : w.heap.size < w1.heap.size := by have hz_ := h1.size; (try simp at hz_); omega
    go_wp2_with fail
    refine (hl _).mono ?_
    rintro e_ w2 ⟨rfl, h2⟩
    have hc_w2 := bcell h2; have hf_w2 := bfree h2
    go_wp2
    go_ret2
    exact ⟨by rw [HF.out.1, HF.out.2]; rfl, next (next (spn_box _ _) h1) h2⟩
end Go.Proofs.YtfacbdliegemgaaDoor
namespace Go.Proofs.YtfacbdliegemgaaDoor.fnExactSpanText
open Go.ChangeShapes Go.WideShapes Go.ChangeAt Go.RowKit
set_option linter.unusedVariables false
end Go.Proofs.YtfacbdliegemgaaDoor.fnExactSpanText
