/- The text of a rule. -/
import Derived.Test.YtfacbdliegemgaaGreatDoorNumJ
import Derived.Test.YtfacbdliegemgaaGreatDoorRuleA
namespace Go.Proofs.YtfacbdliegemgaaGreatDoor
open Go.ChangeShapes Go.WideShapes Go.ChangeAt Go.RowKit

def rtext (x : Rl) : ByteArray := jn 43 (x.1.map numT) ++ ⟨#[61]⟩ ++ x.2
def rxText (x : Rl) : ByteArray := if isRl x = true then rtext x else ⟨#[]⟩
def rxCode (x : Rl) : Int := if isRl x = true then 0 else 1
theorem sg_num {most : Int} {xs : List Int} (h : sgB most xs = true) : xs.all numB = true := by
  unfold sgB at h
  rw [Bool.and_eq_true] at h
  rw [List.all_eq_true]
  intro i hi
  have := List.all_eq_true.1 h.1 i hi
  unfold inB at this
  have := of_decide_eq_true this
  exact decide_eq_true (by omega)
theorem rl_num {xs : List Int} {r : ByteArray} (h : isRl (xs, r) = true) : xs.all numB = true := by
  unfold isRl at h
  rw [Bool.and_eq_true] at h
  exact sg_num h.1
theorem rl_sizes {xs : List Int} {r : ByteArray} (h : isRl (xs, r) = true) : (jn 43 (xs.map numT)).size ≤ 100 ∧ r.size ≤ 4 := by
  have h1 := isRl_len h
  have h2 := nums_total (rl_num h)
  have h3 := jn_size 43 (xs.map numT)
  rw [List.length_map] at h3
  exact ⟨by omega, h1.2.2⟩
set_option maxHeartbeats 1000000 in
theorem RuleText_impl (B : Option Addr) (m d : Nat) (xs : List Int) (r : ByteArray) (w : World) (hx : Ints w B m d xs) (hr : r.size ≤ maxLen) (ht : PowTab w) :
    Calls Tryz.prog 6 #[.agg #[.slice B m d, .string r]] w fun e w' => e = .returned (.tuple #[.string (rxText (xs, r)), .int .i64 (rxCode (xs, r))]) ∧ Below w.heap.size w w' := by
  cases ha : isRl (xs, r)
  · have HF := Lib.hid (show rxText (xs, r) = ⟨#[]⟩ ∧ rxCode (xs, r) = 1 by unfold rxText rxCode; rw [ha]; exact ⟨rfl, rfl⟩)
    go_enter Tryz.func6, Tryz.ntmps6
    go_wp2_with fail
    refine (isb (IsRule_impl B m d xs r _ (hx.below (one_box _ _)) hr) ha).mono ?_
    rintro e_ w1 ⟨rfl, h1⟩
    have hc_w1 := bcell h1; have hf_w1 := bfree h1
    go_wp2
    go_ret2
    exact ⟨by rw [HF.out.1, HF.out.2]; rfl, next (one_box _ _) h1⟩
  · have HF := Lib.hid (show rxText (xs, r) = jn 43 (xs.map numT) ++ ⟨#[61]⟩ ++ r ∧ rxCode (xs, r) = 0 by unfold rxText rxCode rtext; rw [ha]; exact ⟨rfl, rfl⟩)
    have hz := rl_sizes ha
    have hl := isRl_len ha
    have hn := hx.1
    have hj := fun W h1 h2 => join_num B m d xs 43 W h1 (rl_num ha) (by omega) h2
    obtain ⟨t, htt⟩ : ∃ t, jn 43 (xs.map numT) = t := ⟨_, rfl⟩
    rw [htt] at hj HF hz
    have hz1 := hz.1
    have hz2 := hz.2
    clear htt hn hl hz
    go_enter Tryz.func6, Tryz.ntmps6
    go_wp2_with fail
    refine (isb (IsRule_impl B m d xs r _ (hx.below (one_box _ _)) hr) ha).mono ?_
    rintro e_ w1 ⟨rfl, h1⟩
    have hc_w1 := bcell h1; have hf_w1 := bfree h1
    have hz_w1_0 : w.heap.size < w1.heap.size := by have hz_ := h1.size; (try simp at hz_); omega
    have B1 := next (one_box _ _) h1
    have hx1 := hx.below B1
    have ht1 := ht.below B1
    go_wp2
    refine wp_region_later (by kernel_rfl) (by kernel_rfl) ?_
    repeat (go_big_quiet_step ((go_at_call 15; exact Calls.later (hj _ (hx1.below (after_below _)) (ht1.below (after_below _))))))
    refine wpQuiet_nil ?_
    intro w2 hw2; have h2 := later_below hw2; clear hw2
    go_wp2
    go_ret2
    exact ⟨by rw [HF.out.1, HF.out.2]; rfl, next B1 h2⟩
set_option maxHeartbeats 1000000 in
theorem l04Text_any (B : Option Addr) (m d : Nat) (xs : List Int) (r : ByteArray) (w : World) (hx : Ints w B m d xs) (ha : isRl (xs, r) = true) :
    Calls Tryz.prog 17 #[.agg #[.slice B m d, .string r]] w fun e w' => e = .returned (.string (rtext (xs, r))) ∧ Below w.heap.size w w' := by
  have HF := Lib.hid (show rtext (xs, r) = jn 43 (xs.map numT) ++ ⟨#[61]⟩ ++ r from rfl)
  have hz := rl_sizes ha
  have hl := isRl_len ha
  have hn := hx.1
  have hj := fun W h1 => l01Join_any B m d xs 43 W h1 (rl_num ha) (by omega)
  obtain ⟨t, htt⟩ : ∃ t, jn 43 (xs.map numT) = t := ⟨_, rfl⟩
  rw [htt] at hj HF hz
  have hz1 := hz.1
  have hz2 := hz.2
  clear htt hn hl hz ha
  go_enter Tryz.func17, Tryz.ntmps17
  have hx1 := hx.below (one_box w (.cells #[.slice B m d, .string r] 26))
  go_wp2
  refine wp_region_later (by kernel_rfl) (by kernel_rfl) ?_
  repeat (go_big_quiet_step ((go_at_call 32; exact Calls.later (hj _ (hx1.below (after_below _))))))
  refine wpQuiet_nil ?_
  intro w2 hw2; have h2 := later_below hw2; clear hw2
  go_wp2
  go_ret
  exact ⟨by rw [HF.out]; rfl, next (one_box _ _) h2⟩
set_option maxHeartbeats 1000000 in
theorem RuleText_spec (B : Option Addr) (m d : Nat) (xs : List Int) (r : ByteArray) (w : World) (hx : Ints w B m d xs) (hr : r.size ≤ maxLen) :
    Calls Tryz.prog 7 #[.agg #[.slice B m d, .string r]] w fun e w' => e = .returned (.tuple #[.string (rxText (xs, r)), .int .i64 (rxCode (xs, r))]) ∧ Below w.heap.size w w' := by
  cases ha : isRl (xs, r)
  · have HF := Lib.hid (show rxText (xs, r) = ⟨#[]⟩ ∧ rxCode (xs, r) = 1 by unfold rxText rxCode; rw [ha]; exact ⟨rfl, rfl⟩)
    go_enter Tryz.func7, Tryz.ntmps7
    go_wp2_with fail
    refine (isb (IsRule_spec B m d xs r _ (hx.below (one_box _ _)) hr) ha).mono ?_
    rintro e_ w1 ⟨rfl, h1⟩
    have hc_w1 := bcell h1; have hf_w1 := bfree h1
    go_wp2
    go_ret2
    exact ⟨by rw [HF.out.1, HF.out.2]; rfl, next (one_box _ _) h1⟩
  · have HF := Lib.hid (show rxText (xs, r) = rtext (xs, r) ∧ rxCode (xs, r) = 0 by unfold rxText rxCode; rw [ha]; exact ⟨rfl, rfl⟩)
    have hj := fun W h1 => l04Text_any B m d xs r W h1 ha
    go_enter Tryz.func7, Tryz.ntmps7
    go_wp2_with fail
    refine (isb (IsRule_spec B m d xs r _ (hx.below (one_box _ _)) hr) ha).mono ?_
    rintro e_ w1 ⟨rfl, h1⟩
    have hc_w1 := bcell h1; have hf_w1 := bfree h1
    have hz_w1_0 : w.heap.size < w1.heap.size := by have hz_ := h1.size; (try simp at hz_); omega
    have B1 := next (one_box _ _) h1
    go_wp2_with fail
    refine (hj _ (hx.below B1)).mono ?_
    rintro e_ w2 ⟨rfl, h2⟩
    have hc_w2 := bcell h2; have hf_w2 := bfree h2
    go_wp2
    go_ret2
    exact ⟨by rw [HF.out.1, HF.out.2]; rfl, next B1 h2⟩
end Go.Proofs.YtfacbdliegemgaaGreatDoor
