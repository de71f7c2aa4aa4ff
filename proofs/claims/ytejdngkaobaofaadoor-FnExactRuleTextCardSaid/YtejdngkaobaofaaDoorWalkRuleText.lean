/- Walk of the law RuleText. -/
import Derived.Test.YtejdngkaobaofaaDoorHarnR
import Derived.Test.YtejdngkaobaofaaDoorRuleT
import Derived.Deep.DeepCutAuto
import Derived.Deep.RegionWith
import Derived.Deep.RegionHeld3
namespace Go.Proofs.YtejdngkaobaofaaDoor.fnExactRuleText
open Go.ChangeShapes Go.WideShapes Go.ChangeAt Go.RowKit
set_option linter.unusedVariables false
set_option maxRecDepth 100000 in
set_option maxHeartbeats 4000000 in
theorem walk (A0 : Option Addr) (n0 c0 : Nat) (x0 : List Int) (r0 : ByteArray) (hr0 : r0.size ≤ maxLen) (w : World) (h0 : Ints w A0 n0 c0 x0) (ht : PowTab w) : Calls Tryd.prog 4 #[.agg #[.slice A0 n0 c0, .string r0]] w fun e w' => e = .returned (.bool true) ∧ Below w.heap.size w w' := by
  have hcm0 := h0.2.cap
  have hnc0 := h0.2.le
  unfold maxLen at hcm0
  have HZ := fun W => szRule_any A0 n0 c0 r0 1048576 W (by omega) hr0 (by omega) (by omega)
  by_cases neg0 : (1048576 : Int) - n0 - r0.size < 0
  · rw [show szR 1048576 n0 r0.size = -1 by unfold szR; rw [if_pos neg0]] at HZ
    go_enter Tryd.func4, Tryd.ntmps4
    go_wp2_with fail
    refine (HZ _).mono ?_
    rintro e_ w1 ⟨rfl, k1⟩
    have hc_w1 := bcell k1; have hf_w1 := bfree k1
    go_wp2
    go_ret
    exact ⟨rfl, next (one_box _ _) k1⟩
  · rw [show szR 1048576 n0 r0.size = 1048576 - n0 - r0.size by unfold szR; rw [if_neg neg0]] at HZ
    have le0 : n0 ≤ 1048576 := by omega
    obtain ⟨lf, hlf⟩ : ∃ l : Int, 1048576 - n0 - r0.size = l := ⟨_, rfl⟩
    rw [hlf] at HZ neg0
    clear hlf
    have HS := fun B m d W h => RuleText_spec B m d x0 r0 W h hr0
    have HI := fun B m d W h h2 => RuleText_impl B m d x0 r0 W h hr0 h2
    obtain ⟨res, hres⟩ : ∃ b, rxText (x0, r0) = b := ⟨_, rfl⟩
    obtain ⟨cod, hcod⟩ : ∃ b, rxCode (x0, r0) = b := ⟨_, rfl⟩
    have cq : (cod != cod) = false := by simp
    have cq2 : (res.toList == res.toList) = true := by simp
    rw [hres, hcod] at HS HI
    clear hres hcod
    go_enter Tryd.func4, Tryd.ntmps4
    go_wp2_with fail
    refine (HZ _).mono ?_
    rintro e_ w1 ⟨rfl, k1⟩
    have hc_w1 := bcell k1; have hf_w1 := bfree k1
    have hz_w1_0 : w.heap.size < w1.heap.size := by have hz_ := k1.size; (try simp at hz_); omega
    have B1 := next (one_box _ _) k1
    go_wp2_with fail
    refine (toRule_any A0 n0 c0 x0 r0 _ (h0.below B1) le0).mono ?_
    rintro e_ w2 ⟨rfl, o2, k2⟩
    have hc_w2 := bcell k2
    have B2 := next B1 k2
    have z2 : w.heap.size < w2.heap.size := Nat.lt_of_lt_of_le hz_w1_0 k2.size
    go_wp2_with fail
    refine (HS _ n0 n0 _ (own_ints o2)).mono ?_
    rintro e_ w3 ⟨rfl, k3⟩
    have hc_w3 := bcell k3; have hf_w3 := bfree k3
    have hz_w3_0 : w.heap.size < w3.heap.size := by have hz_ := k3.size; (try simp at hz_); omega
    have B3 := next B2 k3
    go_wp2_with fail
    refine (toRule_any A0 n0 c0 x0 r0 _ (h0.below B3) le0).mono ?_
    rintro e_ w4 ⟨rfl, o4, k4⟩
    have hc_w4 := bcell k4
    have B4 := next B3 k4
    have z4 : w.heap.size < w4.heap.size := Nat.lt_of_lt_of_le hz_w3_0 k4.size
    go_wp2_with fail
    refine (HI _ n0 n0 _ ((own_ints o4).below (one_box _ _)) ((ht.below B4).below (one_box _ _))).mono ?_
    rintro e_ w5 ⟨rfl, k5⟩
    have hc_w5 := bcell k5; have hf_w5 := bfree k5
    have hz_w5_0 : w.heap.size < w5.heap.size := by have hz_ := k5.size; (try simp at hz_); omega
    have hz_w5_1 : w4.heap.size < w5.heap.size := by have hz_ := k5.size; (try simp at hz_); omega
    have B5 : Below w.heap.size w w5 := (next B4 (one_box _ _)).trans (k5.mono (by simp; have := B4.size; omega))
    have e0 : w5.cell? ⟨w.heap.size, 0, none⟩ = some (.slice A0 n0 c0) := by
      have a := cell_keep (w := w.alloc (.cells #[.slice A0 n0 c0, .string r0] 24)) (w' := w5) (a := ⟨w.heap.size, 0, none⟩) (v := .slice A0 n0 c0) (((((k1.trans (k2.mono k1.size)).trans (k3.mono (by have := k1.size; have := k2.size; omega))).trans (k4.mono (by have := k1.size; have := k2.size; have := k3.size; omega))).alloc (by have := k1.size; have := k2.size; have := k3.size; have := k4.size; omega) _).trans (k5.mono (by have := k1.size; have := k2.size; have := k3.size; have := k4.size; simp at *; omega))) (by go_simp)
      exact a
    have e1 : w5.cell? ⟨w.heap.size, 1, none⟩ = some (.string r0) := by
      have a := cell_keep (w := w.alloc (.cells #[.slice A0 n0 c0, .string r0] 24)) (w' := w5) (a := ⟨w.heap.size, 1, none⟩) (v := .string r0) (((((k1.trans (k2.mono k1.size)).trans (k3.mono (by have := k1.size; have := k2.size; omega))).trans (k4.mono (by have := k1.size; have := k2.size; have := k3.size; omega))).alloc (by have := k1.size; have := k2.size; have := k3.size; have := k4.size; omega) _).trans (k5.mono (by have := k1.size; have := k2.size; have := k3.size; have := k4.size; simp at *; omega))) (by go_simp)
      exact a
    have e2 : w5.cell? ⟨w4.heap.size, 0, none⟩ = some (.slice (some ⟨w3.heap.size + 3, 0, none⟩) n0 n0) := cell_keep k5 (by go_simp)
    have e3 : w5.cell? ⟨w4.heap.size, 1, none⟩ = some (.string r0) := cell_keep k5 (by go_simp)
    have q4 := ((own_ints o4).below (one_box _ _)).below k5
    have q0 := h0.below B5
    have z5 : w.heap.size < w5.heap.size := World.block_lt_of_cell? w5 _ e0
    have z6 : w4.heap.size < w5.heap.size := World.block_lt_of_cell? w5 _ e2
    go_upto_region 10 with fail
    clear hc_w2 hc_w4 hc_w1 hf_w1 hc_w3 hf_w3 hc_w5 hf_w5 B1 B2 B3 B4 k1 k2 k3 k4 k5 o2 o4
    first | (go_region_held3 (fun w' => Below w5.heap.size w5 w' ∧ w'.cell? ⟨w.heap.size, 0, none⟩ = some (.slice A0 n0 c0) ∧ w'.cell? ⟨w.heap.size, 1, none⟩ = some (.string r0) ∧ w'.cell? ⟨w4.heap.size, 0, none⟩ = some (.slice (some ⟨w3.heap.size + 3, 0, none⟩) n0 n0) ∧ w'.cell? ⟨w4.heap.size, 1, none⟩ = some (.string r0)) (first | exact ⟨(Below.refl _ _).drew, e0, e1, e2, e3⟩ | assumption | (go_split_ands; exact ⟨‹_›, ‹_›, ‹_›, ‹_›, ‹_›⟩) | (go_split_ands; refine ⟨next ‹_› h1, cell_keep h1 ‹_›, cell_keep h1 ‹_›, cell_keep h1 ‹_›, cell_keep h1 ‹_›⟩) | (go_split_ands; refine ⟨next ‹_› h2, cell_keep h2 ‹_›, cell_keep h2 ‹_›, cell_keep h2 ‹_›, cell_keep h2 ‹_›⟩)) (first | (go_at_call 7; refine (toRule_any A0 n0 c0 x0 r0 _ (by first | exact q0.below ((Below.refl _ _).drew) | (go_split_ands; exact q0.below ‹_›)) le0).mono ?_; rintro e_ w6 ⟨rfl, o6, h1⟩) | (go_at_call 9; refine (isb (eqRule_any (some ⟨w3.heap.size + 3, 0, none⟩) _ n0 n0 n0 n0 x0 x0 r0 r0 _ (by first | exact q4.below (next ((Below.refl _ _).drew) h1) | (go_split_ands; exact q4.below (next ‹_› h1))) (own_ints o6)) (decide_eq_true rfl)).mono ?_; rintro e_ w7 ⟨rfl, h2⟩))) | fail
    all_goals
      go_wp2
      go_ret
      first | exact ⟨rfl, B5.trans ((next (next ((Below.refl _ _).drew) ‹_›) ‹_›).mono B5.size)⟩ | (go_split_ands; exact ⟨rfl, B5.trans ((next (next ‹_› ‹_›) ‹_›).mono B5.size)⟩)
end Go.Proofs.YtejdngkaobaofaaDoor.fnExactRuleText
