/- Spans compared by the laws: the case of one list. -/
import Derived.Test.YtldikfikcnkgcaaSpans
namespace Go.Proofs.Ytldikfikcnkgcaa
open Go.ChangeShapes Go.WideShapes Go.ChangeAt Go.RowKit
set_option maxRecDepth 100000 in
set_option maxHeartbeats 1000000 in
theorem likeSpans_same (A B : Option Addr) (n c d : Nat) (xs : List (Int × Int)) (w : World) (hx : Spans w A n c xs) (hy : Spans w B n d xs) :
    Calls Try.prog 23 #[.slice A n c, .slice B n d] w fun e w' => e = .returned (.bool true) ∧ Below w.heap.size w w' := by
  have hm := hx.2.cap
  have hnc := hx.2.le
  unfold maxLen at hm
  go_enter Try.func23, Try.ntmps23
  go_wp2
  go_loopw [5] (fun i wr => ∃ k : Nat, k ≤ n ∧ i = .int .i64 k ∧ Below w.heap.size w wr) (fun i _ => n - (intOf i).toNat)
  case atStart => exact ⟨0, Nat.zero_le _, rfl, Below.refl _ _⟩
  case round =>
    obtain ⟨k, hk, rfl, hb⟩ := hrel
    by_cases hlt : k < n
    · obtain ⟨b, off, rfl, hbl, _⟩ := hx.at_ k hlt
      obtain ⟨b', off', rfl, hbl', _⟩ := hy.at_ k hlt
      obtain ⟨f, t, hft, c0, c1⟩ := hx.el hb hbl k hlt
      obtain ⟨f', t', hft', c0', c1'⟩ := hy.el hb hbl' k hlt
      have e := hft.out.symm.trans hft'.out
      injection e with e1 e2
      subst e1; subst e2
      have hbw : b < wr.heap.size := Nat.lt_of_lt_of_le hbl hb.size
      have hbw' : b' < wr.heap.size := Nat.lt_of_lt_of_le hbl' hb.size
      have hk0 : (0 : Int) ≤ (k : Int) := Int.natCast_nonneg _
      have hk1 : (k : Int) < (n : Int) := by omega
      have q1 : (f == f) = true := by simp
      have q2 : (t == t) = true := by simp
      go_wp2
      refine wp_region_later (by kernel_rfl) (by kernel_rfl) ?_
      repeat (go_big_quiet_step (fail))
      refine wpQuiet_nil ?_
      intro w2 hw2; have h2 := later_below hw2; clear hw2
      go_wp2
      go_roundw
      case rel => exact ⟨k + 1, by omega, by go_num, next hb h2⟩
      case measure => simp [intOf]; omega
    · go_wp2
      go_ret
      exact ⟨rfl, hb⟩
end Go.Proofs.Ytldikfikcnkgcaa
