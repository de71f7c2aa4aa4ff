/- Marks of rules held: heldRuleS. -/
import Derived.Test.YtjgcbnngjfchhaaDoorMarkT
namespace Go.Proofs.YtjgcbnngjfchhaaDoor
open Go.ChangeShapes Go.WideShapes Go.ChangeAt Go.RowKit
set_option maxRecDepth 100000 in
set_option maxHeartbeats 1000000 in
theorem heldRules_any (k n c : Nat) (A : Option Addr) (T : List Rl) (w : World) (hx : Rules w A n c (rmarks k T)) (hk : 0 < k) (hm : k + (n + rsum T) ≤ 1000000000000) :
    Calls Tryd.prog 21 #[.slice A n c, .int .i64 k] w fun e w' => e = .returned (.int .i64 (k + (n + rsum T) : Nat)) ∧ Below w.heap.size w w' := by
  have hcm := hx.cap.2
  have hnc := hx.cap.1
  have HX := Lib.hid (show n = T.length by rw [hx.1, rmarks_len])
  unfold maxLen at hcm
  go_enter Tryd.func21, Tryd.ntmps21
  go_wp2
  go_loopw [1, 5] (fun q i wr => ∃ (j : Nat), j ≤ n ∧ i = .int .i64 j ∧ q = .int .i64 (k + (j + rsum (T.take j)) : Nat) ∧ Below w.heap.size w wr) (fun _ i _ => n - (intOf i).toNat)
  case atStart => exact ⟨0, Nat.zero_le _, rfl, by simp [rsum], Below.refl _ _⟩
  case round =>
    obtain ⟨j, hj, rfl, rfl, hb⟩ := hrel
    by_cases hlt : j < n
    · obtain ⟨b, off, rfl, hbl⟩ := hx.at_ j hlt
      obtain ⟨B', m', d', ys, t, hTk, c0, c1, hz, hrz⟩ := hx.el hb j hlt
      obtain ⟨⟨xs, r⟩, hTj⟩ : ∃ x, T[j]? = some x := ⟨_, List.getElem?_eq_getElem (by rw [← HX.out]; exact hlt)⟩
      have hmk := rmarks_at (k := k) hTj
      rw [hTk.out] at hmk
      injection hmk with hmk
      injection hmk with e1 e2
      have hs1 := rsum_succ hTj
      have hs2 := rsum_take T (j + 1)
      obtain ⟨q, hq⟩ : ∃ q, k + (j + rsum (T.take j)) = q := ⟨_, rfl⟩
      rw [hq] at e1 e2 ⊢
      have hml : m' = xs.length := by rw [hz.1, e1, imarks_len]
      rw [e1, ← hml] at hz
      rw [← hml] at e2 hs1
      have HS := Lib.hid (show q + m' + 1 = k + (j + 1 + rsum (T.take (j + 1))) by omega)
      have hqm : q + m' + 1 ≤ 1000000000000 := by omega
      have hq0 : 0 < q := by omega
      have hq1 : ¬ (((q + m' : Nat) : Int) < 0) := by omega
      subst e2
      clear hTj hs1 hs2 hq e1 hml hTk
      have hbw : b < wr.heap.size := Nat.lt_of_lt_of_le hbl hb.size
      go_wp2_with fail
      refine (heldInts_any q m' d' B' _ hz hq0 (by omega)).mono ?_
      rintro e_ w1 ⟨rfl, h1⟩
      have c1' := cell_keep h1 c1
      have hbw1 : b < w1.heap.size := Nat.lt_of_lt_of_le hbw h1.size
      have HB1 := Lib.hid (next hb h1)
      clear c0 c1 hz h1
      go_wp2_with fail
      refine wp_region_later (by kernel_rfl) (by kernel_rfl) ?_
      repeat (go_big_quiet_step ((go_at_call 38; exact Calls.later (markText_any (q + m') _ (by omega) (by omega)))))
      refine wpQuiet_nil ?_
      intro w2 hw2; have h2 := later_below hw2; clear hw2
      have HB2 := Lib.hid (next HB1.out h2)
      have ht : ((markT (q + m')).toList == (markT (q + m')).toList) = true := by simp
      clear h2
      go_wp2
      go_roundw
      case rel => exact ⟨j + 1, by omega, by go_num, by rw [← HS.out]; go_num, HB2.out⟩
      case measure => simp [intOf]; omega
    · obtain rfl : j = n := by omega
      have HE := Lib.hid (show rsum (T.take j) = rsum T by rw [List.take_of_length_le (by rw [← HX.out]; exact Nat.le_refl _)])
      go_wp2
      go_ret
      exact ⟨by rw [← HE.out]; rfl, hb⟩
end Go.Proofs.YtjgcbnngjfchhaaDoor
