/- Integers marked in a slice of any capacity: only its own block is changed. -/
import Derived.Test.YtfacbdliegemgaaDoorOwnRules
namespace Go.Proofs.YtfacbdliegemgaaDoor
open Go.ChangeShapes Go.WideShapes Go.ChangeAt Go.RowKit
set_option maxRecDepth 100000 in
set_option maxHeartbeats 1000000 in
theorem markInts_gen (base k n : Nat) (v : Value) (xs : List Int) (w : World) (hown : w.ownsRow base 2 1 v n (xs.map (Value.int .i64))) (hk : 0 < k) (hm : k + n ≤ 1000000000000) :
    Calls Tryd.prog 16 #[v, .int .i64 k] w fun e w' => e = .returned (.int .i64 (k + n : Nat)) ∧ w'.ownsRow base 2 1 v n ((imarks k n).map (Value.int .i64)) ∧ w.grownBy w' v.ownBlock := by
  have hxl : xs.length = n := by have := hown.1; simpa using this
  have hform : ∃ A c, v = .slice A n c ∧ n ≤ c ∧ c ≤ maxLen ∧ (0 < n → ∃ g, A = some ⟨g, 0, none⟩ ∧ base ≤ g ∧ g < w.heap.size) := by
    rcases hown.2 with ⟨hv, hn⟩ | ⟨g, cap, cur, hv, hb, hg, hnc, hcm, _⟩
    · subst hv
      exact ⟨none, 0, by rw [hn], by omega, by unfold maxLen; omega, fun h => by omega⟩
    · subst hv
      exact ⟨_, _, rfl, hnc, hcm, fun _ => ⟨g, rfl, (hown.lt g rfl)⟩⟩
  obtain ⟨A, c, rfl, hnc, hcm, hA⟩ := hform
  unfold maxLen at hcm
  go_enter Tryd.func16, Tryd.ntmps16
  go_wp2
  go_loopw [1, 5] (fun q i wr => ∃ (j : Nat) (ys : List Int), j ≤ n ∧ i = .int .i64 j ∧ q = .int .i64 (k + j : Nat) ∧ Hid (ys.take j = (imarks k n).take j) ∧ Hid (wr.ownsRow base 2 1 (.slice A n c) n (ys.map (Value.int .i64))) ∧ Hid (w.grownBy wr (Value.slice A n c).ownBlock)) (fun _ i _ => n - (intOf i).toNat)
  case atStart => exact ⟨0, xs, Nat.zero_le _, rfl, by simp, rfl, hown, grown_refl _ _⟩
  case round =>
    clear hown
    obtain ⟨j, ys, hj, rfl, rfl, hys, ho, hb⟩ := hrel
    have hyl : ys.length = n := by have := ho.out.1; simpa using this
    by_cases hlt : j < n
    · obtain ⟨g, rfl, hg1, hg2⟩ := hA (by omega)
      have hown2 := ho.out
      have d0 := hown2.cellAt j (by omega)
      rw [List.getElem?_map, List.getElem?_eq_getElem (by omega)] at d0
      have f0 := hown2.frozenAt j
      have hst := (hown2.stored j (.int .i64 (k + j : Nat))).1
      rw [← List.map_set] at hst
      have HST := Lib.hid hst
      have HY := Lib.hid (take_set1 ys (imarks k n) j ((k + j : Nat) : Int) hys.out (by rw [hyl, imarks_len]) (imarks_at k n j hlt))
      have HB : Hid (w.grownBy (wr.setCell ⟨g, j, none⟩ (.int .i64 (k + j : Nat))) (Value.slice (some ⟨g, 0, none⟩) n c).ownBlock) := grown_trans hb.out (grown_set wr g j (.int .i64 (k + j : Nat)))
      simp only [Option.map_some] at d0
      clear hst hys hown2 ho hb
      generalize ys[j] = u0 at d0
      go_wp2
      go_roundw
      case rel => exact ⟨j + 1, _, by omega, by go_num, by go_num, HY.out, HST, HB⟩
      case measure => simp [intOf]; omega
    · obtain rfl : j = n := by omega
      have hE : ys = imarks k j := by
        have := hys.out
        rw [List.take_of_length_le (by omega), List.take_of_length_le (by rw [imarks_len]; omega)] at this
        exact this
      rw [hE] at ho
      clear hE hys
      go_wp2
      go_ret
      exact ⟨rfl, ho.out, hb.out⟩
end Go.Proofs.YtfacbdliegemgaaDoor
