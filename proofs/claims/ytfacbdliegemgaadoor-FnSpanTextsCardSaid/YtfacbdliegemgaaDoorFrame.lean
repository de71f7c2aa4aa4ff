/- Marks in one slice's own memory: all else stays as it was. -/
import Derived.Test.YtfacbdliegemgaaDoorInts
import Derived.Test.YtfacbdliegemgaaDoorMarks
namespace Go.Proofs.YtfacbdliegemgaaDoor
open Go.ChangeShapes Go.WideShapes Go.ChangeAt Go.RowKit

theorem grown_refl (w : World) (row : Option Nat) : w.grownBy w row := ⟨rfl, rfl, rfl, Nat.le_refl _, fun _ _ _ => rfl⟩
theorem grown_trans {a b c : World} {row : Option Nat} (h : a.grownBy b row) (h2 : b.grownBy c row) : a.grownBy c row :=
  ⟨h2.os.trans h.os, h2.tape.trans h.tape, h2.output.trans h.output, Nat.le_trans h.size h2.size, fun k hk hne => (h2.block k (Nat.lt_of_lt_of_le hk h.size) hne).trans (h.block k hk hne)⟩
theorem grown_below {w w' : World} {row : Option Nat} (h : Below w.heap.size w w') : w.grownBy w' row := ⟨h.os, h.tape, h.output, h.size, fun k hk _ => h.block k hk⟩
theorem grown_set (w : World) (g j : Nat) (u : Value) : w.grownBy (w.setCell ⟨g, j, none⟩ u) (some g) := by
  have h := (Below.refl g w).setCell (p := ⟨g, j, none⟩) (Nat.le_refl _) u
  exact ⟨h.os, h.tape, h.output, h.size, fun k _ hne => Below.heap_setCell _ _ _ k (fun e => hne (by rw [e]))⟩
/-- what lies above the marked slice stays its own -/
theorem own_grown {w w' : World} {base g : Nat} {e : TypeId} {size : Nat} {v : Value} {n : Nat} {xs : List Value} (h : w.ownsRow base e size v n xs) (hg : w.grownBy w' (some g)) (hlt : g < base) : w'.ownsRow base e size v n xs := by
  refine h.kept hg ?_
  cases hv : v.ownBlock with
  | none => exact .inl rfl
  | some k =>
    refine .inr fun e => ?_
    have := (h.lt k hv).1
    injection e with e
    omega
theorem below_grown {B g : Nat} {a w w' : World} (h : Below B a w) (hg : w.grownBy w' (some g)) (hB : B ≤ a.heap.size) (hgB : B ≤ g) : Below B a w' :=
  h.grown hg (Nat.le_trans hB h.size) (fun k hk => by injection hk with hk; omega)

set_option maxRecDepth 100000 in
set_option maxHeartbeats 1000000 in
theorem markInts_own (base k n g : Nat) (xs : List Int) (w : World) (hown : w.ownsRow base 2 1 (.slice (some ⟨g, 0, none⟩) n n) n (xs.map (Value.int .i64))) (hk : 0 < k) (hm : k + n ≤ 1000000000000) :
    Calls Tryd.prog 16 #[.slice (some ⟨g, 0, none⟩) n n, .int .i64 k] w fun e w' => e = .returned (.int .i64 (k + n : Nat)) ∧ w.grownBy w' (some g) := by
  have hxl : xs.length = n := by have := hown.1; simpa using this
  have hcm : n ≤ maxLen := by
    rcases hown.2 with ⟨hv, hn⟩ | ⟨g, cap, cur, hv, hb, hg, hnc, hcm, _⟩
    · cases hv
    · injection hv with _ _ e
      omega
  unfold maxLen at hcm
  go_enter Tryd.func16, Tryd.ntmps16
  go_wp2
  go_loopw [1, 5] (fun q i wr => ∃ (j : Nat) (ys : List Int), j ≤ n ∧ i = .int .i64 j ∧ q = .int .i64 (k + j : Nat) ∧ Hid (wr.ownsRow base 2 1 (.slice (some ⟨g, 0, none⟩) n n) n (ys.map (Value.int .i64))) ∧ Hid (w.grownBy wr (some g))) (fun _ i _ => n - (intOf i).toNat)
  case atStart => exact ⟨0, xs, Nat.zero_le _, rfl, by simp, hown, grown_refl _ _⟩
  case round =>
    clear hown hxl
    obtain ⟨j, ys, hj, rfl, rfl, ho, hb⟩ := hrel
    have hyl : ys.length = n := by have := ho.out.1; simpa using this
    by_cases hlt : j < n
    · have hown2 := ho.out
      have d0 := hown2.cellAt j (by omega)
      rw [List.getElem?_map, List.getElem?_eq_getElem (by omega)] at d0
      have f0 := hown2.frozenAt j
      have hst := (hown2.stored j (.int .i64 (k + j : Nat))).1
      rw [← List.map_set] at hst
      have HST := Lib.hid hst
      have HB := Lib.hid (grown_trans hb.out (grown_set wr g j (.int .i64 (k + j : Nat))))
      simp only [Option.map_some] at d0
      clear hst hown2 ho hb
      generalize ys[j] = u0 at d0
      go_wp2
      go_roundw
      case rel => exact ⟨j + 1, _, by omega, by go_num, by go_num, HST, HB⟩
      case measure => simp [intOf]; omega
    · obtain rfl : j = n := by omega
      go_wp2
      go_ret
      exact ⟨rfl, hb.out⟩
end Go.Proofs.YtfacbdliegemgaaDoor
