/- Draws of two words. -/
import Derived.Test.YtjcmmfpnlfhldaaDoorDrawA
import Derived.Deep.RegionWith
namespace Go.Proofs.YtjcmmfpnlfhldaaDoor
open Go.ChangeShapes Go.WideShapes Go.ChangeAt Go.RowKit

theorem lit3 (j : Nat) (h : j < 3) : ∃ x : ByteArray, ([Value.string ⟨#[]⟩, Value.string ⟨#[120]⟩, Value.string ⟨#[115, 104]⟩] : List Value)[j]'h = .string x ∧ x.size ≤ 2 := by
  match j, h with
  | 0, _ => exact ⟨_, rfl, by decide⟩
  | 1, _ => exact ⟨_, rfl, by decide⟩
  | 2, _ => exact ⟨_, rfl, by decide⟩
/-- what a draw of two texts returns -/
def TwoPost (p : Nat) (w : World) (e : Ending) (w' : World) : Prop := ∃ s t : ByteArray, e = .returned (.tuple #[.string s, .string t]) ∧ s.size ≤ 64 ∧ t.size ≤ 64 ∧ Below p w w'
set_option maxRecDepth 100000 in
set_option maxHeartbeats 4000000 in
theorem l01DrawTwo_any (A : Option Addr) (n c : Nat) (bs : List UInt8) (w : World) (hx : Bytes w A n c bs) :
    Calls Tryd.prog 12 #[.slice A n c] w (TwoPost w.heap.size w) := by
  go_enter Tryd.func12, Tryd.ntmps12
  go_wp2_with fail
  refine (l01From_any A n c bs w hx).mono ?_
  rintro e_ w1 ⟨rfl, S1, b1⟩
  generalize hp : w.heap.size = p at *
  go_wp2_with fail
  refine (l01DrawWord_any p _ S1).mono ?_
  rintro e_ w2 ⟨a, rfl, ha2, S2, g2⟩
  go_wp2_with fail
  refine (l01DrawWord_any p _ S2).mono ?_
  rintro e_ w3 ⟨b, rfl, hb2, S3, g3⟩
  have B3 := Lib.hid (below_own (below_own b1 g2 (Nat.le_of_eq hp.symm) (fun k hk => by injection hk with hk; omega)) g3 (Nat.le_of_eq hp.symm) (fun k hk => by injection hk with hk; omega))
  clear g2 g3 b1 S1 S2 hx
  by_cases hl : 1 < a.size
  · have hl2 : (1 : Int) < a.size := by omega
    go_wp2_with fail
    refine (l01Next_any p 2 _ S3 (by omega)).mono ?_
    rintro e_ w4 ⟨r, rfl, r0, r1, S4, g4⟩
    have B4 := Lib.hid (below_own B3.out g4 (Nat.le_of_eq hp.symm) (fun k hk => by injection hk with hk; omega))
    clear S3 g4 B3
    by_cases hr : r = 0
    · subst hr
      go_wp2_with fail
      refine (l01Next_any p a.size _ S4 (by omega)).mono ?_
      rintro e_ w5 ⟨k, rfl, k0, k1, S5, g5⟩
      have B5 := Lib.hid (below_own B4.out g5 (Nat.le_of_eq hp.symm) (fun k hk => by injection hk with hk; omega))
      clear S4 g5 B4
      obtain ⟨q, rfl⟩ : ∃ q : Nat, k = q := ⟨k.toNat, by omega⟩
      have hq : q ≤ a.size := by omega
      go_wp2_with fail
      have hz5 : p < w5.heap.size := S5.lt
      have e0 : IntKind.i64.wrap ((q : Int) + 0) = q := by rw [IntWalk.i64_in _ (by omega)]; omega
      have zq : (a.extract 0 q).size ≤ 17 := by simp; omega
      have zr : ∀ m : Nat, (a.extract m a.size).size ≤ 17 := fun m => by simp; omega
      have hne5 : (some p : Option Nat) ≠ some w5.heap.size := fun e => by injection e with e; omega
      (go_region_with (first
        | (go_at_call 22; refine (l01Next_any p 3 _ (by first | exact S6 | exact S6.below (box1 _ _)) (by omega)).mono ?_; rintro e_ w7 ⟨r7, rfl, r70, r71, S7, g7⟩; have hz7 := g7.size; have e7 : IntKind.i64.wrap ((q : Int) + r7) = q + r7 := IntWalk.i64_in _ (by omega); (first | have hx7 : w7.cell? ⟨w5.heap.size, j, none⟩ = some (.string x) := grown_cell g7 hx hne5 | (have hx0 := (hQ.out.grown g7 (by omega)) j j3; obtain ⟨x7, hx7, hx72⟩ := hx0) | skip))
        | (go_at_call 22; refine (l01Next_any p 3 _ (by first | exact S5.below (Below.refl _ _).drew | exact (S5.below (Below.refl _ _).drew).below (box1 _ _)) (by omega)).mono ?_; rintro e_ w6 ⟨r6, rfl, r60, r61, S6, g6⟩; have hz6 := S6.lt; have hj : ∃ j : Nat, r6 = j := ⟨r6.toNat, by omega⟩; obtain ⟨j, rfl⟩ := hj; have j3 : j < 3 := (by omega); have j4 : (j : Int) < 3 := (by omega); have hv := lit3 j j3; obtain ⟨xv, hv, hv2⟩ := hv; first | (have hx0 := ((show Parts (w5.drew.alloc (.cells ([⟨#[]⟩, ⟨#[120]⟩, ⟨#[115, 104]⟩].map Value.string).toArray 9)) w5.heap.size 3 2 from parts_alloc w5.drew [⟨#[]⟩, ⟨#[120]⟩, ⟨#[115, 104]⟩] 9 2 (by decide)).grown g6 (by omega)) j j3; obtain ⟨x, hx, hx2⟩ := hx0) | have hQ := Lib.hid (show Parts (w6.alloc (.cells ([⟨#[]⟩, ⟨#[120]⟩, ⟨#[115, 104]⟩].map Value.string).toArray 9)) w6.heap.size 3 2 from parts_alloc w6 [⟨#[]⟩, ⟨#[120]⟩, ⟨#[115, 104]⟩] 9 2 (by decide)))))
      all_goals
        go_wp2
        go_ret2
        refine ⟨a, _, rfl, by omega, by simp [ByteArray.size_append]; omega, ?_⟩
        repeat first | exact B5.out | refine Below.drew ?_ | refine Below.alloc ?_ (by omega) _ | refine below_own ?_ g7 (Nat.le_of_eq hp.symm) (fun k hk => by injection hk with hk; omega) | refine below_own ?_ g6 (Nat.le_of_eq hp.symm) (fun k hk => by injection hk with hk; omega)
    · have hr2 : (r == 0) = false := by simpa using hr
      go_wp2
      go_ret2
      exact ⟨a, b, rfl, by omega, by omega, hp ▸ B4.out⟩
  · have hl2 : ¬ (1 : Int) < a.size := by omega
    go_wp2
    go_ret2
    exact ⟨a, b, rfl, by omega, by omega, hp ▸ B3.out⟩
end Go.Proofs.YtjcmmfpnlfhldaaDoor
