/- Draws of numbers; a text that is damaged. -/
import Derived.Test.YtfacbdliegemgaaDoorDrawA
import Derived.Deep.RegionWith
namespace Go.Proofs.YtfacbdliegemgaaDoor
open Go.ChangeShapes Go.WideShapes Go.ChangeAt Go.RowKit

theorem ints_alloc (w : World) (L : List Int) (t : TypeId) (hl : L.length ≤ maxLen) :
    Ints (w.alloc (.cells (L.map (Value.int .i64)).toArray t)) (some ⟨w.heap.size, 0, none⟩) L.length L.length L :=
  ⟨rfl, ⟨Nat.le_refl _, hl, by simp, fun _ => ⟨w.heap.size, 0, rfl, by simp, fun j u hu => by
    rw [Nat.zero_add]
    go_simp⟩⟩⟩
/-- what a draw of a number returns -/
def IntPost (p : Nat) (w : World) (e : Ending) (w' : World) : Prop := ∃ r : Int, e = .returned (.int .i64 r) ∧ Src w' p ∧ w.grownBy w' (some p)
/-- what a pick returns: one of the numbers -/
def PickPost (p : Nat) (xs : List Int) (w : World) (e : Ending) (w' : World) : Prop := ∃ r : Int, e = .returned (.int .i64 r) ∧ r ∈ xs ∧ Src w' p ∧ w.grownBy w' (some p)
set_option maxRecDepth 100000 in
set_option maxHeartbeats 1000000 in
theorem l01Pick_any (p g n c : Nat) (xs : List Int) (w : World) (h : Src w p) (hx : Ints w (some ⟨g, 0, none⟩) n c xs) (hn : 0 < n) (hnn : n ≤ 1000) (hg : p ≠ g) :
    Calls Tryd.prog 48 #[.pointer (some ⟨p, 0, none⟩), .slice (some ⟨g, 0, none⟩) n c] w (PickPost p xs w) := by
  have hcm := hx.2.cap
  have hnc := hx.2.le
  unfold maxLen at hcm
  go_enter Tryd.func48, Tryd.ntmps48
  go_wp2_with fail
  refine (l01Next_any p n _ h (by omega)).mono ?_
  rintro e_ w1 ⟨r, rfl, r0, r1, S1, g1⟩
  obtain ⟨j, rfl⟩ : ∃ j : Nat, r = j := ⟨r.toNat, by omega⟩
  have hj : j < n := by omega
  obtain ⟨b, off, e, hbl⟩ := hx.at_ j hj
  injection e with e
  injection e with e1 e2
  subst e1; subst e2
  obtain ⟨s, hs, c0⟩ := hx.el (Below.refl _ _) hbl j hj
  rw [Nat.zero_add] at c0
  have c1 := grown_cell g1 c0 (by simpa using hg)
  have hj2 : (j : Int) < n := by omega
  go_wp2
  go_ret
  exact ⟨s, rfl, List.mem_of_getElem? hs.out, S1, g1⟩
set_option maxRecDepth 100000 in
set_option maxHeartbeats 2000000 in
theorem l01DrawValue_any (p : Nat) (w : World) (h : Src w p) : Calls Tryd.prog 49 #[.pointer (some ⟨p, 0, none⟩)] w (IntPost p w) := by
  go_enter Tryd.func49, Tryd.ntmps49
  go_wp2_with fail
  refine (l01Next_any p 10 _ h (by omega)).mono ?_
  rintro e_ w1 ⟨r, rfl, r0, r1, S1, g1⟩
  by_cases hr : r = 0
  · subst hr
    go_wp2_with fail
    have hx := ints_alloc w1 [0, 1000000000000, 1000000000001, -1000000000000, -1000000000001, 1] 2 (by decide)
    have HB := box1 w1 (.cells ([0, 1000000000000, 1000000000001, -1000000000000, -1000000000001, 1].map (Value.int .i64)).toArray 2)
    refine (l01Pick_any p _ 6 6 _ _ (S1.below HB) hx (by omega) (by omega) (by have := S1.lt; omega)).mono ?_
    rintro e_ w2 ⟨q, rfl, _, S2, g2⟩
    go_wp2
    go_ret
    exact ⟨q, rfl, S2, grown_trans (grown_trans g1 (grown_below HB)) g2⟩
  · have hr2 : (r == 0) = false := by simpa using hr
    go_wp2_with fail
    refine (l01Next_any p 41 _ S1 (by omega)).mono ?_
    rintro e_ w2 ⟨a, rfl, a0, a1, S2, g2⟩
    have e1 : IntKind.i64.wrap (a - 20) = a - 20 := IntWalk.i64_in _ (by omega)
    go_wp2_with fail
    refine (l01Next_any p 2001 _ S2 (by omega)).mono ?_
    rintro e_ w3 ⟨b, rfl, b0, b1, S3, g3⟩
    have e2 : IntKind.i64.wrap (b - 1000) = b - 1000 := IntWalk.i64_in _ (by omega)
    go_wp2_with fail
    refine (l01Next_any p 2000000001 _ S3 (by omega)).mono ?_
    rintro e_ w4 ⟨c, rfl, c0, c1, S4, g4⟩
    have e3 : IntKind.i64.wrap (c - 1000000000) = c - 1000000000 := IntWalk.i64_in _ (by omega)
    go_wp2_with fail
    have hx := ints_alloc w4 [a - 20, b - 1000, c - 1000000000] 2 (by simp [maxLen])
    have HB := box1 w4 (.cells ([a - 20, b - 1000, c - 1000000000].map (Value.int .i64)).toArray 2)
    refine (l01Pick_any p _ 3 3 _ _ (S4.below HB) hx (by omega) (by omega) (by have := S4.lt; omega)).mono ?_
    rintro e_ w5 ⟨q, rfl, _, S5, g5⟩
    go_wp2
    go_ret
    exact ⟨q, rfl, S5, grown_trans (grown_trans (grown_trans (grown_trans (grown_trans g1 g2) g3) g4) (grown_below HB)) g5⟩
theorem lit8 (j : Nat) (h : j < 8) : ∃ x : ByteArray, ([Value.string ⟨#[48]⟩, Value.string ⟨#[35]⟩, Value.string ⟨#[46]⟩, Value.string ⟨#[47]⟩, Value.string ⟨#[32]⟩, Value.string ⟨#[97]⟩, Value.string ⟨#[45]⟩, Value.string ⟨#[10]⟩] : List Value)[j]'h = .string x ∧ x.size ≤ 1 := by
  match j, h with
  | 0, _ => exact ⟨_, rfl, by decide⟩
  | 1, _ => exact ⟨_, rfl, by decide⟩
  | 2, _ => exact ⟨_, rfl, by decide⟩
  | 3, _ => exact ⟨_, rfl, by decide⟩
  | 4, _ => exact ⟨_, rfl, by decide⟩
  | 5, _ => exact ⟨_, rfl, by decide⟩
  | 6, _ => exact ⟨_, rfl, by decide⟩
  | 7, _ => exact ⟨_, rfl, by decide⟩
set_option maxRecDepth 100000 in
set_option maxHeartbeats 2000000 in
theorem l01Damage_any (p : Nat) (t : ByteArray) (w : World) (h : Src w p) (ht : t.size ≤ 100000) : Calls Tryd.prog 51 #[.pointer (some ⟨p, 0, none⟩), .string t] w (TextPost p (t.size + 1) w) := by
  have e0 : IntKind.i64.wrap ((t.size : Int) + 1) = t.size + 1 := IntWalk.i64_in _ (by omega)
  go_enter Tryd.func51, Tryd.ntmps51
  go_wp2_with fail
  refine (l01Next_any p (t.size + 1) _ h (by omega)).mono ?_
  rintro e_ w1 ⟨k, rfl, k0, k1, S1, g1⟩
  obtain ⟨q, rfl⟩ : ∃ q : Nat, k = q := ⟨k.toNat, by omega⟩
  have hq : q ≤ t.size := by omega
  have hq2 : (q : Int) ≤ t.size := by omega
  go_wp2_with fail
  refine (l01Next_any p 8 _ S1 (by omega)).mono ?_
  rintro e_ w2 ⟨r, rfl, r0, r1, S2, g2⟩
  have G2 := grown_trans g1 g2
  have zq : (t.extract 0 q).size ≤ t.size := by simp; omega
  have zr : (t.extract q t.size).size ≤ t.size := by simp
  by_cases hr0 : r = 0
  · subst hr0
    go_wp2
    go_ret
    exact ⟨_, rfl, by omega, S2, G2⟩
  · have d0 : (r == 0) = false := by simpa using hr0
    have d0' : ((0 : Int) == r) = false := by simpa using fun e => hr0 e.symm
    by_cases hr1 : r = 1
    · subst hr1
      go_wp2_with fail
      have hz2 : p < w2.heap.size := S2.lt
      (go_region_with (first
        | (go_at_call 47; refine (l01Next_any p 8 _ (by first | exact S2.below (Below.refl _ _).drew | exact (S2.below (Below.refl _ _).drew).below (box1 _ _)) (by omega)).mono ?_; rintro e_ w6 ⟨r6, rfl, r60, r61, S6, g6⟩; have hz6 := g6.size; have hj : ∃ j : Nat, r6 = j := ⟨r6.toNat, by omega⟩; obtain ⟨j, rfl⟩ := hj; have j3 : j < 8 := (by omega); have j4 : (j : Int) < 8 := (by omega); have hv := lit8 j j3; obtain ⟨xv, hv, hv2⟩ := hv; first | (have hx0 := ((show Parts (w2.drew.alloc (.cells ([⟨#[48]⟩, ⟨#[35]⟩, ⟨#[46]⟩, ⟨#[47]⟩, ⟨#[32]⟩, ⟨#[97]⟩, ⟨#[45]⟩, ⟨#[10]⟩].map Value.string).toArray 9)) w2.heap.size 8 1 from parts_alloc w2.drew [⟨#[48]⟩, ⟨#[35]⟩, ⟨#[46]⟩, ⟨#[47]⟩, ⟨#[32]⟩, ⟨#[97]⟩, ⟨#[45]⟩, ⟨#[10]⟩] 9 1 (by decide)).grown g6 (by omega)) j j3; obtain ⟨x, hx, hx2⟩ := hx0) | skip)))
      · go_wp2
        go_ret
        first
        | exact ⟨_, rfl, by simp; omega, S6, grown_trans (grown_trans (grown_trans G2 (grown_below (Below.refl _ _).drew)) (grown_below (box1 _ _))) g6⟩
        | exact ⟨_, rfl, by simp; omega, S6.below (box1 _ _), grown_trans (grown_trans (grown_trans G2 (grown_below (Below.refl _ _).drew)) g6) (grown_below (box1 _ _))⟩
      · go_wp2
        go_ret
        first
        | exact ⟨_, rfl, by simp; omega, S6, grown_trans (grown_trans (grown_trans G2 (grown_below (Below.refl _ _).drew)) (grown_below (box1 _ _))) g6⟩
        | exact ⟨_, rfl, by simp; omega, S6.below (box1 _ _), grown_trans (grown_trans (grown_trans G2 (grown_below (Below.refl _ _).drew)) g6) (grown_below (box1 _ _))⟩
    · have d1 : (r == 1) = false := by simpa using hr1
      have d1' : ((1 : Int) == r) = false := by simpa using fun e => hr1 e.symm
      by_cases hr2 : r = 2
      · subst hr2
        have e1 : IntKind.i64.wrap ((q : Int) + 1) = ((q + 1 : Nat) : Int) := by rw [IntWalk.i64_in _ (by omega)]; omega
        have zr2 : (t.extract (q + 1) t.size).size ≤ t.size := by simp
        by_cases hlt : q < t.size
        · have hlt2 : (q : Int) < t.size := by omega
          have zc : (t.extract 0 q ++ t.extract (q + 1) t.size).size ≤ t.size := by simp; omega
          have hlt3 : ((q + 1 : Nat) : Int) ≤ t.size := by omega
          have hlt4 : (q : Int) + 1 ≤ t.size := by omega
          go_wp2_with fail
          (go_region_with (go_at_call 47; skip))
          go_wp2
          go_ret
          exact ⟨_, rfl, by omega, S2.below (Below.refl _ _).drew, grown_trans G2 (grown_below (Below.refl _ _).drew)⟩
        · have hlt2 : ¬ (q : Int) < t.size := by omega
          go_wp2
          go_ret
          exact ⟨t, rfl, by omega, S2, G2⟩
      · have d2 : (r == 2) = false := by simpa using hr2
        have d2' : ((2 : Int) == r) = false := by simpa using fun e => hr2 e.symm
        go_wp2
        go_ret
        exact ⟨t, rfl, by omega, S2, G2⟩
end Go.Proofs.YtfacbdliegemgaaDoor
