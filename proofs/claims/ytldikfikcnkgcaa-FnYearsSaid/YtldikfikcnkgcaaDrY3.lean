/- Draws of sets of years in this seat. -/
import Derived.Test.YtldikfikcnkgcaaDrY2
import Derived.Maps.AppendAt
namespace Go.Proofs.Ytldikfikcnkgcaa
open Go.ChangeShapes Go.WideShapes Go.ChangeAt Go.RowKit Go.Deep Go.Joins

def lenS : Value → Nat
  | .slice _ n _ => n
  | _ => 0
/-- what a draw of a set of years returns: a list of spans of its own -/
def YearsPost (p : Nat) (w : World) (e : Ending) (w' : World) : Prop := ∃ (g c : Nat) (xs : List Sp), e = .returned (.slice (some ⟨g, 0, none⟩) xs.length c) ∧ xs.length ≤ 13 ∧ w'.ownsRow w.heap.size 42 2 (.slice (some ⟨g, 0, none⟩) xs.length c) xs.length (spanCells xs) ∧ Src w' p ∧ w.grownBy w' (some p)
set_option maxRecDepth 100000 in
set_option maxHeartbeats 4000000 in
theorem l02DrawYears_any (p : Nat) (w : World) (h : Src w p) : Calls Try.prog 41 #[.pointer (some ⟨p, 0, none⟩)] w (YearsPost p w) := by
  have hp := h.lt
  obtain ⟨i0, hi, hz0, hz1, hz2⟩ := info_parts infoSpan
  go_enter Try.func41, Try.ntmps41
  go_wp2_with fail
  have HB := box1 w (.cells #[] 42)
  have O0 := World.ownsRow_lit (base := w.heap.size) (e := 42) (size := 2) w #[] 0 (Nat.le_refl _) (by unfold maxLen; omega) rfl
  refine (l01Next_any p 200 _ (h.below HB) (by omega)).mono ?_
  rintro e_ w1 ⟨r, rfl, r0, r1, S1, g1⟩
  have O1 := own_srcP O0 g1 hp
  have G1 := grown_trans (grown_below HB (row := some p)) g1
  have e1 : IntKind.i64.wrap (1000 + r) = 1000 + r := IntWalk.i64_in _ (by omega)
  go_wp2_with fail
  refine (l01Next_any p 6 _ S1 (by omega)).mono ?_
  rintro e_ w2 ⟨m, rfl, m0, m1, S2, g2⟩
  have HO := Lib.hid (own_srcP O1 g2 hp)
  have HG := Lib.hid (grown_trans G1 g2)
  have HS := Lib.hid S2
  clear O0 O1 G1 g1 g2 S1 S2 HB h
  have e1 : True := trivial
  obtain ⟨q, rfl⟩ : ∃ q : Nat, m = q := ⟨m.toNat, by omega⟩
  have hq5 : q ≤ 5 := by omega
  generalize hyr : 1000 + r = yr at *
  have hy0 : 0 ≤ yr := by omega
  have hy1 : yr ≤ 1199 := by omega
  clear hyr e1 r0 r1 m0 m1
  go_wp2
  go_loopw [3, 4, 5] (fun rv yv nv wr => ∃ (k c : Nat) (y : Int) (g : Nat) (xs : List Sp), nv = .int .i64 k ∧ yv = .int .i64 y ∧ rv = .slice (some ⟨g, 0, none⟩) xs.length c ∧ Hid (xs.length + k ≤ 5) ∧ Hid (0 ≤ y ∧ y ≤ 1700 - 100 * k) ∧ Hid (Src wr p) ∧ Hid (wr.ownsRow w.heap.size 42 2 (.slice (some ⟨g, 0, none⟩) xs.length c) xs.length (spanCells xs)) ∧ Hid (w.grownBy wr (some p))) (fun _ _ nv _ => (intOf nv).toNat)
  case atStart => exact ⟨q, 0, yr, w.heap.size, [], rfl, by first | rfl | simp [*], rfl, Lib.hid (by simp; omega), Lib.hid ⟨by omega, by omega⟩, HS, HO, HG⟩
  case round =>
    clear HS HO HG
    obtain ⟨k, c, y, g, xs, rfl, rfl, rfl, hlen, hy, hS, hO, hG⟩ := hrel
    have hle := hlen.out
    obtain ⟨hy0, hy1⟩ := hy.out
    by_cases hlt : 0 < k
    · have hj0 : (0 : Int) < (k : Int) := by omega
      go_wp2_with fail
      refine (l01Next_any p 60 _ hS.out (by omega)).mono ?_
      rintro e_ w3 ⟨a, rfl, a0, a1, S3, g3⟩
      have O3 := own_srcP hO.out g3 hp
      have G3 := Lib.hid (grown_trans hG.out g3)
      have hp3 := S3.lt
      have hpp := G3.out.size
      have e2 : IntKind.i64.wrap (y + a) = y + a := IntWalk.i64_in _ (by omega)
      clear hO hG hS g3
      go_wp2_with (at_builtin; refine wpList_append_own _ rfl _ _ 24 rfl w.heap.size 42 i0 (.agg #[.int .i64 0, .int .i64 0]) 2 16 Try.underlying24 hi hz0 hz1 hz2 rfl (by decide) _ _ _ rfl (O3.alloc _) ⟨w3.heap.size, 0, none⟩ 1 1 [.int .i64 y, .int .i64 (y + a)] rfl rfl ?c1 ?c2 ?c3 ?c4 ?c5 ?_)
      case c1 => exact cell_two_newS _ _ _ _
      case c2 => simp [Value.oneCell']
      case c3 => unfold maxLen; omega
      case c4 => omega
      case c5 => first | omega | (simp; omega)
      intro v4 w4 own4 grow4 _
      have HO0 : w4.ownsRow w.heap.size 42 2 v4 (xs ++ [(y, y + a)]).length (spanCells (xs ++ [(y, y + a)])) := by rw [List.length_append, spanCells_append]; exact own4
      obtain ⟨g4, c4, hv4⟩ := own_shapeS HO0 (by simp)
      subst hv4
      have HO := Lib.hid HO0
      have S4 := (S3.below (box1 w3 (.cells #[.int .i64 y, .int .i64 (y + a)] 42))).grownP grow4 (fun z hz => by have := (O3.lt z hz).1; omega)
      have G4 := Lib.hid (grown_own (grown_trans G3.out (grown_below (box1 w3 (.cells #[.int .i64 y, .int .i64 (y + a)] 42)))) grow4 (fun z hz => (O3.lt z hz).1))
      clear own4 grow4 O3 G3 S3 HO0
      have e3 : IntKind.i64.wrap (y + a + 2) = y + a + 2 := IntWalk.i64_in _ (by omega)
      go_wp2_with fail
      refine (l01Next_any p 40 _ S4 (by omega)).mono ?_
      rintro e_ w5 ⟨b, rfl, b0, b1, S5, g5⟩
      have HO5 := Lib.hid (own_srcP HO.out g5 hp)
      have HG5 := Lib.hid (grown_trans G4.out g5)
      have HS5 := Lib.hid S5
      have e4 : IntKind.i64.wrap (y + a + 2 + b) = y + a + 2 + b := IntWalk.i64_in _ (by omega)
      have e5 : IntKind.i64.wrap ((k : Int) - 1) = ((k - 1 : Nat) : Int) := by rw [IntWalk.i64_in _ (by omega)]; omega
      clear HO G4 S4 g5 S5
      go_wp2
      go_roundw
      case rel => exact ⟨k - 1, c4, y + a + 2 + b, g4, xs ++ [(y, y + a)], rfl, rfl, (by simp), Lib.hid (by simp; omega), Lib.hid ⟨by omega, by omega⟩, HS5, HO5, HG5⟩
      case measure => simp [intOf]; omega
    · obtain rfl : k = 0 := by omega
      have hlx : xs.length ≤ 5 := by omega
      go_wp2_with fail
      refine (l01Next_any p 24 _ hS.out (by omega)).mono ?_
      rintro e_ w3 ⟨t, rfl, t0, t1, S3, g3⟩
      have O3 := own_srcP hO.out g3 hp
      have G3 := grown_trans hG.out g3
      have hp3 := S3.lt
      have hpp := G3.size
      clear hO hG hS g3
      by_cases ht0 : t = 0
      · subst ht0
        go_wp2_with fail
        refine (l02Draw_any p _ S3).mono ?_
        rintro e_ w4 ⟨a, b, rfl, S4, g4⟩
        have O4 := own_srcP O3 g4 hp
        have G4 := Lib.hid (grown_trans G3 g4)
        have hp4 := S4.lt
        have hpp4 := G4.out.size
        clear O3 G3 S3 g4
        go_wp2_with (at_builtin; refine wpList_append_own _ rfl _ _ 24 rfl w.heap.size 42 i0 (.agg #[.int .i64 0, .int .i64 0]) 2 16 Try.underlying24 hi hz0 hz1 hz2 rfl (by decide) _ _ _ rfl (O4.alloc _) ⟨w4.heap.size, 0, none⟩ 1 1 [.int .i64 a, .int .i64 b] rfl rfl ?c1 ?c2 ?c3 ?c4 ?c5 ?_)
        case c1 => exact cell_two_newS _ _ _ _
        case c2 => simp [Value.oneCell']
        case c3 => unfold maxLen; omega
        case c4 => omega
        case c5 => first | omega | (simp; omega)
        intro v5 w5 own5 grow5 _
        have HO0 : w5.ownsRow w.heap.size 42 2 v5 (xs ++ [(a, b)]).length (spanCells (xs ++ [(a, b)])) := by rw [List.length_append, spanCells_append]; exact own5
        obtain ⟨g5, c5, hv5⟩ := own_shapeS HO0 (by simp)
        subst hv5
        have HO := Lib.hid HO0
        have S5 := (S4.below (box1 w4 (.cells #[.int .i64 a, .int .i64 b] 42))).grownP grow5 (fun z hz => by have := (O4.lt z hz).1; omega)
        have G5 := Lib.hid (grown_own (grown_trans G4.out (grown_below (box1 w4 (.cells #[.int .i64 a, .int .i64 b] 42)))) grow5 (fun z hz => (O4.lt z hz).1))
        clear own5 grow5 O4 G4 S4 HO0
        go_wp2
        go_ret
        exact ⟨g5, c5, xs ++ [(a, b)], rfl, by simp; omega, HO.out, S5, G5.out⟩
      · have d0 : (t == 0) = false := by simpa using ht0
        by_cases ht1 : t = 1
        · subst ht1
          have HO := Lib.hid O3
          have HG := Lib.hid G3
          have HS := Lib.hid S3
          have hwy : y ≤ 1700 := by omega
          clear O3 G3 S3 hy hy1 hlen hle
          go_wp2
          rename World => wo
          go_loopw [3, 4] (fun rv yv wr => ∃ (c : Nat) (y : Int) (g : Nat) (xs : List Sp), yv = .int .i64 y ∧ rv = .slice (some ⟨g, 0, none⟩) xs.length c ∧ Hid (xs.length ≤ 13) ∧ Hid (0 ≤ y ∧ y ≤ 1700 + 2 * xs.length) ∧ Hid (Src wr p) ∧ Hid (wr.ownsRow w.heap.size 42 2 (.slice (some ⟨g, 0, none⟩) xs.length c) xs.length (spanCells xs)) ∧ Hid (w.grownBy wr (some p))) (fun rv _ _ => 13 - lenS rv)
          case atStart => exact ⟨c, y, g, xs, rfl, rfl, Lib.hid (by omega), Lib.hid ⟨by omega, by omega⟩, HS, HO, HG⟩
          case round =>
            clear HS HO HG
            obtain ⟨c, y, g, xs, rfl, rfl, hlen, hy, hS, hO, hG⟩ := hrel
            have hle := hlen.out
            obtain ⟨hy0, hy1⟩ := hy.out
            go_wp2_with fail
            refine (l01Next_any p 2 _ hS.out (by omega)).mono ?_
            rintro e_ w4 ⟨b, rfl, b0, b1, S4, g4⟩
            have O4 := own_srcP hO.out g4 hp
            have G4 := Lib.hid (grown_trans hG.out g4)
            have e1 : IntKind.i64.wrap (12 + b) = 12 + b := IntWalk.i64_in _ (by omega)
            have hp4 := S4.lt
            have hpp4 := G4.out.size
            clear hO hG hS g4
            by_cases hlt2 : (xs.length : Int) < 12 + b
            · have e2 : IntKind.i64.wrap (y + 2) = y + 2 := IntWalk.i64_in _ (by omega)
              go_wp2_with (at_builtin; refine wpList_append_own _ rfl _ _ 24 rfl w.heap.size 42 i0 (.agg #[.int .i64 0, .int .i64 0]) 2 16 Try.underlying24 hi hz0 hz1 hz2 rfl (by decide) _ _ _ rfl (O4.alloc _) ⟨w4.heap.size, 0, none⟩ 1 1 [.int .i64 y, .int .i64 y] rfl rfl ?c1 ?c2 ?c3 ?c4 ?c5 ?_)
              case c1 => exact cell_two_newS _ _ _ _
              case c2 => simp [Value.oneCell']
              case c3 => unfold maxLen; omega
              case c4 => omega
              case c5 => first | omega | (simp; omega)
              intro v5 w5 own5 grow5 _
              have HO0 : w5.ownsRow w.heap.size 42 2 v5 (xs ++ [(y, y)]).length (spanCells (xs ++ [(y, y)])) := by rw [List.length_append, spanCells_append]; exact own5
              obtain ⟨g5, c5, hv5⟩ := own_shapeS HO0 (by simp)
              subst hv5
              have HO := Lib.hid HO0
              have HS := Lib.hid ((S4.below (box1 w4 (.cells #[.int .i64 y, .int .i64 y] 42))).grownP grow5 (fun z hz => by have := (O4.lt z hz).1; omega))
              have HG := Lib.hid (grown_own (grown_trans G4.out (grown_below (box1 w4 (.cells #[.int .i64 y, .int .i64 y] 42)))) grow5 (fun z hz => (O4.lt z hz).1))
              have HL := Lib.hid (show (xs ++ [(y, y)]).length ≤ 13 by simp; omega)
              have HY := Lib.hid (show 0 ≤ y + 2 ∧ y + 2 ≤ 1700 + 2 * ((xs ++ [(y, y)]).length : Int) from ⟨by omega, by simp; omega⟩)
              clear own5 grow5 O4 G4 S4 HO0
              go_wp2
              go_roundw
              case rel => exact ⟨c5, y + 2, g5, xs ++ [(y, y)], rfl, (by simp), HL, HY, HS, HO, HG⟩
              case measure => simp [lenS]; omega
            · go_wp2
              go_ret
              exact ⟨g, c, xs, rfl, hle, O4, S4, G4.out⟩
        · have d1 : (t == 1) = false := by simpa using ht1
          go_wp2
          go_ret
          exact ⟨g, c, xs, rfl, by omega, O3, S3, G3⟩
end Go.Proofs.Ytldikfikcnkgcaa
