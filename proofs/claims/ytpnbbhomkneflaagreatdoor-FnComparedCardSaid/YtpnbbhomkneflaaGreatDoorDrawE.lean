/- Draws of an alphabet, phrases and ignored letters, for comparing. -/
import Derived.Test.YtpnbbhomkneflaaGreatDoorDrawH

import Derived.Deep.RegionLaw
import Derived.Deep.RegionWith
namespace Go.Proofs.YtpnbbhomkneflaaGreatDoor
open Go.ChangeShapes Go.WideShapes Go.ChangeAt Go.RowKit

def letters21 : List ByteArray := [⟨#[97]⟩, ⟨#[98]⟩, ⟨#[100]⟩, ⟨#[101]⟩, ⟨#[102]⟩, ⟨#[103]⟩, ⟨#[104]⟩, ⟨#[105]⟩, ⟨#[107]⟩, ⟨#[108]⟩, ⟨#[109]⟩, ⟨#[110]⟩, ⟨#[111]⟩, ⟨#[114]⟩, ⟨#[115]⟩, ⟨#[116]⟩, ⟨#[119]⟩, ⟨#[121]⟩, ⟨#[99]⟩, ⟨#[115, 104]⟩, ⟨#[97, 101]⟩]
theorem letters21_is : letters21.length = 21 ∧ ∀ x ∈ letters21, x.size ≤ 4 := by decide
set_option maxRecDepth 100000 in
set_option maxHeartbeats 4000000 in
theorem l06Letters_any (p : Nat) (w : World) (h : Src w p) : Calls Tryz.prog 23 #[.pointer (some ⟨p, 0, none⟩)] w (AlphaPost 60 p w) := by
  have hp := h.lt
  obtain ⟨i0, hi, hz0, hz1, hz2⟩ := info_parts infoStr
  go_enter Tryz.func23, Tryz.ntmps23
  go_wp2_with fail
  refine (l01Next_any p 12 _ h (by omega)).mono ?_
  rintro e_ w1 ⟨r, rfl, r0, r1, S1, g1⟩
  by_cases hr : r = 0
  · subst hr
    go_wp2_with fail
    refine (l03Draw_any p _ S1).mono ?_
    rintro e_ w2 ⟨v, xs, rfl, hl, hz, O2, S2, g2⟩
    have HO := Lib.hid (own_base O2 g1.size)
    clear O2
    go_wp2
    go_ret
    exact ⟨v, xs, rfl, hl, hz, HO.out, S2, grown_trans g1 g2⟩
  · have hr2 : (r == 0) = false := by simpa using hr
    have O2 : (w1.alloc (.cells #[.string ⟨#[97]⟩, .string ⟨#[98]⟩, .string ⟨#[100]⟩, .string ⟨#[101]⟩, .string ⟨#[102]⟩, .string ⟨#[103]⟩, .string ⟨#[104]⟩, .string ⟨#[105]⟩, .string ⟨#[107]⟩, .string ⟨#[108]⟩, .string ⟨#[109]⟩, .string ⟨#[110]⟩, .string ⟨#[111]⟩, .string ⟨#[114]⟩, .string ⟨#[115]⟩, .string ⟨#[116]⟩, .string ⟨#[119]⟩, .string ⟨#[121]⟩, .string ⟨#[99]⟩, .string ⟨#[115, 104]⟩, .string ⟨#[97, 101]⟩] 9)).ownsRow w1.heap.size 9 1 (.slice (some ⟨w1.heap.size, 0, none⟩) 21 21) 21 (letters21.map Value.string) := World.ownsRow_lit (base := w1.heap.size) (e := 9) (size := 1) w1 (letters21.map Value.string).toArray 21 (Nat.le_refl _) (by unfold maxLen; omega) rfl
    have S2 := S1.below (box1 w1 (.cells #[.string ⟨#[97]⟩, .string ⟨#[98]⟩, .string ⟨#[100]⟩, .string ⟨#[101]⟩, .string ⟨#[102]⟩, .string ⟨#[103]⟩, .string ⟨#[104]⟩, .string ⟨#[105]⟩, .string ⟨#[107]⟩, .string ⟨#[108]⟩, .string ⟨#[109]⟩, .string ⟨#[110]⟩, .string ⟨#[111]⟩, .string ⟨#[114]⟩, .string ⟨#[115]⟩, .string ⟨#[116]⟩, .string ⟨#[119]⟩, .string ⟨#[121]⟩, .string ⟨#[99]⟩, .string ⟨#[115, 104]⟩, .string ⟨#[97, 101]⟩] 9))
    have G2 := grown_trans g1 (grown_below (box1 w1 (.cells #[.string ⟨#[97]⟩, .string ⟨#[98]⟩, .string ⟨#[100]⟩, .string ⟨#[101]⟩, .string ⟨#[102]⟩, .string ⟨#[103]⟩, .string ⟨#[104]⟩, .string ⟨#[105]⟩, .string ⟨#[107]⟩, .string ⟨#[108]⟩, .string ⟨#[109]⟩, .string ⟨#[110]⟩, .string ⟨#[111]⟩, .string ⟨#[114]⟩, .string ⟨#[115]⟩, .string ⟨#[116]⟩, .string ⟨#[119]⟩, .string ⟨#[121]⟩, .string ⟨#[99]⟩, .string ⟨#[115, 104]⟩, .string ⟨#[97, 101]⟩] 9)))
    have hs2 : w1.heap.size < (w1.alloc (.cells #[.string ⟨#[97]⟩, .string ⟨#[98]⟩, .string ⟨#[100]⟩, .string ⟨#[101]⟩, .string ⟨#[102]⟩, .string ⟨#[103]⟩, .string ⟨#[104]⟩, .string ⟨#[105]⟩, .string ⟨#[107]⟩, .string ⟨#[108]⟩, .string ⟨#[109]⟩, .string ⟨#[110]⟩, .string ⟨#[111]⟩, .string ⟨#[114]⟩, .string ⟨#[115]⟩, .string ⟨#[116]⟩, .string ⟨#[119]⟩, .string ⟨#[121]⟩, .string ⟨#[99]⟩, .string ⟨#[115, 104]⟩, .string ⟨#[97, 101]⟩] 9)).heap.size := by simp
    obtain ⟨hxl, hxz⟩ := letters21_is
    go_wp2_with fail
    generalize letters21 = xs at *
    generalize w1.alloc (.cells #[.string ⟨#[97]⟩, .string ⟨#[98]⟩, .string ⟨#[100]⟩, .string ⟨#[101]⟩, .string ⟨#[102]⟩, .string ⟨#[103]⟩, .string ⟨#[104]⟩, .string ⟨#[105]⟩, .string ⟨#[107]⟩, .string ⟨#[108]⟩, .string ⟨#[109]⟩, .string ⟨#[110]⟩, .string ⟨#[111]⟩, .string ⟨#[114]⟩, .string ⟨#[115]⟩, .string ⟨#[116]⟩, .string ⟨#[119]⟩, .string ⟨#[121]⟩, .string ⟨#[99]⟩, .string ⟨#[115, 104]⟩, .string ⟨#[97, 101]⟩] 9) = W2 at *
    have hwg : w.heap.size ≤ w1.heap.size := g1.size
    generalize w1.heap.size = g at *
    refine (l01Next_any p 21 _ S2 (by omega)).mono ?_
    rintro e_ w3 ⟨r, rfl, r0, r1, S3, g3⟩
    obtain ⟨q, rfl⟩ : ∃ q : Nat, r = q := ⟨r.toNat, by omega⟩
    have hpg : p < g := by omega
    have O3 := own_srcP O2 g3 hpg
    have G3 := grown_trans G2 g3
    have hz3 : g < w3.heap.size := Nat.lt_of_lt_of_le hs2 g3.size
    have hcell : ∀ j x, xs[j]? = some x → w3.cell? ⟨g, 0 + j, none⟩ = some (.string x) := fun j x hj => by
      have hjl : j < xs.length := (List.getElem?_eq_some_iff.1 hj).1
      have c := O3.cellAt j (by omega)
      rw [List.getElem?_map, hj] at c
      rw [Nat.zero_add]
      exact c
    clear O2 G2 g1 S1 S2 O3 hs2 h
    have hql : q ≤ 21 := by omega
    have hq3 : q < 21 := by omega
    have hql2 : (q : Int) ≤ 21 := by omega
    have hcq : ¬ 21 = q := by omega
    have hcq2 : ¬ q = 21 := by omega
    have hq0 : (0 : Int) ≤ (q : Int) := by omega
    have oneA : ∀ u ∈ (xs.drop q).map Value.string, u.oneCell' = true := fun u hu => by obtain ⟨x, _, rfl⟩ := List.mem_map.1 hu; rfl
    have oneB : ∀ u ∈ (xs.take q).map Value.string, u.oneCell' = true := fun u hu => by obtain ⟨x, _, rfl⟩ := List.mem_map.1 hu; rfl
    have hgne : w3.heap.size ≠ g := by omega
    have ownA : (w3.drew.alloc (.cells #[] 9)).ownsRow w3.heap.size 9 1 (.slice (some ⟨w3.heap.size, 0, none⟩) 0 0) 0 [] := World.ownsRow_lit (base := w3.heap.size) (e := 9) (size := 1) w3.drew #[] 0 (Nat.le_refl _) (by unfold maxLen; omega) rfl
    have newsA : ∀ j u, ((xs.drop q).map Value.string)[j]? = some u → (w3.drew.alloc (.cells #[] 9)).cell? ((⟨g, 0 + q, none⟩ : Addr).add j) = some u := fun j u hu => by
      rw [List.getElem?_map, List.getElem?_drop] at hu
      obtain ⟨x, hx, rfl⟩ := Option.map_eq_some_iff.1 hu
      have h := hcell _ _ hx
      rw [← Nat.add_assoc] at h
      exact cell_keep (box1 w3.drew (.cells #[] 9)) (show w3.drew.cell? ((⟨g, 0 + q, none⟩ : Addr).add j) = some (.string x) from by rw [addr_add]; exact h)
    rw [Nat.zero_add] at newsA
    go_wp2_with fail
    (go_region_law (first
      | (refine step_own_at rfl _ _ 24 rfl w3.heap.size 9 i0 (.string ⟨#[]⟩) 1 16 Tryz.underlying24 hi hz0 hz1 hz2 rfl (by decide) _ _ _ rfl ownA _ _ _ ((xs.drop q).map Value.string) rfl (by simp [hxl]) newsA oneA (by unfold maxLen; omega) (by omega) (by simp) ?_; intro v5 w5 own5 grow5; have newsB := (show ∀ j u, ((xs.take q).map Value.string)[j]? = some u → w5.cell? ((⟨g, 0, none⟩ : Addr).add j) = some u from fun j u hu => by
          rw [List.getElem?_map, List.getElem?_take] at hu
          split at hu
          · obtain ⟨x, hx, rfl⟩ := Option.map_eq_some_iff.1 hu
            rw [addr_add]
            exact grown_cell grow5 (cell_keep (box1 w3.drew (.cells #[] 9)) (show w3.drew.cell? ⟨g, 0 + j, none⟩ = some (.string x) from hcell _ _ hx)) (fun e => hgne (Option.some.inj e))
          · cases hu))
      | (refine step_own_at rfl _ _ 24 rfl w3.heap.size 9 i0 (.string ⟨#[]⟩) 1 16 Tryz.underlying24 hi hz0 hz1 hz2 rfl (by decide) _ _ _ rfl own5 _ _ _ ((xs.take q).map Value.string) rfl (by simp [hxl]; omega) newsB oneB (by unfold maxLen; omega) (by omega) (by have := grow5.size; simp at this; omega) ?_; intro v6 w6 own6 grow6)))
    have hz4 := S3.lt
    have S5 := ((S3.below (Below.refl _ _).drew).below (box1 w3.drew (.cells #[] 9))).grownP grow5 (fun k hk => by have e : w3.heap.size = k := Option.some.inj hk; omega)
    have S6 := S5.grownP grow6 (fun k hk => by have := (own5.lt k hk).1; omega)
    have G4 := grown_trans G3 (grown_trans (grown_below (Below.refl _ _).drew) (grown_below (box1 w3.drew (.cells #[] 9))))
    have G6 := grown_own (grown_own G4 grow5 (fun k hk => by have e : w3.heap.size = k := Option.some.inj hk; omega)) grow6 (fun k hk => by have := (own5.lt k hk).1; omega)
    have el : 0 + (21 - q) + q = (xs.drop q ++ xs.take q).length := by simp [hxl]; omega
    rw [el] at own6
    have HO := Lib.hid (show w6.ownsRow w.heap.size 9 1 v6 (xs.drop q ++ xs.take q).length ((xs.drop q ++ xs.take q).map Value.string) from own_base (by simpa using own6) (by omega))
    have hlq : (xs.drop q ++ xs.take q).length = 21 := by simp [hxl]; omega
    go_wp2
    go_ret
    exact ⟨v6, xs.drop q ++ xs.take q, rfl, by omega, fun x hx => by
      rcases List.mem_append.1 hx with h | h
      · exact hxz x (List.mem_of_mem_drop h)
      · exact hxz x (List.mem_of_mem_take h), HO.out, S6, G6⟩
/-- what a draw of ignored letters returns -/
def IgnPost (p : Nat) (w : World) (e : Ending) (w' : World) : Prop := ∃ (v : Value) (ig : List Int), e = .returned v ∧ ig.length ≤ 3 ∧ w'.ownsRow w.heap.size 2 1 v ig.length (ig.map (Value.int .i64)) ∧ Src w' p ∧ w.grownBy w' (some p)
set_option maxRecDepth 100000 in
set_option maxHeartbeats 4000000 in
theorem l06Ignored_any (p : Nat) (A : Option Addr) (n c : Nat) (w : World) (h : Src w p) (hn : n ≤ 1000000) : Calls Tryz.prog 17 #[.pointer (some ⟨p, 0, none⟩), .slice A n c] w (IgnPost p w) := by
  have hp := h.lt
  obtain ⟨i0, hi, hz0, hz1, hz2⟩ := info_parts infoInt
  go_enter Tryz.func17, Tryz.ntmps17
  go_wp2_with fail
  have HB := box1 w (.cells #[] 2)
  have O0 := World.ownsRow_lit (base := w.heap.size) (e := 2) (size := 1) w #[] 0 (Nat.le_refl _) (by unfold maxLen; omega) rfl
  refine (l01Next_any p 4 _ (h.below HB) (by omega)).mono ?_
  rintro e_ w1 ⟨r, rfl, r0, r1, S1, g1⟩
  have HO := Lib.hid (own_srcP O0 g1 hp)
  have HG := Lib.hid (grown_trans (grown_below HB (row := some p)) g1)
  have HS := Lib.hid S1
  have e1 : IntKind.i64.wrap (r - 1) = r - 1 := IntWalk.i64_in _ (by omega)
  have hm2 : r - 1 ≤ 2 := by omega
  have hm1 : -1 ≤ r - 1 := by omega
  clear O0 g1 S1 HB h r0 r1
  go_wp2
  clear e1
  go_loopw [5, 6] (fun rv i wr => ∃ (k : Int) (ys : List Int), -1 ≤ k ∧ k ≤ 2 ∧ i = .int .i64 k ∧ Hid ((ys.length : Int) + max k 0 ≤ 2) ∧ Hid (Src wr p) ∧ Hid (wr.ownsRow w.heap.size 2 1 rv ys.length (ys.map (Value.int .i64))) ∧ Hid (w.grownBy wr (some p))) (fun _ i _ => (intOf i).toNat)
  case atStart => exact ⟨r - 1, [], hm1, hm2, rfl, Lib.hid (by simp; omega), HS, HO, HG⟩
  case round =>
    clear HO HG HS
    obtain ⟨k, ys, hk1, hk2, rfl, hlen, hS, hO, hG⟩ := hrel
    have hle := hlen.out
    obtain ⟨Ay, cy, rfl, hyi⟩ := own_ints_ hO.out
    clear hyi
    by_cases hlt : 0 < k
    · have e2 : IntKind.i64.wrap (k - 1) = k - 1 := IntWalk.i64_in _ (by omega)
      go_wp2_with fail
      refine (l01Next_any p (max 1 (n : Int)) _ hS.out (by omega)).mono ?_
      rintro e_ w3 ⟨y, rfl, _, _, S3, g3⟩
      have O3 := own_srcP hO.out g3 hp
      have G3 := Lib.hid (grown_trans hG.out g3)
      have hpp3 := G3.out.size
      have hly : ys.length ≤ 2 := by omega
      clear hO hG hS g3
      go_wp2_with (at_builtin; refine wpList_append_own _ rfl _ _ 25 rfl w.heap.size 2 i0 (.int .i64 0) 1 8 Tryz.underlying25 hi hz0 hz1 hz2 rfl (by decide) _ _ _ rfl (O3.alloc _) ⟨w3.heap.size, 0, none⟩ 1 1 [.int .i64 y] rfl rfl ?c1 ?c2 ?c3 ?c4 ?c5 ?_)
      case c1 => exact cell_one_new _ _ _
      case c2 => simp [Value.oneCell']
      case c3 => unfold maxLen; omega
      case c4 => omega
      case c5 => simp; omega
      intro v4 w4 own4 grow4 _
      have HO : Hid (w4.ownsRow w.heap.size 2 1 v4 (ys ++ [y]).length ((ys ++ [y]).map (Value.int .i64))) := Lib.hid (by simpa using own4)
      have HS := Lib.hid ((S3.below (box1 w3 (.cells #[.int .i64 y] 2))).grownP grow4 (fun z hz => by have := (O3.lt z hz).1; omega))
      have HG := Lib.hid (grown_own (grown_trans G3.out (grown_below (box1 w3 (.cells #[.int .i64 y] 2)))) grow4 (fun z hz => (O3.lt z hz).1))
      have HL := Lib.hid (show ((ys ++ [y]).length : Int) + max (k - 1) 0 ≤ 2 by simp; omega)
      clear own4 grow4 O3 G3 S3
      go_wp2
      go_roundw
      case rel => exact ⟨k - 1, ys ++ [y], by omega, by omega, rfl, HL, HS, HO, HG⟩
      case measure => simp [intOf]; omega
    · go_wp2_with fail
      refine (l01Next_any p 24 _ hS.out (by omega)).mono ?_
      rintro e_ w3 ⟨t, rfl, t0, t1, S3, g3⟩
      have O3 := own_srcP hO.out g3 hp
      have G3 := grown_trans hG.out g3
      have hly : ys.length ≤ 2 := by omega
      clear hO hG hS g3
      by_cases ht0 : t = 0
      · subst ht0
        go_wp2_with fail
        have hx := ints_alloc w3 [-1, n] 2 (by simp [maxLen])
        have HB := box1 w3 (.cells ([-1, (n : Int)].map (Value.int .i64)).toArray 2)
        refine (l01Pick_any p _ 2 2 _ _ (S3.below HB) hx (by omega) (by omega) (by have := S3.lt; omega)).mono ?_
        rintro e_ w4 ⟨y, rfl, hy, S4, g4⟩
        have O4 := own_srcP (own_below O3 HB) g4 hp
        have G4 := Lib.hid (grown_trans (grown_trans G3 (grown_below HB)) g4)
        have hpp4 := G4.out.size
        clear O3 G3 S3 g4 HB hx
        go_wp2_with (at_builtin; refine wpList_append_own _ rfl _ _ 25 rfl w.heap.size 2 i0 (.int .i64 0) 1 8 Tryz.underlying25 hi hz0 hz1 hz2 rfl (by decide) _ _ _ rfl (O4.alloc _) ⟨w4.heap.size, 0, none⟩ 1 1 [.int .i64 y] rfl rfl ?c1 ?c2 ?c3 ?c4 ?c5 ?_)
        case c1 => exact cell_one_new _ _ _
        case c2 => simp [Value.oneCell']
        case c3 => unfold maxLen; omega
        case c4 => omega
        case c5 => simp; omega
        intro v5 w5 own5 grow5 _
        have HO : Hid (w5.ownsRow w.heap.size 2 1 v5 (ys ++ [y]).length ((ys ++ [y]).map (Value.int .i64))) := Lib.hid (by simpa using own5)
        have S5 := (S4.below (box1 w4 (.cells #[.int .i64 y] 2))).grownP grow5 (fun z hz => by have := (O4.lt z hz).1; omega)
        have G5 := Lib.hid (grown_own (grown_trans G4.out (grown_below (box1 w4 (.cells #[.int .i64 y] 2)))) grow5 (fun z hz => (O4.lt z hz).1))
        clear own5 grow5 O4 G4 S4
        go_wp2
        go_ret
        exact ⟨v5, ys ++ [y], rfl, by simp; omega, HO.out, S5, G5.out⟩
      · have d0 : (t == 0) = false := by simpa using ht0
        go_wp2
        go_ret
        exact ⟨_, ys, rfl, by omega, O3, S3, G3⟩
end Go.Proofs.YtpnbbhomkneflaaGreatDoor
