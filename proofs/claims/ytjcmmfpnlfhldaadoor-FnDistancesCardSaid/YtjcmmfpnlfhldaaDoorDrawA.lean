/- Draws of words. -/
import Derived.Test.YtjcmmfpnlfhldaaDoorDraw
import Derived.Test.YtjcmmfpnlfhldaaDoorGrown
namespace Go.Proofs.YtjcmmfpnlfhldaaDoor
open Go.ChangeShapes Go.WideShapes Go.ChangeAt Go.RowKit

/-- a list of texts in memory, each of at most B bytes -/
def Parts (w : World) (g n B : Nat) : Prop := ∀ k, k < n → ∃ t : ByteArray, w.cell? ⟨g, k, none⟩ = some (.string t) ∧ t.size ≤ B
theorem Parts.grown {w w' : World} {p g n B : Nat} (h : Parts w g n B) (hg : w.grownBy w' (some p)) (hne : p ≠ g) : Parts w' g n B := fun k hk => by
  obtain ⟨t, ht, hb⟩ := h k hk
  exact ⟨t, grown_cell hg ht (by simpa using hne), hb⟩
theorem Parts.below {w w' : World} {g n B : Nat} (h : Parts w g n B) (hb : Below w.heap.size w w') : Parts w' g n B := fun k hk => by
  obtain ⟨t, ht, hB⟩ := h k hk
  exact ⟨t, cell_keep hb ht, hB⟩
theorem parts_alloc (w : World) (L : List ByteArray) (t : TypeId) (B : Nat) (hL : ∀ x ∈ L, x.size ≤ B) : Parts (w.alloc (.cells (L.map Value.string).toArray t)) w.heap.size L.length B := fun k hk =>
  ⟨L[k], by go_simp, hL _ (List.getElem_mem hk)⟩
/-- what a draw of a text returns -/
def TextPost (p B : Nat) (w : World) (e : Ending) (w' : World) : Prop := ∃ t : ByteArray, e = .returned (.string t) ∧ t.size ≤ B ∧ Src w' p ∧ w.grownBy w' (some p)
theorem box1 (w : World) (x : Obj) : Below w.heap.size w (w.alloc x) := (Below.refl _ _).alloc (Nat.le_refl _) _
theorem Src.lt {w : World} {p : Nat} (h : Src w p) : p < w.heap.size := by
  obtain ⟨_, _, _, _, _, _, h⟩ := h
  exact h.lt
set_option maxRecDepth 100000 in
set_option maxHeartbeats 2000000 in
theorem l01Good_any (p : Nat) (w : World) (h : Src w p) : Calls Tryd.prog 25 #[.pointer (some ⟨p, 0, none⟩)] w (TextPost p 12 w) := by
  have hp := h.lt
  go_enter Tryd.func25, Tryd.ntmps25
  have P0 := parts_alloc w [⟨#[97, 115, 104]⟩, ⟨#[102, 111, 114, 100]⟩, ⟨#[116, 111, 110]⟩, ⟨#[98, 121]⟩, ⟨#[107, 105, 114, 107]⟩, ⟨#[104, 97, 114]⟩, ⟨#[119, 105, 99, 107]⟩, ⟨#[101, 108, 121]⟩, ⟨#[111, 115]⟩, ⟨#[108, 111]⟩, ⟨#[98, 114, 105, 103]⟩, ⟨#[109, 97]⟩, ⟨#[114, 105]⟩, ⟨#[110, 97]⟩, ⟨#[115, 116]⟩, ⟨#[97, 101]⟩] 9 4 (by decide)
  replace P0 : Parts _ w.heap.size 16 4 := P0
  have S0 := h.below (box1 w (.cells #[.string ⟨#[97, 115, 104]⟩, .string ⟨#[102, 111, 114, 100]⟩, .string ⟨#[116, 111, 110]⟩, .string ⟨#[98, 121]⟩, .string ⟨#[107, 105, 114, 107]⟩, .string ⟨#[104, 97, 114]⟩, .string ⟨#[119, 105, 99, 107]⟩, .string ⟨#[101, 108, 121]⟩, .string ⟨#[111, 115]⟩, .string ⟨#[108, 111]⟩, .string ⟨#[98, 114, 105, 103]⟩, .string ⟨#[109, 97]⟩, .string ⟨#[114, 105]⟩, .string ⟨#[110, 97]⟩, .string ⟨#[115, 116]⟩, .string ⟨#[97, 101]⟩] 9))
  go_wp2_with fail
  refine (l01Next_any p 3 _ S0 (by omega)).mono ?_
  rintro e_ w1 ⟨r, rfl, r0, r1, S1, g1⟩
  have P1 := P0.grown g1 (by omega)
  have e1 : IntKind.i64.wrap (1 + r) = 1 + r := IntWalk.i64_in _ (by omega)
  go_wp2
  have G1 := Lib.hid (grown_trans (grown_below (box1 w (.cells #[.string ⟨#[97, 115, 104]⟩, .string ⟨#[102, 111, 114, 100]⟩, .string ⟨#[116, 111, 110]⟩, .string ⟨#[98, 121]⟩, .string ⟨#[107, 105, 114, 107]⟩, .string ⟨#[104, 97, 114]⟩, .string ⟨#[119, 105, 99, 107]⟩, .string ⟨#[101, 108, 121]⟩, .string ⟨#[111, 115]⟩, .string ⟨#[108, 111]⟩, .string ⟨#[98, 114, 105, 103]⟩, .string ⟨#[109, 97]⟩, .string ⟨#[114, 105]⟩, .string ⟨#[110, 97]⟩, .string ⟨#[115, 116]⟩, .string ⟨#[97, 101]⟩] 9)) (row := some p)) g1)
  obtain ⟨q, hq⟩ : ∃ q : Nat, 1 + r = q := ⟨(1 + r).toNat, by omega⟩
  have hq3 : q ≤ 3 := by omega
  rw [hq]
  clear hq r0 r1 e1 P0 S0 g1
  have HS := Lib.hid (And.intro S1 P1)
  clear S1 P1
  go_loopw [4, 5] (fun ov i wr => ∃ (k : Nat) (t : ByteArray), k ≤ q ∧ i = .int .i64 k ∧ ov = .string t ∧ Hid (t.size + 4 * k ≤ 12) ∧ Hid (Src wr p ∧ Parts wr w.heap.size 16 4) ∧ Hid (w.grownBy wr (some p))) (fun _ i _ => (intOf i).toNat)
  case atStart => exact ⟨q, ⟨#[]⟩, Nat.le_refl _, rfl, rfl, Lib.hid (show (0 : Nat) + 4 * q ≤ 12 by omega), HS, G1⟩
  case round =>
    clear HS G1
    obtain ⟨k, t, hk, rfl, rfl, ht, hs, hg⟩ := hrel
    by_cases hlt : 0 < k
    · have hj0 : (0 : Int) < (k : Int) := by omega
      go_wp2_with fail
      refine (l01Next_any p 16 _ hs.out.1 (by omega)).mono ?_
      rintro e_ w2 ⟨r, rfl, r0, r1, S2, g2⟩
      have P2 := hs.out.2.grown g2 (by omega)
      have G2 := Lib.hid (grown_trans hg.out g2)
      obtain ⟨j, rfl⟩ : ∃ j : Nat, r = j := ⟨r.toNat, by omega⟩
      obtain ⟨x, hx, hx4⟩ := P2 j (by omega)
      have HS2 := Lib.hid (And.intro S2 P2)
      have hT := Lib.hid (show (t ++ x).size + 4 * (k - 1) ≤ 12 by have := ht.out; rw [ByteArray.size_append]; omega)
      have e1 : IntKind.i64.wrap ((k : Int) - 1) = ((k - 1 : Nat) : Int) := by rw [IntWalk.i64_in _ (by omega)]; omega
      have j1 : (j : Int) < 16 := by omega
      have ht2 : t.size ≤ 12 := by have := ht.out; omega
      clear S2 P2 hs hg ht g2
      go_wp2
      go_roundw
      case rel => exact ⟨k - 1, _, by omega, by first | rfl | go_num, rfl, hT, HS2, G2⟩
      case measure => simp [intOf]; omega
    · obtain rfl : k = 0 := by omega
      go_wp2
      go_ret
      exact ⟨t, rfl, by have := ht.out; omega, hs.out.1, hg.out⟩
set_option maxRecDepth 100000 in
set_option maxHeartbeats 2000000 in
theorem l01DrawWord_any (p : Nat) (w : World) (h : Src w p) : Calls Tryd.prog 21 #[.pointer (some ⟨p, 0, none⟩)] w (TextPost p 17 w) := by
  have hp := h.lt
  go_enter Tryd.func21, Tryd.ntmps21
  go_wp2_with fail
  refine (l01Next_any p 30 _ h (by omega)).mono ?_
  rintro e_ w1 ⟨r, rfl, r0, r1, S1, g1⟩
  have hz1 := g1.size
  by_cases hr : r = 0
  · subst hr
    go_wp2_with fail
    have P0 := parts_alloc w1 [⟨#[]⟩, ⟨#[70, 111, 114, 100]⟩, ⟨#[97, 49]⟩, ⟨#[97, 98, 99, 100, 101, 102, 103, 104, 105, 106, 107, 108, 109, 110, 111, 112]⟩, ⟨#[97, 98, 99, 100, 101, 102, 103, 104, 105, 106, 107, 108, 109, 110, 111, 112, 113]⟩, ⟨#[97, 32, 98]⟩] 9 17 (by decide)
    replace P0 : Parts _ w1.heap.size 6 17 := P0
    have HB := box1 w1 (.cells ([⟨#[]⟩, ⟨#[70, 111, 114, 100]⟩, ⟨#[97, 49]⟩, ⟨#[97, 98, 99, 100, 101, 102, 103, 104, 105, 106, 107, 108, 109, 110, 111, 112]⟩, ⟨#[97, 98, 99, 100, 101, 102, 103, 104, 105, 106, 107, 108, 109, 110, 111, 112, 113]⟩, ⟨#[97, 32, 98]⟩].map Value.string).toArray 9)
    refine (l01Next_any p 6 _ (S1.below HB) (by omega)).mono ?_
    rintro e_ w2 ⟨r, rfl, r0, r1, S2, g2⟩
    have P2 := P0.grown g2 (by omega)
    have G2 := grown_trans (grown_trans g1 (grown_below HB)) g2
    obtain ⟨j, rfl⟩ : ∃ j : Nat, r = j := ⟨r.toNat, by omega⟩
    obtain ⟨x, hx, hx4⟩ := P2 j (by omega)
    have j1 : (j : Int) < 6 := by omega
    go_wp2
    go_ret
    exact ⟨x, rfl, hx4, S2, G2⟩
  · have hr2 : (r == 0) = false := by simpa using hr
    go_wp2_with fail
    refine (l01Good_any p _ S1).mono ?_
    rintro e_ w2 ⟨t, rfl, ht, S2, g2⟩
    go_wp2
    go_ret
    exact ⟨t, rfl, by omega, S2, grown_trans g1 g2⟩
end Go.Proofs.YtjcmmfpnlfhldaaDoor
