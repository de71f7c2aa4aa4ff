/- Draws of the texts of rules. -/
import Derived.Test.YtfacbdliegemgaaGreatDoorDrawR
import Derived.Test.YtfacbdliegemgaaGreatDoorRxLaw
namespace Go.Proofs.YtfacbdliegemgaaGreatDoor
open Go.ChangeShapes Go.WideShapes Go.ChangeAt Go.RowKit

set_option maxRecDepth 100000 in
set_option maxHeartbeats 4000000 in
theorem DrawReadRule_any (A : Option Addr) (n c : Nat) (bs : List UInt8) (w : World) (hx : Bytes w A n c bs) : Calls Tryz.prog 8 #[.slice A n c] w fun e w' => ∃ t : ByteArray, e = .returned (.string t) ∧ t.size ≤ 1000 ∧ Below w.heap.size w w' := by
  go_enter Tryz.func8, Tryz.ntmps8
  go_wp2_with fail
  refine (l01From_any A n c bs w hx).mono ?_
  rintro e_ w1 ⟨rfl, S1, b1⟩
  generalize hp : w.heap.size = p at *
  go_wp2_with fail
  refine (l04DrawRule_any p _ S1).mono ?_
  rintro e_ w2 ⟨v, xs, r, rfl, hr, O2, S2, g2⟩
  obtain ⟨A2, c2, rfl, x2⟩ := own_ints_ O2
  have BB := box1 w2 (.cells #[.slice A2 xs.length c2, .string r] 26)
  have Y2 := box2_new w2 (.slice A2 xs.length c2) (.string r) 26
  have S3 := S2.below BB
  have x3 := x2.below BB
  have hlt2 := S2.lt
  have B3 := Lib.hid ((below_srcP b1 g2 hp).alloc (Nat.le_of_lt hlt2) (.cells #[.slice A2 xs.length c2, .string r] 26))
  have hlt3 := S3.lt
  have mr : r.size ≤ maxLen := by unfold maxLen; omega
  clear b1 g2 hx S1 O2 x2 BB
  have fin : ∀ (t : ByteArray) (W : World), t.size ≤ 500 → Below p w W → ∀ W' (u : ByteArray), u.size ≤ t.size + 1 → W.grownBy W' (some p) → ∃ t : ByteArray, (Ending.returned (.string u)) = .returned (.string t) ∧ t.size ≤ 1000 ∧ Below p w W' := fun t W h1 h2 W' u h3 h4 => ⟨u, rfl, by omega, below_srcP h2 h4 hp⟩
  cases hir : isRl (xs, r)
  · go_wp2_with fail
    refine (isb (IsRule_spec A2 _ c2 xs r _ x3 mr) hir).mono ?_
    rintro e_ w4 ⟨rfl, h4⟩
    have S4 := S3.below h4
    have B4 := Lib.hid (B3.out.trans (h4.mono (Nat.le_of_lt hlt3)))
    clear h4 S3 B3
    go_wp2_with fail
    refine (l01Next_any p 3 _ S4 (by omega)).mono ?_
    rintro e_ w5 ⟨k, rfl, k0, k1, S5, g5⟩
    have B5 := Lib.hid (below_srcP B4.out g5 hp)
    by_cases hk : k = 0
    · subst hk
      go_wp2_with fail
      refine (l01Damage_any p ⟨#[48, 43, 49, 61, 97, 98]⟩ _ S5 (by decide)).mono ?_
      rintro e_ w6 ⟨u, rfl, hu, S6, g6⟩
      have hu2 : u.size ≤ 7 := hu
      go_wp2
      go_ret
      exact ⟨u, rfl, by omega, by first | exact below_srcP B5.out g6 hp | (rw [hp]; exact below_srcP B5.out g6 hp)⟩
    · have hk2 : (k == 0) = false := by simpa using hk
      go_wp2
      go_ret
      exact ⟨_, rfl, by decide, by first | exact B5.out | (rw [hp]; exact B5.out)⟩
  · have hz := rx_size (xs, r)
    have hl4 := fun W h => l04Text_any A2 xs.length c2 xs r W h hir
    have hrt : rxText (xs, r) = rtext (xs, r) := by unfold rxText; rw [if_pos hir]
    rw [hrt] at hz
    obtain ⟨t, htt⟩ : ∃ t, rtext (xs, r) = t := ⟨_, rfl⟩
    rw [htt] at hl4 hz
    clear htt hrt
    go_wp2_with fail
    refine (isb (IsRule_spec A2 _ c2 xs r _ x3 mr) hir).mono ?_
    rintro e_ w4 ⟨rfl, h4⟩
    have S4 := S3.below h4
    have x4 := x3.below h4
    have Y4 := Y2.below h4
    have B4 := Lib.hid (B3.out.trans (h4.mono (Nat.le_of_lt hlt3)))
    have hlt4 := S4.lt
    obtain ⟨y0, y1, yf0, yf1, yl⟩ := Y4
    clear h4 S3 B3 x3 Y2
    go_wp2_with fail
    refine (hl4 _ x4).mono ?_
    rintro e_ w7 ⟨rfl, h7⟩
    have S7 := S4.below h7
    have B7 := Lib.hid (B4.out.trans (h7.mono (Nat.le_of_lt hlt4)))
    clear h7 S4 B4 x4 hl4 y0 y1 yf0 yf1 yl
    go_wp2_with fail
    refine (l01Next_any p 3 _ S7 (by omega)).mono ?_
    rintro e_ w5 ⟨k, rfl, k0, k1, S5, g5⟩
    have B5 := Lib.hid (below_srcP B7.out g5 hp)
    by_cases hk : k = 0
    · subst hk
      go_wp2_with fail
      refine (l01Damage_any p t _ S5 (by omega)).mono ?_
      rintro e_ w6 ⟨u, rfl, hu, S6, g6⟩
      go_wp2
      go_ret
      exact ⟨u, rfl, by omega, by first | exact below_srcP B5.out g6 hp | (rw [hp]; exact below_srcP B5.out g6 hp)⟩
    · have hk2 : (k == 0) = false := by simpa using hk
      go_wp2
      go_ret
      exact ⟨_, rfl, by omega, by first | exact B5.out | (rw [hp]; exact B5.out)⟩
end Go.Proofs.YtfacbdliegemgaaGreatDoor
