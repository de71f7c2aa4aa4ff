/- Draws of alphabets and of their texts. -/
import Derived.Test.YtbhibidgdlaeeaaDoorDrawH
namespace Go.Proofs.YtbhibidgdlaeeaaDoor
open Go.ChangeShapes Go.WideShapes Go.ChangeAt Go.RowKit

/-- what a draw of a list of texts returns -/
def AlphasPost (B : Nat) (w : World) (e : Ending) (w' : World) : Prop := ∃ (v : Value) (xs : List ByteArray), e = .returned v ∧ xs.length ≤ B ∧ (∀ x ∈ xs, x.size ≤ 4) ∧ w'.ownsRow w.heap.size 9 1 v xs.length (xs.map Value.string) ∧ Below w.heap.size w w'
theorem DrawAlphabetText_any (A : Option Addr) (n c : Nat) (bs : List UInt8) (w : World) (hx : Bytes w A n c bs) : Calls Tryd.prog 56 #[.slice A n c] w (AlphasPost 60 w) := by
  go_enter Tryd.func56, Tryd.ntmps56
  go_wp2_with fail
  refine (l01From_any A n c bs w hx).mono ?_
  rintro e_ w1 ⟨rfl, S1, b1⟩
  go_wp2_with fail
  refine (l03Draw_any _ _ S1).mono ?_
  rintro e_ w2 ⟨v, xs, rfl, hl, hz, O2, S2, g2⟩
  have HO := Lib.hid (own_base O2 b1.size)
  clear O2
  go_wp2
  go_ret
  exact ⟨v, xs, rfl, hl, hz, HO.out, below_srcP b1 g2 rfl⟩
set_option maxHeartbeats 1000000 in
theorem DrawReadAlphabet_any (A : Option Addr) (n c : Nat) (bs : List UInt8) (w : World) (hx : Bytes w A n c bs) : Calls Tryd.prog 59 #[.slice A n c] w fun e w' => ∃ t : ByteArray, e = .returned (.string t) ∧ t.size ≤ 1000 ∧ Below w.heap.size w w' := by
  go_enter Tryd.func59, Tryd.ntmps59
  go_wp2_with fail
  refine (l01From_any A n c bs w hx).mono ?_
  rintro e_ w1 ⟨rfl, S1, b1⟩
  generalize hp : w.heap.size = p at *
  go_wp2_with fail
  refine (l03Good_any p _ S1).mono ?_
  rintro e_ w2 ⟨v, xs, rfl, hl0, hl, hz, O2, S2, g2⟩
  have ht : total xs ≤ xs.length * 4 := total_le hz
  obtain ⟨A2, c2, rfl, hx2⟩ := own_strs O2 (fun x hx => by have := hz x hx; unfold maxLen; omega)
  have hjs := joined_size xs
  have hw := fun W h => l01Words_any A2 xs.length c2 xs W h (by omega)
  obtain ⟨t, htt⟩ : ∃ t, joined xs = t := ⟨_, rfl⟩
  rw [htt] at hw hjs
  have B2 := Lib.hid (below_srcP b1 g2 hp)
  clear htt O2 b1 g2 S1 hx
  go_wp2_with fail
  refine (hw _ hx2).mono ?_
  rintro e_ w3 ⟨rfl, h3⟩
  have S3 := S2.below h3
  have B3 := Lib.hid (B2.out.trans (h3.mono (Nat.le_of_lt S2.lt)))
  clear hw hx2 h3 B2 S2
  go_wp2_with fail
  refine (l01Next_any p 3 _ S3 (by omega)).mono ?_
  rintro e_ w4 ⟨r, rfl, r0, r1, S4, g4⟩
  have B4 := Lib.hid (below_srcP B3.out g4 hp)
  by_cases hr : r = 0
  · subst hr
    go_wp2_with fail
    refine (l01Damage_any p t _ S4 (by omega)).mono ?_
    rintro e_ w5 ⟨u, rfl, hu, S5, g5⟩
    go_wp2
    go_ret
    exact ⟨u, rfl, by omega, by have := below_srcP B4.out g5 hp; first | exact this | (rw [hp]; exact this)⟩
  · have hr2 : (r == 0) = false := by simpa using hr
    go_wp2
    go_ret
    exact ⟨t, rfl, by omega, by have := B4.out; first | exact this | (rw [hp]; exact this)⟩
end Go.Proofs.YtbhibidgdlaeeaaDoor
