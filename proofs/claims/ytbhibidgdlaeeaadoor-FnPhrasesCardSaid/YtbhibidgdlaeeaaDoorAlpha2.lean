/- Alphabets' texts: what the functions compute. -/
import Derived.Test.YtbhibidgdlaeeaaDoorAlpha
namespace Go.Proofs.YtbhibidgdlaeeaaDoor
open Go.ChangeShapes Go.WideShapes Go.ChangeAt Go.RowKit

def alCode (xs : List ByteArray) : Int := if isAlpha xs = true then 0 else 1
def alText (xs : List ByteArray) : ByteArray := if isAlpha xs = true then joined xs else ⟨#[]⟩
theorem al_cases (xs : List ByteArray) : (isAlpha xs = true ∧ Hid (alCode xs = 0 ∧ alText xs = joined xs)) ∨ (isAlpha xs = false ∧ Hid (alCode xs = 1 ∧ alText xs = ⟨#[]⟩)) := by
  unfold Hid alCode alText
  cases isAlpha xs <;> simp

set_option maxHeartbeats 400000 in
theorem AlphabetText_spec (A : Option Addr) (n c : Nat) (xs : List ByteArray) (w : World) (hx : Strs w A n c xs) (hT : total xs + n ≤ 1000000000000) :
    Calls Tryd.prog 58 #[.slice A n c] w fun e w' => e = .returned (.tuple #[.string (alText xs), .int .i64 (alCode xs)]) ∧ Below w.heap.size w w' := by
  rcases al_cases xs with ⟨h, hq⟩ | ⟨h, hq⟩
  · go_enter Tryd.func58, Tryd.ntmps58
    go_wp2_with fail
    refine (isb (IsAlphabet_spec A n c xs _ hx) h).mono ?_
    rintro e_ w1 ⟨rfl, h1⟩
    have hc_w1 := bcell h1; have hf_w1 := bfree h1
    go_wp2_with fail
    refine (l01Words_any A n c xs _ (hx.below h1) hT).mono ?_
    rintro e_ w2 ⟨rfl, h2⟩
    have hc_w2 := bcell h2; have hf_w2 := bfree h2
    go_wp2
    go_ret2
    exact ⟨by rw [hq.out.1, hq.out.2]; rfl, next h1 h2⟩
  · go_enter Tryd.func58, Tryd.ntmps58
    go_wp2_with fail
    refine (isb (IsAlphabet_spec A n c xs _ hx) h).mono ?_
    rintro e_ w1 ⟨rfl, h1⟩
    have hc_w1 := bcell h1; have hf_w1 := bfree h1
    go_wp2
    go_ret2
    exact ⟨by rw [hq.out.1, hq.out.2]; rfl, h1⟩
set_option maxHeartbeats 400000 in
theorem AlphabetText_impl (A : Option Addr) (n c : Nat) (xs : List ByteArray) (w : World) (hx : Strs w A n c xs) (hT : total xs + n ≤ 1000000000000) :
    Calls Tryd.prog 57 #[.slice A n c] w fun e w' => e = .returned (.tuple #[.string (alText xs), .int .i64 (alCode xs)]) ∧ Below w.heap.size w w' := by
  rcases al_cases xs with ⟨h, hq⟩ | ⟨h, hq⟩
  · go_enter Tryd.func57, Tryd.ntmps57
    go_wp2_with fail
    refine (isb (IsAlphabet_impl A n c xs _ hx) h).mono ?_
    rintro e_ w1 ⟨rfl, h1⟩
    have hc_w1 := bcell h1; have hf_w1 := bfree h1
    go_wp2_with fail
    refine (join_any A n c xs _ (hx.below h1) hT).mono ?_
    rintro e_ w2 ⟨rfl, h2⟩
    have hc_w2 := bcell h2; have hf_w2 := bfree h2
    go_wp2
    go_ret2
    exact ⟨by rw [hq.out.1, hq.out.2]; rfl, next h1 h2⟩
  · go_enter Tryd.func57, Tryd.ntmps57
    go_wp2_with fail
    refine (isb (IsAlphabet_impl A n c xs _ hx) h).mono ?_
    rintro e_ w1 ⟨rfl, h1⟩
    have hc_w1 := bcell h1; have hf_w1 := bfree h1
    go_wp2
    go_ret2
    exact ⟨by rw [hq.out.1, hq.out.2]; rfl, h1⟩

/-- ReadAlphabet's answer -/
def raList (s : ByteArray) : List ByteArray := if isAlpha (cutS 32 s) = true then cutS 32 s else []
def raCode (s : ByteArray) : Int := if isAlpha (cutS 32 s) = true then 0 else 6
theorem ra_cases (s : ByteArray) : (isAlpha (cutS 32 s) = true ∧ Hid (raCode s = 0 ∧ raList s = cutS 32 s)) ∨ (isAlpha (cutS 32 s) = false ∧ Hid (raCode s = 6 ∧ raList s = [])) := by
  unfold Hid raCode raList
  cases isAlpha (cutS 32 s) <;> simp
set_option maxHeartbeats 1000000 in
theorem ReadAlphabet_spec (s : ByteArray) (w : World) (hs : s.size ≤ 1048576) :
    Calls Tryd.prog 61 #[.string s] w fun e w' => ∃ v, e = .returned (.tuple #[v, .int .i64 (raCode s)]) ∧ w'.ownsRow w.heap.size 9 1 v (raList s).length ((raList s).map Value.string) ∧ Below w.heap.size w w' := by
  have hsp := Lib.hid (l01Split_any 32 s w hs)
  have hmx := cut_max hs
  rcases ra_cases s with ⟨h, hq⟩ | ⟨h, hq⟩
  all_goals
    go_enter Tryd.func61, Tryd.ntmps61
    go_wp2_with fail
    refine hsp.out.mono ?_
    rintro e_ w1 ⟨v, rfl, hown, hb1⟩
    obtain ⟨A, c, rfl, hx⟩ := own_strs hown hmx.2
    have HW := Lib.hid hown
    clear hown
    go_wp2_with fail
    refine (isb (IsAlphabet_spec A _ c _ _ hx) h).mono ?_
    rintro e_ w2 ⟨rfl, h2⟩
    have hc_w2 := bcell h2; have hf_w2 := bfree h2
    go_wp2
    go_ret2
    exact ⟨_, by rw [hq.out.1]; rfl, by rw [hq.out.2]; first | exact World.ownsRow_nil _ _ _ _ | exact own_below HW.out h2, next hb1 h2⟩
set_option maxHeartbeats 1000000 in
theorem ReadAlphabet_impl (s : ByteArray) (w : World) (hs : s.size ≤ 1048576) (hm : MaxCell w) :
    Calls Tryd.prog 60 #[.string s] w fun e w' => ∃ v, e = .returned (.tuple #[v, .int .i64 (raCode s)]) ∧ w'.ownsRow w.heap.size 9 1 v (raList s).length ((raList s).map Value.string) ∧ Below w.heap.size w w' := by
  obtain ⟨m, hm⟩ := hm
  have hsp := Tryd.strings_Split s ⟨#[32]⟩ m w (by omega) hm (Nat.le_refl 1)
  rw [splitB_one, cutS_len] at hsp
  have hmx := cut_max hs
  have ho := World.ownsRow_lit (base := w.heap.size) (e := 9) (size := 1) w ((cutS 32 s).map Value.string).toArray (cutS 32 s).length (Nat.le_refl _) hmx.1 (by simp)
  rw [List.toList_toArray] at ho
  have hx := own_reads ho hmx.2
  have hb1 : Below w.heap.size w (w.alloc (.cells ((cutS 32 s).map Value.string).toArray 9)) := (Below.refl _ _).alloc (Nat.le_refl _) _
  have HW := Lib.hid ho
  have hsp := Lib.hid hsp
  clear ho
  rcases ra_cases s with ⟨h, hq⟩ | ⟨h, hq⟩
  all_goals
    go_enter Tryd.func60, Tryd.ntmps60
    go_wp2_with fail
    refine hsp.out.mono ?_
    rintro e_ w1 ⟨rfl, rfl⟩
    go_wp2_with fail
    refine (isb (IsAlphabet_impl _ _ _ _ _ hx) h).mono ?_
    rintro e_ w2 ⟨rfl, h2⟩
    go_wp2
    go_ret2
    exact ⟨_, by rw [hq.out.1]; rfl, by rw [hq.out.2]; first | exact World.ownsRow_nil _ _ _ _ | exact own_below HW.out h2, next hb1 h2⟩
theorem ra_max {s : ByteArray} (hs : s.size ≤ 1048576) : (∀ x ∈ raList s, x.size ≤ maxLen) ∧ (raList s).length ≤ 40 := by
  unfold raList
  split
  · rename_i h
    refine ⟨(cut_max hs).2, ?_⟩
    simp [isAlpha] at h
    omega
  · simp
end Go.Proofs.YtbhibidgdlaeeaaDoor
