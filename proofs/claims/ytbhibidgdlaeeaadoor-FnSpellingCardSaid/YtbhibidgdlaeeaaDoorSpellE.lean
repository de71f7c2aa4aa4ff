/- The functions over spelling: SpellWord, CanWrite. -/
import Derived.Test.YtbhibidgdlaeeaaDoorSpellD
namespace Go.Proofs.YtbhibidgdlaeeaaDoor
open Go.ChangeShapes Go.WideShapes Go.ChangeAt Go.RowKit

/-- a contract's integer, known -/
theorem isi {P : Program} {f : FuncId} {args : Array Value} {w : World} {p q : Int} (h : Calls P f args w fun e w' => e = .returned (.int .i64 p) ∧ Below w.heap.size w w') (e : p = q) :
    Calls P f args w fun e w' => e = .returned (.int .i64 q) ∧ Below w.heap.size w w' := e ▸ h
theorem own_mono {w : World} {base base' : Nat} {e : TypeId} {size : Nat} {v : Value} {n : Nat} {xs : List Value} (h : w.ownsRow base e size v n xs) (hb : base' ≤ base) : w.ownsRow base' e size v n xs :=
  ⟨h.1, h.2.imp id fun ⟨g, cap, cur, a, b, r⟩ => ⟨g, cap, cur, a, Nat.le_trans hb b, r⟩⟩
def lcOk (xs : List ByteArray) (s : ByteArray) : Bool := isAlpha xs && isWord s
def lcCode (xs : List ByteArray) (s : ByteArray) : Int := if lcOk xs s = true then 0 else 1
theorem word_size {s : ByteArray} (h : isWord s = true) : 1 ≤ s.size ∧ s.size ≤ 16 := by
  unfold isWord small at h
  simp at h
  omega
theorem l03Code_any (A : Option Addr) (n c : Nat) (xs : List ByteArray) (s : ByteArray) (w : World) (hx : Strs w A n c xs) (hs : s.size ≤ maxLen) :
    Calls Tryd.prog 148 #[.slice A n c, .string s] w fun e w' => e = .returned (.int .i64 (lcCode xs s)) ∧ Below w.heap.size w w' := by
  cases ha : isAlpha xs
  · have HF := Lib.hid (show lcCode xs s = 1 by unfold lcCode lcOk; rw [ha]; rfl)
    go_enter Tryd.func148, Tryd.ntmps148
    go_wp2_with fail
    refine (isb (IsAlphabet_spec A n c xs _ hx) ha).mono ?_
    rintro e_ w1 ⟨rfl, h1⟩
    have hc_w1 := bcell h1; have hf_w1 := bfree h1
    go_wp2
    go_ret
    exact ⟨by rw [HF.out]; rfl, h1⟩
  · cases hw : isWord s
    · have HF := Lib.hid (show lcCode xs s = 1 by unfold lcCode lcOk; rw [ha, hw]; rfl)
      go_enter Tryd.func148, Tryd.ntmps148
      go_wp2_with fail
      refine (isb (IsAlphabet_spec A n c xs _ hx) ha).mono ?_
      rintro e_ w1 ⟨rfl, h1⟩
      have hc_w1 := bcell h1; have hf_w1 := bfree h1
      go_wp2_with fail
      refine (isb (IsWord_spec s _ hs) hw).mono ?_
      rintro e_ w2 ⟨rfl, h2⟩
      have hc_w2 := bcell h2; have hf_w2 := bfree h2
      go_wp2
      go_ret
      exact ⟨by rw [HF.out]; rfl, next h1 h2⟩
    · have HF := Lib.hid (show lcCode xs s = 0 by unfold lcCode lcOk; rw [ha, hw]; rfl)
      go_enter Tryd.func148, Tryd.ntmps148
      go_wp2_with fail
      refine (isb (IsAlphabet_spec A n c xs _ hx) ha).mono ?_
      rintro e_ w1 ⟨rfl, h1⟩
      have hc_w1 := bcell h1; have hf_w1 := bfree h1
      go_wp2_with fail
      refine (isb (IsWord_spec s _ hs) hw).mono ?_
      rintro e_ w2 ⟨rfl, h2⟩
      have hc_w2 := bcell h2; have hf_w2 := bfree h2
      go_wp2
      go_ret
      exact ⟨by rw [HF.out]; rfl, next h1 h2⟩

def swList (xs : List ByteArray) (s : ByteArray) : List Int := if lcOk xs s = true ∧ spellOk xs s = true then spellList xs s else []
def swCode (xs : List ByteArray) (s : ByteArray) : Int := if lcOk xs s = true then if spellOk xs s = true then 0 else 4 else 1
def cwOk (xs : List ByteArray) (s : ByteArray) : Bool := lcOk xs s && spellOk xs s
theorem sw_cases (xs : List ByteArray) (s : ByteArray) :
    (lcOk xs s = false ∧ Hid (lcCode xs s = 1 ∧ swList xs s = [] ∧ swCode xs s = 1 ∧ cwOk xs s = false ∧ (isAlpha xs = false ∨ (isAlpha xs = true ∧ isWord s = false)))) ∨
    (isAlpha xs = true ∧ isWord s = true ∧ spellOk xs s = false ∧ Hid (lcCode xs s = 0 ∧ swList xs s = [] ∧ swCode xs s = 4 ∧ cwOk xs s = false)) ∨
    (isAlpha xs = true ∧ isWord s = true ∧ spellOk xs s = true ∧ Hid (lcCode xs s = 0 ∧ swList xs s = spellList xs s ∧ swCode xs s = 0 ∧ cwOk xs s = true)) := by
  unfold Hid lcCode swList swCode cwOk lcOk
  cases isAlpha xs <;> cases isWord s <;> cases spellOk xs s <;> simp

theorem spl_len {xs : List ByteArray} : ∀ {f : Nat} {s : ByteArray} {l : List Int}, spl xs f s = some l → l.length ≤ f
  | 0, s, l, h => by
    unfold spl at h
    split at h
    · simp at h; subst h; simp
    · cases h
  | f + 1, s, l, h => by
    unfold spl at h
    split at h
    · simp at h; subst h; simp
    · split at h
      · cases h
      · rw [Option.map_eq_some_iff] at h
        obtain ⟨l', h1, rfl⟩ := h
        have := spl_len h1
        simp; omega
theorem spellList_len (xs : List ByteArray) (s : ByteArray) : (spellList xs s).length ≤ s.size := by
  unfold spellList spell
  cases h : spl xs s.size s with
  | none => simp
  | some l => exact spl_len h
theorem sw_len (xs : List ByteArray) (s : ByteArray) (hs : s.size ≤ maxLen) : (swList xs s).length ≤ 1048576 := by
  unfold swList
  split
  · rename_i h
    have h1 := h.1
    unfold lcOk at h1
    have := word_size (Bool.and_eq_true_iff.1 h1).2
    have := spellList_len xs s
    omega
  · simp
set_option maxHeartbeats 1000000 in
theorem SpellWord_spec (A : Option Addr) (n c : Nat) (xs : List ByteArray) (s : ByteArray) (w : World) (hx : Strs w A n c xs) (hs : s.size ≤ maxLen) :
    Calls Tryd.prog 66 #[.slice A n c, .string s] w fun e w' => ∃ v, e = .returned (.tuple #[v, .int .i64 (swCode xs s)]) ∧ w'.ownsRow w.heap.size 2 1 v (swList xs s).length ((swList xs s).map (Value.int .i64)) ∧ Below w.heap.size w w' := by
  rcases sw_cases xs s with ⟨_, HF⟩ | ⟨ha, hw, ho, HF⟩ | ⟨ha, hw, ho, HF⟩
  · go_enter Tryd.func66, Tryd.ntmps66
    go_wp2_with fail
    refine (isi (l03Code_any A n c xs s _ hx hs) HF.out.1).mono ?_
    rintro e_ w1 ⟨rfl, h1⟩
    have hc_w1 := bcell h1; have hf_w1 := bfree h1
    go_wp2
    go_ret2
    exact ⟨_, by rw [HF.out.2.2.1]; rfl, by rw [HF.out.2.1]; exact World.ownsRow_nil _ _ _ _, h1⟩
  · have hz := word_size hw
    go_enter Tryd.func66, Tryd.ntmps66
    go_wp2_with fail
    refine (isi (l03Code_any A n c xs s _ hx hs) HF.out.1).mono ?_
    rintro e_ w1 ⟨rfl, h1⟩
    have hc_w1 := bcell h1; have hf_w1 := bfree h1
    have hl := l03Spell_any A n c xs s w1 (hx.below h1) (by omega) ha
    rw [ho] at hl
    clear ha hw ho hz
    go_wp2_with fail
    refine hl.mono ?_
    rintro e_ w2 ⟨v, rfl, hown, h2⟩
    go_wp2
    go_ret2
    exact ⟨_, by rw [HF.out.2.2.1]; rfl, by rw [HF.out.2.1]; exact World.ownsRow_nil _ _ _ _, next h1 h2⟩
  · have hz := word_size hw
    go_enter Tryd.func66, Tryd.ntmps66
    go_wp2_with fail
    refine (isi (l03Code_any A n c xs s _ hx hs) HF.out.1).mono ?_
    rintro e_ w1 ⟨rfl, h1⟩
    have hc_w1 := bcell h1; have hf_w1 := bfree h1
    have hl := l03Spell_any A n c xs s w1 (hx.below h1) (by omega) ha
    rw [ho] at hl
    clear ha hw ho hz
    go_wp2_with fail
    refine hl.mono ?_
    rintro e_ w2 ⟨v, rfl, hown, h2⟩
    have HO := Lib.hid (own_mono hown h1.size)
    clear hown
    go_wp2
    go_ret2
    exact ⟨_, by rw [HF.out.2.2.1]; rfl, by rw [HF.out.2.1]; exact HO.out, next h1 h2⟩

set_option maxHeartbeats 1000000 in
theorem SpellWord_impl (A : Option Addr) (n c : Nat) (xs : List ByteArray) (s : ByteArray) (w : World) (hx : Strs w A n c xs) (hs : s.size ≤ maxLen) :
    Calls Tryd.prog 65 #[.slice A n c, .string s] w fun e w' => ∃ v, e = .returned (.tuple #[v, .int .i64 (swCode xs s)]) ∧ w'.ownsRow w.heap.size 2 1 v (swList xs s).length ((swList xs s).map (Value.int .i64)) ∧ Below w.heap.size w w' := by
  rcases sw_cases xs s with ⟨_, HF⟩ | ⟨ha, hw, ho, HF⟩ | ⟨ha, hw, ho, HF⟩
  · rcases HF.out.2.2.2.2 with ha | ⟨ha, hw⟩
    · go_enter Tryd.func65, Tryd.ntmps65
      go_wp2_with fail
      refine (isb (IsAlphabet_impl A n c xs _ hx) ha).mono ?_
      rintro e_ w1 ⟨rfl, h1⟩
      have hc_w1 := bcell h1; have hf_w1 := bfree h1
      go_wp2
      go_ret2
      exact ⟨_, by rw [HF.out.2.2.1]; rfl, by rw [HF.out.2.1]; exact World.ownsRow_nil _ _ _ _, h1⟩
    · go_enter Tryd.func65, Tryd.ntmps65
      go_wp2_with fail
      refine (isb (IsAlphabet_impl A n c xs _ hx) ha).mono ?_
      rintro e_ w1 ⟨rfl, h1⟩
      have hc_w1 := bcell h1; have hf_w1 := bfree h1
      go_wp2_with fail
      refine (isb (IsWord_impl s _ hs) hw).mono ?_
      rintro e_ w2 ⟨rfl, h2⟩
      have hc_w2 := bcell h2; have hf_w2 := bfree h2
      go_wp2
      go_ret2
      exact ⟨_, by rw [HF.out.2.2.1]; rfl, by rw [HF.out.2.1]; exact World.ownsRow_nil _ _ _ _, next h1 h2⟩
  · have hz := word_size hw
    go_enter Tryd.func65, Tryd.ntmps65
    go_wp2_with fail
    refine (isb (IsAlphabet_impl A n c xs _ hx) ha).mono ?_
    rintro e_ w1 ⟨rfl, h1⟩
    have hc_w1 := bcell h1; have hf_w1 := bfree h1
    go_wp2_with fail
    refine (isb (IsWord_impl s _ hs) hw).mono ?_
    rintro e_ w2 ⟨rfl, h2⟩
    have hc_w2 := bcell h2; have hf_w2 := bfree h2
    have B2 := next h1 h2
    have hl := spell_any A n c xs s w2 (hx.below B2) (by omega) ha
    rw [ho] at hl
    clear ha hw ho hz
    go_wp2_with fail
    refine hl.mono ?_
    rintro e_ w3 ⟨v, rfl, hown, h3⟩
    go_wp2
    go_ret2
    exact ⟨_, by rw [HF.out.2.2.1]; rfl, by rw [HF.out.2.1]; exact World.ownsRow_nil _ _ _ _, next B2 h3⟩
  · have hz := word_size hw
    go_enter Tryd.func65, Tryd.ntmps65
    go_wp2_with fail
    refine (isb (IsAlphabet_impl A n c xs _ hx) ha).mono ?_
    rintro e_ w1 ⟨rfl, h1⟩
    have hc_w1 := bcell h1; have hf_w1 := bfree h1
    go_wp2_with fail
    refine (isb (IsWord_impl s _ hs) hw).mono ?_
    rintro e_ w2 ⟨rfl, h2⟩
    have hc_w2 := bcell h2; have hf_w2 := bfree h2
    have B2 := next h1 h2
    have hl := spell_any A n c xs s w2 (hx.below B2) (by omega) ha
    rw [ho] at hl
    clear ha hw ho hz
    go_wp2_with fail
    refine hl.mono ?_
    rintro e_ w3 ⟨v, rfl, hown, h3⟩
    have HO := Lib.hid (own_mono hown B2.size)
    clear hown
    go_wp2
    go_ret2
    exact ⟨_, by rw [HF.out.2.2.1]; rfl, by rw [HF.out.2.1]; exact HO.out, next B2 h3⟩

set_option maxHeartbeats 1000000 in
theorem CanWrite_spec (A : Option Addr) (n c : Nat) (xs : List ByteArray) (s : ByteArray) (w : World) (hx : Strs w A n c xs) (hs : s.size ≤ maxLen) :
    Calls Tryd.prog 68 #[.slice A n c, .string s] w fun e w' => e = .returned (.tuple #[.bool (cwOk xs s), .int .i64 (lcCode xs s)]) ∧ Below w.heap.size w w' := by
  rcases sw_cases xs s with ⟨_, HF⟩ | ⟨ha, hw, ho, HF⟩ | ⟨ha, hw, ho, HF⟩
  · go_enter Tryd.func68, Tryd.ntmps68
    go_wp2_with fail
    refine (isi (l03Code_any A n c xs s _ hx hs) HF.out.1).mono ?_
    rintro e_ w1 ⟨rfl, h1⟩
    have hc_w1 := bcell h1; have hf_w1 := bfree h1
    go_wp2
    go_ret2
    exact ⟨by rw [HF.out.1, HF.out.2.2.2.1]; rfl, h1⟩
  all_goals
    have hz := word_size hw
    go_enter Tryd.func68, Tryd.ntmps68
    go_wp2_with fail
    refine (isi (l03Code_any A n c xs s _ hx hs) HF.out.1).mono ?_
    rintro e_ w1 ⟨rfl, h1⟩
    have hc_w1 := bcell h1; have hf_w1 := bfree h1
    have hl := l03Spell_any A n c xs s w1 (hx.below h1) (by omega) ha
    rw [ho] at hl
    clear ha hw ho hz
    go_wp2_with fail
    refine hl.mono ?_
    rintro e_ w2 ⟨v, rfl, hown, h2⟩
    clear hown
    go_wp2
    go_ret2
    exact ⟨by rw [HF.out.1, HF.out.2.2.2]; rfl, next h1 h2⟩

set_option maxHeartbeats 1000000 in
theorem CanWrite_impl (A : Option Addr) (n c : Nat) (xs : List ByteArray) (s : ByteArray) (w : World) (hx : Strs w A n c xs) (hs : s.size ≤ maxLen) :
    Calls Tryd.prog 67 #[.slice A n c, .string s] w fun e w' => e = .returned (.tuple #[.bool (cwOk xs s), .int .i64 (lcCode xs s)]) ∧ Below w.heap.size w w' := by
  rcases sw_cases xs s with ⟨_, HF⟩ | ⟨ha, hw, ho, HF⟩ | ⟨ha, hw, ho, HF⟩
  · rcases HF.out.2.2.2.2 with ha | ⟨ha, hw⟩
    · go_enter Tryd.func67, Tryd.ntmps67
      go_wp2_with fail
      refine (isb (IsAlphabet_impl A n c xs _ hx) ha).mono ?_
      rintro e_ w1 ⟨rfl, h1⟩
      have hc_w1 := bcell h1; have hf_w1 := bfree h1
      go_wp2
      go_ret2
      exact ⟨by rw [HF.out.1, HF.out.2.2.2.1]; rfl, h1⟩
    · go_enter Tryd.func67, Tryd.ntmps67
      go_wp2_with fail
      refine (isb (IsAlphabet_impl A n c xs _ hx) ha).mono ?_
      rintro e_ w1 ⟨rfl, h1⟩
      have hc_w1 := bcell h1; have hf_w1 := bfree h1
      go_wp2_with fail
      refine (isb (IsWord_impl s _ hs) hw).mono ?_
      rintro e_ w2 ⟨rfl, h2⟩
      have hc_w2 := bcell h2; have hf_w2 := bfree h2
      go_wp2
      go_ret2
      exact ⟨by rw [HF.out.1, HF.out.2.2.2.1]; rfl, next h1 h2⟩
  all_goals
    have hz := word_size hw
    go_enter Tryd.func67, Tryd.ntmps67
    go_wp2_with fail
    refine (isb (IsAlphabet_impl A n c xs _ hx) ha).mono ?_
    rintro e_ w1 ⟨rfl, h1⟩
    have hc_w1 := bcell h1; have hf_w1 := bfree h1
    go_wp2_with fail
    refine (isb (IsWord_impl s _ hs) hw).mono ?_
    rintro e_ w2 ⟨rfl, h2⟩
    have hc_w2 := bcell h2; have hf_w2 := bfree h2
    have B2 := next h1 h2
    have hl := spell_any A n c xs s w2 (hx.below B2) (by omega) ha
    rw [ho] at hl
    clear ha hw ho hz
    go_wp2_with fail
    refine hl.mono ?_
    rintro e_ w3 ⟨v, rfl, hown, h3⟩
    clear hown
    go_wp2
    go_ret2
    exact ⟨by rw [HF.out.1, HF.out.2.2.2]; rfl, next B2 h3⟩
end Go.Proofs.YtbhibidgdlaeeaaDoor
