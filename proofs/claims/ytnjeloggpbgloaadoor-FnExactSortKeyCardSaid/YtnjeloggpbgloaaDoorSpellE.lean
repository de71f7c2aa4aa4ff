/- The functions over spelling: SpellWord, CanWrite. -/
import Derived.Test.YtnjeloggpbgloaaDoorSpellD
namespace Go.Proofs.YtnjeloggpbgloaaDoor
open Go.ChangeShapes Go.WideShapes Go.ChangeAt Go.RowKit

/-- a contract's integer, known -/
theorem isi {P : Program} {f : FuncId} {args : Array Value} {w : World} {p q : Int} (h : Calls P f args w fun e w' => e = .returned (.int .i64 p) ∧ Below w.heap.size w w') (e : p = q) :
    Calls P f args w fun e w' => e = .returned (.int .i64 q) ∧ Below w.heap.size w w' := e ▸ h
theorem own_mono {w : World} {base base' : Nat} {e : TypeId} {size : Nat} {v : Value} {n : Nat} {xs : List Value} (h : w.ownsRow base e size v n xs) (hb : base' ≤ base) : w.ownsRow base' e size v n xs :=
  ⟨h.1, h.2.imp id fun ⟨g, cap, cur, a, b, r⟩ => ⟨g, cap, cur, a, Nat.le_trans hb b, r⟩⟩
def lcOk (xs : List ByteArray) (s : ByteArray) : Bool := isAlpha xs && isWord s
def lcCode (xs : List ByteArray) (s : ByteArray) : Int := if lcOk xs s = true then 0 else 1
theorem word_size {s : ByteArray} (h : isWord s = true) : 1 ≤ s.size ∧ s.size ≤ 16 := by
  unfold isWord small at h
  simp at h
  omega
def swList (xs : List ByteArray) (s : ByteArray) : List Int := if lcOk xs s = true ∧ spellOk xs s = true then spellList xs s else []
def swCode (xs : List ByteArray) (s : ByteArray) : Int := if lcOk xs s = true then if spellOk xs s = true then 0 else 4 else 1
def cwOk (xs : List ByteArray) (s : ByteArray) : Bool := lcOk xs s && spellOk xs s
theorem sw_cases (xs : List ByteArray) (s : ByteArray) :
    (lcOk xs s = false ∧ Hid (lcCode xs s = 1 ∧ swList xs s = [] ∧ swCode xs s = 1 ∧ cwOk xs s = false ∧ (isAlpha xs = false ∨ (isAlpha xs = true ∧ isWord s = false)))) ∨
    (isAlpha xs = true ∧ isWord s = true ∧ spellOk xs s = false ∧ Hid (lcCode xs s = 0 ∧ swList xs s = [] ∧ swCode xs s = 4 ∧ cwOk xs s = false)) ∨
    (isAlpha xs = true ∧ isWord s = true ∧ spellOk xs s = true ∧ Hid (lcCode xs s = 0 ∧ swList xs s = spellList xs s ∧ swCode xs s = 0 ∧ cwOk xs s = true)) := by
  unfold Hid lcCode swList swCode cwOk lcOk
  cases isAlpha xs <;> cases isWord s <;> cases spellOk xs s <;> simp

theorem spl_len {xs : List ByteArray} : ∀ {f : Nat} {s : ByteArray} {l : List Int}, spl xs f s = some l → l.length ≤ f
  | 0, s, l, h => by
    unfold spl at h
    split at h
    · simp at h; subst h; simp
    · cases h
  | f + 1, s, l, h => by
    unfold spl at h
    split at h
    · simp at h; subst h; simp
    · split at h
      · cases h
      · rw [Option.map_eq_some_iff] at h
        obtain ⟨l', h1, rfl⟩ := h
        have := spl_len h1
        simp; omega
theorem spellList_len (xs : List ByteArray) (s : ByteArray) : (spellList xs s).length ≤ s.size := by
  unfold spellList spell
  cases h : spl xs s.size s with
  | none => simp
  | some l => exact spl_len h
theorem sw_len (xs : List ByteArray) (s : ByteArray) (hs : s.size ≤ maxLen) : (swList xs s).length ≤ 1048576 := by
  unfold swList
  split
  · rename_i h
    have h1 := h.1
    unfold lcOk at h1
    have := word_size (Bool.and_eq_true_iff.1 h1).2
    have := spellList_len xs s
    omega
  · simp
end Go.Proofs.YtnjeloggpbgloaaDoor
