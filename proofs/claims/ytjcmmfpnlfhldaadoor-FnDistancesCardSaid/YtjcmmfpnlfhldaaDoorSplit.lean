/- Splitting a text at blanks: what the functions compute. -/
import Derived.Test.YtjcmmfpnlfhldaaDoorDist
import Derived.Test.YtjcmmfpnlfhldaaDoorSplitLaw
import Derived.Test.YtjcmmfpnlfhldaaDoorShelf2
namespace Go.Proofs.YtjcmmfpnlfhldaaDoor
open Go.ChangeShapes Go.WideShapes Go.ChangeAt Go.RowKit

/-- the cell that the shelf's search for a byte reads -/
def MaxCell (w : World) : Prop := ∃ m, w.cell? ⟨2, 0, none⟩ = some (.int .i64 m)
theorem MaxCell.below {w w' : World} (h : MaxCell w) (hb : Below w.heap.size w w') : MaxCell w' := by
  obtain ⟨m, hm⟩ := h
  exact ⟨m, cell_keep hb hm⟩

theorem strs_alloc (w : World) (L : List ByteArray) (t : TypeId) (hl : L.length ≤ maxLen) (hs : ∀ x ∈ L, x.size ≤ maxLen) :
    Strs (w.alloc (.cells (L.map Value.string).toArray t)) (some ⟨w.heap.size, 0, none⟩) L.length L.length L :=
  ⟨rfl, ⟨Nat.le_refl _, hl, by simp, fun _ => ⟨w.heap.size, 0, rfl, by simp, fun j u hu => by
    rw [Nat.zero_add]
    go_simp⟩⟩, hs⟩

/-- the pieces up to a place, and where the open one began -/
def Cut (c : UInt8) (s : ByteArray) (P : List ByteArray) (fr i : Nat) : Prop :=
  (i = s.size + 1 ∧ P = cutS c s) ∨
  (fr ≤ i ∧ i ≤ s.size ∧ P.length ≤ i ∧ cutS c s = P ++ (cutAt c (s.data.toList.drop fr)).map (fun l => ⟨l.toArray⟩) ∧ ∀ x ∈ (s.data.toList.take i).drop fr, x ≠ c)
theorem cut_start (c : UInt8) (s : ByteArray) : Cut c s [] 0 0 := .inr ⟨Nat.le_refl _, Nat.zero_le _, Nat.le_refl _, rfl, by simp⟩
theorem ext_list (s : ByteArray) (fr i : Nat) : (⟨((s.data.toList.take i).drop fr).toArray⟩ : ByteArray) = s.extract fr i := by
  apply ByteArray.ext
  rw [ByteArray.data_extract]
  apply Array.ext'
  simp [List.drop_take]
theorem cut_skip {c : UInt8} {s : ByteArray} {P : List ByteArray} {fr i : Nat} (h : Cut c s P fr i) (hi : i < s.size) (hc : s[i] ≠ c) : Cut c s P fr (i + 1) := by
  rcases h with ⟨h, _⟩ | ⟨h1, h2, h3, h4, h5⟩
  · omega
  · refine .inr ⟨by omega, by omega, by omega, h4, fun x hx => ?_⟩
    rw [List.take_add_one, List.drop_append_of_le_length (by simp; omega), get_list s hi] at hx
    rcases List.mem_append.1 hx with hx | hx
    · exact h5 x hx
    · simp at hx; subst hx; exact hc
theorem cut_at {c : UInt8} {s : ByteArray} {P : List ByteArray} {fr i : Nat} (h : Cut c s P fr i) (hi : i < s.size) (hc : s[i] = c) : Cut c s (P ++ [s.extract fr i]) (i + 1) (i + 1) := by
  rcases h with ⟨h, _⟩ | ⟨h1, h2, h3, h4, h5⟩
  · omega
  · have e : s.data.toList.drop fr = (s.data.toList.take i).drop fr ++ c :: s.data.toList.drop (i + 1) := by
      have hl : i < s.data.toList.length := by simpa using hi
      have hg : s.data.toList[i] = c := hc
      rw [← hg, ← List.drop_eq_getElem_cons hl, ← List.drop_append_of_le_length (by simp; omega), List.take_append_drop]
    refine .inr ⟨Nat.le_refl _, by omega, by simp; omega, ?_, fun x hx => ?_⟩
    · rw [h4, e, cutAt_app _ h5, List.map_cons, ext_list]; simp
    · rw [List.drop_eq_nil_of_le (by simp; omega)] at hx; simp at hx
theorem cut_last {c : UInt8} {s : ByteArray} {P : List ByteArray} {fr : Nat} (h : Cut c s P fr s.size) (k : Nat) : Cut c s (P ++ [s.extract fr s.size]) k (s.size + 1) := by
  rcases h with ⟨h, _⟩ | ⟨h1, h2, h3, h4, h5⟩
  · omega
  · refine .inl ⟨rfl, ?_⟩
    have e : (s.data.toList.take s.size) = s.data.toList := List.take_of_length_le (by simp)
    have hx := ext_list s fr s.size
    rw [e] at h5 hx
    rw [h4, cutAt_none h5, List.map_cons, hx]
    rfl
theorem cut_done {c : UInt8} {s : ByteArray} {P : List ByteArray} {fr i : Nat} (h : Cut c s P fr i) (hi : s.size < i) : i = s.size + 1 ∧ P = cutS c s := by
  rcases h with h | ⟨h1, h2, h3, h4, h5⟩
  · exact h
  · omega
theorem cut_le {c : UInt8} {s : ByteArray} {P : List ByteArray} {fr i : Nat} (h : Cut c s P fr i) (hi : i ≤ s.size) : fr ≤ i ∧ P.length ≤ i := by
  rcases h with h | ⟨h1, h2, h3, h4, h5⟩
  · omega
  · exact ⟨h1, h3⟩

theorem infoStr : (Tryd.prog.info? 9).map (fun i => (i.zero, i.size, i.bytes)) = some (some (.string ⟨#[]⟩), 1, 16) := by kernel_rfl

theorem own_strs {w : World} {base : Nat} {e : TypeId} {v : Value} {xs : List ByteArray} (h : w.ownsRow base e 1 v xs.length (xs.map Value.string)) (hs : ∀ x ∈ xs, x.size ≤ maxLen) :
    ∃ A c, v = .slice A xs.length c ∧ Strs w A xs.length c xs := by
  rcases h.2 with ⟨hv, hn⟩ | ⟨g, cap, cur, hv, _⟩
  · subst hv
    rw [← hn] at h ⊢
    exact ⟨none, _, rfl, rfl, Reads.of_own h, hs⟩
  · subst hv
    exact ⟨_, _, rfl, rfl, Reads.of_own h, hs⟩
def isPhrase (s : ByteArray) : Bool := (cutS 32 s).all isWord && decide ((cutS 32 s).length ≤ 8)
theorem cut_max {s : ByteArray} (hs : s.size ≤ 1048576) : (cutS 32 s).length ≤ maxLen ∧ ∀ x ∈ cutS 32 s, x.size ≤ maxLen := by
  unfold maxLen
  refine ⟨?_, fun x hx => ?_⟩
  · have := cutS_size 32 s; omega
  · have := cutS_each hx; omega

/-- WordsOf's code, and its words -/
def phCode (s : ByteArray) : Int := if isPhrase s = true then 0 else 1
def phWords (s : ByteArray) : List ByteArray := if isPhrase s = true then cutS 32 s else []
theorem ph_cases (s : ByteArray) : (isPhrase s = true ∧ Hid (phCode s = 0 ∧ phWords s = cutS 32 s)) ∨ (isPhrase s = false ∧ Hid (phCode s = 1 ∧ phWords s = [])) := by
  unfold phCode phWords Hid
  cases isPhrase s <;> simp

end Go.Proofs.YtjcmmfpnlfhldaaDoor
