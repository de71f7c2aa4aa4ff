/- The harness's texts: equal slices of texts, marks, copies. -/
import Derived.Test.YtfacbdliegemgaaDoorSplit
namespace Go.Proofs.YtfacbdliegemgaaDoor
open Go.ChangeShapes Go.WideShapes Go.ChangeAt Go.RowKit

theorem text_ne {s t : ByteArray} (h : ¬ s = t) : (s.toList == t.toList) = false := by
  rw [beq_eq_false_iff_ne, ByteArray.toList_eq, ByteArray.toList_eq]
  intro e
  exact h (ByteArray.ext (Array.toList_inj.1 e))
def digs : Nat → Nat → List UInt8 → List UInt8
  | 0, _, acc => acc
  | f + 1, n, acc => if n = 0 then acc else digs f (n / 10) (UInt8.ofNat (48 + n % 10) :: acc)
theorem digs_more : ∀ (f g n : Nat) (acc : List UInt8), n ≤ f → n ≤ g → digs f n acc = digs g n acc
  | 0, g, n, acc, hf, _ => by
    obtain rfl : n = 0 := by omega
    cases g <;> simp [digs]
  | f + 1, 0, n, acc, _, hg => by
    obtain rfl : n = 0 := by omega
    simp [digs]
  | f + 1, g + 1, n, acc, hf, hg => by
    unfold digs
    split
    · rfl
    · exact digs_more f g _ _ (by omega) (by omega)
def digits (n : Nat) (acc : List UInt8) : List UInt8 := digs n n acc
theorem digits_zero (acc : List UInt8) : digits 0 acc = acc := rfl
theorem digits_step {n : Nat} (acc : List UInt8) (h : 0 < n) : digits n acc = digits (n / 10) (UInt8.ofNat (48 + n % 10) :: acc) := by
  unfold digits
  cases n with
  | zero => omega
  | succ n =>
    conv => lhs; unfold digs
    rw [if_neg (by omega), digs_more n ((n + 1) / 10) _ _ (by omega) (Nat.le_refl _)]
/-- the mark of a number that is greater than 0 -/
def markT (k : Nat) : ByteArray := ⟨#[109]⟩ ++ ⟨(digits k []).toArray⟩

theorem digs_len : ∀ (f n : Nat) (acc : List UInt8), n ≤ f → (digs f n acc).length ≤ acc.length + n
  | 0, n, acc, h => by simp [digs]
  | f + 1, n, acc, h => by
    unfold digs
    split
    · omega
    · have := digs_len f (n / 10) (UInt8.ofNat (48 + n % 10) :: acc) (by omega)
      rw [List.length_cons] at this
      omega
theorem markT_size (k : Nat) : (markT k).size ≤ k + 1 := by
  have := digs_len k k [] (Nat.le_refl _)
  unfold markT digits
  have h1 : (ByteArray.mk (digs k k []).toArray).size = (digs k k []).length := by simp [ByteArray.size]
  have h2 : (ByteArray.mk #[109]).size = 1 := rfl
  rw [ByteArray.size_append, h1, h2]
  simp at this
  omega
theorem conv_one (W : World) (d : Int) (h0 : 0 ≤ d) (hd : d < 10) :
    (convert 39 9 (.slice (some ⟨W.heap.size, 0, none⟩) 1 1)).run Tryd.prog (W.alloc (.cells #[.int .u8 (48 + d)] 5)) = .ok (.string ⟨#[UInt8.ofNat (48 + d.toNat)]⟩) (W.alloc (.cells #[.int .u8 (48 + d)] 5)) := by
  have h := run_convert_bytes_back (P := Tryd.prog) (W.alloc (.cells #[.int .u8 (48 + d)] 5)) 39 9 5 ⟨W.heap.size, 0, none⟩ 1 [UInt8.ofNat (48 + d.toNat)] Tryd.underlying39 Tryd.underlying5 Tryd.underlying9 ?_
  · simpa using h
  · intro j hj
    have : j = 0 := by simpa using hj
    subst this
    have e : ((UInt8.ofNat (48 + d.toNat)).toNat : Int) = 48 + d := by
      rw [UInt8.toNat_ofNat']; omega
    simp only [List.getElem_cons_zero, e]
    go_simp
theorem cat_one (n : Nat) (acc : List UInt8) : ByteArray.mk #[48 + UInt8.ofNat n] ++ ByteArray.mk acc.toArray = ByteArray.mk (UInt8.ofNat (48 + n) :: acc).toArray := by
  apply ByteArray.ext
  simp [ByteArray.data_append, UInt8.ofNat_add]
def marks (k n : Nat) : List ByteArray := (List.range n).map fun i => markT (k + i)
theorem marks_len (k n : Nat) : (marks k n).length = n := by simp [marks]
theorem marks_at (k n i : Nat) (h : i < n) : (marks k n)[i]? = some (markT (k + i)) := by
  unfold marks
  rw [List.getElem?_map, List.getElem?_range h]; rfl

theorem marks_max {k n : Nat} (h : k + n ≤ 1000000000000) : ∀ x ∈ marks k n, x.size ≤ maxLen := by
  intro x hx
  unfold marks at hx
  obtain ⟨i, hi, rfl⟩ := List.mem_map.1 hx
  have := markT_size (k + i)
  have := List.mem_range.1 hi
  unfold maxLen
  omega
theorem own_reads {w : World} {base : Nat} {e : TypeId} {A : Option Addr} {n c : Nat} {xs : List ByteArray} (h : w.ownsRow base e 1 (.slice A n c) n (xs.map Value.string)) (hs : ∀ x ∈ xs, x.size ≤ maxLen) : Strs w A n c xs :=
  ⟨by have := h.1; simpa using this.symm, Reads.of_own h, hs⟩
end Go.Proofs.YtfacbdliegemgaaDoor
