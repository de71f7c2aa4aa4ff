/- Letters in common and the distance of words: what the functions compute. -/
import Derived.Test.YtfacbdliegemgaaDoorWords
import Derived.StillTailTactics
import Derived.Deep.AppendLies
namespace Go.Proofs.YtfacbdliegemgaaDoor
open Go.ChangeShapes Go.WideShapes Go.ChangeAt Go.RowKit

def lcsAt (x : UInt8) (b : List UInt8) (R nx : List Int) (k : Nat) : Int := if x = b.getD k 0 then R.getD k 0 + 1 else max (R.getD (k + 1) 0) (nx.getD k 0)
def lcsPart (x : UInt8) (b : List UInt8) (R : List Int) : Nat → List Int
  | 0 => [0]
  | k + 1 => lcsPart x b R k ++ [lcsAt x b R (lcsPart x b R k) k]
def lcsRow (a b : List UInt8) : Nat → List Int
  | 0 => List.replicate (b.length + 1) 0
  | i + 1 => lcsPart (a.getD i 0) b (lcsRow a b i) b.length
def lcs (a b : List UInt8) : Int := (lcsRow a b a.length).getD b.length 0
theorem lcsPart_len (x : UInt8) (b : List UInt8) (R : List Int) : ∀ k, (lcsPart x b R k).length = k + 1
  | 0 => rfl
  | k + 1 => by simp [lcsPart, lcsPart_len x b R k]
theorem lcsRow_len (a b : List UInt8) : ∀ i, (lcsRow a b i).length = b.length + 1
  | 0 => by simp [lcsRow]
  | i + 1 => by simp [lcsRow, lcsPart_len]
/-- all numbers of a row lie in a range -/
def inR (M : Int) (R : List Int) : Prop := ∀ k, 0 ≤ R.getD k 0 ∧ R.getD k 0 ≤ M
theorem inR_snoc {M : Int} {R : List Int} {x : Int} (h : inR M R) (h0 : 0 ≤ x) (h1 : x ≤ M) : inR M (R ++ [x]) := fun k => by
  rw [List.getD_eq_getElem?_getD, List.getElem?_append]
  split
  · rw [← List.getD_eq_getElem?_getD]; exact h k
  · by_cases e : k - R.length = 0
    · rw [e]; simpa using ⟨h0, h1⟩
    · rw [List.getElem?_eq_none (by simp; omega)]; simp; omega
theorem inR_mono {M N : Int} {R : List Int} (h : inR M R) (hMN : M ≤ N) : inR N R := fun k => ⟨(h k).1, Int.le_trans (h k).2 hMN⟩
theorem lcsAt_in {x : UInt8} {b : List UInt8} {M : Int} {R nx : List Int} (k : Nat) (hR : inR M R) (hn : inR (M + 1) nx) : 0 ≤ lcsAt x b R nx k ∧ lcsAt x b R nx k ≤ M + 1 := by
  have h1 := hR k; have h2 := hR (k + 1); have h3 := hn k
  unfold lcsAt
  split <;> omega
theorem lcsPart_in {x : UInt8} {b : List UInt8} {M : Int} {R : List Int} (hM : 0 ≤ M) (hR : inR M R) : ∀ k, inR (M + 1) (lcsPart x b R k)
  | 0 => fun k => by
    have : (lcsPart x b R 0).getD k 0 = 0 := by cases k <;> simp [lcsPart]
    rw [this]; omega
  | k + 1 => inR_snoc (lcsPart_in hM hR k) (lcsAt_in k hR (lcsPart_in hM hR k)).1 (lcsAt_in k hR (lcsPart_in hM hR k)).2
theorem lcsRow_in (a b : List UInt8) : ∀ i : Nat, inR i (lcsRow a b i)
  | 0 => fun k => by
    have : (lcsRow a b 0).getD k 0 = 0 := by
      unfold lcsRow
      rw [List.getD_eq_getElem?_getD, List.getElem?_replicate]
      split <;> rfl
    rw [this]; simp
  | i + 1 => by
    have := lcsPart_in (x := a.getD i 0) (b := b) (M := i) (by omega) (lcsRow_in a b i) b.length
    intro k
    have h := this k
    unfold lcsRow
    simpa using h

theorem getD_at (b : ByteArray) {j : Nat} (h : j < b.size) : b.data.toList.getD j 0 = b[j] := by
  rw [List.getD_eq_getElem?_getD, get_list b h]; rfl
theorem lcs_eq {L nx : List Int} {x : UInt8} {b : ByteArray} {j : Nat} {x0 m : Int} (h : L = nx ++ [if x = b.data.toList.getD j 0 then x0 else m]) (hj : j < b.size) (e : x = b[j]) : L = nx ++ [x0] := by
  rw [h, getD_at b hj, if_pos e]
theorem lcs_ne {L nx : List Int} {x : UInt8} {b : ByteArray} {j : Nat} {x0 m : Int} (h : L = nx ++ [if x = b.data.toList.getD j 0 then x0 else m]) (hj : j < b.size) (e : ¬ x = b[j]) : L = nx ++ [m] := by
  rw [h, getD_at b hj, if_neg e]
theorem lcs_row {a : ByteArray} (b : ByteArray) {k : Nat} {R : List Int} (hk : k < a.size) (h : lcsRow a.data.toList b.data.toList k = R) : lcsRow a.data.toList b.data.toList (k + 1) = lcsPart a[k] b.data.toList R b.size := by
  unfold lcsRow
  rw [getD_at a hk, h]
  rfl
theorem own_base {w : World} {base base' : Nat} {e : TypeId} {size : Nat} {v : Value} {n : Nat} {xs : List Value} (h : w.ownsRow base e size v n xs) (hb : base' ≤ base) : w.ownsRow base' e size v n xs := by
  refine ⟨h.1, ?_⟩
  rcases h.2 with h2 | ⟨g, cap, cur, h1, h2, h3⟩
  · exact .inl h2
  · exact .inr ⟨g, cap, cur, h1, Nat.le_trans hb h2, h3⟩
theorem own_zero (w : World) (n : Nat) (hn : n ≤ 1000000) : (w.alloc (.cells (madeCells #[Value.int .i64 0] (n + 1)) 2)).ownsRow w.heap.size 2 1 (.slice (some ⟨w.heap.size, 0, none⟩) (n + 1) (n + 1)) (n + 1) ((List.replicate (n + 1) (0 : Int)).map (Value.int .i64)) := by
  have h := World.ownsRow_lit (base := w.heap.size) (e := 2) (size := 1) w (madeCells #[Value.int .i64 0] (n + 1)) (n + 1) (Nat.le_refl _) (by unfold maxLen; omega) (by rw [size_madeCells]; omega)
  rw [toList_madeCells_one] at h
  rw [List.map_replicate]
  exact h
theorem isWord_size {s : ByteArray} (h : isWord s = true) : s.size ≤ 16 := by
  unfold isWord small at h
  simp at h
  omega
def lcsVal (a b : ByteArray) : Int := if twoCode a b = 0 then lcs a.data.toList b.data.toList else 0
theorem infoInt : (Tryd.prog.info? 2).map (fun i => (i.zero, i.size, i.bytes)) = some (some (.int .i64 0), 1, 8) := by kernel_rfl

/-- an owned row of integers, opened at two places -/
theorem own_int {w : World} {base n : Nat} {v : Value} {R : List Int} (h : w.ownsRow base 2 1 v n (R.map (Value.int .i64))) (hn : 0 < n) :
    ∃ g cap, v = .slice (some ⟨g, 0, none⟩) n cap ∧ base ≤ g ∧ g < w.heap.size ∧ n ≤ cap ∧ cap ≤ maxLen ∧ (∀ k, k < n → w.cell? ⟨g, k, none⟩ = some (.int .i64 (R.getD k 0))) ∧ (∀ k, w.frozen? ⟨g, k, none⟩ = false) := by
  obtain ⟨g, cap, rfl, hb, hlt⟩ := h.form hn
  refine ⟨g, cap, rfl, hb, hlt, ?_, ?_, fun k hk => ?_, fun k => h.frozenAt k⟩
  · rcases h.2 with ⟨h', _⟩ | ⟨_, _, _, h', _, _, h2, _⟩
    · cases h'
    · injection h' with _ _ h3; rw [h3]; exact h2
  · rcases h.2 with ⟨h', _⟩ | ⟨_, _, _, h', _, _, _, h2, _⟩
    · cases h'
    · injection h' with _ _ h3; rw [h3]; exact h2
  · have hl : R.length = n := by have := h.1; simpa using this
    rw [h.cellAt k (by omega), List.getElem?_map, List.getD_eq_getElem?_getD, List.getElem?_eq_getElem (by omega)]
    rfl

end Go.Proofs.YtfacbdliegemgaaDoor
