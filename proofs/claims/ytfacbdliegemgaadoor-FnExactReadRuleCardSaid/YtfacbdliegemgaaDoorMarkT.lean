/- Rules marked: each in its own memory. -/
import Derived.Test.YtfacbdliegemgaaDoorHarnR
namespace Go.Proofs.YtfacbdliegemgaaDoor
open Go.ChangeShapes Go.WideShapes Go.ChangeAt Go.RowKit

def rsum (T : List Rl) : Nat := (T.map fun r => r.1.length).sum
theorem rsum_le (T : List Rl) : rsum T ≤ rtot T := by
  unfold rsum rtot
  induction T with
  | nil => simp
  | cons r q ih => simp only [List.map_cons, List.sum_cons]; omega
def rmarks : Nat → List Rl → List Rl
  | _, [] => []
  | k, r :: T => (imarks k r.1.length, markT (k + r.1.length)) :: rmarks (k + r.1.length + 1) T
theorem rmarks_len : ∀ (k : Nat) (T : List Rl), (rmarks k T).length = T.length
  | _, [] => rfl
  | k, r :: T => by simp only [rmarks, List.length_cons, rmarks_len (k + r.1.length + 1) T]
theorem rmarks_at : ∀ {k j : Nat} {T : List Rl} {xs : List Int} {r : ByteArray}, T[j]? = some (xs, r) → (rmarks k T)[j]? = some (imarks (k + (j + rsum (T.take j))) xs.length, markT (k + (j + rsum (T.take j)) + xs.length))
  | k, _, [], xs, r, h => by simp at h
  | k, 0, t :: T, xs, r, h => by
    simp at h
    subst h
    simp [rmarks, rsum]
  | k, j + 1, t :: T, xs, r, h => by
    simp only [List.getElem?_cons_succ] at h
    simp only [rmarks, List.getElem?_cons_succ]
    rw [rmarks_at h]
    have e : rsum ((t :: T).take (j + 1)) = t.1.length + rsum (T.take j) := by simp [rsum]
    rw [e, show k + t.1.length + 1 + (j + rsum (T.take j)) = k + (j + 1 + (t.1.length + rsum (T.take j))) by omega]
theorem rsum_succ {T : List Rl} {k : Nat} {xs : List Int} {r : ByteArray} (h : T[k]? = some (xs, r)) : rsum (T.take (k + 1)) = rsum (T.take k) + xs.length := by
  unfold rsum
  rw [List.take_add_one, h]
  simp
theorem rsum_take (T : List Rl) (k : Nat) : rsum (T.take k) ≤ rsum T := by
  unfold rsum
  conv => rhs; rw [← List.take_append_drop k T]
  rw [List.map_append, List.sum_append]
  omega
/-- the first j rules marked, the others as they were -/
def rmix (k : Nat) (T : List Rl) (j : Nat) : List Rl := (rmarks k T).take j ++ T.drop j
theorem rmix_zero (k : Nat) (T : List Rl) : rmix k T 0 = T := by simp [rmix]
theorem rmix_all {k : Nat} {T : List Rl} {j : Nat} (h : T.length ≤ j) : rmix k T j = rmarks k T := by
  unfold rmix
  rw [List.take_of_length_le (by rw [rmarks_len]; exact h), List.drop_of_length_le h, List.append_nil]
theorem rmix_at {k j : Nat} {T : List Rl} {x : Rl} (h : T[j]? = some x) : (rmix k T j)[j]? = some x := by
  have hj := (List.getElem?_eq_some_iff.1 h).1
  unfold rmix
  rw [List.getElem?_append_right (by rw [List.length_take, rmarks_len]; omega), List.length_take, rmarks_len, Nat.min_eq_left (by omega), Nat.sub_self, List.getElem?_drop]
  exact h
theorem rmix_step {k j : Nat} {T : List Rl} {x y : Rl} (h : T[j]? = some x) (hy : (rmarks k T)[j]? = some y) : (rmix k T j).set j y = rmix k T (j + 1) := by
  have hj := (List.getElem?_eq_some_iff.1 h).1
  unfold rmix
  rw [List.set_append_right _ _ (by rw [List.length_take, rmarks_len]; omega), List.length_take, rmarks_len, Nat.min_eq_left (by omega), Nat.sub_self, List.take_add_one, hy]
  have e : T.drop j = x :: T.drop (j + 1) := by
    rw [List.drop_eq_getElem_cons hj]
    congr 1
    have := (List.getElem?_eq_some_iff.1 h).2
    exact this
  rw [e]
  simp

theorem Zone.of_own {lo hi : Nat} {w w' : World} {v : Value} (h : w.grownBy w' v.ownBlock) (hb : ∀ k, v.ownBlock = some k → lo ≤ k ∧ k < hi) : Zone lo hi w w' :=
  ⟨h.os, h.tape, h.output, h.size, fun k hk hne => h.block k hk (fun e => by have := hb k e.symm; omega)⟩
theorem set_same {α : Type} {l : List α} {i : Nat} {a : α} (h : l[i]? = some a) : l.set i a = l := by
  obtain ⟨hi, e⟩ := List.getElem?_eq_some_iff.1 h
  rw [← e, List.set_getElem_self]
/-- the signs of one rule changed in their own block -/
theorem OwnR.marked {w w1 : World} {base top : Nat} {v u : Value} {n i : Nat} {T : List Rl} {vs : List Value} {xs ys : List Int} {r : ByteArray} (h : OwnR w base top v n T vs) (hu : vs[i]? = some u) (hT : T[i]? = some (xs, r))
    (hg : w.grownBy w1 u.ownBlock) (ho : w1.ownsRow base 2 1 u xs.length (ys.map (Value.int .i64))) (hl : ys.length = xs.length) : OwnR w1 base top v n (T.set i (ys, r)) vs := by
  have hrow : rcells vs (T.set i (ys, r)) = rcells vs T := by
    rw [← rcells_set ys r (by rw [h.vlen, h.len])]
    exact set_same (rcells_at hu hT).2
  have blk : ∀ k, w.heap.size > k → u.ownBlock ≠ some k → w1.heap[k]? = w.heap[k]? := fun k hk hne => hg.block k hk (fun e => hne e.symm)
  have hi := (List.getElem?_eq_some_iff.1 hT).1
  refine ⟨by rw [List.length_set]; exact h.len, h.vlen, ?_, fun j x q h1 h2 => ?_, h.lo, h.vlo, h.apart⟩
  · rw [hrow]
    exact own_block h.row fun k hk => blk k (h.row.lt k hk).2 (fun e => (h.lo i u k hu e).2 hk)
  · by_cases e : j = i
    · subst e
      rw [List.getElem?_set_self hi] at h2
      injection h2 with h2
      subst h2
      rw [hu] at h1
      injection h1 with h1
      subst h1
      exact ⟨by rw [hl]; exact ho, (h.sg j _ _ hu hT).2⟩
    · rw [List.getElem?_set_ne (fun e' => e e'.symm)] at h2
      obtain ⟨a, b⟩ := h.sg j x q h1 h2
      exact ⟨own_block a fun k hk => blk k (a.lt k hk).2 (fun e' => e (h.apart j i x u k h1 hu hk e')), b⟩
/-- the text of one rule changed -/
theorem OwnR.text {w : World} {base top g c : Nat} {n i : Nat} {T : List Rl} {vs : List Value} {xs : List Int} {r t : ByteArray} (h : OwnR w base top (.slice (some ⟨g, 0, none⟩) n c) n T vs) (hT : T[i]? = some (xs, r)) (ht : t.size ≤ maxLen) :
    OwnR (w.setCell ⟨g, i * 2 + 1, none⟩ (.string t)) base top (.slice (some ⟨g, 0, none⟩) n c) n (T.set i (xs, t)) vs := by
  have hi := (List.getElem?_eq_some_iff.1 hT).1
  refine ⟨by rw [List.length_set]; exact h.len, h.vlen, ?_, fun j x q h1 h2 => ?_, h.lo, h.vlo, h.apart⟩
  · have := (h.row.stored (i * 2 + 1) (.string t)).1
    rw [rcells_set xs t (by rw [h.vlen, h.len])] at this
    exact this
  · by_cases e : j = i
    · subst e
      rw [List.getElem?_set_self hi] at h2
      injection h2 with h2
      subst h2
      obtain ⟨a, b⟩ := h.sg j x _ h1 hT
      exact ⟨own_set a (fun e => (h.lo j x g h1 e).2 rfl), ht⟩
    · rw [List.getElem?_set_ne (fun e' => e e'.symm)] at h2
      obtain ⟨a, b⟩ := h.sg j x q h1 h2
      exact ⟨own_set a (fun e => (h.lo j x g h1 e).2 rfl), b⟩

end Go.Proofs.YtfacbdliegemgaaDoor
