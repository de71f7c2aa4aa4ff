/- Splitting a text at a byte: the shelf's words and plain ones. Nothing is claimed of a Go function here. -/
import Derived.Lib.Split
import Derived.Lib.SplitLaws
namespace Go.Proofs.YtfacbdliegemgaaDoor

/-- a text cut at every occurrence of a byte -/
def cutAt (c : UInt8) : List UInt8 → List (List UInt8)
  | [] => [[]]
  | x :: l => if x = c then [] :: cutAt c l else match cutAt c l with
    | [] => [[x]]
    | p :: r => (x :: p) :: r

theorem cutAt_ne (c : UInt8) (l : List UInt8) : cutAt c l ≠ [] := by
  cases l with
  | nil => simp [cutAt]
  | cons x l => unfold cutAt; split; · simp
                · split <;> simp
theorem cutAt_none {c : UInt8} : ∀ {l : List UInt8}, (∀ x ∈ l, x ≠ c) → cutAt c l = [l]
  | [], _ => rfl
  | x :: l, h => by
    unfold cutAt
    rw [if_neg (h x (by simp)), cutAt_none (fun y hy => h y (by simp [hy]))]
theorem cutAt_app {c : UInt8} : ∀ {p : List UInt8} (r : List UInt8), (∀ x ∈ p, x ≠ c) → cutAt c (p ++ c :: r) = p :: cutAt c r
  | [], r, _ => by simp [cutAt]
  | x :: p, r, h => by
    rw [List.cons_append, cutAt, if_neg (h x (by simp)), cutAt_app r (fun y hy => h y (by simp [hy]))]

theorem index_one_cons (x c : UInt8) (l : List UInt8) : Lib.index (x :: l) [c] = if c = x then 0 else if Lib.index l [c] = -1 then -1 else Lib.index l [c] + 1 := by
  conv => lhs; unfold Lib.index
  by_cases h : c = x
  · subst h; simp [List.isPrefixOf]
  · have : [c].isPrefixOf (x :: l) = false := by simp [List.isPrefixOf, h]
    rw [this]
    simp [h]
theorem index_one_none (c : UInt8) : ∀ {l : List UInt8}, Lib.index l [c] = -1 → ∀ x ∈ l, x ≠ c
  | [], _, x, hx => by simp at hx
  | y :: l, h, x, hx => by
    rw [index_one_cons] at h
    have hge := Lib.index_ge l [c]
    split at h
    · omega
    · rename_i hy
      split at h
      · rename_i hl
        rcases List.mem_cons.1 hx with rfl | hx
        · exact fun e => hy e.symm
        · exact index_one_none c hl x hx
      · omega
theorem index_one_some (c : UInt8) : ∀ {l : List UInt8} {i : Nat}, Lib.index l [c] = i → ∃ p r, l = p ++ c :: r ∧ p.length = i ∧ ∀ x ∈ p, x ≠ c
  | [], i, h => by
    simp [Lib.index] at h
  | y :: l, i, h => by
    rw [index_one_cons] at h
    split at h
    · rename_i hy
      refine ⟨[], l, by rw [hy]; rfl, ?_, fun x hx => by simp at hx⟩
      simp; omega
    · rename_i hy
      split at h
      · omega
      · have hge := Lib.index_ge l [c]
        obtain ⟨j, hj⟩ : ∃ j : Nat, Lib.index l [c] = j := ⟨(Lib.index l [c]).toNat, by omega⟩
        obtain ⟨p, r, hl, hp, hx⟩ := index_one_some c hj
        refine ⟨y :: p, r, by rw [hl]; rfl, by simp; omega, fun x h' => ?_⟩
        rcases List.mem_cons.1 h' with rfl | h'
        · exact fun e => hy e.symm
        · exact hx x h'

theorem split_one (c : UInt8) : ∀ (n : Nat) (l : List UInt8), l.length ≤ n → Lib.splitK [c] 0 (Lib.count l [c]) l = cutAt c l
  | n, l, hn => by
    by_cases h : Lib.index l [c] = -1
    · rw [Lib.count_miss h, cutAt_none (index_one_none c h)]
      rfl
    · have hge := Lib.index_ge l [c]
      obtain ⟨i, hi⟩ : ∃ i : Nat, Lib.index l [c] = i := ⟨(Lib.index l [c]).toNat, by omega⟩
      obtain ⟨p, r, hl, hp, hx⟩ := index_one_some c hi
      rw [Lib.count_hit (by simp) hi, Nat.add_comm 1]
      unfold Lib.splitK
      have hd : l.drop (i + 1) = r := by rw [hl, ← hp]; simp
      have ht : l.take i = p := by rw [hl, ← hp]; simp
      rw [if_neg (by simp [hi]), hi, Int.toNat_natCast, Nat.add_zero]
      simp only [List.length_cons, List.length_nil, Nat.zero_add]
      rw [hd, ht]
      match n, hn with
      | 0, hn => rw [hl] at hn; simp at hn
      | n + 1, hn =>
        rw [split_one c n r (by rw [hl] at hn; simp at hn; omega), hl, cutAt_app r hx]

/-- the same over texts -/
def cutS (c : UInt8) (s : ByteArray) : List ByteArray := (cutAt c s.data.toList).map fun l => ⟨l.toArray⟩
theorem splitB_one (c : UInt8) (s : ByteArray) : Lib.splitB ⟨#[c]⟩ 0 (Lib.countB s ⟨#[c]⟩) s = cutS c s := by
  have h := Lib.splitB_data ⟨#[c]⟩ 0 (Lib.countB s ⟨#[c]⟩) s
  have e : (⟨#[c]⟩ : ByteArray).data.toList = [c] := rfl
  rw [e] at h
  unfold Lib.countB at h ⊢
  rw [e] at h ⊢
  rw [split_one c _ _ (Nat.le_refl _)] at h
  unfold cutS
  rw [← h, List.map_map]
  conv => lhs; rw [← List.map_id (Lib.splitB _ _ _ _)]
  rfl
theorem cutS_len (c : UInt8) (s : ByteArray) : Lib.countB s ⟨#[c]⟩ + 1 = (cutS c s).length := by
  rw [← splitB_one]
  exact (Lib.splitB_all ⟨#[c]⟩ (Nat.le_refl 1) 0 _ s rfl).symm
theorem cutAt_len (c : UInt8) : ∀ (l : List UInt8), (cutAt c l).length ≤ l.length + 1
  | [] => by simp [cutAt]
  | x :: l => by
    have := cutAt_len c l
    unfold cutAt
    split
    · simp; omega
    · split
      · simp
      · rename_i h; rw [h] at this; simp at this ⊢; omega
theorem cutAt_each (c : UInt8) : ∀ (l p : List UInt8), p ∈ cutAt c l → p.length ≤ l.length
  | [], p, h => by simp [cutAt] at h; simp [h]
  | x :: l, p, h => by
    unfold cutAt at h
    split at h
    · rcases List.mem_cons.1 h with rfl | h
      · simp
      · have := cutAt_each c l p h; simp; omega
    · split at h
      · simp at h; simp [h]
      · rename_i q r hq
        rcases List.mem_cons.1 h with rfl | h
        · have := cutAt_each c l q (by rw [hq]; simp); simp; omega
        · have := cutAt_each c l p (by rw [hq]; simp [h]); simp; omega
theorem cutS_each {c : UInt8} {s p : ByteArray} (h : p ∈ cutS c s) : p.size ≤ s.size := by
  unfold cutS at h
  obtain ⟨l, hl, rfl⟩ := List.mem_map.1 h
  have := cutAt_each c _ _ hl
  unfold ByteArray.size
  simpa using this
theorem cutS_size (c : UInt8) (s : ByteArray) : (cutS c s).length ≤ s.size + 1 := by
  have := cutAt_len c s.data.toList
  simpa [cutS] using this
end Go.Proofs.YtfacbdliegemgaaDoor
