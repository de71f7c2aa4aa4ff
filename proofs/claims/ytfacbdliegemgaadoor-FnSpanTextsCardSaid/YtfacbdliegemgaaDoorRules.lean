/- Slices of rules: what they read as, opened; over any program: nothing is claimed of a Go function here. -/
import Derived.Test.YtfacbdliegemgaaDoorRulesLaw
import Derived.Test.YtfacbdliegemgaaDoorFrame
namespace Go.Proofs.YtfacbdliegemgaaDoor
open Go.ChangeShapes Go.WideShapes Go.ChangeAt Go.RowKit Go.Deep Go.Joins

/-- a slice of rules, as the list of their signs and texts -/
def Rules (w : World) (A : Option Addr) (n c : Nat) (T : List Rl) : Prop := n = T.length ∧ ∃ cs : List Value, Reads w 2 A n c cs ∧
  ∀ i, i < n → ∃ B m d xs r, T[i]? = some (xs, r) ∧ cs[i * 2]? = some (.slice B m d) ∧ cs[i * 2 + 1]? = some (.string r) ∧ Ints w B m d xs ∧ r.size ≤ maxLen
theorem Rules.below {w w' : World} {A : Option Addr} {n c : Nat} {T : List Rl} (h : Rules w A n c T) (hb : Below w.heap.size w w') : Rules w' A n c T := by
  obtain ⟨h1, cs, h2, h3⟩ := h
  refine ⟨h1, cs, h2.below hb, fun i hi => ?_⟩
  obtain ⟨B, m, d, xs, r, a1, a2, a3, a4, a5⟩ := h3 i hi
  exact ⟨B, m, d, xs, r, a1, a2, a3, a4.below hb, a5⟩
theorem Rules.cap {w : World} {A : Option Addr} {n c : Nat} {T : List Rl} (h : Rules w A n c T) : n ≤ c ∧ c ≤ maxLen := by
  obtain ⟨_, cs, h2, _⟩ := h
  exact ⟨h2.le, h2.cap⟩
theorem Rules.at_ {w : World} {A : Option Addr} {n c : Nat} {T : List Rl} (h : Rules w A n c T) (k : Nat) (hk : k < n) : ∃ b off, A = some ⟨b, off, none⟩ ∧ b < w.heap.size := by
  obtain ⟨_, cs, h2, _⟩ := h
  obtain ⟨b, off, e, hlt, _⟩ := h2.at_ (by omega)
  exact ⟨b, off, e, hlt⟩
theorem Rules.el {w wr : World} {b off n c : Nat} {T : List Rl} (h : Rules w (some ⟨b, off, none⟩) n c T) (hb : Below w.heap.size w wr) (k : Nat) (hk : k < n) :
    ∃ B m d xs r, Hid (T[k]? = some (xs, r)) ∧ wr.cell? ⟨b, off + k * 2, none⟩ = some (.slice B m d) ∧ wr.cell? ⟨b, off + k * 2 + 1, none⟩ = some (.string r) ∧ Ints wr B m d xs ∧ r.size ≤ maxLen := by
  obtain ⟨_, cs, h2, h3⟩ := h
  obtain ⟨b', off', e, hbl, hc⟩ := h2.at_ (by omega)
  injection e with e; injection e with e1 e2
  subst e1; subst e2
  obtain ⟨B, m, d, xs, r, a1, a2, a3, a4, a5⟩ := h3 k hk
  refine ⟨B, m, d, xs, r, a1, (hb.cell (p := ⟨b, off + k * 2, none⟩) hbl).trans (hc _ _ a2), ?_, a4.below hb, a5⟩
  have := (hb.cell (p := ⟨b, off + (k * 2 + 1), none⟩) hbl).trans (hc _ _ a3)
  rwa [← Nat.add_assoc] at this
theorem Rules.take {w : World} {A : Option Addr} {n c : Nat} {T : List Rl} (h : Rules w A n c T) (k : Nat) (hk : k ≤ n) : Rules w A k c (T.take k) := by
  obtain ⟨h1, cs, h2, h3⟩ := h
  refine ⟨by rw [List.length_take]; omega, cs.take (k * 2), ⟨Nat.le_trans hk h2.le, h2.cap, by rw [List.length_take, h2.len]; omega, fun hn => ?_⟩, fun i hi => ?_⟩
  · obtain ⟨b, off, e, hlt, hc⟩ := h2.at_ (by omega)
    refine ⟨b, off, e, hlt, fun j u hu => hc j u ?_⟩
    have hj := (List.getElem?_eq_some_iff.1 hu).1
    rw [List.length_take] at hj
    rw [List.getElem?_take_of_lt (by omega)] at hu
    exact hu
  · obtain ⟨B, m, d, xs, r, a1, a2, a3, a4, a5⟩ := h3 i (by omega)
    exact ⟨B, m, d, xs, r, by rw [List.getElem?_take_of_lt hi]; exact a1, by rw [List.getElem?_take_of_lt (by omega)]; exact a2, by rw [List.getElem?_take_of_lt (by omega)]; exact a3, a4, a5⟩
theorem Ints.take {w : World} {A : Option Addr} {n c : Nat} {xs : List Int} (h : Ints w A n c xs) (k : Nat) (hk : k ≤ n) : Ints w A k c (xs.take k) :=
  ⟨by rw [List.length_take, ← h.1]; omega, ⟨Nat.le_trans hk h.2.le, h.2.cap, by rw [List.length_map, List.length_take, ← h.1]; omega, fun hn => by
    obtain ⟨b, off, e, hlt, hc⟩ := h.2.at_ (by omega)
    refine ⟨b, off, e, hlt, fun j u hu => hc j u ?_⟩
    rw [List.getElem?_map] at hu ⊢
    have hj : j < (xs.take k).length := by
      rcases hq : (xs.take k)[j]? with _ | y
      · rw [hq] at hu; cases hu
      · exact (List.getElem?_eq_some_iff.1 hq).1
    rw [List.length_take] at hj
    rw [List.getElem?_take_of_lt (by omega)] at hu
    exact hu⟩⟩
/-- a slice from place j on -/
theorem Ints.drop {w : World} {b off n c : Nat} {xs : List Int} (h : Ints w (some ⟨b, off, none⟩) n c xs) (j : Nat) (hj : j ≤ n) : Ints w (some ⟨b, off + j, none⟩) (n - j) (c - j) (xs.drop j) :=
  ⟨by rw [List.length_drop, ← h.1], ⟨by have := h.2.le; omega, by have := h.2.cap; omega, by rw [List.length_map, List.length_drop, ← h.1]; omega, fun hn => by
    obtain ⟨b', off', e, hlt, hc⟩ := h.2.at_ (by omega)
    injection e with e; injection e with e1 e2
    subst e1; subst e2
    refine ⟨b, off + j, rfl, hlt, fun i u hu => ?_⟩
    rw [Nat.add_assoc]
    refine hc (j + i) u ?_
    rw [List.getElem?_map] at hu ⊢
    rw [List.getElem?_drop] at hu
    exact hu⟩⟩

section
variable {H : Type} {enc : TypeId × Value → H} {P : Program} {w : World} {base : Nat} {spare : Nat → Bool} {held : Bool}
/-- a slice read from its one cell, opened at every element -/
theorem open_row_cells {t e : TypeId} {size fuel0 : Nat} {v : Value} {y : DataW H × List MemPlace} (ht : P.underlying t = some (.slice e)) (hC : P.cellsOf e = size) (hs : 0 < size)
    (hf : DataW.trod enc P w base spare held fuel0 t [v] = some y) :
    ∃ (A : Option Addr) (n c : Nat) (el : Nat → List Value) (fuel : Nat), v = .slice A n c ∧ Reads w size A n c ((List.range n).flatMap el) ∧ (∀ i, i < n → (el i).length = size) ∧
      ∀ i, i < n → ∃ y, DataW.trod enc P w base spare held fuel e (el i) = some y := by
  rcases open_slice ht hf with ⟨hcs, _⟩ | ⟨a, len, cap, m, k, D, Pl, hcs, hb, hl, hm, hmm, _, hi⟩
  · simp only [List.cons.injEq, and_true] at hcs
    subst hcs
    exact ⟨none, 0, 0, fun _ => [], 0, rfl, ⟨Nat.le_refl _, Nat.zero_le _, by simp, fun h => absurd h (by omega)⟩, fun i h => absurd h (by omega), fun i h => absurd h (by omega)⟩
  · simp only [List.cons.injEq, and_true] at hcs
    subst hcs
    have hnm : len ≤ m := by rw [hmm]; split <;> omega
    rw [hC] at hi
    have hex : ∀ i, ∃ cs', i < len → w.cells? base (a.add (i * size)) size = some cs' ∧ DataW.trod enc P w base spare held k e cs' = some (D i, Pl i) := fun i => by
      by_cases h : i < len
      · obtain ⟨cs', h1, h2⟩ := hi i (by omega)
        exact ⟨cs', fun _ => ⟨h1, h2⟩⟩
      · exact ⟨[], fun h' => absurd h' h⟩
    obtain ⟨el, hel⟩ := Classical.axiomOfChoice hex
    have hlen : ∀ i, i < len → (el i).length = size := fun i h => (cells_at (hel i h).1).1
    refine ⟨some a, len, cap, el, k, rfl, ⟨hl, hm, ?_, fun hn => ?_⟩, hlen, fun i h => ⟨_, (hel i h).2⟩⟩
    · exact flat_len hlen
    · have h00 := (cells_at (hel 0 hn).1).2 0 hs
      rw [List.getElem?_eq_getElem (by rw [hlen 0 hn]; exact hs)] at h00
      obtain ⟨b, off, sp⟩ := a
      have hsp : sp = none := by
        have := World.cell?_spot h00
        unfold Addr.add at this
        simpa using this
      subst hsp
      have hadd : ∀ j, (⟨b, off, none⟩ : Addr).add j = ⟨b, off + j, none⟩ := fun j => by
        unfold Addr.add
        split
        · rename_i h0; rw [h0]; rfl
        · rfl
      refine ⟨b, off, rfl, ?_, fun j u hu => ?_⟩
      · have := World.block_lt_of_cell? w _ h00
        rw [hadd] at this
        exact this
      · obtain ⟨i, k2, hi1, hk2, hj, hu2⟩ := flat_at hlen hu
        have := (cells_at (hel i hi1).1).2 k2 hk2
        rw [hadd, hu2] at this
        rw [hj]
        exact this
theorem open_ints_cells {t e : TypeId} {fuel : Nat} {v : Value} {y : DataW H × List MemPlace} (ht : P.underlying t = some (.slice e)) (he : P.underlying e = some (.int .i64)) (hC : P.cellsOf e = 1)
    (h : DataW.trod enc P w base spare held fuel t [v] = some y) : ∃ (A : Option Addr) (n c : Nat) (xs : List Int), v = .slice A n c ∧ Ints w A n c xs := by
  obtain ⟨A, n, c, el, fuel, rfl, hr, hl, he2⟩ := open_row_cells ht hC (by omega) h
  have hex : ∀ i, ∃ s : Int, i < n → el i = [.int .i64 s] := fun i => by
    by_cases hlt : i < n
    · obtain ⟨y, hy⟩ := he2 i hlt
      obtain ⟨s, hs, _⟩ := DataW.trod_int he hy
      exact ⟨s, fun _ => hs⟩
    · exact ⟨0, fun h => absurd h hlt⟩
  obtain ⟨X, hX⟩ := Classical.axiomOfChoice hex
  refine ⟨A, n, c, (List.range n).map X, rfl, by simp, ?_⟩
  have : ((List.range n).map X).map (Value.int .i64) = (List.range n).flatMap el := by
    rw [congr_flat (g := fun i => [Value.int .i64 (X i)]) (fun i hi => hX i (by simpa using hi)), List.map_map, List.map_eq_flatMap]
    rfl
  rw [this]
  exact hr
theorem flat_get {n size : Nat} {el : Nat → List Value} (hlen : ∀ i, i < n → (el i).length = size) {i k : Nat} (hi : i < n) (hk : k < size) : ((List.range n).flatMap el)[i * size + k]? = (el i)[k]? := by
  induction n with
  | zero => omega
  | succ n ih =>
    have hl' : ∀ i, i < n → (el i).length = size := fun i h => hlen i (by omega)
    rw [List.range_succ, List.flatMap_append]
    simp only [List.flatMap_cons, List.flatMap_nil, List.append_nil]
    by_cases h : i < n
    · rw [List.getElem?_append_left, ih hl' h]
      rw [flat_len hl']
      have : i * size + size ≤ n * size := by rw [← Nat.succ_mul]; exact Nat.mul_le_mul_right _ h
      omega
    · obtain rfl : i = n := by omega
      rw [List.getElem?_append_right (by rw [flat_len hl']; omega), flat_len hl']
      congr 1
      omega
theorem open_rule_cells {e ti i0 ts : TypeId} {f0 f1 : Field} {fuel : Nat} {cs : List Value} {y : DataW H × List MemPlace} (he : P.underlying e = some (.struct #[f0, f1])) (hone : oneCellFields P #[f0, f1] = true)
    (h0 : f0.type = ti) (h1 : f1.type = ts) (hti : P.underlying ti = some (.slice i0)) (hi0 : P.underlying i0 = some (.int .i64)) (hC : P.cellsOf i0 = 1) (hts : P.underlying ts = some .string) (hl : cs.length = 2)
    (h : DataW.trod enc P w base spare held fuel e cs = some y) : ∃ B m d xs r, cs = [.slice B m d, .string r] ∧ Ints w B m d xs ∧ r.size ≤ maxLen := by
  obtain ⟨v0, v1, k, y0, y1, hcs, ht0, ht1⟩ := struct2 he hone hl h
  rw [h0] at ht0; rw [h1] at ht1
  obtain ⟨B, m, d, xs, rfl, hx⟩ := open_ints_cells hti hi0 hC ht0
  obtain ⟨r, hr, _, hz⟩ := DataW.trod_string hts ht1
  simp only [List.cons.injEq, and_true] at hr
  subst hr
  exact ⟨B, m, d, xs, r, hcs, hx, hz⟩
theorem open_rules_ {t e ti i0 ts : TypeId} {f0 f1 : Field} {v : Value} {r : Reach} {b0 : Nat} {d : DataW H} {p : List MemPlace} (ht : P.underlying t = some (.slice e)) (he : P.underlying e = some (.struct #[f0, f1]))
    (hone : oneCellFields P #[f0, f1] = true) (hC : P.cellsOf e = 2) (h0 : f0.type = ti) (h1 : f1.type = ts) (hti : P.underlying ti = some (.slice i0)) (hi0 : P.underlying i0 = some (.int .i64)) (hCi : P.cellsOf i0 = 1) (hts : P.underlying ts = some .string)
    (hv : Value.okWide P w r b0 t v) (h : DataW.Trod enc P w base spare held t v d p) :
    ∃ (A : Option Addr) (n c : Nat) (T : List Rl), v = .slice A n c ∧ Rules w A n c T := by
  obtain ⟨A, n, c, el, fuel, rfl, hr, hl, he2⟩ := open_row ht hC (by omega) hv h
  have hex : ∀ i, ∃ q : Rl, i < n → ∃ B m d, el i = [.slice B m d, .string q.2] ∧ Ints w B m d q.1 ∧ q.2.size ≤ maxLen := fun i => by
    by_cases hlt : i < n
    · obtain ⟨y, hy⟩ := he2 i hlt
      obtain ⟨B, m, d, xs, r, h1, h2, h3⟩ := open_rule_cells he hone h0 h1 hti hi0 hCi hts (hl i hlt) hy
      exact ⟨(xs, r), fun _ => ⟨B, m, d, h1, h2, h3⟩⟩
    · exact ⟨([], ⟨#[]⟩), fun h => absurd h hlt⟩
  obtain ⟨X, hX⟩ := Classical.axiomOfChoice hex
  refine ⟨A, n, c, (List.range n).map X, rfl, by simp, _, hr, fun i hi => ?_⟩
  obtain ⟨B, m, d, e1, e2, e3⟩ := hX i hi
  refine ⟨B, m, d, (X i).1, (X i).2, by rw [List.getElem?_map, List.getElem?_range hi]; rfl, ?_, ?_, e2, e3⟩
  · have := flat_get hl hi (k := 0) (by omega)
    rw [Nat.add_zero] at this
    rw [this, e1]
    rfl
  · rw [flat_get hl hi (by omega), e1]
    rfl
end
end Go.Proofs.YtfacbdliegemgaaDoor
