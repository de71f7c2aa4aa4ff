/- Arguments opened: what a value that can be read as data holds, in this proof's own words. Over any program: nothing is claimed of a Go function here. -/
import Derived.Test.YtfacbdliegemgaaDoorBase
import Derived.Deep.Slices
import Derived.Deep.Fields
import Derived.ChangeSame
import Derived.Lib.SmallJoins
namespace Go.Proofs.YtfacbdliegemgaaDoor
open Go.ChangeShapes Go.WideShapes Go.ChangeAt Go.RowKit Go.Deep Go.Joins

section
variable {H : Type} {enc : TypeId × Value → H} {P : Program} {w : World} {base : Nat} {spare : Nat → Bool} {held : Bool}

/-- the cells of a row of elements, each of 'size' cells -/
theorem cells_at {a : Addr} {size i : Nat} {cs' : List Value} (h : w.cells? base (a.add (i * size)) size = some cs') : cs'.length = size ∧ ∀ j, j < size → w.cell? (a.add (i * size + j)) = cs'[j]? := by
  obtain ⟨_, hl, hc⟩ := World.cells?_some h
  exact ⟨hl, fun j hj => by rw [← hc j hj, Go.Deep.add_add]⟩

theorem flat_len {n size : Nat} {el : Nat → List Value} (hlen : ∀ i, i < n → (el i).length = size) : ((List.range n).flatMap el).length = n * size := by
  induction n with
  | zero => simp
  | succ n ih =>
    rw [List.range_succ, List.flatMap_append, List.length_append, ih (fun i h => hlen i (by omega)), Nat.add_mul]
    simp [hlen n (by omega)]
theorem flat_at {n size : Nat} {el : Nat → List Value} (hlen : ∀ i, i < n → (el i).length = size) {j : Nat} {u : Value} (hu : ((List.range n).flatMap el)[j]? = some u) :
    ∃ i k, i < n ∧ k < size ∧ j = i * size + k ∧ (el i)[k]? = some u := by
  induction n with
  | zero => simp at hu
  | succ n ih =>
    have hl' : ∀ i, i < n → (el i).length = size := fun i h => hlen i (by omega)
    have hln := flat_len hl'
    rw [List.range_succ, List.flatMap_append, List.getElem?_append] at hu
    split at hu
    · obtain ⟨i, k, h1, h2, h3, h4⟩ := ih hl' hu
      exact ⟨i, k, by omega, h2, h3, h4⟩
    · rename_i hge
      rw [hln] at hge hu
      simp only [List.flatMap_cons, List.flatMap_nil, List.append_nil] at hu
      have hk := (List.getElem?_eq_some_iff.1 hu).1
      rw [hlen n (by omega)] at hk
      exact ⟨n, j - n * size, by omega, hk, by omega, hu⟩
theorem congr_flat {α β : Type} {f g : α → List β} {l : List α} (h : ∀ x, x ∈ l → f x = g x) : l.flatMap f = l.flatMap g := by
  induction l with
  | nil => rfl
  | cons a l ih => rw [List.flatMap_cons, List.flatMap_cons, h a (by simp), ih (fun x hx => h x (by simp [hx]))]

/-- A SLICE, opened at every element: its cells, and each element's own reading. -/
theorem open_row {t e : TypeId} {size : Nat} {v : Value} {r : Reach} {b0 : Nat} {d : DataW H} {p : List MemPlace} (ht : P.underlying t = some (.slice e)) (hC : P.cellsOf e = size) (hs : 0 < size)
    (hv : Value.okWide P w r b0 t v) (h : DataW.Trod enc P w base spare held t v d p) :
    ∃ (A : Option Addr) (n c : Nat) (el : Nat → List Value) (fuel : Nat), v = .slice A n c ∧ Reads w size A n c ((List.range n).flatMap el) ∧ (∀ i, i < n → (el i).length = size) ∧
      ∀ i, i < n → ∃ y, DataW.trod enc P w base spare held fuel e (el i) = some y := by
  obtain ⟨A, n, c, rfl⟩ := okWide_slice ht hv
  obtain ⟨fuel, hf⟩ := h
  rcases open_slice ht hf with ⟨hcs, _⟩ | ⟨a, len, cap, m, k, D, Pl, hcs, hb, hl, hm, hmm, _, hi⟩
  · simp [Value.cells] at hcs
    obtain ⟨rfl, rfl, rfl⟩ := hcs
    exact ⟨none, 0, 0, fun _ => [], 0, rfl, ⟨Nat.le_refl _, Nat.zero_le _, by simp, fun h => absurd h (by omega)⟩, fun i h => absurd h (by omega), fun i h => absurd h (by omega)⟩
  · simp [Value.cells] at hcs
    obtain ⟨rfl, rfl, rfl⟩ := hcs
    have hnm : n ≤ m := by rw [hmm]; split <;> omega
    rw [hC] at hi
    have hex : ∀ i, ∃ cs', i < n → w.cells? base (a.add (i * size)) size = some cs' ∧ DataW.trod enc P w base spare held k e cs' = some (D i, Pl i) := fun i => by
      by_cases h : i < n
      · obtain ⟨cs', h1, h2⟩ := hi i (by omega)
        exact ⟨cs', fun _ => ⟨h1, h2⟩⟩
      · exact ⟨[], fun h' => absurd h' h⟩
    obtain ⟨el, hel⟩ := Classical.axiomOfChoice hex
    have hlen : ∀ i, i < n → (el i).length = size := fun i h => (cells_at (hel i h).1).1
    refine ⟨some a, n, c, el, k, rfl, ⟨hl, hm, ?_, fun hn => ?_⟩, hlen, fun i h => ⟨_, (hel i h).2⟩⟩
    · exact flat_len hlen
    · have h00 := (cells_at (hel 0 hn).1).2 0 hs
      rw [List.getElem?_eq_getElem (by rw [hlen 0 hn]; exact hs)] at h00
      obtain ⟨b, off, sp⟩ := a
      have hsp : sp = none := by
        have := World.cell?_spot h00
        unfold Addr.add at this
        simpa using this
      subst hsp
      have hadd : ∀ j, (⟨b, off, none⟩ : Addr).add j = ⟨b, off + j, none⟩ := fun j => by
        unfold Addr.add
        split
        · rename_i h0; rw [h0]; rfl
        · rfl
      refine ⟨b, off, rfl, ?_, fun j u hu => ?_⟩
      · have := World.block_lt_of_cell? w _ h00
        rw [hadd] at this
        exact this
      · obtain ⟨i, k2, hi1, hk2, hj, hu2⟩ := flat_at hlen hu
        have := (cells_at (hel i hi1).1).2 k2 hk2
        rw [hadd, hu2] at this
        rw [hj]
        exact this

theorem struct2 {e : TypeId} {f0 f1 : Field} {fuel : Nat} {cs : List Value} {y : DataW H × List MemPlace} (he : P.underlying e = some (.struct #[f0, f1])) (hone : oneCellFields P #[f0, f1] = true) (hl : cs.length = 2)
    (h : DataW.trod enc P w base spare held fuel e cs = some y) :
    ∃ (v0 v1 : Value) (n : Nat) (y0 y1 : DataW H × List MemPlace), cs = [v0, v1] ∧ DataW.trod enc P w base spare held n f0.type [v0] = some y0 ∧ DataW.trod enc P w base spare held n f1.type [v1] = some y1 := by
  obtain ⟨xs, n, _, _, _, hlen, hg⟩ := DataW.trod_struct he h
  obtain ⟨o0, k0⟩ := hone_of hone 0 f0 rfl
  obtain ⟨o1, k1⟩ := hone_of hone 1 f1 rfl
  match cs, hl with
  | [c0, c1], _ =>
    match xs, hlen with
    | [y0, y1], _ => exact ⟨c0, c1, n, y0, y1, rfl, by simpa [o0, k0] using hg 0 f0 rfl, by simpa [o1, k1] using hg 1 f1 rfl⟩

theorem open_spans {t e i0 : TypeId} {f0 f1 : Field} {v : Value} {r : Reach} {b0 : Nat} {d : DataW H} {p : List MemPlace} (ht : P.underlying t = some (.slice e)) (he : P.underlying e = some (.struct #[f0, f1]))
    (hone : oneCellFields P #[f0, f1] = true) (hC : P.cellsOf e = 2) (h0 : f0.type = i0) (h1 : f1.type = i0) (hi : P.underlying i0 = some (.int .i64))
    (hv : Value.okWide P w r b0 t v) (h : DataW.Trod enc P w base spare held t v d p) :
    ∃ (A : Option Addr) (n c : Nat) (xs : List (Int × Int)), v = .slice A n c ∧ Spans w A n c xs := by
  obtain ⟨A, n, c, el, fuel, rfl, hr, hl, he2⟩ := open_row ht hC (by omega) hv h
  have hex : ∀ i, ∃ s : Int × Int, i < n → el i = [.int .i64 s.1, .int .i64 s.2] := fun i => by
    by_cases hlt : i < n
    · obtain ⟨y, hy⟩ := he2 i hlt
      obtain ⟨v0, v1, m, y0, y1, hcs, ht0, ht1⟩ := struct2 he hone (hl i hlt) hy
      rw [h0] at ht0; rw [h1] at ht1
      obtain ⟨a, ha, _⟩ := DataW.trod_int hi ht0
      obtain ⟨b, hb, _⟩ := DataW.trod_int hi ht1
      simp only [List.cons.injEq, and_true] at ha hb
      exact ⟨(a, b), fun _ => by rw [hcs, ha, hb]⟩
    · exact ⟨(0, 0), fun h => absurd h hlt⟩
  obtain ⟨X, hX⟩ := Classical.axiomOfChoice hex
  refine ⟨A, n, c, (List.range n).map X, rfl, by simp, ?_⟩
  have : spanCells ((List.range n).map X) = (List.range n).flatMap el := by
    unfold spanCells
    rw [List.flatMap_map]
    apply congr_flat
    intro i hi
    exact (hX i (by simpa using hi)).symm
  rw [this]
  exact hr
end
end Go.Proofs.YtfacbdliegemgaaDoor
