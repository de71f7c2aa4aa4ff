/- Slices of integers: opened, copied, compared, marked. -/
import Derived.Test.YtfacbdliegemgaaGreatDoorOpen
import Derived.Test.YtfacbdliegemgaaGreatDoorJoin
namespace Go.Proofs.YtfacbdliegemgaaGreatDoor
open Go.ChangeShapes Go.WideShapes Go.ChangeAt Go.RowKit Go.Deep Go.Joins

/-- a slice of integers, as the list of them -/
def Ints (w : World) (A : Option Addr) (n c : Nat) (xs : List Int) : Prop := n = xs.length ∧ Reads w 1 A n c (xs.map (Value.int .i64))
theorem Ints.below {w w' : World} {A : Option Addr} {n c : Nat} {xs : List Int} (h : Ints w A n c xs) (hb : Below w.heap.size w w') : Ints w' A n c xs := ⟨h.1, h.2.below hb⟩
theorem Ints.at_ {w : World} {A : Option Addr} {n c : Nat} {xs : List Int} (h : Ints w A n c xs) (k : Nat) (hk : k < n) : ∃ b off, A = some ⟨b, off, none⟩ ∧ b < w.heap.size := by
  obtain ⟨b, off, e, hlt, _⟩ := h.2.at_ (by omega)
  exact ⟨b, off, e, hlt⟩
theorem Ints.el {w wr : World} {b off n c : Nat} {xs : List Int} (h : Ints w (some ⟨b, off, none⟩) n c xs) {B : Nat} (hb : Below B w wr) (hbl : b < B) (k : Nat) (hk : k < n) :
    ∃ s, Hid (xs[k]? = some s) ∧ wr.cell? ⟨b, off + k, none⟩ = some (.int .i64 s) := by
  obtain ⟨b', off', e, _, hc⟩ := h.2.at_ (by omega)
  injection e with e; injection e with e1 e2
  subst e1; subst e2
  have hl : k < xs.length := by rw [← h.1]; exact hk
  exact ⟨xs[k], List.getElem?_eq_getElem hl, (hb.cell (p := ⟨b, off + k, none⟩) hbl).trans (hc k _ (by simp [hl]))⟩
theorem own_ints {w : World} {base : Nat} {e : TypeId} {A : Option Addr} {n c : Nat} {xs : List Int} (h : w.ownsRow base e 1 (.slice A n c) n (xs.map (Value.int .i64))) : Ints w A n c xs :=
  ⟨by have := h.1; simpa using this.symm, Reads.of_own h⟩
theorem own_ints_ {w : World} {base : Nat} {e : TypeId} {v : Value} {n : Nat} {xs : List Int} (h : w.ownsRow base e 1 v n (xs.map (Value.int .i64))) : ∃ A c, v = .slice A n c ∧ Ints w A n c xs := by
  rcases h.2 with ⟨hv, hn⟩ | ⟨g, cap, cur, hv, _⟩
  · subst hv
    subst hn
    exact ⟨none, _, rfl, own_ints h⟩
  · subst hv
    exact ⟨_, _, rfl, own_ints h⟩
theorem open_ints_ {H : Type} {enc : TypeId × Value → H} {P : Program} {w : World} {base : Nat} {spare : Nat → Bool} {held : Bool}
    {t e : TypeId} {v : Value} {r : Reach} {b0 : Nat} {d : DataW H} {p : List MemPlace} (ht : P.underlying t = some (.slice e)) (he : P.underlying e = some (.int .i64)) (hC : P.cellsOf e = 1)
    (hv : Value.okWide P w r b0 t v) (h : DataW.Trod enc P w base spare held t v d p) :
    ∃ (A : Option Addr) (n c : Nat) (xs : List Int), v = .slice A n c ∧ Ints w A n c xs := by
  obtain ⟨A, n, c, el, fuel, rfl, hr, hl, he2⟩ := open_row ht hC (by omega) hv h
  have hex : ∀ i, ∃ s : Int, i < n → el i = [.int .i64 s] := fun i => by
    by_cases hlt : i < n
    · obtain ⟨y, hy⟩ := he2 i hlt
      obtain ⟨s, hs, _⟩ := DataW.trod_int he hy
      exact ⟨s, fun _ => hs⟩
    · exact ⟨0, fun h => absurd h hlt⟩
  obtain ⟨X, hX⟩ := Classical.axiomOfChoice hex
  refine ⟨A, n, c, (List.range n).map X, rfl, by simp, ?_⟩
  have : ((List.range n).map X).map (Value.int .i64) = (List.range n).flatMap el := by
    rw [congr_flat (g := fun i => [Value.int .i64 (X i)]) (fun i hi => hX i (by simpa using hi)), List.map_map, List.map_eq_flatMap]
    rfl
  rw [this]
  exact hr

/-- marks of integers -/
def imarks (k n : Nat) : List Int := (List.range n).map fun i => ((k + i : Nat) : Int)
theorem imarks_len (k n : Nat) : (imarks k n).length = n := by simp [imarks]
theorem imarks_at (k n i : Nat) (h : i < n) : (imarks k n)[i]? = some ((k + i : Nat) : Int) := by
  unfold imarks
  rw [List.getElem?_map, List.getElem?_range h]; rfl

end Go.Proofs.YtfacbdliegemgaaGreatDoor
