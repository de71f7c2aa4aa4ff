/- Spellings without the letters that are ignored: slices.DeleteFunc with the program's closure. -/
import Derived.Test.YtnjeloggpbgloaaDoorSortB
import Derived.Lib.SliceRun
namespace Go.Proofs.YtnjeloggpbgloaaDoor
open Go.ChangeShapes Go.WideShapes Go.ChangeAt Go.RowKit
theorem own_stores {base g n c : Nat} {e : TypeId} : ∀ (vs : List Value) (o : Nat) (w : World) (xs : List Value), w.ownsRow base e 1 (.slice (some ⟨g, 0, none⟩) n c) n xs →
    ∃ ys, (w.setCells g o vs).ownsRow base e 1 (.slice (some ⟨g, 0, none⟩) n c) n ys ∧ ys.take o = xs.take o ∧ w.grownBy (w.setCells g o vs) (some g)
  | [], o, w, xs, h => ⟨xs, h, rfl, rfl, rfl, rfl, Nat.le_refl _, fun _ _ _ => rfl⟩
  | v :: r, o, w, xs, h => by
    have s := h.stored o v
    obtain ⟨ys, h1, h2, h3⟩ := own_stores r (o + 1) _ _ s.1
    refine ⟨ys, h1, ?_, ⟨h3.os.trans s.2.os, h3.tape.trans s.2.tape, h3.output.trans s.2.output, Nat.le_trans s.2.size h3.size, fun k hk hne => (h3.block k (Nat.lt_of_lt_of_le hk s.2.size) hne).trans (s.2.block k hk hne)⟩⟩
    have e2 := congrArg (List.take o) h2
    rw [List.take_take, List.take_take, Nat.min_eq_left (Nat.le_succ _)] at e2
    rw [e2, List.take_set_of_le (Nat.le_refl _)]
theorem own_cut1 {w : World} {base g n cap m : Nat} {e : TypeId} {xs : List Value} (h : w.ownsRow base e 1 (.slice (some ⟨g, 0, none⟩) n cap) n xs) (hm : m ≤ n) : w.ownsRow base e 1 (.slice (some ⟨g, 0, none⟩) m cap) m (xs.take m) := by
  have hl := h.1
  rcases h.2 with ⟨h', _⟩ | ⟨g', cap', cur, h', hb, hg, hnc, hcm, hcs, htake⟩
  · simp at h'
  simp only [Value.slice.injEq, Option.some.injEq, Addr.mk.injEq, and_true, true_and] at h'
  obtain ⟨rfl, rfl⟩ := h'
  refine ⟨by rw [List.length_take]; omega, .inr ⟨g, cap, cur, rfl, hb, hg, by omega, hcm, hcs, ?_⟩⟩
  rw [← htake, List.take_take]
  congr 1
  omega
/-! ## the numbers that are ignored -/
/-- the first of a list that is ignored -/
def FirstIn (ig l : List Int) (q : Int) : Prop := (q = -1 ∧ l.any (hasG ig) = false) ∨ ∃ k : Nat, q = k ∧ k < l.length ∧ (l.take k).any (hasG ig) = false ∧ (l[k]?.map (hasG ig)) = some true
theorem any_succ {α : Type} {p : α → Bool} {xs : List α} {k : Nat} {x : α} (h : xs[k]? = some x) (hb : (xs.take k).any p = false) (hx : p x = false) : (xs.take (k + 1)).any p = false := by
  rw [List.take_add_one, h, List.any_append, hb]
  simp [hx]
/-! ## slices.DeleteFunc -/
theorem keepI_all {ig l : List Int} (h : l.any (hasG ig) = false) : keepI ig l = l := by
  unfold keepI
  refine List.filter_eq_self.2 fun a ha => ?_
  have := List.any_eq_false.1 h a ha
  simpa using this
theorem keepI_snoc {ig l : List Int} {k : Nat} {x : Int} (h : l[k]? = some x) : keepI ig (l.take (k + 1)) = keepI ig (l.take k) ++ (if hasG ig x = true then [] else [x]) := by
  unfold keepI
  rw [List.take_add_one, h, List.filter_append]
  congr 1
  cases hh : hasG ig x <;> simp [hh]
theorem keepI_len (ig l : List Int) : (keepI ig l).length ≤ l.length := List.length_filter_le _ _
end Go.Proofs.YtnjeloggpbgloaaDoor
