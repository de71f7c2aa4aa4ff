/- Slices of rules that a call owns: copied, compared, marked. -/
import Derived.Test.YtfacbdliegemgaaDoorRules
import Derived.Test.YtfacbdliegemgaaDoorZone
namespace Go.Proofs.YtfacbdliegemgaaDoor
open Go.ChangeShapes Go.WideShapes Go.ChangeAt Go.RowKit

/-- the cells of rules: their signs' values, and their texts -/
def rcells : List Value → List Rl → List Value
  | u :: vs, r :: T => u :: .string r.2 :: rcells vs T
  | _, _ => []
theorem rcells_len : ∀ (vs : List Value) (T : List Rl), vs.length = T.length → (rcells vs T).length = T.length * 2
  | [], [], _ => rfl
  | u :: vs, r :: T, h => by
    simp only [List.length_cons, Nat.add_right_cancel_iff] at h
    simp only [rcells, List.length_cons, rcells_len vs T h]
    omega
  | [], _ :: _, h => by simp at h
  | _ :: _, [], h => by simp at h
theorem rcells_at : ∀ {vs : List Value} {T : List Rl} {i : Nat} {u : Value} {r : Rl}, vs[i]? = some u → T[i]? = some r → (rcells vs T)[i * 2]? = some u ∧ (rcells vs T)[i * 2 + 1]? = some (.string r.2)
  | [], _, i, u, r, h, _ => by simp at h
  | _ :: _, [], i, u, r, _, h => by simp at h
  | v :: vs, t :: T, 0, u, r, h, h2 => by
    simp at h h2
    subst h; subst h2
    simp [rcells]
  | v :: vs, t :: T, i + 1, u, r, h, h2 => by
    simp only [List.getElem?_cons_succ] at h h2
    have := rcells_at h h2
    simp only [rcells]
    rw [show (i + 1) * 2 = i * 2 + 1 + 1 by omega, show i * 2 + 1 + 1 + 1 = (i * 2 + 1) + 1 + 1 by omega]
    simpa only [List.getElem?_cons_succ] using this
theorem rcells_snoc : ∀ {vs : List Value} {T : List Rl} (u : Value) (r : Rl), vs.length = T.length → rcells (vs ++ [u]) (T ++ [r]) = rcells vs T ++ [u, .string r.2]
  | [], [], u, r, _ => rfl
  | v :: vs, t :: T, u, r, h => by
    simp only [List.length_cons, Nat.add_right_cancel_iff] at h
    simp only [List.cons_append, rcells, rcells_snoc u r h]
  | [], _ :: _, u, r, h => by simp at h
  | _ :: _, [], u, r, h => by simp at h
theorem rcells_set : ∀ {vs : List Value} {T : List Rl} {i : Nat} (xs : List Int) (t : ByteArray), vs.length = T.length → (rcells vs T).set (i * 2 + 1) (.string t) = rcells vs (T.set i (xs, t))
  | [], [], i, xs, t, _ => by simp [rcells]
  | v :: vs, r :: T, 0, xs, t, h => by simp [rcells]
  | v :: vs, r :: T, i + 1, xs, t, h => by
    simp only [List.length_cons, Nat.add_right_cancel_iff] at h
    rw [show (i + 1) * 2 + 1 = (i * 2 + 1) + 1 + 1 by omega]
    simp only [rcells, List.set_cons_succ, rcells_set xs t h]
  | [], _ :: _, i, xs, t, h => by simp at h
  | _ :: _, [], i, xs, t, h => by simp at h
theorem take_snoc2 {α : Type} {cs P : List α} {j : Nat} {a b : α} (h : cs.take j = P) (hl : j + 1 < cs.length) : ((cs.set j a).set (j + 1) b).take (j + 2) = P ++ [a, b] := by
  subst h
  apply List.ext_getElem?
  intro i
  have hp : (cs.take j).length = j := by rw [List.length_take]; omega
  by_cases hi : i < j + 2
  · rw [List.getElem?_take_of_lt hi]
    by_cases e1 : i = j + 1
    · subst e1
      rw [List.getElem?_set_self (by simp; omega), List.getElem?_append_right (by omega), hp]
      simp
    · rw [List.getElem?_set_ne (by omega)]
      by_cases e2 : i = j
      · subst e2
        rw [List.getElem?_set_self (by omega), List.getElem?_append_right (by omega), hp]
        simp
      · rw [List.getElem?_set_ne (by omega), List.getElem?_append_left (by omega), List.getElem?_take_of_lt (by omega)]
  · rw [List.getElem?_take_eq_none (by omega), List.getElem?_eq_none (by simp [hp]; omega)]

/-- rules that lie in blocks of their own, from base on and below top, each in another block -/
structure OwnR (w : World) (base top : Nat) (v : Value) (n : Nat) (T : List Rl) (vs : List Value) : Prop where
  len : T.length = n
  vlen : vs.length = n
  row : w.ownsRow base 24 2 v n (rcells vs T)
  sg : ∀ (i : Nat) u r, vs[i]? = some u → T[i]? = some r → w.ownsRow base 2 1 u r.1.length (r.1.map (Value.int .i64)) ∧ r.2.size ≤ maxLen
  lo : ∀ (i : Nat) u k, vs[i]? = some u → u.ownBlock = some k → k < top ∧ v.ownBlock ≠ some k
  vlo : ∀ k, v.ownBlock = some k → k < top
  apart : ∀ (i j : Nat) u u' k, vs[i]? = some u → vs[j]? = some u' → u.ownBlock = some k → u'.ownBlock = some k → i = j
def OwnRules (w : World) (base top : Nat) (v : Value) (n : Nat) (T : List Rl) : Prop := ∃ vs, OwnR w base top v n T vs
theorem OwnR.zone {w w' : World} {base top lo hi : Nat} {v : Value} {n : Nat} {T : List Rl} {vs : List Value} (h : OwnR w base top v n T vs) (hz : Zone lo hi w w') (hd : hi ≤ base ∨ top ≤ lo) : OwnR w' base top v n T vs :=
  ⟨h.len, h.vlen, own_zone h.row hz (fun k hk => by have := (h.row.lt k hk).1; have := h.vlo k hk; omega),
    fun i u r h1 h2 => by
      obtain ⟨a, b⟩ := h.sg i u r h1 h2
      exact ⟨own_zone a hz (fun k hk => by have := (a.lt k hk).1; have := (h.lo i u k h1 hk).1; omega), b⟩,
    h.lo, h.vlo, h.apart⟩
theorem OwnR.below {w w' : World} {base top : Nat} {v : Value} {n : Nat} {T : List Rl} {vs : List Value} (h : OwnR w base top v n T vs) (hb : Below w.heap.size w w') : OwnR w' base top v n T vs :=
  ⟨h.len, h.vlen, own_below h.row hb, fun i u r h1 h2 => ⟨own_below (h.sg i u r h1 h2).1 hb, (h.sg i u r h1 h2).2⟩, h.lo, h.vlo, h.apart⟩
theorem OwnRules.zone {w w' : World} {base top lo hi : Nat} {v : Value} {n : Nat} {T : List Rl} (h : OwnRules w base top v n T) (hz : Zone lo hi w w') (hd : hi ≤ base ∨ top ≤ lo) : OwnRules w' base top v n T := h.imp fun _ h => h.zone hz hd
theorem OwnRules.below {w w' : World} {base top : Nat} {v : Value} {n : Nat} {T : List Rl} (h : OwnRules w base top v n T) (hb : Below w.heap.size w w') : OwnRules w' base top v n T := h.imp fun _ h => h.below hb
theorem OwnRules.reads {w : World} {base top : Nat} {A : Option Addr} {n c : Nat} {T : List Rl} (h : OwnRules w base top (.slice A n c) n T) : Rules w A n c T := by
  obtain ⟨vs, h⟩ := h
  refine ⟨h.len.symm, rcells vs T, Reads.of_own h.row, fun i hi => ?_⟩
  have e1 : vs[i]? = some (vs[i]'(by rw [h.vlen]; exact hi)) := List.getElem?_eq_getElem _
  have e2 : T[i]? = some (T[i]'(by rw [h.len]; exact hi)) := List.getElem?_eq_getElem _
  obtain ⟨h1, h2⟩ := h.sg i _ _ e1 e2
  obtain ⟨h3, h4⟩ := rcells_at e1 e2
  obtain ⟨B, d, e3, h5⟩ := own_ints_ h1
  exact ⟨B, _, d, _, _, e2, by rw [h3, e3], h4, h5, h2⟩
end Go.Proofs.YtfacbdliegemgaaDoor
