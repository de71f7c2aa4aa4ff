/- Best texts as two lists: plain law. Nothing is claimed of a Go function here. -/
import Derived.Test.YtnjjfcdddkabbaaDoorAmbLaw2
import Derived.Test.YtnjjfcdddkabbaaDoorAlpha
namespace Go.Proofs.YtnjjfcdddkabbaaDoor
open Go.RowKit

def lookB : List ByteArray → List ByteArray → Best
  | r :: rs, t :: ts, x => if x = r then some t else lookB rs ts x
  | _, _, _ => none
theorem hasT_cons (r : ByteArray) (rs : List ByteArray) (x : ByteArray) : hasT (r :: rs) x = (decide (r = x) || hasT rs x) := by
  unfold hasT; rw [List.any_cons]
theorem look_none : ∀ {rs ts : List ByteArray} {x : ByteArray}, hasT rs x = false → lookB rs ts x = none
  | [], ts, x, _ => by cases ts <;> rfl
  | r :: rs, [], x, _ => rfl
  | r :: rs, t :: ts, x, h => by
    rw [hasT_cons, Bool.or_eq_false_iff] at h
    have hne : ¬ x = r := fun e => (of_decide_eq_false h.1) e.symm
    unfold lookB
    rw [if_neg hne]
    exact look_none h.2
theorem look_at : ∀ {rs ts : List ByteArray} {x t : ByteArray} {k : Nat}, rs[k]? = some x → hasT (rs.take k) x = false → ts[k]? = some t → lookB rs ts x = some t
  | [], _, _, _, _, h, _, _ => by simp at h
  | r :: rs, [], _, _, _, _, _, h => by simp at h
  | r :: rs, t0 :: ts, x, t, 0, h1, _, h3 => by
    simp at h1 h3
    subst h1; subst h3
    unfold lookB
    rw [if_pos rfl]
  | r :: rs, t0 :: ts, x, t, k + 1, h1, h2, h3 => by
    rw [List.take_succ_cons, hasT_cons, Bool.or_eq_false_iff] at h2
    have hne : ¬ x = r := fun e => (of_decide_eq_false h2.1) e.symm
    unfold lookB
    rw [if_neg hne]
    exact look_at (k := k) (by simpa using h1) h2.2 (by simpa using h3)
theorem look_some : ∀ {rs ts : List ByteArray} {x t : ByteArray}, lookB rs ts x = some t → ∃ k, rs[k]? = some x ∧ hasT (rs.take k) x = false ∧ ts[k]? = some t
  | [], ts, x, t, h => by cases ts <;> cases h
  | r :: rs, [], x, t, h => by cases h
  | r :: rs, t0 :: ts, x, t, h => by
    unfold lookB at h
    by_cases e : x = r
    · rw [if_pos e] at h
      exact ⟨0, by rw [e]; rfl, rfl, by simpa using h⟩
    · rw [if_neg e] at h
      obtain ⟨k, h1, h2, h3⟩ := look_some h
      refine ⟨k + 1, by simpa using h1, ?_, by simpa using h3⟩
      have hne : ¬ r = x := fun e' => e e'.symm
      rw [List.take_succ_cons, hasT_cons, h2]
      simp [hne]
theorem look_append : ∀ {rs ts : List ByteArray} {x t : ByteArray}, rs.length = ts.length → hasT rs x = false → lookB (rs ++ [x]) (ts ++ [t]) = setB (lookB rs ts) x t
  | [], [], x, t, _, _ => by
    funext y
    unfold setB
    show (if y = x then some t else _) = _
    rfl
  | r :: rs, t0 :: ts, x, t, hl, hn => by
    rw [hasT_cons, Bool.or_eq_false_iff] at hn
    have hne : ¬ r = x := of_decide_eq_false hn.1
    have ih := look_append (rs := rs) (ts := ts) (x := x) (t := t) (by simpa using hl) hn.2
    funext y
    show (if y = r then some t0 else lookB (rs ++ [x]) (ts ++ [t]) y) = _
    rw [ih]
    unfold setB
    by_cases e : y = r
    · rw [if_pos e, if_neg (fun e' => hne (e ▸ e'))]
      show _ = (if y = r then some t0 else lookB rs ts y)
      rw [if_pos e]
    · rw [if_neg e]
      by_cases e2 : y = x
      · rw [if_pos e2, if_pos e2]
      · rw [if_neg e2, if_neg e2]
        show _ = (if y = r then some t0 else lookB rs ts y)
        rw [if_neg e]
theorem look_set : ∀ {rs ts : List ByteArray} {x t : ByteArray} {k : Nat}, rs.length = ts.length → rs[k]? = some x → hasT (rs.take k) x = false → lookB rs (ts.set k t) = setB (lookB rs ts) x t
  | [], _, _, _, _, _, h, _ => by simp at h
  | r :: rs, [], _, _, _, hl, _, _ => by simp at hl
  | r :: rs, t0 :: ts, x, t, 0, hl, h1, _ => by
    simp at h1
    subst h1
    funext y
    rw [List.set_cons_zero]
    unfold setB
    show (if y = r then some t else lookB rs ts y) = (if y = r then some t else if y = r then some t0 else lookB rs ts y)
    by_cases e : y = r
    · rw [if_pos e, if_pos e]
    · rw [if_neg e, if_neg e, if_neg e]
  | r :: rs, t0 :: ts, x, t, k + 1, hl, h1, h2 => by
    rw [List.take_succ_cons, hasT_cons, Bool.or_eq_false_iff] at h2
    have hne : ¬ r = x := of_decide_eq_false h2.1
    have ih := look_set (rs := rs) (ts := ts) (x := x) (t := t) (k := k) (by simpa using hl) (by simpa using h1) h2.2
    funext y
    rw [List.set_cons_succ]
    show (if y = r then some t0 else lookB rs (ts.set k t) y) = _
    rw [ih]
    unfold setB
    by_cases e : y = r
    · rw [if_pos e, if_neg (fun e' => hne (e ▸ e'))]
      show _ = (if y = r then some t0 else lookB rs ts y)
      rw [if_pos e]
    · rw [if_neg e]
      by_cases e2 : y = x
      · rw [if_pos e2, if_pos e2]
      · rw [if_neg e2, if_neg e2]
        show _ = (if y = r then some t0 else lookB rs ts y)
        rw [if_neg e]
/-- two lists as a table: as long, each rest once, and what learning keeps -/
structure Two (R rs ts : List ByteArray) : Prop where
  len : rs.length = ts.length
  once : ∀ k x, rs[k]? = some x → hasT (rs.take k) x = false
  fit : FitB R (lookB rs ts)
  cnt : rs.length ≤ cntB (univ R) (lookB rs ts)
theorem two_start (R : List ByteArray) : Two R [] [] := ⟨rfl, fun k x h => by simp at h, ⟨fun x t h => (by cases h), fun x t h => (by cases h)⟩, Nat.zero_le _⟩
theorem Two.get {R rs ts : List ByteArray} (h : Two R rs ts) {k : Nat} {x t : ByteArray} (h1 : rs[k]? = some x) (h2 : ts[k]? = some t) : lookB rs ts x = some t := look_at h1 (h.once k x h1) h2
theorem Two.short {R rs ts : List ByteArray} (h : Two R rs ts) : rs.length ≤ (univ R).length := Nat.le_trans h.cnt (cntB_le _ _)
theorem cnt_set_new {R : List ByteArray} {f : Best} {x t : ByteArray} (hx : x ∈ univ R) (hn : f x = none) : cntB (univ R) f + 1 ≤ cntB (univ R) (setB f x t) := by
  unfold cntB
  refine countP_lt (fun y hy => ?_) hx (by rw [hn]; rfl) (by rw [setB_at]; rfl)
  by_cases ey : y = x
  · rw [ey, setB_at]; rfl
  · rw [setB_ne ey]; exact hy
theorem cnt_set_le {R : List ByteArray} {f : Best} {x t : ByteArray} : cntB (univ R) f ≤ cntB (univ R) (setB f x t) := by
  unfold cntB
  refine List.countP_mono_left (fun y _ hy => ?_)
  by_cases ey : y = x
  · rw [ey, setB_at]; rfl
  · rw [setB_ne ey]; exact hy
/-- a rest that is not known -/
theorem two_new {R rs ts : List ByteArray} {x t : ByteArray} (h : Two R rs ts) (hn : hasT rs x = false) (hx : x ∈ univ R) (ht : t.size ≤ 4 * (1 + cntB (univ R) (lookB rs ts)) + 4) :
    Two R (rs ++ [x]) (ts ++ [t]) ∧ lookB (rs ++ [x]) (ts ++ [t]) = learnB (lookB rs ts) x t ∧ isNewB (lookB rs ts) x t = true := by
  have e0 : lookB rs ts x = none := look_none hn
  have hnew : isNewB (lookB rs ts) x t = true := by unfold isNewB; rw [e0]
  have e1 := look_append (t := t) h.len hn
  have e2 : learnB (lookB rs ts) x t = setB (lookB rs ts) x t := by unfold learnB; rw [if_pos hnew]
  have hf := learn_fit h.fit hx ht
  rw [e2, ← e1] at hf
  refine ⟨⟨by simp [h.len], fun k y hk => ?_, hf, ?_⟩, by rw [e1, e2], hnew⟩
  · rcases Nat.lt_or_ge k rs.length with hl | hl
    · rw [List.getElem?_append_left hl] at hk
      rw [List.take_append_of_le_length (by omega)]
      exact h.once k y hk
    · have hk2 := (List.getElem?_eq_some_iff.1 hk).1
      simp at hk2
      obtain rfl : k = rs.length := by omega
      rw [List.getElem?_append_right (Nat.le_refl _)] at hk
      simp at hk
      subst hk
      rw [List.take_left]
      exact hn
  · rw [e1, List.length_append]
    have := cnt_set_new (R := R) (t := t) hx e0
    have := h.cnt
    simp
    omega
/-- a rest that is known, with a better text -/
theorem two_better {R rs ts : List ByteArray} {x t u : ByteArray} {k : Nat} (h : Two R rs ts) (h1 : rs[k]? = some x) (h2 : ts[k]? = some u) (hb : betB t u = true) (hx : x ∈ univ R) (ht : t.size ≤ 4 * (1 + cntB (univ R) (lookB rs ts)) + 4) :
    Two R rs (ts.set k t) ∧ lookB rs (ts.set k t) = learnB (lookB rs ts) x t ∧ isNewB (lookB rs ts) x t = true := by
  have e0 := h.get h1 h2
  have hnew : isNewB (lookB rs ts) x t = true := by unfold isNewB; rw [e0]; exact hb
  have e1 := look_set (t := t) h.len h1 (h.once k x h1)
  have e2 : learnB (lookB rs ts) x t = setB (lookB rs ts) x t := by unfold learnB; rw [if_pos hnew]
  have hf := learn_fit h.fit hx ht
  rw [e2, ← e1] at hf
  refine ⟨⟨by simp [h.len], h.once, hf, ?_⟩, by rw [e1, e2], hnew⟩
  rw [e1]
  exact Nat.le_trans h.cnt cnt_set_le
/-- a rest that is known, with a text that is no better -/
theorem two_same {R rs ts : List ByteArray} {x t u : ByteArray} {k : Nat} (h : Two R rs ts) (h1 : rs[k]? = some x) (h2 : ts[k]? = some u) (hb : betB t u = false) :
    lookB rs ts = learnB (lookB rs ts) x t ∧ isNewB (lookB rs ts) x t = false := by
  have e0 := h.get h1 h2
  have hnew : isNewB (lookB rs ts) x t = false := by unfold isNewB; rw [e0]; exact hb
  exact ⟨(learn_not hnew).symm, hnew⟩
end Go.Proofs.YtnjjfcdddkabbaaDoor
