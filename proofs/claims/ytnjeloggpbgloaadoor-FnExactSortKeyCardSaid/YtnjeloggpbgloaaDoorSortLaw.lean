/- Comparing and sorting phrases: plain law. Nothing is claimed of a Go function here. -/
import Derived.Test.YtnjeloggpbgloaaDoorSpellE
import Derived.Test.YtnjeloggpbgloaaDoorRulesLaw
namespace Go.Proofs.YtnjeloggpbgloaaDoor
open Go.RowKit
def cmp2 (a b : Int) : Int := if a < b then -1 else if b < a then 1 else 0
/-- lists compared, element by element, then by their lengths -/
def cmpG {α : Type} (f : α → α → Int) : List α → List α → Int
  | [], [] => 0
  | [], _ :: _ => -1
  | _ :: _, [] => 1
  | a :: x, b :: y => if f a b = 0 then cmpG f x y else f a b
def cmpI : List Int → List Int → Int := cmpG cmp2
def cmpL : List (List Int) → List (List Int) → Int := cmpG cmpI
section
variable {α : Type} {f : α → α → Int}
theorem drop_cons {xs : List α} {k : Nat} {a : α} (h : xs[k]? = some a) : xs.drop k = a :: xs.drop (k + 1) := by
  obtain ⟨hk, e⟩ := List.getElem?_eq_some_iff.1 h
  rw [List.drop_eq_getElem_cons hk, e]
theorem cmpG_eq {xs ys : List α} {k : Nat} {a b : α} (ha : xs[k]? = some a) (hb : ys[k]? = some b) (h : f a b = 0) : cmpG f (xs.drop k) (ys.drop k) = cmpG f (xs.drop (k + 1)) (ys.drop (k + 1)) := by
  rw [drop_cons ha, drop_cons hb]
  conv => lhs; unfold cmpG
  rw [if_pos h]
theorem cmpG_ne {xs ys : List α} {k : Nat} {a b : α} (ha : xs[k]? = some a) (hb : ys[k]? = some b) (h : f a b ≠ 0) : cmpG f (xs.drop k) (ys.drop k) = f a b := by
  rw [drop_cons ha, drop_cons hb]
  conv => lhs; unfold cmpG
  rw [if_neg h]
theorem cmpG_lss {xs ys : List α} {k : Nat} (hx : xs.length ≤ k) (hy : k < ys.length) : cmpG f (xs.drop k) (ys.drop k) = -1 := by
  rw [List.drop_eq_nil_of_le hx, List.drop_eq_getElem_cons hy]
  rfl
theorem cmpG_gtr {xs ys : List α} {k : Nat} (hx : k < xs.length) (hy : ys.length ≤ k) : cmpG f (xs.drop k) (ys.drop k) = 1 := by
  rw [List.drop_eq_nil_of_le hy, List.drop_eq_getElem_cons hx]
  rfl
theorem cmpG_end {xs ys : List α} {k : Nat} (hx : xs.length ≤ k) (hy : ys.length ≤ k) : cmpG f (xs.drop k) (ys.drop k) = 0 := by
  rw [List.drop_eq_nil_of_le hx, List.drop_eq_nil_of_le hy]
  rfl
/-- a comparison -/
structure IsCmp (f : α → α → Int) : Prop where
  rng : ∀ a b, f a b = -1 ∨ f a b = 0 ∨ f a b = 1
  anti : ∀ a b, f b a = - f a b
  eq0 : ∀ a b, f a b = 0 → a = b
  tr : ∀ a b c, f a b < 0 → f b c < 0 → f a c < 0
theorem IsCmp.refl (h : IsCmp f) (a : α) : f a a = 0 := by have := h.anti a a; omega
theorem isCmp_list (h : IsCmp f) : IsCmp (cmpG f) := by
  refine ⟨fun a b => ?_, fun a b => ?_, fun a b => ?_, fun a b c => ?_⟩
  · induction a generalizing b with
    | nil => cases b <;> simp [cmpG]
    | cons x a ih =>
      cases b with
      | nil => simp [cmpG]
      | cons y b =>
        unfold cmpG
        split
        · exact ih b
        · exact h.rng x y
  · induction a generalizing b with
    | nil => cases b <;> simp [cmpG]
    | cons x a ih =>
      cases b with
      | nil => simp [cmpG]
      | cons y b =>
        unfold cmpG
        have := h.anti x y
        by_cases e : f x y = 0
        · rw [if_pos e, if_pos (by omega)]; exact ih b
        · rw [if_neg e, if_neg (by omega)]; exact this
  · induction a generalizing b with
    | nil => cases b <;> simp [cmpG]
    | cons x a ih =>
      cases b with
      | nil => simp [cmpG]
      | cons y b =>
        unfold cmpG
        by_cases e : f x y = 0
        · rw [if_pos e]
          intro h2
          rw [h.eq0 x y e, ih b h2]
        · rw [if_neg e]
          intro h2
          exact absurd h2 e
  · induction a generalizing b c with
    | nil =>
      cases b with
      | nil => simp [cmpG]
      | cons y b => cases c <;> simp [cmpG]
    | cons x a ih =>
      cases b with
      | nil => simp [cmpG]
      | cons y b =>
        cases c with
        | nil => simp [cmpG]
        | cons z c =>
          unfold cmpG
          by_cases e1 : f x y = 0
          · have e1' := h.eq0 x y e1
            subst e1'
            rw [if_pos e1]
            by_cases e2 : f x z = 0
            · rw [if_pos e2, if_pos e2]; exact ih b c
            · rw [if_neg e2, if_neg e2]; intro _ h2; exact h2
          · rw [if_neg e1]
            by_cases e2 : f y z = 0
            · have e2' := h.eq0 y z e2
              subst e2'
              rw [if_pos e2, if_neg e1]; intro h1 _; exact h1
            · rw [if_neg e2]
              intro h1 h2
              have := h.tr x y z h1 h2
              rw [if_neg (by omega)]; exact this
end
theorem isCmp2 : IsCmp cmp2 := by
  refine ⟨fun a b => ?_, fun a b => ?_, fun a b => ?_, fun a b c => ?_⟩
  all_goals
    unfold cmp2
    repeat' split
    all_goals (try omega)
theorem isCmpI : IsCmp cmpI := isCmp_list isCmp2
theorem isCmpL : IsCmp cmpL := isCmp_list isCmpI
/-- a spelling without the letters that are ignored -/
def keepI (ig l : List Int) : List Int := l.filter fun i => !hasG ig i
theorem keepI_nil (l : List Int) : keepI [] l = l := by
  unfold keepI
  exact List.filter_eq_self.2 fun i _ => rfl
/-- the spellings of a phrase's words, and whether all can be written -/
def sps (xs : List ByteArray) (s : ByteArray) : List (List Int) := (cutS 32 s).map (spellList xs)
def spAll (xs : List ByteArray) (s : ByteArray) : Bool := (cutS 32 s).all (spellOk xs)
def onceP (xs : List ByteArray) (ig : List Int) (a b : ByteArray) : Int := cmpL ((sps xs a).map (keepI ig)) ((sps xs b).map (keepI ig))
def cmpP (xs : List ByteArray) (ig : List Int) (a b : ByteArray) : Int := if onceP xs ig a b = 0 then onceP xs [] a b else onceP xs ig a b
theorem onceP_nil (xs : List ByteArray) (a b : ByteArray) : onceP xs [] a b = cmpL (sps xs a) (sps xs b) := by
  unfold onceP
  have e : ∀ L : List (List Int), L.map (keepI []) = L := fun L => by
    induction L with
    | nil => rfl
    | cons x L ih => rw [List.map_cons, ih, keepI_nil]
  rw [e, e]
theorem cmpP_rng (xs : List ByteArray) (ig : List Int) (a b : ByteArray) : cmpP xs ig a b = -1 ∨ cmpP xs ig a b = 0 ∨ cmpP xs ig a b = 1 := by
  unfold cmpP
  split
  · exact isCmpL.rng _ _
  · exact isCmpL.rng _ _
theorem cmpP_anti (xs : List ByteArray) (ig : List Int) (a b : ByteArray) : cmpP xs ig b a = - cmpP xs ig a b := by
  unfold cmpP
  have h1 : onceP xs ig b a = - onceP xs ig a b := isCmpL.anti _ _
  have h2 : onceP xs [] b a = - onceP xs [] a b := isCmpL.anti _ _
  by_cases e : onceP xs ig a b = 0
  · rw [if_pos e, if_pos (by omega)]; exact h2
  · rw [if_neg e, if_neg (by omega)]; exact h1
theorem cmpP_tr (xs : List ByteArray) (ig : List Int) (a b c : ByteArray) (h1 : cmpP xs ig a b < 0) (h2 : cmpP xs ig b c < 0) : cmpP xs ig a c < 0 := by
  unfold cmpP at *
  have t1 : onceP xs ig a b < 0 → onceP xs ig b c < 0 → onceP xs ig a c < 0 := isCmpL.tr _ _ _
  have t2 : onceP xs [] a b < 0 → onceP xs [] b c < 0 → onceP xs [] a c < 0 := isCmpL.tr _ _ _
  have q1 : onceP xs ig a b = 0 → onceP xs ig a c = onceP xs ig b c := fun e => by
    have := isCmpL.eq0 _ _ e
    unfold onceP at *
    rw [this]
  have q2 : onceP xs ig b c = 0 → onceP xs ig a c = onceP xs ig a b := fun e => by
    have := isCmpL.eq0 _ _ e
    unfold onceP at *
    rw [this]
  by_cases e1 : onceP xs ig a b = 0
  · rw [if_pos e1] at h1
    rw [q1 e1]
    by_cases e2 : onceP xs ig b c = 0
    · rw [if_pos e2] at h2 ⊢
      exact t2 h1 h2
    · rw [if_neg e2] at h2 ⊢
      exact h2
  · rw [if_neg e1] at h1
    by_cases e2 : onceP xs ig b c = 0
    · rw [q2 e2, if_neg e1]; exact h1
    · rw [if_neg e2] at h2
      have := t1 h1 h2
      rw [if_neg (by omega)]; exact this
/-- the codes -/
def nsCode (xs : List ByteArray) (ig : List Int) (ps : List ByteArray) : Int := if isAlpha xs = true ∧ ps.all isPhrase = true then if ig.all (inB 0 ((xs.length : Int) - 1)) = true then if ps.all (spAll xs) = true then 0 else 4 else 2 else 1
theorem ns_cases (xs : List ByteArray) (ig : List Int) (ps : List ByteArray) :
    (isAlpha xs = false ∧ Hid (nsCode xs ig ps = 1)) ∨ (isAlpha xs = true ∧ ps.all isPhrase = false ∧ Hid (nsCode xs ig ps = 1)) ∨
    (isAlpha xs = true ∧ ps.all isPhrase = true ∧ ig.all (inB 0 ((xs.length : Int) - 1)) = false ∧ Hid (nsCode xs ig ps = 2)) ∨
    (isAlpha xs = true ∧ ps.all isPhrase = true ∧ ig.all (inB 0 ((xs.length : Int) - 1)) = true ∧ ps.all (spAll xs) = false ∧ Hid (nsCode xs ig ps = 4)) ∨
    (isAlpha xs = true ∧ ps.all isPhrase = true ∧ ig.all (inB 0 ((xs.length : Int) - 1)) = true ∧ ps.all (spAll xs) = true ∧ Hid (nsCode xs ig ps = 0)) := by
  unfold Hid nsCode
  cases isAlpha xs <;> cases ps.all isPhrase <;> cases ig.all (inB 0 ((xs.length : Int) - 1)) <;> cases ps.all (spAll xs) <;> simp
theorem phrase_words {s : ByteArray} (h : isPhrase s = true) : (cutS 32 s).length ≤ 8 ∧ ∀ x ∈ cutS 32 s, x.size ≤ 16 := by
  unfold isPhrase at h
  rw [Bool.and_eq_true] at h
  refine ⟨of_decide_eq_true h.2, fun x hx => ?_⟩
  exact isWord_size (List.all_eq_true.1 h.1 x hx)
end Go.Proofs.YtnjeloggpbgloaaDoor
