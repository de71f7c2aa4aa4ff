/- Texts with two parsings: plain law. What can be derived, and that two tables of best texts that are sound and closed are one. Nothing is claimed of a Go function here. -/
import Derived.Test.YtnjjfcdddkabbaaDoorSpellB
import Derived.Test.YtnjjfcdddkabbaaDoorRulesLaw
namespace Go.Proofs.YtnjjfcdddkabbaaDoor
open Go.RowKit

/-! ## the order of texts: by length, then by the alphabet -/
def lexB : List UInt8 → List UInt8 → Bool
  | [], [] => false
  | [], _ :: _ => true
  | _ :: _, [] => false
  | a :: x, b :: y => decide (a < b) || (decide (a = b) && lexB x y)
def rankL (l : List UInt8) : Nat := l.foldl (fun n c => n * 257 + (c.toNat + 1)) 0
theorem rank_from (l : List UInt8) (n : Nat) : l.foldl (fun n c => n * 257 + (c.toNat + 1)) n = n * 257 ^ l.length + rankL l := by
  unfold rankL
  induction l generalizing n with
  | nil => simp
  | cons a l ih =>
    rw [List.foldl_cons, List.foldl_cons, ih, ih (0 * 257 + (a.toNat + 1)), List.length_cons, Nat.pow_succ]
    rw [Nat.add_mul, Nat.zero_mul, Nat.zero_add, Nat.mul_assoc, Nat.mul_comm 257, Nat.add_assoc]
theorem rank_cons (a : UInt8) (l : List UInt8) : rankL (a :: l) = (a.toNat + 1) * 257 ^ l.length + rankL l := by
  have := rank_from l (a.toNat + 1)
  unfold rankL at *
  rw [List.foldl_cons, Nat.zero_mul, Nat.zero_add]
  exact this
theorem rank_lt : ∀ l : List UInt8, rankL l < 257 ^ l.length
  | [] => by simp [rankL]
  | a :: l => by
    have ih := rank_lt l
    have ha : a.toNat < 256 := a.toNat_lt
    rw [rank_cons, List.length_cons, Nat.pow_succ]
    have h2 : (a.toNat + 1) * 257 ^ l.length ≤ 256 * 257 ^ l.length := Nat.mul_le_mul_right _ (by omega)
    generalize 257 ^ l.length = p at *
    omega
theorem rank_ge : ∀ l : List UInt8, 257 ^ l.length ≤ rankL l * 257 + 1
  | [] => by simp [rankL]
  | a :: l => by
    rw [rank_cons, List.length_cons, Nat.pow_succ]
    have h2 : 1 * 257 ^ l.length ≤ (a.toNat + 1) * 257 ^ l.length := Nat.mul_le_mul_right _ (by omega)
    generalize 257 ^ l.length = p at *
    generalize (a.toNat + 1) * p = q at *
    omega
def rankT (s : ByteArray) : Nat := rankL s.data.toList
theorem lex_rank : ∀ {x y : List UInt8}, x.length = y.length → (lexB x y = true ↔ rankL x < rankL y)
  | [], [], _ => by simp [lexB]
  | a :: x, b :: y, h => by
    have hl : x.length = y.length := by simpa using h
    have ih := lex_rank hl
    have hx := rank_lt x
    have hy := rank_lt y
    rw [rank_cons, rank_cons, hl]
    rw [hl] at hx
    unfold lexB
    rw [Bool.or_eq_true, Bool.and_eq_true, decide_eq_true_iff, decide_eq_true_iff, ih]
    generalize 257 ^ y.length = p at *
    rcases Nat.lt_trichotomy a.toNat b.toNat with h1 | h1 | h1
    · have h2 : (a.toNat + 1 + 1) * p ≤ (b.toNat + 1) * p := Nat.mul_le_mul_right _ (by omega)
      rw [Nat.add_mul (a.toNat + 1) 1 p, Nat.one_mul] at h2
      exact ⟨fun _ => by omega, fun _ => .inl (UInt8.lt_iff_toNat_lt.2 h1)⟩
    · have e : a = b := UInt8.toNat_inj.1 h1
      subst e
      constructor
      · rintro (h | ⟨_, h⟩)
        · exact absurd (UInt8.lt_iff_toNat_lt.1 h) (Nat.lt_irrefl _)
        · omega
      · intro h
        exact .inr ⟨rfl, by omega⟩
    · have h2 : (b.toNat + 1 + 1) * p ≤ (a.toNat + 1) * p := Nat.mul_le_mul_right _ (by omega)
      rw [Nat.add_mul (b.toNat + 1) 1 p, Nat.one_mul] at h2
      constructor
      · rintro (h | ⟨h, _⟩)
        · have := UInt8.lt_iff_toNat_lt.1 h; omega
        · rw [h] at h1; omega
      · intro h; omega
/-- a text is better than another one -/
def betB (a b : ByteArray) : Bool := decide (a.size < b.size) || (decide (a.size = b.size) && lexB a.data.toList b.data.toList)
theorem size_list (a : ByteArray) : a.data.toList.length = a.size := by simp
theorem pow_mono {m n : Nat} (h : m ≤ n) : 257 ^ m ≤ 257 ^ n := Nat.pow_le_pow_right (by omega) h
theorem rank_short {a b : ByteArray} (h : a.size < b.size) : rankT a < rankT b := by
  have h1 := rank_lt a.data.toList
  have h2 := rank_ge b.data.toList
  rw [size_list] at h1 h2
  obtain ⟨n, hn⟩ : ∃ n, b.size = n + 1 := ⟨b.size - 1, by omega⟩
  have h3 : 257 ^ a.size ≤ 257 ^ n := pow_mono (by omega)
  rw [hn, Nat.pow_succ] at h2
  unfold rankT
  generalize 257 ^ n = p at *
  generalize 257 ^ a.size = q at *
  omega
theorem bet_rank (a b : ByteArray) : betB a b = true ↔ rankT a < rankT b := by
  unfold betB
  rw [Bool.or_eq_true, Bool.and_eq_true, decide_eq_true_iff, decide_eq_true_iff]
  rcases Nat.lt_trichotomy a.size b.size with h | h | h
  · exact ⟨fun _ => rank_short h, fun _ => .inl h⟩
  · have hl : a.data.toList.length = b.data.toList.length := by rw [size_list, size_list]; exact h
    rw [lex_rank hl]
    exact ⟨fun h' => by rcases h' with h1 | h1
                        · omega
                        · exact h1.2, fun h' => .inr ⟨h, h'⟩⟩
  · have := rank_short h
    exact ⟨fun h' => by rcases h' with h1 | h1 <;> omega, fun h' => by omega⟩
theorem rank_inj {a b : ByteArray} (h : rankT a = rankT b) : a = b := by
  have hs : a.size = b.size := by
    rcases Nat.lt_trichotomy a.size b.size with h1 | h1 | h1
    · have := rank_short h1; omega
    · exact h1
    · have := rank_short h1; omega
  have key : ∀ {x y : List UInt8}, x.length = y.length → rankL x = rankL y → x = y := by
    intro x
    induction x with
    | nil => intro y hl _; cases y with
      | nil => rfl
      | cons b y => simp at hl
    | cons a x ih =>
      intro y hl hr
      cases y with
      | nil => simp at hl
      | cons b y =>
        have hl2 : x.length = y.length := by simpa using hl
        have hx := rank_lt x
        have hy := rank_lt y
        rw [rank_cons, rank_cons, hl2] at hr
        rw [hl2] at hx
        have hab : a.toNat = b.toNat := by
          generalize 257 ^ y.length = p at *
          rcases Nat.lt_trichotomy a.toNat b.toNat with h1 | h1 | h1
          · have h2 : (a.toNat + 1 + 1) * p ≤ (b.toNat + 1) * p := Nat.mul_le_mul_right _ (by omega)
            rw [Nat.add_mul (a.toNat + 1) 1 p, Nat.one_mul] at h2
            omega
          · exact h1
          · have h2 : (b.toNat + 1 + 1) * p ≤ (a.toNat + 1) * p := Nat.mul_le_mul_right _ (by omega)
            rw [Nat.add_mul (b.toNat + 1) 1 p, Nat.one_mul] at h2
            omega
        have e := UInt8.toNat_inj.1 hab
        subst e
        rw [ih hl2 (by omega)]
  apply ByteArray.ext
  apply Array.ext'
  exact key (by rw [size_list, size_list]; exact hs) h
theorem rank_app (a c : ByteArray) : rankT (a ++ c) = rankT a * 257 ^ c.size + rankT c := by
  unfold rankT rankL
  rw [ByteArray.data_append, Array.toList_append, List.foldl_append, rank_from, size_list]
  rfl
theorem rank_mono {a b : ByteArray} (h : rankT a ≤ rankT b) (c : ByteArray) : rankT (a ++ c) ≤ rankT (b ++ c) := by
  rw [rank_app, rank_app]
  exact Nat.add_le_add_right (Nat.mul_le_mul_right _ h) _
theorem rank_bound {s : ByteArray} {n : Nat} (h : s.size ≤ n) : rankT s < 257 ^ n := by
  have h1 := rank_lt s.data.toList
  rw [size_list] at h1
  exact Nat.lt_of_lt_of_le h1 (pow_mono h)

/-! ## what can be derived -/
def cutT (s : ByteArray) (n : Nat) : ByteArray := s.extract n s.size
/-- by how much one of two beginnings of parsings can be longer, and the longer one -/
inductive Der (R : List ByteArray) : ByteArray → ByteArray → Prop
  | init {i k : Nat} {a b : ByteArray} : R[i]? = some a → R[k]? = some b → i ≠ k → pre a b = true → Der R (cutT b a.size) b
  | over {rest text r : ByteArray} : Der R rest text → rest.size ≠ 0 → r ∈ R → pre rest r = true → Der R (cutT r rest.size) (text ++ cutT r rest.size)
  | under {rest text r : ByteArray} : Der R rest text → rest.size ≠ 0 → r ∈ R → pre r rest = true → Der R (cutT rest r.size) text
/-- the best texts that are known -/
abbrev Best := ByteArray → Option ByteArray
def Has (f : Best) (x t : ByteArray) : Prop := ∃ t', f x = some t' ∧ rankT t' ≤ rankT t
def Sound (R : List ByteArray) (f : Best) : Prop := ∀ x t, f x = some t → Der R x t
def Inits (R : List ByteArray) (f : Best) : Prop := ∀ (i k : Nat) a b, R[i]? = some a → R[k]? = some b → i ≠ k → pre a b = true → Has f (cutT b a.size) b
/-- what follows from one entry by one rule is known, or better -/
def StepsAt (f : Best) (rest text r : ByteArray) : Prop := (pre rest r = true → Has f (cutT r rest.size) (text ++ cutT r rest.size)) ∧ (pre r rest = true → Has f (cutT rest r.size) text)
def Steps (R : List ByteArray) (f : Best) : Prop := ∀ rest text, f rest = some text → rest.size ≠ 0 → ∀ r, r ∈ R → StepsAt f rest text r
structure Done (R : List ByteArray) (f : Best) : Prop where
  sound : Sound R f
  inits : Inits R f
  steps : Steps R f
theorem done_has {R : List ByteArray} {f : Best} (h : Done R f) {x t : ByteArray} (hd : Der R x t) : Has f x t := by
  induction hd with
  | init h1 h2 h3 h4 => exact h.inits _ _ _ _ h1 h2 h3 h4
  | over _ h2 h3 h4 ih =>
    obtain ⟨t0, e0, l0⟩ := ih
    obtain ⟨t1, e1, l1⟩ := (h.steps _ _ e0 h2 _ h3).1 h4
    exact ⟨t1, e1, Nat.le_trans l1 (rank_mono l0 _)⟩
  | under _ h2 h3 h4 ih =>
    obtain ⟨t0, e0, l0⟩ := ih
    obtain ⟨t1, e1, l1⟩ := (h.steps _ _ e0 h2 _ h3).2 h4
    exact ⟨t1, e1, Nat.le_trans l1 l0⟩
theorem done_one {R : List ByteArray} {f g : Best} (hf : Done R f) (hg : Done R g) (x : ByteArray) : f x = g x := by
  have key : ∀ {f g : Best}, Done R f → Done R g → ∀ t, f x = some t → ∃ t', g x = some t' ∧ rankT t' ≤ rankT t := fun hf hg t h => done_has hg (hf.sound _ _ h)
  rcases ef : f x with _ | t
  · rcases eg : g x with _ | u
    · rfl
    · obtain ⟨t', e, _⟩ := key hg hf u eg
      rw [ef] at e; cases e
  · obtain ⟨u, eg, l1⟩ := key hf hg t ef
    obtain ⟨t', e, l2⟩ := key hg hf u eg
    rw [ef] at e
    injection e with e
    subst e
    rw [eg, rank_inj (Nat.le_antisymm l2 l1)]
/-- the best text with two parsings -/
noncomputable def ambV (R : List ByteArray) : Option ByteArray := by
  classical
  exact if h : ∃ f, Done R f then (Classical.choose h) ⟨#[]⟩ else none
theorem ambV_is {R : List ByteArray} {f : Best} (h : Done R f) : ambV R = f ⟨#[]⟩ := by
  have hex : ∃ f, Done R f := ⟨f, h⟩
  unfold ambV
  rw [dif_pos hex]
  exact done_one (Classical.choose_spec hex) h _

/-! ## learning -/
/-- f's entry at x set to t -/
def setB (f : Best) (x t : ByteArray) : Best := fun y => if y = x then some t else f y
theorem setB_at (f : Best) (x t : ByteArray) : setB f x t x = some t := by simp [setB]
theorem setB_ne {f : Best} {x t y : ByteArray} (h : y ≠ x) : setB f x t y = f y := by simp [setB, h]
/-- g knows all that f knows, or better -/
def Imp (f g : Best) : Prop := ∀ x t, f x = some t → Has g x t
theorem imp_refl (f : Best) : Imp f f := fun x t h => ⟨t, h, Nat.le_refl _⟩
theorem imp_trans {f g h : Best} (h1 : Imp f g) (h2 : Imp g h) : Imp f h := fun x t e => by
  obtain ⟨t1, e1, l1⟩ := h1 x t e
  obtain ⟨t2, e2, l2⟩ := h2 x t1 e1
  exact ⟨t2, e2, Nat.le_trans l2 l1⟩
theorem has_imp {f g : Best} (h : Imp f g) {x t : ByteArray} (hx : Has f x t) : Has g x t := by
  obtain ⟨t1, e1, l1⟩ := hx
  obtain ⟨t2, e2, l2⟩ := h x t1 e1
  exact ⟨t2, e2, Nat.le_trans l2 l1⟩
/-- whether t at x is new -/
def isNewB (f : Best) (x t : ByteArray) : Bool := match f x with
  | none => true
  | some u => betB t u
def learnB (f : Best) (x t : ByteArray) : Best := if isNewB f x t = true then setB f x t else f
theorem learn_has (f : Best) (x t : ByteArray) : Has (learnB f x t) x t := by
  unfold learnB
  by_cases h : isNewB f x t = true
  · rw [if_pos h]; exact ⟨t, setB_at _ _ _, Nat.le_refl _⟩
  · rw [if_neg h]
    unfold isNewB at h
    rcases e : f x with _ | u
    · rw [e] at h; exact absurd rfl h
    · rw [e] at h
      refine ⟨u, e, ?_⟩
      have := mt (bet_rank t u).2 h
      omega
theorem learn_imp (f : Best) (x t : ByteArray) : Imp f (learnB f x t) := fun y u h => by
  by_cases e : y = x
  · subst e
    unfold learnB
    by_cases hn : isNewB f y t = true
    · rw [if_pos hn]
      refine ⟨t, setB_at _ _ _, ?_⟩
      unfold isNewB at hn
      rw [h] at hn
      have := (bet_rank t u).1 hn
      omega
    · rw [if_neg hn]; exact ⟨u, h, Nat.le_refl _⟩
  · unfold learnB
    by_cases hn : isNewB f x t = true
    · rw [if_pos hn]; exact ⟨u, by rw [setB_ne e]; exact h, Nat.le_refl _⟩
    · rw [if_neg hn]; exact ⟨u, h, Nat.le_refl _⟩
theorem learn_sound {R : List ByteArray} {f : Best} (h : Sound R f) {x t : ByteArray} (hd : Der R x t) : Sound R (learnB f x t) := fun y u e => by
  unfold learnB at e
  split at e
  · by_cases ey : y = x
    · subst ey
      rw [setB_at] at e
      injection e with e
      subst e
      exact hd
    · rw [setB_ne ey] at e; exact h y u e
  · exact h y u e
theorem learn_not {f : Best} {x t : ByteArray} (h : isNewB f x t = false) : learnB f x t = f := by unfold learnB; rw [h]; rfl
end Go.Proofs.YtnjjfcdddkabbaaDoor
