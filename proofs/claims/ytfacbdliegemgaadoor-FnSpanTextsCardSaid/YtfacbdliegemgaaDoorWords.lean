/- What the functions over words compute: IsWord, CommonStart and what they call. -/
import Derived.Test.YtfacbdliegemgaaDoorBase
import Derived.Test.YtfacbdliegemgaaDoorShelf
import Derived.Lib.Hide
import Derived.WalkLawsBesides
import Derived.WalkSpells
namespace Go.Proofs.YtfacbdliegemgaaDoor
open Go.ChangeShapes Go.WideShapes Go.ChangeAt Go.RowKit

theorem ret_bool {p q : Bool} (h : p = q) : Ending.returned (.bool p) = .returned (.bool q) := by rw [h]
/-! ## plain words -/
def lower (c : UInt8) : Bool := decide (97 ≤ c.toNat ∧ c.toNat ≤ 122)
def small (lo hi : Int) (s : ByteArray) : Bool := s.data.toList.all lower && decide (lo ≤ s.size ∧ (s.size : Int) ≤ hi)
def isWord (s : ByteArray) : Bool := small 1 16 s
def letters26 : ByteArray := ⟨#[97, 98, 99, 100, 101, 102, 103, 104, 105, 106, 107, 108, 109, 110, 111, 112, 113, 114, 115, 116, 117, 118, 119, 120, 121, 122]⟩

theorem lower_mem (c : UInt8) : letters26.data.toList.contains c = lower c := by
  have : ∀ n : Fin 256, letters26.data.toList.contains (UInt8.ofNat n.val) = lower (UInt8.ofNat n.val) := by decide +kernel
  have h := this ⟨c.toNat, c.toNat_lt⟩
  simpa using h

theorem drop_all {α : Type} (p : α → Bool) (l : List α) : (l.dropWhile p).isEmpty = l.all p := by
  induction l with
  | nil => rfl
  | cons a l ih =>
    simp only [List.dropWhile_cons, List.all_cons]
    cases p a
    · rfl
    · simpa using ih
theorem drop_all' {α : Type} (p : α → Bool) (l : List α) : (l.dropWhile p).all p = l.all p := by
  induction l with
  | nil => rfl
  | cons a l ih =>
    simp only [List.dropWhile_cons, List.all_cons]
    cases h : p a
    · simp [h]
    · simpa using ih
theorem trim_empty (s : ByteArray) : (Lib.trimS s.data.toList letters26.data.toList).isEmpty = s.data.toList.all lower := by
  have e : (fun c => letters26.data.toList.contains c) = lower := funext lower_mem
  unfold Lib.trimS Lib.trimLeftS Lib.trimRightS
  rw [e, drop_all, List.all_reverse, drop_all', List.all_reverse]

theorem Trim_any (s : ByteArray) (w : World) (hs : s.size ≤ 9223372036854775807) :
    Calls Tryd.prog 75 #[.string s, .string ⟨#[97, 98, 99, 100, 101, 102, 103, 104, 105, 106, 107, 108, 109, 110, 111, 112, 113, 114, 115, 116, 117, 118, 119, 120, 121, 122]⟩] w fun e w' => e = .returned (.string ⟨(Lib.trimS s.data.toList letters26.data.toList).toArray⟩) ∧ Below w.heap.size w w' :=
  Any.strings_Trim_laid Tryd.lays160 (by kernel_rfl) s letters26 w hs (by decide) (ascii_of_all (by decide))

set_option maxHeartbeats 400000 in
theorem within_any (y f t : Int) (w : World) :
    Calls Tryd.prog 65 #[.int .i64 y, .int .i64 f, .int .i64 t] w fun e w' => e = .returned (.bool (decide (f ≤ y ∧ y ≤ t))) ∧ Below w.heap.size w w' := by
  go_enter Tryd.func65, Tryd.ntmps65
  go_wp2
  all_goals
    go_ret
    exact ⟨ret_bool (by rw [Bool.eq_iff_iff]; simp; try omega), Below.refl _ _⟩
set_option maxHeartbeats 400000 in
theorem l01In_any (y f t : Int) (w : World) :
    Calls Tryd.prog 64 #[.int .i64 y, .int .i64 f, .int .i64 t] w fun e w' => e = .returned (.bool (decide (f ≤ y ∧ y ≤ t))) ∧ Below w.heap.size w w' := by
  go_enter Tryd.func64, Tryd.ntmps64
  go_wp2
  all_goals
    go_ret
    exact ⟨ret_bool (by rw [Bool.eq_iff_iff]; simp; try omega), Below.refl _ _⟩

set_option maxHeartbeats 400000 in
theorem isSmall_any (s : ByteArray) (lo hi : Int) (w : World) (hs : s.size ≤ maxLen) :
    Calls Tryd.prog 63 #[.string s, .int .i64 lo, .int .i64 hi] w fun e w' => e = .returned (.bool (small lo hi s)) ∧ Below w.heap.size w w' := by
  unfold maxLen at hs
  cases hw : decide (lo ≤ (s.size : Int) ∧ (s.size : Int) ≤ hi)
  · have H := Lib.hid (show small lo hi s = false by unfold small; rw [hw, Bool.and_false])
    have hc := isb (within_any s.size lo hi w) hw
    have HC := Lib.hid hc
    clear hc hw
    go_enter Tryd.func63, Tryd.ntmps63
    go_wp2_with fail
    refine HC.out.mono ?_
    rintro e_ w1 ⟨rfl, h1⟩
    go_wp2
    go_ret
    exact ⟨by rw [H.out]; rfl, h1⟩
  · have H := Lib.hid (show small lo hi s = s.data.toList.all lower by unfold small; rw [hw, Bool.and_true])
    have hc := isb (within_any s.size lo hi w) hw
    have HC := Lib.hid hc
    clear hc hw
    cases ht : s.data.toList.all lower
    all_goals
      have he := trim_empty s
      rw [ht] at he
      have HT := Lib.hid ht
      clear ht
      go_enter Tryd.func63, Tryd.ntmps63
      go_wp2_with fail
      refine HC.out.mono ?_
      rintro e_ w1 ⟨rfl, h1⟩
      go_wp2_with fail
      refine (Trim_any s _ hs).mono ?_
      rintro e_ w2 ⟨rfl, h2⟩
      go_wp2
      go_ret
      exact ⟨by rw [H.out, HT.out]; rfl, next h1 h2⟩

theorem lower_u8 (c : UInt8) : lower c = decide (¬ ((c.toNat : Int) < 97) ∧ ¬ (122 < (c.toNat : Int))) := by
  unfold lower
  apply decide_eq_decide.2
  omega
theorem all_upto {p : UInt8 → Bool} {s : ByteArray} {k : Nat} (hk : k < s.size) (h : (s.data.toList.take k).all p = true) (hc : p s[k] = true) : (s.data.toList.take (k + 1)).all p = true := by
  rw [List.take_succ_eq_append_getElem (by simpa using hk), List.all_append, h]
  have : p (s.data.toList[k]'(by simpa using hk)) = true := hc
  simp only [List.all_cons, List.all_nil, Bool.and_true, Bool.true_and]
  exact this
theorem all_no {p : UInt8 → Bool} {s : ByteArray} {k : Nat} (hk : k < s.size) (hc : p s[k] = false) : s.data.toList.all p = false := by
  rw [List.all_eq_false]
  refine ⟨s[k], ?_, by simp [hc]⟩
  have : s.data.toList[k]'(by simpa using hk) = s[k] := rfl
  rw [← this]
  exact List.getElem_mem _
theorem all_end {p : UInt8 → Bool} {s : ByteArray} {k : Nat} (hk : s.size ≤ k) (h : (s.data.toList.take k).all p = true) : s.data.toList.all p = true := by
  rw [List.take_of_length_le (by simpa using hk)] at h
  exact h

/-! ## two words -/
def twoCode (a b : ByteArray) : Int := if isWord a = true ∧ isWord b = true then 0 else 1
theorem two_cases (a b : ByteArray) : (Hid (twoCode a b = 0) ∧ isWord a = true ∧ isWord b = true) ∨ (Hid (twoCode a b = 1) ∧ (isWord a = false ∨ (isWord a = true ∧ isWord b = false))) := by
  unfold twoCode Hid
  cases h1 : isWord a <;> cases h2 : isWord b <;> simp

/-- a slice of strings, as the list of them -/
def Strs (w : World) (A : Option Addr) (n c : Nat) (xs : List ByteArray) : Prop := n = xs.length ∧ Reads w 1 A n c (xs.map Value.string) ∧ ∀ x ∈ xs, x.size ≤ maxLen
theorem Strs.below {w w' : World} {A : Option Addr} {n c : Nat} {xs : List ByteArray} (h : Strs w A n c xs) (hb : Below w.heap.size w w') : Strs w' A n c xs := ⟨h.1, h.2.1.below hb, h.2.2⟩
theorem Strs.at_ {w : World} {A : Option Addr} {n c : Nat} {xs : List ByteArray} (h : Strs w A n c xs) (k : Nat) (hk : k < n) : ∃ b off, A = some ⟨b, off, none⟩ ∧ b < w.heap.size := by
  obtain ⟨b, off, e, hlt, _⟩ := h.2.1.at_ (by omega)
  exact ⟨b, off, e, hlt⟩
theorem Strs.el {w wr : World} {b off n c : Nat} {xs : List ByteArray} (h : Strs w (some ⟨b, off, none⟩) n c xs) {B : Nat} (hb : Below B w wr) (hbl : b < B) (k : Nat) (hk : k < n) :
    ∃ s, Hid (xs[k]? = some s) ∧ wr.cell? ⟨b, off + k, none⟩ = some (.string s) ∧ s.size ≤ maxLen := by
  obtain ⟨b', off', e, _, hc⟩ := h.2.1.at_ (by omega)
  injection e with e; injection e with e1 e2
  subst e1; subst e2
  have hl : k < xs.length := by rw [← h.1]; exact hk
  refine ⟨xs[k], List.getElem?_eq_getElem hl, (hb.cell (p := ⟨b, off + k, none⟩) hbl).trans (hc k _ (by simp [hl])), h.2.2 _ (List.getElem_mem hl)⟩
theorem all_at {α : Type} {p : α → Bool} {xs : List α} {k : Nat} {s : α} (h : Hid (xs[k]? = some s)) (hp : (xs.take k).all p = true) (hs : p s = true) : (xs.take (k + 1)).all p = true := by
  obtain ⟨hk, e⟩ := List.getElem?_eq_some_iff.1 h.out
  rw [List.take_succ_eq_append_getElem hk, List.all_append, hp, e]
  simp [hs]
theorem all_not {α : Type} {p : α → Bool} {xs : List α} {k : Nat} {s : α} (h : Hid (xs[k]? = some s)) (hs : p s = false) : xs.all p = false := by
  obtain ⟨hk, e⟩ := List.getElem?_eq_some_iff.1 h.out
  rw [List.all_eq_false]
  exact ⟨s, by rw [← e]; exact List.getElem_mem _, by simp [hs]⟩
theorem all_done {α : Type} {p : α → Bool} {xs : List α} {k n : Nat} (hn : n = xs.length) (hk : n ≤ k) (hp : (xs.take k).all p = true) : xs.all p = true := by
  rw [List.take_of_length_le (by omega)] at hp
  exact hp

theorem strs_two (w : World) (a b : ByteArray) (t : TypeId) (ha : a.size ≤ maxLen) (hb : b.size ≤ maxLen) : Strs (w.alloc (.cells #[.string a, .string b] t)) (some ⟨w.heap.size, 0, none⟩) 2 2 [a, b] :=
  ⟨rfl, ⟨Nat.le_refl _, by unfold maxLen; omega, rfl, fun _ => ⟨w.heap.size, 0, rfl, by simp, fun j u hu => by
    rw [Nat.zero_add]
    match j, hu with
    | 0, hu => simp at hu; subst hu; go_simp
    | 1, hu => simp at hu; subst hu; go_simp
    | j + 2, hu => simp at hu⟩⟩, by simp [ha, hb]⟩

theorem two_all (a b : ByteArray) : [a, b].all isWord = decide (twoCode a b = 0) := by
  unfold twoCode
  cases h1 : isWord a <;> cases h2 : isWord b <;> simp [h1, h2]

theorem get_list (s : ByteArray) {k : Nat} (h : k < s.size) : s.data.toList[k]? = some (s.data[k]'h) := by
  rw [Array.getElem?_toList]
  exact Array.getElem?_eq_getElem h
/-! ### CommonStart -/
def sameUpto (a b : ByteArray) (k : Nat) : Prop := ∀ i, i < k → ∃ c, a.data.toList[i]? = some c ∧ b.data.toList[i]? = some c
/-- how many letters two lists have in common at the start -/
def startLen : List UInt8 → List UInt8 → Nat
  | x :: a, y :: b => if x = y then startLen a b + 1 else 0
  | _, _ => 0
theorem startLen_eq : ∀ (a b : List UInt8) (k : Nat), (∀ i, i < k → ∃ c, a[i]? = some c ∧ b[i]? = some c) → (a[k]? = none ∨ b[k]? = none ∨ a[k]? ≠ b[k]?) → startLen a b = k
  | [], b, k, h, _ => by
    cases k with
    | zero => simp [startLen]
    | succ k => obtain ⟨c, h1, _⟩ := h 0 (by omega); simp at h1
  | x :: a, [], k, h, _ => by
    cases k with
    | zero => simp [startLen]
    | succ k => obtain ⟨c, _, h1⟩ := h 0 (by omega); simp at h1
  | x :: a, y :: b, 0, _, h => by
    simp at h
    simp [startLen, h]
  | x :: a, y :: b, k + 1, h, h' => by
    obtain ⟨c, h1, h2⟩ := h 0 (by omega)
    simp at h1 h2
    have e : x = y := h1.trans h2.symm
    unfold startLen
    rw [if_pos e, startLen_eq a b k (fun i hi => by simpa using h (i + 1) (by omega)) (by simpa using h')]
theorem startLen_le : ∀ (a b : List UInt8), startLen a b ≤ a.length
  | [], _ => by simp [startLen]
  | _ :: _, [] => by simp [startLen]
  | x :: a, y :: b => by
    unfold startLen
    have := startLen_le a b
    split <;> simp <;> omega
def comStart (a b : ByteArray) : Nat := startLen a.data.toList b.data.toList
theorem comStart_le (a b : ByteArray) : comStart a b ≤ a.size := by
  have := startLen_le a.data.toList b.data.toList
  simpa [comStart] using this
theorem com_succ {a b : ByteArray} {k : Nat} (h : sameUpto a b k) (ha : k < a.size) (hb : k < b.size) (e : a[k] = b[k]) : sameUpto a b (k + 1) := fun i hi => by
  by_cases hik : i = k
  · subst hik
    have e' : a.data[i]'ha = b.data[i]'hb := e
    exact ⟨a.data[i]'ha, get_list a ha, by rw [e']; exact get_list b hb⟩
  · exact h i (by omega)
theorem com_end {a b : ByteArray} {k : Nat} (h : sameUpto a b k) (hne : a.size ≤ k ∨ b.size ≤ k ∨ ∃ (ha : k < a.size) (hb : k < b.size), a[k] ≠ b[k]) : comStart a b = k := by
  refine startLen_eq _ _ k h ?_
  rcases hne with h1 | h1 | ⟨ha, hb, hne⟩
  · left; rw [List.getElem?_eq_none]; simpa using h1
  · right; left; rw [List.getElem?_eq_none]; simpa using h1
  · right; right
    intro e
    apply hne
    have e1 : a.data.toList[k]? = some (a.data[k]'ha) := get_list a ha
    have e2 : b.data.toList[k]? = some (b.data[k]'hb) := get_list b hb
    rw [e1, e2] at e
    exact Option.some.inj e

def comText (a b : ByteArray) : ByteArray := if twoCode a b = 0 then a.extract 0 (comStart a b) else ⟨#[]⟩
theorem ret_str {p q : ByteArray} {x y : Value} (h : p = q) (hx : x = .string p) (hy : y = .string q) : x = y := by rw [hx, hy, h]

end Go.Proofs.YtfacbdliegemgaaDoor
