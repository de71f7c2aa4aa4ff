/- Alphabets: what the functions compute. -/
import Derived.Test.YtfacbdliegemgaaDoorJoin
namespace Go.Proofs.YtfacbdliegemgaaDoor
open Go.ChangeShapes Go.WideShapes Go.ChangeAt Go.RowKit

/-- a text lies in a list -/
def hasT (xs : List ByteArray) (s : ByteArray) : Bool := xs.any fun x => decide (x = s)
theorem hasT_eq {xs : List ByteArray} {k : Nat} {s : ByteArray} (h : xs[k]? = some s) : hasT xs s = true := by
  unfold hasT
  rw [List.any_eq_true]
  exact ⟨s, List.mem_of_getElem? h, decide_eq_true rfl⟩
theorem hasT_succ {xs : List ByteArray} {k : Nat} {x s : ByteArray} (h : xs[k]? = some x) (hn : ¬ x = s) (hb : hasT (xs.take k) s = false) : hasT (xs.take (k + 1)) s = false := by
  unfold hasT at hb ⊢
  rw [List.take_add_one, h, List.any_append, hb]
  simp [hn]
/-- where a text lies first in a list -/
def fnd (xs : List ByteArray) (s : ByteArray) : Int := if hasT xs s = true then (xs.findIdx fun x => decide (x = s) : Nat) else -1
theorem fnd_none {xs : List ByteArray} {s : ByteArray} (h : hasT xs s = false) : fnd xs s = -1 := by unfold fnd; rw [h]; rfl
theorem hasT_take {xs : List ByteArray} {s : ByteArray} {k : Nat} (h : hasT (xs.take k) s = false) {j : Nat} {x : ByteArray} (hj : j < k) (hx : xs[j]? = some x) : ¬ x = s := by
  intro e
  have : hasT (xs.take k) s = true := hasT_eq (k := j) (by rw [List.getElem?_take_of_lt hj, hx, e])
  rw [h] at this
  exact absurd this (by simp)
theorem fnd_at {xs : List ByteArray} {s : ByteArray} {k : Nat} (h : xs[k]? = some s) (hb : hasT (xs.take k) s = false) : fnd xs s = k := by
  obtain ⟨hk, e⟩ := List.getElem?_eq_some_iff.1 h
  unfold fnd
  rw [if_pos (hasT_eq h), (List.findIdx_eq hk).2]
  exact ⟨by rw [e]; exact decide_eq_true rfl, fun j hj => decide_eq_false (hasT_take hb hj (List.getElem?_eq_getElem (by omega)))⟩
theorem fnd_ne {xs : List ByteArray} {s : ByteArray} {k : Nat} (hb : hasT (xs.take k) s = true) : fnd xs s < k := by
  have ha : hasT xs s = true := by
    unfold hasT at hb ⊢
    rw [List.any_eq_true] at hb ⊢
    obtain ⟨x, hx, e⟩ := hb
    exact ⟨x, List.mem_of_mem_take hx, e⟩
  unfold fnd
  rw [if_pos ha]
  unfold hasT at hb
  rw [List.any_eq_true] at hb
  obtain ⟨x, hx, e⟩ := hb
  obtain ⟨j, hj⟩ := List.getElem?_of_mem hx
  have hj1 := (List.getElem?_eq_some_iff.1 hj).1
  rw [List.length_take] at hj1
  rw [List.getElem?_take_of_lt (by omega)] at hj
  have h2 : (xs.findIdx fun x => decide (x = s)) ≤ j := by
    apply Decidable.byContradiction
    intro hlt
    have h3 := List.not_of_lt_findIdx (p := fun x => decide (x = s)) (xs := xs) (i := j) (by omega)
    obtain ⟨hjl, he⟩ := List.getElem?_eq_some_iff.1 hj
    rw [he] at h3
    rw [e] at h3
    exact absurd h3 (by simp)
  omega
theorem fnd_min (xs : List ByteArray) (s : ByteArray) : -1 ≤ fnd xs s := by
  unfold fnd
  split <;> omega
theorem fnd_has (xs : List ByteArray) (s : ByteArray) : decide (0 ≤ fnd xs s) = hasT xs s := by
  unfold fnd
  cases hasT xs s
  · rfl
  · rw [if_pos rfl]; exact decide_eq_true (Int.natCast_nonneg _)

/-- letter k is a letter, and none before it is the same -/
def alphaAt (xs : List ByteArray) (k : Nat) : Bool := match xs[k]? with
  | some s => small 1 3 s && !hasT (xs.take k) s
  | none => true
def isAlpha (xs : List ByteArray) : Bool := (List.range xs.length).all (alphaAt xs) && decide (1 ≤ xs.length ∧ xs.length ≤ 40)
def alphaUpto (xs : List ByteArray) (k : Nat) : Prop := ∀ i, i < k → alphaAt xs i = true
theorem alphaUpto_succ {xs : List ByteArray} {k : Nat} (h : alphaUpto xs k) (hk : alphaAt xs k = true) : alphaUpto xs (k + 1) := fun i hi => by
  by_cases e : i = k
  · rw [e]; exact hk
  · exact h i (by omega)
theorem isAlpha_no {xs : List ByteArray} {k : Nat} (hk : k < xs.length) (h : alphaAt xs k = false) : isAlpha xs = false := by
  unfold isAlpha
  rw [Bool.and_eq_false_iff]
  left
  rw [List.all_eq_false]
  exact ⟨k, by simpa using hk, by simp [h]⟩
theorem isAlpha_end {xs : List ByteArray} {n : Nat} (hn : n = xs.length) (h : alphaUpto xs n) : isAlpha xs = decide (1 ≤ n ∧ n ≤ 40) := by
  unfold isAlpha
  have : (List.range xs.length).all (alphaAt xs) = true := by
    rw [List.all_eq_true]
    intro i hi
    exact h i (by simp at hi; omega)
  rw [this, hn, Bool.true_and]
theorem alphaAt_is {xs : List ByteArray} {k : Nat} {s : ByteArray} (h : xs[k]? = some s) : alphaAt xs k = (small 1 3 s && !hasT (xs.take k) s) := by
  unfold alphaAt; rw [h]

/-! ## walks -/
theorem Strs.take {w : World} {A : Option Addr} {n c : Nat} {xs : List ByteArray} (h : Strs w A n c xs) (k : Nat) (hk : k ≤ n) : Strs w A k c (xs.take k) :=
  ⟨by rw [List.length_take, ← h.1]; omega, ⟨Nat.le_trans hk h.2.1.le, h.2.1.cap, by rw [List.length_map, List.length_take, ← h.1]; omega, fun hn => by
    obtain ⟨b, off, e, hlt, hc⟩ := h.2.1.at_ (by omega)
    refine ⟨b, off, e, hlt, fun j u hu => hc j u ?_⟩
    rw [List.map_take] at hu
    have hj := (List.getElem?_eq_some_iff.1 hu).1
    rw [List.length_take] at hj
    rwa [List.getElem?_take_of_lt (by omega)] at hu⟩, fun x hx => h.2.2 x (List.mem_of_mem_take hx)⟩

set_option maxHeartbeats 800000 in
theorem l03Lower_any (s : ByteArray) (lo hi : Int) (w : World) (hs : s.size ≤ maxLen) :
    Calls Tryd.prog 57 #[.string s, .int .i64 lo, .int .i64 hi] w fun e w' => e = .returned (.bool (small lo hi s)) ∧ Below w.heap.size w w' := by
  unfold maxLen at hs
  go_enter Tryd.func57, Tryd.ntmps57
  go_wp2
  go_loopw [7] (fun i wr => ∃ k : Nat, k ≤ s.size ∧ i = .int .i64 k ∧ Hid ((s.data.toList.take k).all lower = true) ∧ Below w.heap.size w wr) (fun i _ => s.size - (intOf i).toNat)
  case atStart => exact ⟨0, Nat.zero_le _, rfl, by simp [Hid], Below.refl _ _⟩
  case round =>
    obtain ⟨k, hk, rfl, hup, hb⟩ := hrel
    by_cases hlt : k < s.size
    · by_cases hl : lower s[k] = true
      · have HU := Lib.hid (all_upto hlt hup.out hl)
        rw [lower_u8] at hl
        have hl2 := of_decide_eq_true hl
        clear hl hup
        obtain ⟨h1, h2⟩ := hl2
        go_wp2
        go_roundw
        case rel => exact ⟨k + 1, by omega, by go_num, HU, hb⟩
        case measure => simp [intOf]; omega
      · have hl' : lower s[k] = false := by simpa using hl
        have HN := Lib.hid (show small lo hi s = false by unfold small; rw [all_no hlt hl', Bool.false_and])
        rw [lower_u8] at hl'
        have hl2 := of_decide_eq_false hl'
        clear hl hl' hup
        by_cases h1 : (s[k].toNat : Int) < 97
        · go_wp2
          go_ret
          exact ⟨by rw [HN.out]; rfl, hb⟩
        · have h2 : 122 < (s[k].toNat : Int) := by omega
          clear hl2
          go_wp2
          go_ret
          exact ⟨by rw [HN.out]; rfl, hb⟩
    · have HA := Lib.hid (all_end (by omega) hup.out)
      have HW := Lib.hid (show small lo hi s = decide (lo ≤ s.size ∧ (s.size : Int) ≤ hi) by unfold small; rw [HA.out, Bool.true_and])
      clear hup
      have HC := Lib.hid (l01In_any s.size lo hi wr)
      go_wp2_with fail
      refine HC.out.mono ?_
      rintro e_ w1 ⟨rfl, h1⟩
      go_wp2
      go_ret
      exact ⟨ret_bool (by rw [HW.out]; simp), next hb h1⟩

end Go.Proofs.YtfacbdliegemgaaDoor
