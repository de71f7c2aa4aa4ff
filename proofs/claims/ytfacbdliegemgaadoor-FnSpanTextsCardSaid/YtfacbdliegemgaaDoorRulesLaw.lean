/- Rules and tables: plain law, no program in sight. -/
import Derived.Test.YtfacbdliegemgaaDoorSpellA
namespace Go.Proofs.YtfacbdliegemgaaDoor
open Go.RowKit

/-! ## a list that holds a thing, and where it lies first -/
section
variable {α : Type} [DecidableEq α]
def hasG (xs : List α) (s : α) : Bool := xs.any fun x => decide (x = s)
theorem hasG_eq {xs : List α} {k : Nat} {s : α} (h : xs[k]? = some s) : hasG xs s = true := by
  unfold hasG
  rw [List.any_eq_true]
  exact ⟨s, List.mem_of_getElem? h, decide_eq_true rfl⟩
theorem hasG_succ {xs : List α} {k : Nat} {x s : α} (h : xs[k]? = some x) (hn : ¬ x = s) (hb : hasG (xs.take k) s = false) : hasG (xs.take (k + 1)) s = false := by
  unfold hasG at hb ⊢
  rw [List.take_add_one, h, List.any_append, hb]
  simp [hn]
def fndG (xs : List α) (s : α) : Int := if hasG xs s = true then (xs.findIdx fun x => decide (x = s) : Nat) else -1
theorem fndG_none {xs : List α} {s : α} (h : hasG xs s = false) : fndG xs s = -1 := by unfold fndG; rw [h]; rfl
theorem hasG_take {xs : List α} {s : α} {k : Nat} (h : hasG (xs.take k) s = false) {j : Nat} {x : α} (hj : j < k) (hx : xs[j]? = some x) : ¬ x = s := by
  intro e
  have : hasG (xs.take k) s = true := hasG_eq (k := j) (by rw [List.getElem?_take_of_lt hj, hx, e])
  rw [h] at this
  exact absurd this (by simp)
theorem fndG_at {xs : List α} {s : α} {k : Nat} (h : xs[k]? = some s) (hb : hasG (xs.take k) s = false) : fndG xs s = k := by
  obtain ⟨hk, e⟩ := List.getElem?_eq_some_iff.1 h
  unfold fndG
  rw [if_pos (hasG_eq h), (List.findIdx_eq hk).2]
  exact ⟨by rw [e]; exact decide_eq_true rfl, fun j hj => decide_eq_false (hasG_take hb hj (List.getElem?_eq_getElem (by omega)))⟩
theorem fndG_ne {xs : List α} {s : α} {k : Nat} (hb : hasG (xs.take k) s = true) : fndG xs s < k := by
  have ha : hasG xs s = true := by
    unfold hasG at hb ⊢
    rw [List.any_eq_true] at hb ⊢
    obtain ⟨x, hx, e⟩ := hb
    exact ⟨x, List.mem_of_mem_take hx, e⟩
  unfold fndG
  rw [if_pos ha]
  unfold hasG at hb
  rw [List.any_eq_true] at hb
  obtain ⟨x, hx, e⟩ := hb
  obtain ⟨j, hj⟩ := List.getElem?_of_mem hx
  have hj1 := (List.getElem?_eq_some_iff.1 hj).1
  rw [List.length_take] at hj1
  rw [List.getElem?_take_of_lt (by omega)] at hj
  have h2 : (xs.findIdx fun x => decide (x = s)) ≤ j := by
    apply Decidable.byContradiction
    intro hlt
    have h3 := List.not_of_lt_findIdx (p := fun x => decide (x = s)) (xs := xs) (i := j) (by omega)
    obtain ⟨hjl, he⟩ := List.getElem?_eq_some_iff.1 hj
    rw [he] at h3
    rw [e] at h3
    exact absurd h3 (by simp)
  omega
theorem fndG_min (xs : List α) (s : α) : -1 ≤ fndG xs s := by
  unfold fndG
  split <;> omega
theorem fndG_has (xs : List α) (s : α) : decide (0 ≤ fndG xs s) = hasG xs s := by
  unfold fndG
  cases hasG xs s
  · rfl
  · rw [if_pos rfl]; exact decide_eq_true (Int.natCast_nonneg _)
/-- where it lies, it lies -/
theorem fndG_get {xs : List α} {s : α} {q : Nat} (h : fndG xs s = q) : xs[q]? = some s := by
  unfold fndG at h
  split at h
  · rename_i hh
    unfold hasG at hh
    rw [List.any_eq_true] at hh
    have h1 : (xs.findIdx fun x => decide (x = s)) = q := by omega
    have hl : (xs.findIdx fun x => decide (x = s)) < xs.length := List.findIdx_lt_length_of_exists hh
    have h2 := List.findIdx_getElem (w := hl)
    rw [List.getElem?_eq_getElem (by omega)]
    have h3 := of_decide_eq_true h2
    simp only [h1] at h3
    rw [h3]
  · omega
end

abbrev Rl := List Int × ByteArray
def sgB (most : Int) (xs : List Int) : Bool := xs.all (inB 0 19) && decide (1 ≤ (xs.length : Int) ∧ (xs.length : Int) ≤ most)
def isRl (r : Rl) : Bool := sgB 3 r.1 && small 0 4 r.2
def sgs (T : List Rl) : List (List Int) := T.map Prod.fst
def hasR (T : List Rl) (xs : List Int) : Bool := hasG (sgs T) xs
def fndR (T : List Rl) (xs : List Int) : Int := fndG (sgs T) xs
theorem sgs_at {T : List Rl} {k : Nat} {xs : List Int} {r : ByteArray} (h : T[k]? = some (xs, r)) : (sgs T)[k]? = some xs := by unfold sgs; rw [List.getElem?_map, h]; rfl
theorem sgs_take (T : List Rl) (k : Nat) : sgs (T.take k) = (sgs T).take k := by unfold sgs; rw [List.map_take]
theorem sgs_len (T : List Rl) : (sgs T).length = T.length := by unfold sgs; simp
theorem hasR_succ {T : List Rl} {k : Nat} {xs s : List Int} {r : ByteArray} (h : T[k]? = some (xs, r)) (hn : ¬ xs = s) (hb : hasR (T.take k) s = false) : hasR (T.take (k + 1)) s = false := by
  unfold hasR at hb ⊢
  rw [sgs_take] at hb ⊢
  exact hasG_succ (sgs_at h) hn hb
theorem fndR_at {T : List Rl} {k : Nat} {xs : List Int} {r : ByteArray} (h : T[k]? = some (xs, r)) (hb : hasR (T.take k) xs = false) : fndR T xs = k := by
  unfold hasR at hb
  rw [sgs_take] at hb
  exact fndG_at (sgs_at h) hb
theorem fndR_none {T : List Rl} {xs : List Int} (h : hasR T xs = false) : fndR T xs = -1 := fndG_none h
theorem fndR_ne {T : List Rl} {xs : List Int} {k : Nat} (hb : hasR (T.take k) xs = true) : fndR T xs < k := by
  unfold hasR at hb
  rw [sgs_take] at hb
  exact fndG_ne hb
theorem fndR_min (T : List Rl) (xs : List Int) : -1 ≤ fndR T xs := fndG_min _ _
theorem fndR_has (T : List Rl) (xs : List Int) : decide (0 ≤ fndR T xs) = hasR T xs := fndG_has _ _
theorem fndR_get {T : List Rl} {xs : List Int} {q : Nat} (h : fndR T xs = q) : ∃ r, T[q]? = some (xs, r) := by
  have := fndG_get h
  unfold sgs at this
  rw [List.getElem?_map, Option.map_eq_some_iff] at this
  obtain ⟨⟨a, r⟩, h1, h2⟩ := this
  exact ⟨r, by rw [h1]; cases h2; rfl⟩

/-- rule k is a rule, and none before it has its signs -/
def tabAt (T : List Rl) (k : Nat) : Bool := match T[k]? with
  | some r => isRl r && !hasR (T.take k) r.1
  | none => true
def isTab (T : List Rl) : Bool := (List.range T.length).all (tabAt T) && decide (T.length ≤ 30)
def tabUpto (T : List Rl) (k : Nat) : Prop := ∀ i, i < k → tabAt T i = true
theorem tabUpto_succ {T : List Rl} {k : Nat} (h : tabUpto T k) (hk : tabAt T k = true) : tabUpto T (k + 1) := fun i hi => by
  by_cases e : i = k
  · rw [e]; exact hk
  · exact h i (by omega)
theorem isTab_no {T : List Rl} {k : Nat} (hk : k < T.length) (h : tabAt T k = false) : isTab T = false := by
  unfold isTab
  rw [Bool.and_eq_false_iff]
  left
  rw [List.all_eq_false]
  exact ⟨k, by simpa using hk, by simp [h]⟩
theorem isTab_end {T : List Rl} {n : Nat} (hn : n = T.length) (h : tabUpto T n) : isTab T = decide (n ≤ 30) := by
  unfold isTab
  have : (List.range T.length).all (tabAt T) = true := by
    rw [List.all_eq_true]
    intro i hi
    exact h i (by simp at hi; omega)
  rw [this, hn, Bool.true_and]
theorem tabAt_is {T : List Rl} {k : Nat} {r : Rl} (h : T[k]? = some r) : tabAt T k = (isRl r && !hasR (T.take k) r.1) := by
  unfold tabAt; rw [h]
theorem isTab_len {T : List Rl} (h : isTab T = true) : T.length ≤ 30 := by
  unfold isTab at h
  simp at h
  exact h.2
theorem isTab_at {T : List Rl} (h : isTab T = true) {k : Nat} {r : Rl} (hr : T[k]? = some r) : isRl r = true ∧ hasR (T.take k) r.1 = false := by
  unfold isTab at h
  rw [Bool.and_eq_true, List.all_eq_true] at h
  have h1 := h.1 k (by have := (List.getElem?_eq_some_iff.1 hr).1; simpa using this)
  rw [tabAt_is hr, Bool.and_eq_true] at h1
  exact ⟨h1.1, by simpa using h1.2⟩
theorem isRl_len {xs : List Int} {r : ByteArray} (h : isRl (xs, r) = true) : 1 ≤ xs.length ∧ xs.length ≤ 3 ∧ r.size ≤ 4 := by
  unfold isRl sgB small at h
  simp at h
  omega

/-! ## the rules used -/
/-- the rule with the longest signs, of at most m, with which signs begin; -1 if there is none -/
def bestTo (T : List Rl) (s : List Int) : Nat → Int
  | 0 => -1
  | m + 1 => if 0 ≤ fndR T (s.take (m + 1)) then fndR T (s.take (m + 1)) else bestTo T s m
def best (T : List Rl) (s : List Int) : Int := bestTo T s (min 3 s.length)
def usd (T : List Rl) : Nat → List Int → Option (List Int)
  | 0, s => if s = [] then some [] else none
  | f + 1, s => if s = [] then some [] else if best T s < 0 then none else
      (usd T f (s.drop (T.getD (best T s).toNat ([], ⟨#[]⟩)).1.length)).map (best T s :: ·)
def used (T : List Rl) (s : List Int) : Option (List Int) := usd T s.length s
theorem bestTo_min (T : List Rl) (s : List Int) : ∀ m, -1 ≤ bestTo T s m
  | 0 => by simp [bestTo]
  | m + 1 => by
    unfold bestTo
    split
    · omega
    · exact bestTo_min T s m
theorem bestTo_get {T : List Rl} {s : List Int} : ∀ {m q : Nat}, bestTo T s m = q → ∃ k r, 1 ≤ k ∧ k ≤ m ∧ T[q]? = some (s.take k, r)
  | 0, q, h => by unfold bestTo at h; omega
  | m + 1, q, h => by
    unfold bestTo at h
    split at h
    · obtain ⟨r, hr⟩ := fndR_get h
      exact ⟨m + 1, r, by omega, by omega, hr⟩
    · obtain ⟨k, r, h1, h2, h3⟩ := bestTo_get h
      exact ⟨k, r, h1, by omega, h3⟩
theorem usd_empty (T : List Rl) (f : Nat) : usd T f [] = some [] := by cases f <;> simp [usd]
theorem usd_none {T : List Rl} {f : Nat} {s : List Int} (h : s ≠ []) (hn : best T s < 0) : usd T f s = none := by cases f <;> simp [usd, h, hn]
theorem usd_step {T : List Rl} {f q : Nat} {s : List Int} {x : Rl} (h : s ≠ []) (hn : best T s = q) (hx : T[q]? = some x) : usd T (f + 1) s = (usd T f (s.drop x.1.length)).map ((q : Int) :: ·) := by
  have e2 : T.getD ((q : Int)).toNat ([], ⟨#[]⟩) = x := by rw [List.getD_eq_getElem?_getD, Int.toNat_natCast, hx]; rfl
  conv => lhs; unfold usd
  rw [hn, e2, if_neg h, if_neg (by omega)]
/-- what is found so far, and what is left from place j on -/
def Usd (T : List Rl) (s0 : List Int) (f j : Nat) (P : List Int) : Prop := j ≤ s0.length ∧ s0.length - j ≤ f ∧ used T s0 = (usd T f (s0.drop j)).map (P ++ ·)
theorem usd_start (T : List Rl) (s : List Int) : Usd T s s.length 0 [] := ⟨Nat.zero_le _, by omega, by unfold used; simp⟩
theorem usd_end {T : List Rl} {s0 : List Int} {f j : Nat} {P : List Int} (h : Usd T s0 f j P) (hj : s0.length ≤ j) : used T s0 = some P := by
  rw [h.2.2, List.drop_of_length_le hj, usd_empty]; simp
theorem usd_fail {T : List Rl} {s0 : List Int} {f j : Nat} {P : List Int} (h : Usd T s0 f j P) (hj : j < s0.length) (hn : best T (s0.drop j) < 0) : used T s0 = none := by
  rw [h.2.2, usd_none (by intro e; have := congrArg List.length e; simp at this; omega) hn]; rfl
theorem usd_next {T : List Rl} {s0 : List Int} {f j q k : Nat} {P : List Int} {x : Rl} (h : Usd T s0 f j P) (hj : j < s0.length) (hn : best T (s0.drop j) = q) (hx : T[q]? = some x) (h1 : x.1.length = k) (hk : 1 ≤ k) (hk2 : k ≤ s0.length - j) : Usd T s0 (f - 1) (j + k) (P ++ [(q : Int)]) := by
  obtain ⟨ha, hb, hc⟩ := h
  obtain ⟨g, rfl⟩ : ∃ g, f = g + 1 := ⟨f - 1, by omega⟩
  refine ⟨by omega, by omega, ?_⟩
  rw [hc, usd_step (by intro e; have := congrArg List.length e; simp at this; omega) hn hx, Option.map_map, List.drop_drop, h1, Nat.add_sub_cancel]
  congr 1
  funext l
  simp
theorem usd_len {T : List Rl} : ∀ {f : Nat} {s l : List Int}, usd T f s = some l → l.length ≤ f
  | 0, s, l, h => by
    unfold usd at h
    split at h
    · simp at h; subst h; simp
    · cases h
  | f + 1, s, l, h => by
    unfold usd at h
    split at h
    · simp at h; subst h; simp
    · split at h
      · cases h
      · rw [Option.map_eq_some_iff] at h
        obtain ⟨l', h1, rfl⟩ := h
        have := usd_len h1
        simp; omega
def usedOk (T : List Rl) (s : List Int) : Bool := (used T s).isSome
def usedList (T : List Rl) (s : List Int) : List Int := (used T s).getD []
theorem usedList_len (T : List Rl) (s : List Int) : (usedList T s).length ≤ s.length := by
  unfold usedList used
  cases h : usd T s.length s with
  | none => simp
  | some l => exact usd_len h
theorem usd_in {T : List Rl} : ∀ {f : Nat} {s l : List Int}, usd T f s = some l → ∀ i ∈ l, ∃ q : Nat, i = q ∧ q < T.length
  | 0, s, l, h, i, hi => by
    unfold usd at h
    split at h
    · simp at h; subst h; simp at hi
    · cases h
  | f + 1, s, l, h, i, hi => by
    unfold usd at h
    split at h
    · simp at h; subst h; simp at hi
    · split at h
      · cases h
      · rename_i hb
        rw [Option.map_eq_some_iff] at h
        obtain ⟨l', h1, rfl⟩ := h
        rcases List.mem_cons.1 hi with rfl | hi
        · obtain ⟨q, hq⟩ : ∃ q : Nat, best T s = q := ⟨(best T s).toNat, by omega⟩
          obtain ⟨k, r, _, _, h3⟩ := bestTo_get hq
          exact ⟨q, hq, (List.getElem?_eq_some_iff.1 h3).1⟩
        · exact usd_in h1 i hi
theorem usedList_in {T : List Rl} {s : List Int} : ∀ i ∈ usedList T s, ∃ q : Nat, i = q ∧ q < T.length := by
  intro i hi
  unfold usedList used at hi
  cases h : usd T s.length s with
  | none => rw [h] at hi; simp at hi
  | some l => rw [h] at hi; exact usd_in h i hi

/-- the texts of rules, one behind the other -/
def roman (T : List Rl) (l : List Int) : ByteArray := l.foldl (fun t i => t ++ (T.getD i.toNat ([], ⟨#[]⟩)).2) ⟨#[]⟩
theorem roman_succ {T : List Rl} {l : List Int} {k q : Nat} {xs : List Int} {r : ByteArray} (h : l[k]? = some (q : Int)) (hx : T[q]? = some (xs, r)) : roman T (l.take (k + 1)) = roman T (l.take k) ++ r := by
  unfold roman
  rw [List.take_add_one, h]
  simp [List.getD_eq_getElem?_getD, hx]
end Go.Proofs.YtfacbdliegemgaaDoor
