/- What both programs keep while they learn: plain law. Nothing is claimed of a Go function here. -/
import Derived.Test.YtnjjfcdddkabbaaDoorAmbS
namespace Go.Proofs.YtnjjfcdddkabbaaDoor
open Go.RowKit

/-- what is known can be derived, and fits -/
structure Goes (R : List ByteArray) (f : Best) : Prop where
  sound : Sound R f
  fit : FitB R f
theorem goes_start (R : List ByteArray) : Goes R (fun _ => none) := ⟨fun x t h => (by cases h), fit_start R⟩
theorem learn_cnt {R : List ByteArray} {f : Best} {x t : ByteArray} : cntB (univ R) f ≤ cntB (univ R) (learnB f x t) := by
  unfold learnB
  split
  · exact cnt_set_le
  · exact Nat.le_refl _
theorem learn_goes {R : List ByteArray} {f : Best} (h : Goes R f) {x t : ByteArray} (hd : Der R x t) (hx : x ∈ univ R) (ht : t.size ≤ 4 * (1 + cntB (univ R) f) + 4) : Goes R (learnB f x t) :=
  ⟨learn_sound h.sound hd, learn_fit h.fit hx ht⟩

/-! ## the first pairs -/
structure InFirst (R : List ByteArray) (i k : Nat) (f : Best) : Prop where
  goes : Goes R f
  to : InitsTo R f i k
theorem inFirst_start (R : List ByteArray) : InFirst R 0 0 (fun _ => none) := ⟨goes_start R, initsTo_start _ _⟩
theorem inFirst_row {R : List ByteArray} {f : Best} {i n : Nat} (h : InFirst R i n f) (hn : R.length ≤ n) : InFirst R (i + 1) 0 f := ⟨h.goes, initsTo_row h.to hn⟩
theorem inFirst_skip {R : List ByteArray} {f : Best} {i k : Nat} {a b : ByteArray} (h : InFirst R i k f) (ha : R[i]? = some a) (hb : R[k]? = some b) (hn : i = k ∨ pre a b = false) : InFirst R i (k + 1) f := ⟨h.goes, initsTo_skip h.to ha hb hn⟩
theorem inFirst_learn {R : List ByteArray} {f : Best} {i k : Nat} {a b : ByteArray} (hR : ∀ r ∈ R, r.size ≤ 4) (h : InFirst R i k f) (ha : R[i]? = some a) (hb : R[k]? = some b) (hne : i ≠ k) (hp : pre a b = true) :
    InFirst R i (k + 1) (learnB f (cutT b a.size) b) := by
  obtain ⟨h1, h2, h3⟩ := init_fits (f := f) hR ha hb hne hp
  exact ⟨learn_goes h.goes h1 h2 h3, initsTo_learn h.to ha hb⟩

/-! ## a round over a list of what was known -/
structure InAll (R : List ByteArray) (f0 : Best) (L : List (ByteArray × ByteArray)) (i : Nat) (f : Best) (ch : Bool) : Prop where
  goes : Goes R f
  inits : Inits R f
  le : phiB R f ≤ phiB R f0
  lt : ch = true → phiB R f < phiB R f0
  same : ch = false → f = f0 ∧ StepsTo R f0 L i
  cnt : cntB (univ R) f0 ≤ cntB (univ R) f
theorem inAll_start {R : List ByteArray} {f : Best} (L : List (ByteArray × ByteArray)) (h : Goes R f) (hi : Inits R f) : InAll R f L 0 f false :=
  ⟨h, hi, Nat.le_refl _, fun h => (by cases h), fun _ => ⟨rfl, stepsTo_start _ _ _⟩, Nat.le_refl _⟩
theorem inAll_done {R : List ByteArray} {f0 f : Best} {L : List (ByteArray × ByteArray)} {n : Nat} (h : InAll R f0 L n f false) (hn : L.length ≤ n) (hL : ∀ x t, f x = some t → (t, x) ∈ L) : Done R f := by
  obtain ⟨h1, h2⟩ := h.same rfl
  subst h1
  exact ⟨h.goes.sound, h.inits, stepsTo_end h2 hn hL⟩
/-- from one entry by the first k rules -/
structure InRow (R : List ByteArray) (f0 : Best) (L : List (ByteArray × ByteArray)) (i : Nat) (x t : ByteArray) (k : Nat) (f : Best) (ch : Bool) : Prop where
  all : InAll R f0 L i f ch
  row : ch = false → x.size ≠ 0 → StepsRow R f0 x t k
  at_ : ch = false → L[i]? = some (t, x)
  der : Der R x t
  dom : x ∈ univ R
  sz : t.size ≤ 4 * (1 + cntB (univ R) f)
theorem inRow_start {R : List ByteArray} {f0 f g : Best} {L : List (ByteArray × ByteArray)} {i : Nat} {x t : ByteArray} {ch : Bool} (h : InAll R f0 L i f ch) (hg : Goes R g) (hc : cntB (univ R) g ≤ cntB (univ R) f) (hx : g x = some t) (hL : ch = false → L[i]? = some (t, x)) : InRow R f0 L i x t 0 f ch :=
  ⟨h, fun _ _ => stepsRow_start _ _ _ _, hL, hg.sound x t hx, hg.fit.dom x t hx, by have := hg.fit.size x t hx; omega⟩
theorem inRow_end {R : List ByteArray} {f0 f : Best} {L : List (ByteArray × ByteArray)} {i n : Nat} {x t : ByteArray} {ch : Bool} (h : InRow R f0 L i x t n f ch) (hn : R.length ≤ n ∨ x.size = 0) : InAll R f0 L (i + 1) f ch :=
  ⟨h.all.goes, h.all.inits, h.all.le, h.all.lt, fun hc => ⟨(h.all.same hc).1, stepsTo_succ (h.all.same hc).2 (h.at_ hc) (fun h0 => by
    rcases hn with hn | hn
    · exact stepsRow_end (h.row hc h0) hn
    · exact absurd hn h0)⟩, h.all.cnt⟩
theorem inRow_skip {R : List ByteArray} {f0 f : Best} {L : List (ByteArray × ByteArray)} {i k : Nat} {x t : ByteArray} {ch : Bool} (h : InRow R f0 L i x t k f ch) (h0 : x.size = 0) : InRow R f0 L i x t (k + 1) f ch :=
  ⟨h.all, fun _ hn => absurd h0 hn, h.at_, h.der, h.dom, h.sz⟩
theorem inRow_none {R : List ByteArray} {f0 f : Best} {L : List (ByteArray × ByteArray)} {i k : Nat} {x t r : ByteArray} {ch : Bool} (h : InRow R f0 L i x t k f ch) (hr : R[k]? = some r) (hs : stepB x t r = none) : InRow R f0 L i x t (k + 1) f ch :=
  ⟨h.all, fun hc hn => stepsRow_succ (h.row hc hn) hr (steps_none hs), h.at_, h.der, h.dom, h.sz⟩
/-- what the step's learning asks -/
theorem inRow_ask {R : List ByteArray} {f0 f : Best} {L : List (ByteArray × ByteArray)} {i k : Nat} {x t r x' t' : ByteArray} {ch : Bool} (hR : ∀ r ∈ R, r.size ≤ 4) (h : InRow R f0 L i x t k f ch) (hr : R[k]? = some r) (hs : stepB x t r = some (x', t')) :
    x' ∈ univ R ∧ t'.size ≤ 4 * (1 + cntB (univ R) f) + 4 := by
  have h1 := step_univ h.dom (List.mem_of_getElem? hr) hR hs
  have := h.sz
  exact ⟨h1.1, by omega⟩
theorem inRow_step {R : List ByteArray} {f0 f : Best} {L : List (ByteArray × ByteArray)} {i k : Nat} {x t r x' t' : ByteArray} {ch : Bool} (hR : ∀ r ∈ R, r.size ≤ 4) (h : InRow R f0 L i x t k f ch) (hr : R[k]? = some r) (h0 : x.size ≠ 0) (hs : stepB x t r = some (x', t')) :
    InRow R f0 L i x t (k + 1) (learnB f x' t') (ch || isNewB f x' t') := by
  obtain ⟨a1, a2⟩ := inRow_ask hR h hr hs
  have hd := der_step h.der h0 (List.mem_of_getElem? hr) hs
  have hc := learn_cnt (R := R) (f := f) (x := x') (t := t')
  have hle := learn_phi_le h.all.goes.fit a1 a2
  refine ⟨⟨learn_goes h.all.goes hd a1 a2, inits_imp (learn_imp _ _ _) h.all.inits, Nat.le_trans hle h.all.le, fun hq => ?_, fun hq => ?_, Nat.le_trans h.all.cnt hc⟩, fun hq hn => ?_, fun hq => ?_, h.der, h.dom, by have := h.sz; omega⟩
  · cases hn : isNewB f x' t' with
    | true => exact Nat.lt_of_lt_of_le (learn_phi h.all.goes.fit a1 a2 hn) h.all.le
    | false =>
      rw [hn, Bool.or_false] at hq
      exact Nat.lt_of_le_of_lt hle (h.all.lt hq)
  · rw [Bool.or_eq_false_iff] at hq
    rw [learn_not hq.2]
    exact h.all.same hq.1
  · rw [Bool.or_eq_false_iff] at hq
    have e := learn_not hq.2
    have e2 := (h.all.same hq.1).1
    refine stepsRow_succ (h.row hq.1 hn) hr ?_
    rw [← e2]
    have hh := learn_has f x' t'
    rw [e] at hh
    exact steps_has hs hh
  · rw [Bool.or_eq_false_iff] at hq
    exact h.at_ hq.1

/-! ## what the functions compute -/
def roms (T : List Rl) : List ByteArray := T.map Prod.snd
theorem roms_at {T : List Rl} {k : Nat} {xs : List Int} {r : ByteArray} (h : T[k]? = some (xs, r)) : (roms T)[k]? = some r := by unfold roms; rw [List.getElem?_map, h]; rfl
theorem roms_len (T : List Rl) : (roms T).length = T.length := by unfold roms; simp
theorem roms_small {T : List Rl} (h : isTab T = true) : ∀ r ∈ roms T, r.size ≤ 4 := fun r hr => by
  unfold roms at hr
  obtain ⟨⟨xs, r'⟩, h1, rfl⟩ := List.mem_map.1 hr
  obtain ⟨k, hk⟩ := List.getElem?_of_mem h1
  exact (isRl_len (isTab_at h hk).1).2.2
/-- a rule has an empty text -/
def hasE (T : List Rl) : Bool := T.any fun r => decide (r.2.size = 0)
theorem hasE_yes {T : List Rl} {k : Nat} {xs : List Int} {r : ByteArray} (h : T[k]? = some (xs, r)) (h0 : r.size = 0) : hasE T = true := by
  unfold hasE
  rw [List.any_eq_true]
  exact ⟨_, List.mem_of_getElem? h, decide_eq_true h0⟩
theorem hasE_succ {T : List Rl} {k : Nat} {xs : List Int} {r : ByteArray} (h : T[k]? = some (xs, r)) (h0 : ¬ r.size = 0) (hb : hasE (T.take k) = false) : hasE (T.take (k + 1)) = false := by
  unfold hasE at hb ⊢
  rw [List.take_add_one, h, List.any_append, hb, Bool.false_or]
  show (decide (r.size = 0) || false) = false
  rw [Bool.or_false]
  exact decide_eq_false h0
theorem hasE_all {T : List Rl} {k : Nat} (hb : hasE (T.take k) = false) (hk : T.length ≤ k) : hasE T = false := by rwa [List.take_of_length_le hk] at hb
noncomputable def ambO (T : List Rl) : Option ByteArray := ambV (roms T)
noncomputable def ambT (T : List Rl) : ByteArray := (ambO T).getD ⟨#[]⟩
noncomputable def ambB (T : List Rl) : Bool := (ambO T).isSome
theorem amb_is {T : List Rl} {f : Best} (h : Done (roms T) f) : ambT T = (f ⟨#[]⟩).getD ⟨#[]⟩ ∧ ambB T = (f ⟨#[]⟩).isSome := by
  unfold ambT ambB ambO
  rw [ambV_is h]
  exact ⟨rfl, rfl⟩
/-- IsUnambiguous -/
noncomputable def iuOk (T : List Rl) : Bool := isTab T && (!hasE T && !ambB T)
def iuCode (T : List Rl) : Int := if isTab T = true then 0 else 1
/-- AmbiguousText -/
noncomputable def atText (T : List Rl) : ByteArray := if (isTab T && (!hasE T && ambB T)) = true then ambT T else ⟨#[]⟩
noncomputable def atCode (T : List Rl) : Int := if isTab T = true then if hasE T = true then 5 else if ambB T = true then 0 else 4 else 1
end Go.Proofs.YtnjjfcdddkabbaaDoor
