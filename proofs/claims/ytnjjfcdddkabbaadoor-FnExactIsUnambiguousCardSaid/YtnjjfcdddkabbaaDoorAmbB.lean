/- Best texts as a map that reads as a datum: plain law, and the laws of such a map at a walk's operations. Nothing is claimed of a Go function here. -/
import Derived.Test.YtnjjfcdddkabbaaDoorAmbL
import Derived.Maps.StringElems
import Derived.StringKeys
namespace Go.Proofs.YtnjjfcdddkabbaaDoor
open Go.RowKit
open Go.Maps (Keyed IsMap Tidy)

def keyL (x : ByteArray) : Lit := .string x.data.toList
theorem keyL_inj {x y : ByteArray} (h : keyL x = keyL y) : x = y := by
  unfold keyL at h
  injection h with h
  exact ByteArray.ext (Array.toList_inj.1 h)
theorem keyL_ne {x y : ByteArray} (h : ¬ x = y) : keyL x ≠ keyL y := fun e => h (keyL_inj e)
theorem keyL_is (x : ByteArray) : WideAt.IsKeyLit (keyL x) := by unfold keyL; simp [WideAt.IsKeyLit]
theorem keyL_same (x : ByteArray) : (keyL x).sameKey (keyL x) = true := WideAt.sameKey_self (keyL_is x)
theorem keyL_other {x y : ByteArray} (h : ¬ x = y) : (keyL x).sameKey (keyL y) = false := Go.Maps.sameKey_ne (keyL_ne h)
def litT {H : Type} (t : ByteArray) : DataW H := .lit (.string t.data.toList)
theorem litT_inj {H : Type} {x y : ByteArray} (h : litT (H := H) x = litT y) : x = y := by
  unfold litT at h
  injection h with h
  injection h with h
  exact ByteArray.ext (Array.toList_inj.1 h)
/-- a map's datum that holds what f knows -/
structure MapB {H : Type} (R : List ByteArray) (D : DataW H) (f : Best) : Prop where
  tidy : Tidy D
  has : ∀ x, Go.Maps.has D (keyL x) = (f x).isSome
  at_ : ∀ x t, f x = some t → ∀ z, D.atKey (keyL x) z = litT t
  fit : FitB R f
  cnt : Go.Maps.size D ≤ cntB (univ R) f
theorem mapB_start {H : Type} (R : List ByteArray) : MapB (H := H) R (.map []) (fun _ => none) :=
  ⟨Go.Maps.tidy_empty, fun x => rfl, fun x t h => (by cases h), fit_start R, Nat.zero_le _⟩
theorem MapB.short {H : Type} {R : List ByteArray} {D : DataW H} {f : Best} (h : MapB R D f) : Go.Maps.size D ≤ (univ R).length := Nat.le_trans h.cnt (cntB_le _ _)
theorem MapB.read {H : Type} {R : List ByteArray} {D : DataW H} {f : Best} (h : MapB R D f) {x c : ByteArray} (ha : ∀ z, D.atKey (keyL x) z = litT c) : f x = some c := by
  have h1 := Go.Maps.has_true_of_atKey ha
  rw [h.has] at h1
  obtain ⟨t, ht⟩ := Option.isSome_iff_exists.1 h1
  have h2 := (h.at_ x t ht .nil).symm.trans (ha .nil)
  rw [ht, litT_inj h2]
/-- what a look-up gives -/
theorem MapB.look {H : Type} {R : List ByteArray} {D : DataW H} {f : Best} (h : MapB R D f) {x c : ByteArray} (ha : D.atKey (keyL x) (litT ⟨#[]⟩) = litT c) : (f x = none ∧ Go.Maps.has D (keyL x) = false ∧ c = ⟨#[]⟩) ∨ (f x = some c ∧ Go.Maps.has D (keyL x) = true) := by
  rcases e : f x with _ | t
  · have h1 : Go.Maps.has D (keyL x) = false := by rw [h.has, e]; rfl
    refine .inl ⟨rfl, h1, ?_⟩
    rw [Go.Maps.atKey_of_not_has h1] at ha
    exact (litT_inj ha).symm
  · refine .inr ⟨?_, by rw [h.has, e]; rfl⟩
    rw [h.at_ x t e] at ha
    rw [litT_inj ha]
theorem mapB_put {H : Type} {R : List ByteArray} {D : DataW H} {f : Best} {x t : ByteArray} (h : MapB R D f) (hx : x ∈ univ R) (ht : t.size ≤ 4 * (1 + cntB (univ R) f) + 4) (hn : isNewB f x t = true) : MapB R (D.put (keyL x) (litT t)) (learnB f x t) := by
  have hf := learn_fit h.fit hx ht
  have e : learnB f x t = setB f x t := by unfold learnB; rw [if_pos hn]
  rw [e] at hf ⊢
  refine ⟨h.tidy.put (keyL_is x) _, fun y => ?_, fun y u hy z => ?_, hf, ?_⟩
  · by_cases ey : y = x
    · subst ey
      rw [Go.Maps.has_put_same h.tidy.isMap (keyL_is y), setB_at]
      rfl
    · rw [Go.Maps.has_put_other (keyL_ne ey), h.has, setB_ne ey]
  · by_cases ey : y = x
    · subst ey
      rw [setB_at] at hy
      injection hy with hy
      rw [Go.Maps.atKey_put_same h.tidy.isMap (keyL_is y), hy]
    · rw [setB_ne ey] at hy
      rw [Go.Maps.atKey_put_other (keyL_ne ey)]
      exact h.at_ y u hy z
  · rw [Go.Maps.size_put h.tidy, h.has]
    rcases ef : f x with _ | u
    · have := cnt_set_new (R := R) (t := t) hx ef
      have := h.cnt
      simp
      omega
    · have := cnt_set_le (R := R) (f := f) (x := x) (t := t)
      have := h.cnt
      simp
      omega
/-! ## what a range has met -/
structure Met {H : Type} (f : Best) (D : DataW H) (left : Lit → Bool) (cnt : Nat) (L : List (ByteArray × ByteArray)) : Prop where
  all : ∀ x t, f x = some t → left (keyL x) = true ∨ (t, x) ∈ L
  of : ∀ p ∈ L, f p.2 = some p.1
  len : L.length + cnt ≤ Go.Maps.size D
theorem met_start {H : Type} {R : List ByteArray} {D : DataW H} {f : Best} (h : MapB R D f) : Met f D (Go.Maps.has D) (Go.Maps.size D) [] :=
  ⟨fun x t e => .inl (by rw [h.has, e]; rfl), fun p hp => (by cases hp), by simp⟩
theorem met_step {H : Type} {f : Best} {D : DataW H} {left : Lit → Bool} {cnt cnt' : Nat} {L : List (ByteArray × ByteArray)} {x c : ByteArray} (h : Met f D left cnt L) (hf : f x = some c) (hc : cnt' < cnt) :
    Met f D (fun z => left z && !z.sameKey (keyL x)) cnt' (L ++ [(c, x)]) := by
  refine ⟨fun y u hy => ?_, fun p hp => ?_, ?_⟩
  · by_cases e : y = x
    · subst e
      rw [hf] at hy
      injection hy with hy
      subst hy
      exact .inr (by simp)
    · rcases h.all y u hy with h1 | h1
      · exact .inl (by simp [h1, keyL_other e])
      · exact .inr (by simp [h1])
  · rcases List.mem_append.1 hp with h1 | h1
    · exact h.of p h1
    · simp at h1
      subst h1
      exact hf
  · have := h.len
    simp
    omega
theorem met_end {H : Type} {f : Best} {D : DataW H} {left : Lit → Bool} {cnt : Nat} {L : List (ByteArray × ByteArray)} (h : Met f D left cnt L) (hl : ∀ k, left k = false) : ∀ x t, f x = some t → (t, x) ∈ L := fun x t e => by
  rcases h.all x t e with h1 | h1
  · rw [hl] at h1; cases h1
  · exact h1
/-! ## at a walk's operations -/
theorem own_tight {H : Type} {w : World} {P : Program} {k : TypeId} {R : Value → Option (DataW H × List MemPlace)} {b n : Nat} {D : DataW H} (h : w.ownsMap P k R b n D) : w.ownsMap P k R b (Go.Maps.size D) D := by
  obtain ⟨es, clock, hb, F, hs, hD⟩ := h
  exact ⟨es, clock, hb, F, by rw [hD]; simp [Go.Maps.size, length_sorted], hD⟩
theorem keyOf_text_inv {P : Program} {k : TypeId} (hk : P.underlying k = some .string) {key : Value} {kl : Lit} (h : keyOf P k key = some kl) : ∃ x : ByteArray, key = .string x ∧ kl = keyL x ∧ x.size ≤ maxLen := by
  cases key <;> simp [keyOf, hk, mapKey] at h
  obtain ⟨h1, rfl⟩ := h
  exact ⟨_, rfl, rfl, h1⟩
section
variable {H : Type} {P : Program} (w : World) {ops : Array Oper} {rest : List Oper} {o : Oper} {a : Act} {Q : Exit → Act → World → Prop}
/-- 'v, ok := m[k]' at elements that are texts -/
theorem wpList_lookup_text (hg : o.guard = none) (m x : Operand) (t : TypeId) (hop : o.op = Op.lookup t m x true)
    (k e : TypeId) (K : Keyed P k) (ht : P.underlying t = some (.map k e)) (he : P.underlying e = some .string) (hz : (zeroValue e).run P w = .ok (.string ByteArray.empty) w) (b n : Nat) (D : DataW H)
    (hm : a.eval m = .map (some b)) (hown : w.ownsMap P k (plainElem P e) b n D) (s : ByteArray) (hx : a.eval x = .string s) (hkey : keyOf P k (.string s) = some (keyL s))
    (hK : ∀ c : ByteArray, D.atKey (keyL s) (litT ⟨#[]⟩) = litT c → c.size ≤ maxLen → wpList P ops Q rest (a.put o.dst (.tuple #[.string c, .bool (Go.Maps.has D (keyL s))])) w) :
    wpList P ops Q (o :: rest) a w :=
  wpList_lookup_own_ok w hg m x t hop k e K ht (plainElem P e) hz (litT ⟨#[]⟩) [] (plainElem_string he (s := ByteArray.empty) (Nat.zero_le _)) b n D hm hown (.string s) (keyL s) hx hkey (fun v ps hv => by
    obtain ⟨c, rfl, hc, hwc⟩ := plainElem_string_inv he hv
    exact hK c (congrArg Prod.fst hc) hwc)
/-- the step of a range over a map of texts at texts -/
theorem wpList_next_texts (hg : o.guard = none) (it : Operand) (hop : o.op = Op.next it false) (k e : TypeId) (K : Keyed P k) (hk : P.underlying k = some .string) (he : P.underlying e = some .string)
    (b r n : Nat) (D : DataW H) (left : Lit → Bool) (cnt : Nat) (hit : a.eval it = .pointer (some ⟨r, 0, none⟩)) (h : w.ranges P k (plainElem P e) b r n D left cnt)
    (hDone : cnt = 0 → (∀ kl, left kl = false) → wpList P ops Q rest (a.put o.dst (.tuple #[.bool false])) w)
    (hMore : ∀ (x c : ByteArray) (w' : World) (cnt' : Nat), x.size ≤ maxLen → c.size ≤ maxLen → left (keyL x) = true → (∀ zd, D.atKey (keyL x) zd = litT c) → w'.ranges P k (plainElem P e) b r n D (fun z => left z && !z.sameKey (keyL x)) cnt' → cnt' < cnt →
      w.grownBy w' (some r) → w'.heap.size = w.heap.size → (Instr.entry (.pointer (some ⟨r, 0, none⟩))).run P w' = .ok (.tuple #[.string x, .string c]) w' → wpList P ops Q rest (a.put o.dst (.tuple #[.bool true, .string x, .string c])) w') :
    wpList P ops Q (o :: rest) a w :=
  wpList_next_ranges w hg it hop k K (plainElem P e) Value.string Value.string (fun key kl hkey => by obtain ⟨x, rfl, _⟩ := keyOf_text_inv hk hkey; exact ⟨x, rfl⟩) (fun v y hv => by obtain ⟨c, rfl, _⟩ := plainElem_string_inv he hv; exact ⟨c, rfl⟩)
    b r n D left cnt hit h hDone (fun x c kl y w' cnt' hkey hlk hv hat hrg hlt hgr hsz hen => by
      obtain ⟨x', ex, rfl, hwx⟩ := keyOf_text_inv hk hkey
      cases ex
      obtain ⟨c', ec, rfl, hwc⟩ := plainElem_string_inv he hv
      cases ec
      exact hMore x c w' cnt' hwx hwc hlk hat hrg hlt hgr hsz hen)
end
end Go.Proofs.YtnjjfcdddkabbaaDoor
