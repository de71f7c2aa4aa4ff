/- A region that draws its order: first what only reads (loads, quiet calls, in a class of worlds), then a forced chain of operations that may write. One walk in the order of the text serves every order. Over any program: nothing is claimed of a Go function here. -/
import Derived.Test.YtfacbdliegemgaaDoorBase
import Derived.StillTail
namespace Go.Proofs.YtfacbdliegemgaaDoor
open Go.RowKit

section
variable {P : Program} {ops : Array Oper} {md : Region.Mode} {C : World → Prop}

/-- each operation ahead of number n that is not among the first m is awaited by a later one, up to number n -/
def sinkFrom (md : Region.Mode) (ops : Array Oper) (m n : Nat) : Bool :=
  (List.range n).all fun i => decide (i < m) || (List.range (n + 1)).any fun j => decide (i < j) && Region.waitsFor md ops j i
def Led (m : Nat) (listed : Array Bool) : Prop := ∀ i, i < m → listed.getD i true = true

theorem Led.set {m i : Nat} {listed : Array Bool} (h : Led m listed) : Led m (listed.setIfInBounds i true) := fun j hj => by
  by_cases e : i = j
  · subst e
    rcases Nat.lt_or_ge i listed.size with h' | h'
    · simp [h']
    · simp [Array.getElem?_eq_none, h']
  · rw [getD_set_ne true e]; exact h j hj
theorem Led.succ {m : Nat} {listed : Array Bool} (h : Led m listed) : Led (m + 1) (listed.setIfInBounds m true) := fun j hj => by
  by_cases e : m = j
  · subst e
    rcases Nat.lt_or_ge m listed.size with h' | h'
    · simp [h']
    · simp [Array.getElem?_eq_none, h']
  · rw [getD_set_ne true e]; exact h j (by omega)

theorem tail_waits_ {m n : Nat} {listed : Array Bool} (hs : sinkFrom md ops m n = true) (hc : Region.chainB md ops n = true) (hn : n < ops.size) (inv : HeadInv md ops n listed) (hL : Led m listed) :
    ∀ (d i : Nat), n - i = d → i < n → listed.getD i true = false → ∀ t, n ≤ t → t ∉ Region.ready md ops listed := by
  intro d
  induction d using Nat.strongRecOn with
  | _ d ih =>
    intro i hd hi hun t ht hr
    obtain ⟨_, ot, hot, hall⟩ := mem_ready.1 hr
    have htlt : t < ops.size := (Array.getElem?_eq_some_iff.1 hot).1
    by_cases htn : t = n
    · subst htn
      have h1 := List.all_eq_true.1 hs i (List.mem_range.2 hi)
      have him : ¬ i < m := fun h => by rw [hL i h] at hun; cases hun
      rw [Bool.or_eq_true] at h1
      rcases h1 with h1 | h1
      · exact absurd (of_decide_eq_true h1) him
      obtain ⟨j, hj, hj2⟩ := List.any_eq_true.1 h1
      simp only [Bool.and_eq_true, decide_eq_true_eq] at hj2
      obtain ⟨oj, hoj, e, he, hb, hon⟩ := Region.waitsFor_spec hj2.2
      have hjle : j ≤ t := by have := List.mem_range.1 hj; omega
      by_cases hjt : j = t
      · subst hjt
        have : oj = ot := Option.some.inj (hoj.symm.trans hot)
        subst this
        have h2 := hall e he hb
        rw [hon, getD_both hun] at h2
        cases h2
      · cases hl : listed.getD j false with
        | true =>
          have h2 := inv.closed j oj hoj hl e he hb
          rw [hon, getD_both hun] at h2
          cases h2
        | false =>
          have hjs : j < listed.size := by rw [inv.size]; omega
          exact ih (t - j) (by omega) j rfl (by omega) (getD_in hjs hl) t (Nat.le_refl _) hr
    · have h1 := List.all_eq_true.1 hc t (List.mem_range.2 htlt)
      simp only [Bool.or_eq_true, decide_eq_true_eq] at h1
      rcases h1 with h1 | h1
      · omega
      · obtain ⟨o', ho', e, he, hb, hon⟩ := Region.waitsFor_spec h1
        have : o' = ot := Option.some.inj (ho'.symm.trans hot)
        subst this
        have h2 := hall e he hb
        rw [hon, getD_both (inv.tail (t - 1) (by omega) (by omega))] at h2
        cases h2

def wpMix (P : Program) (md : Region.Mode) (ops : Array Oper) (C : World → Prop) (n : Nat) (L : Array Bool → Act → Prop) : Nat → Array Bool → Act → Prop
  | 0, listed, a => L listed a
  | f + 1, listed, a => Region.ready md ops listed ≠ [] ∧ ∀ i ∈ Region.ready md ops listed, i < n ∧ qOp P ops C i (wpMix P md ops C n L f (listed.setIfInBounds i true)) a

theorem wpAny_of_mix {n g : Nat} {L : Array Bool → Act → Prop} {Q' : Exit → Act → World → Prop} (hL : ∀ listed a w, C w → L listed a → wpAny P md ops Q' g listed a w) :
    ∀ (f : Nat) (listed : Array Bool) (a : Act) (w : World), C w → wpMix P md ops C n L f listed a → wpAny P md ops Q' (f + g) listed a w
  | 0, listed, a, w, hw, h => by rw [Nat.zero_add]; exact hL _ _ _ hw h
  | f + 1, listed, a, w, hw, h => by
    rw [show f + 1 + g = (f + g) + 1 by omega]
    exact ⟨fun h0 => absurd h0 h.1, fun i hi => wpOp_of_qOp hw (fun a' w' hw' h' => wpAny_of_mix hL f _ a' w' hw' h') (h.2 i hi).2⟩

theorem wpMix_first {m n i : Nat} {oi : Oper} {v : Value} {L : Array Bool → Act → Prop} (hi : ops[i]? = some oi) (hsel : ∀ (j : Nat) (o : Oper) cs b, ops[j]? = some o → o.op ≠ .select cs b)
    (hs : sinkFrom md ops m n = true) (hc : Region.chainB md ops n = true) (hn : n < ops.size) (hin : i < n)
    (hdone : ∀ listed a, L listed a → ∀ j ∈ Region.ready md ops listed, n ≤ j) :
    ∀ (f : Nat) (listed : Array Bool) (a : Act), HeadInv md ops n listed → Led m listed →
      (∀ j oj, ops[j]? = some oj → j ≠ i → listed.getD j true = false → (∀ e ∈ oj.after, Region.binds md e = true → e.on ≠ i) → oi.apart ops oj = true) →
      i ∈ Region.ready md ops listed → YieldsIn P ops C oi v a →
      wpMix P md ops C n L f (listed.setIfInBounds i true) (a.put oi.dst v) → wpMix P md ops C n L (f + 1) listed a := by
  intro f
  induction f with
  | zero =>
    intro listed a inv hld _ hr hy H
    have hun := (mem_ready.1 hr).1
    refine ⟨fun h => (by rw [h] at hr; cases hr), fun j hj => ?_⟩
    have hjn : j < n := by
      rcases Nat.lt_or_ge j n with h | h
      · exact h
      · exact absurd hj (tail_waits_ hs hc hn inv hld _ i rfl hin hun j h)
    refine ⟨hjn, ?_⟩
    by_cases hji : j = i
    · subst hji; exact hy.qOp hi H
    · have := hdone _ _ H j (ready_mono hj hji)
      omega
  | succ f ih =>
    intro listed a inv hld hfree hr hy H
    have hun := (mem_ready.1 hr).1
    refine ⟨fun h => (by rw [h] at hr; cases hr), fun j hj => ?_⟩
    have hjn : j < n := by
      rcases Nat.lt_or_ge j n with h | h
      · exact h
      · exact absurd hj (tail_waits_ hs hc hn inv hld _ i rfl hin hun j h)
    refine ⟨hjn, ?_⟩
    by_cases hji : j = i
    · subst hji; exact hy.qOp hi H
    · have h1 := (H.2 j (ready_mono hj hji)).2
      obtain ⟨hjun, oj, hoj, hall⟩ := mem_ready.1 hj
      have hnot : ∀ e ∈ oj.after, Region.binds md e = true → e.on ≠ i := fun e he hb heq => by
        have h1 := hall e he hb
        rw [heq, getD_both hun] at h1
        cases h1
      have h2 := qOp_put hoj (hfree j oj hoj hji hjun hnot) (fun cs b => hsel i oi cs b hi) (fun cs b => hsel j oj cs b hoj) hy h1
      have hfree' : ∀ k ok, ops[k]? = some ok → k ≠ i → (listed.setIfInBounds j true).getD k true = false →
          (∀ e ∈ ok.after, Region.binds md e = true → e.on ≠ i) → oi.apart ops ok = true := fun k ok hk hki hun hno => by
        refine hfree k ok hk hki ?_ hno
        by_cases hjk : j = k
        · subst hjk; exact hjun
        · rw [getD_set_ne true hjk] at hun; exact hun
      refine qOp_mono (fun a' h3 => ih (listed.setIfInBounds j true) a' (inv.set hj hjn) hld.set hfree' (ready_mono hr (Ne.symm hji)) h3.1 ?_) h2
      rw [Array.setIfInBounds_comm _ _ hji]
      exact h3.2

theorem wpMix_lex {m n g : Nat} {Lq : Act → Prop} (hsel : Region.noSelect ops = true) (hs : sinkFrom md ops m n = true) (hc : Region.chainB md ops n = true) (hn : n < ops.size) :
    ∀ (l : List Oper) (k : Nat) (listed : Array Bool) (a : Act), (∀ j, j < l.length → l[j]? = ops[k + j]?) → k + l.length = n → HeadInv md ops n listed → Led m listed →
    Region.lexHead md ops g l.length k listed = true → wpQuiet P ops C Lq l a →
    wpMix P md ops C n (fun listed' a' => Region.seqB md ops g n listed' = true ∧ Lq a') l.length listed a
  | [], k, listed, a, _, hk, _, _, hB, h => by
    have : k = n := by simpa using hk
    subst this
    exact ⟨by simpa [Region.lexHead] using hB, h⟩
  | o :: l, k, listed, a, hl, hk, inv, hld, hB, h => by
    have h0 : ops[k]? = some o := by simpa using (hl 0 (by simp)).symm
    simp only [List.length_cons, Region.lexHead, Bool.and_eq_true] at hB
    obtain ⟨⟨hr, hf⟩, hB'⟩ := hB
    have hkn : k < n := by simp only [List.length_cons] at hk; omega
    have hr' : k ∈ Region.ready md ops listed := by simpa using hr
    have hst : qOp P ops C k (wpQuiet P ops C Lq l) a := by unfold qOp; simp only [h0]; exact h
    obtain ⟨v, hy, hK⟩ := yieldsIn_of_qOp h0 hst
    exact wpMix_first h0 (Region.noSelect_spec hsel) hs hc hn hkn (fun listed' a' hL => seqB_ready hL.1) l.length listed a inv hld (Region.free_spec h0 hf) hr' hy
      (wpMix_lex hsel hs hc hn l (k + 1) _ _ (fun j hj => by have := hl (j + 1) (by simp; omega); simpa [Nat.add_assoc, Nat.add_comm 1 j] using this) (by simp only [List.length_cons] at hk; omega) (inv.set hr' hkn) hld.set hB' hK)

/-- the first m operations are plain copies -/
def leadB : Nat → List Oper → Bool
  | 0, _ => true
  | _ + 1, [] => false
  | m + 1, o :: l => (match o.op with | .move _ => true | _ => false) && o.guard.isNone && leadB m l

theorem put_tmps (a : Act) (d : Option Tmp) (v : Value) : ∃ t, a.put d v = { a with tmps := t } := by
  cases d with
  | none => exact ⟨a.tmps, rfl⟩
  | some d => exact ⟨_, rfl⟩
theorem lead_step {Q : Act → Prop} {o : Oper} {rest : List Oper} {a : Act} {w : World} {x : Operand} (ho : o.op = .move x) (hg : o.guard = none) (hw : C w) (h : wpQuiet P ops C Q (o :: rest) a) :
    wpQuiet P ops C Q rest (a.put o.dst (a.eval x)) := by
  have hwant : Region.wanted o (yielded ops a.tmps) = true := by unfold Region.wanted; rw [hg]
  unfold wpQuiet at h
  rw [if_pos hwant] at h
  obtain ⟨v, hv, hK⟩ := h
  have h1 := hv w hw
  unfold Oper.quietAt at h1
  rw [BigFrame.run_move x ho] at h1
  obtain ⟨_, e⟩ := h1
  rw [e]
  exact hK

theorem wpAny_lead {m0 n g : Nat} {Lq : Act → Prop} {Q : Exit → Act → World → Prop} {w : World} (hsel : Region.noSelect ops = true) (hQ : ∀ c (a : Act) (t : Array Value) w, Q (.panic c) { a with tmps := t } w → Q (.panic c) a w) (hw : C w) (hn : n < ops.size)
    (rest : ∀ (l : List Oper) (listed : Array Bool) (a : Act), (∀ j, j < l.length → l[j]? = ops[m0 + j]?) → m0 + l.length = n → HeadInv md ops n listed → Led m0 listed → Region.lexHead md ops g l.length m0 listed = true → wpQuiet P ops C Lq l a →
      wpAny P md ops Q (l.length + g) listed a w) :
    ∀ (m k : Nat) (l : List Oper) (listed : Array Bool) (a : Act), k + m = m0 → leadB m l = true → (∀ j, j < l.length → l[j]? = ops[k + j]?) → k + l.length = n → HeadInv md ops n listed → Led k listed →
      Region.lexHead md ops g l.length k listed = true → wpQuiet P ops C Lq l a → wpAny P md ops Q (l.length + g) listed a w
  | 0, k, l, listed, a, hkm, _, hl, hk, inv, hld, hB, h => by
    obtain rfl : k = m0 := by omega
    exact rest l listed a hl hk inv hld hB h
  | m + 1, k, [], listed, a, _, hb, _, _, _, _, _, _ => by cases hb
  | m + 1, k, o :: l, listed, a, hkm, hb, hl, hk, inv, hld, hB, h => by
    have h0 : ops[k]? = some o := by simpa using (hl 0 (by simp)).symm
    simp only [leadB, Bool.and_eq_true] at hb
    obtain ⟨⟨hmv, hgd⟩, hb'⟩ := hb
    obtain ⟨x, hx⟩ : ∃ x, o.op = .move x := by
      split at hmv
      · exact ⟨_, ‹_›⟩
      · cases hmv
    have hg : o.guard = none := by simpa using hgd
    simp only [List.length_cons, Region.lexHead, Bool.and_eq_true] at hB
    obtain ⟨⟨hr, hf⟩, hB'⟩ := hB
    have hkn : k < n := by simp only [List.length_cons] at hk; omega
    have hr' : k ∈ Region.ready md ops listed := by simpa using hr
    rw [List.length_cons, show l.length + 1 + g = (l.length + g) + 1 by omega]
    refine wpAny_first h0 (Region.noSelect_spec hsel) (fun c a' w' h' => by obtain ⟨t, ht⟩ := put_tmps a' o.dst (a.eval x); rw [ht] at h'; exact hQ c _ t w' h') _ _ _ _ (Region.free_spec h0 hf) hr' (v := a.eval x) (Or.inl ⟨by unfold Region.wanted; rw [hg], fun w' => BigFrame.run_move x hx w'⟩) ?_
    exact wpAny_lead hsel hQ hw hn rest m (k + 1) l _ _ (by omega) hb' (fun j hj => by have := hl (j + 1) (by simp; omega); simpa [Nat.add_assoc, Nat.add_comm 1 j] using this) (by simp only [List.length_cons] at hk; omega) (inv.set hr' hkn) hld.succ hB' (lead_step hx hg hw h)

/-- what the kernel is asked of the region: m leading copies, n operations of head -/
def mixB (m : Nat) (ops : Array Oper) (n : Nat) : Bool :=
  Region.noSelect ops && decide (n < ops.size) && sinkFrom .any ops m n && Region.chainB .any ops n && leadB m ops.toList && decide (m ≤ n) && Region.lexHead .any ops (ops.size - n) n 0 (Array.replicate ops.size false)

theorem leadB_take : ∀ (m n : Nat) (l : List Oper), m ≤ n → leadB m l = true → leadB m (l.take n) = true
  | 0, _, _, _, _ => rfl
  | m + 1, _, [], _, h => by cases h
  | m + 1, 0, o :: l, h, _ => by omega
  | m + 1, n + 1, o :: l, hmn, h => by
    simp only [leadB, List.take_succ_cons, Bool.and_eq_true] at h ⊢
    exact ⟨h.1, leadB_take m n l (by omega) h.2⟩

/-- m leading copies; n operations of head, quiet in the class C; what stands behind them a forced chain, walked from every world of C. -/
theorem wp_region_mix {id : Nat} {Q : Exit → Act → World → Prop} {a : Act} {w : World} {l : List Oper} (m n : Nat) (hm : P.follows .mixedOrders = true) (hB : mixB m l.toArray n = true) (hQ : ∀ c (a : Act) (t : Array Value) w, Q (.panic c) { a with tmps := t } w → Q (.panic c) a w)
    (hC : C { w with drawn := w.drawn + 1 }) (h : wpQuiet P l.toArray C (fun a' => ∀ w', C w' → wpList P l.toArray Q (l.drop n) a' w') (l.take n) a) : (Code.region id l.toArray true).wp P Q a w := by
  simp only [mixB, Bool.and_eq_true, decide_eq_true_eq] at hB
  obtain ⟨⟨⟨⟨⟨⟨hsel, hn⟩, hs⟩, hc⟩, hlead⟩, hmn⟩, hlex⟩ := hB
  have hn' : n < l.length := by simpa using hn
  have htl : (l.take n).length = n := by simp; omega
  have hdl : (l.drop n).length = l.toArray.size - n := by simp
  have inv0 : HeadInv .any l.toArray n (Array.replicate l.toArray.size false) :=
    ⟨by simp, fun j oj _ hl => (by rw [getD_replicate_false] at hl; cases hl), fun t _ ht => getD_in (by simpa using ht) (getD_replicate_false _ _)⟩
  refine wp_region_any hm ?_
  have H := wpAny_lead (md := .any) (C := C) (m0 := m) (n := n) (g := l.toArray.size - n) (w := { w with drawn := w.drawn + 1 }) hsel hQ hC hn (fun l1 listed a1 hl1 hk1 inv1 hld1 hB1 h1 =>
    wpAny_of_mix (Q' := Q) (g := l.toArray.size - n) (fun listed2 a2 w2 hw2 hL2 => by
      have := wpAny_of_seq (md := .any) (Q' := Q) (l.drop n) n listed2 a2 w2 (fun j => by simp [List.getElem?_drop]) (by rw [hdl]; exact hL2.1) (hL2.2 w2 hw2)
      rwa [hdl] at this) _ _ _ _ hC (wpMix_lex hsel hs hc hn l1 m listed a1 hl1 hk1 inv1 hld1 hB1 h1))
    m 0 (l.take n) _ a (by omega) (leadB_take m n l hmn (by simpa using hlead)) (fun j hj => by
      have hj' : j < n := by rw [htl] at hj; exact hj
      simp [hj']) (by simpa using htl) inv0 (fun i hi => absurd hi (by omega)) (by rw [htl]; exact hlex) h
  rw [htl, show n + (l.toArray.size - n) = l.toArray.size by omega] at H
  exact H

/-- at the class 'what was there is as it was' -/
theorem wp_region_tail {id : Nat} {Q : Exit → Act → World → Prop} {a : Act} {w : World} {l : List Oper} (m n : Nat) (hm : P.follows .mixedOrders = true) (hB : mixB m l.toArray n = true) (hQ : ∀ c (a : Act) (t : Array Value) w, Q (.panic c) { a with tmps := t } w → Q (.panic c) a w)
    (h : wpQuiet P l.toArray (fun w' => ∃ x : After w, w' = after x) (fun a' => ∀ w', (∃ x : After w, w' = after x) → wpList P l.toArray Q (l.drop n) a' w') (l.take n) a) : (Code.region id l.toArray true).wp P Q a w :=
  wp_region_mix (C := fun w' => ∃ x : After w, w' = after x) m n hm hB hQ ⟨⟨w.drew, (Below.refl _ _).drew⟩, rfl⟩ h
end
end Go.Proofs.YtfacbdliegemgaaDoor
