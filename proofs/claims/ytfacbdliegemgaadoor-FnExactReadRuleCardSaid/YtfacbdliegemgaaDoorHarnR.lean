/- The harness of rules: sizes, copies, comparisons. -/
import Derived.Test.YtfacbdliegemgaaDoorMarkR
import Derived.Test.YtfacbdliegemgaaDoorRuleA
namespace Go.Proofs.YtfacbdliegemgaaDoor
open Go.ChangeShapes Go.WideShapes Go.ChangeAt Go.RowKit

def rtot (T : List Rl) : Nat := (T.map fun r => r.1.length + r.2.size).sum
theorem rtot_succ {T : List Rl} {k : Nat} {xs : List Int} {r : ByteArray} (h : T[k]? = some (xs, r)) : rtot (T.take (k + 1)) = rtot (T.take k) + (xs.length + r.size) := by
  unfold rtot
  rw [List.take_add_one, h]
  simp
theorem rtot_take (T : List Rl) (k : Nat) : rtot (T.take k) ≤ rtot T := by
  unfold rtot
  conv => rhs; rw [← List.take_append_drop k T]
  rw [List.map_append, List.sum_append]
  omega
def szR (left : Int) (n z : Nat) : Int := if left - n - z < 0 then -1 else left - n - z
theorem own_mono' {w : World} {base base' : Nat} {e : TypeId} {size : Nat} {v : Value} {n : Nat} {xs : List Value} (h : w.ownsRow base e size v n xs) (hb : base' ≤ base) : w.ownsRow base' e size v n xs :=
  ⟨h.1, h.2.imp id fun ⟨g, cap, cur, a, b, r⟩ => ⟨g, cap, cur, a, Nat.le_trans hb b, r⟩⟩
theorem own_set {w : World} {base b j : Nat} {e : TypeId} {size : Nat} {v u : Value} {n : Nat} {xs : List Value} (h : w.ownsRow base e size v n xs) (hne : v.ownBlock ≠ some b) : (w.setCell ⟨b, j, none⟩ u).ownsRow base e size v n xs :=
  own_block h fun k hk => Below.heap_setCell _ _ _ k (fun e => hne (by rw [hk, e]))
/-! ## copies of rules -/
/-- the signs of rules, each in a block of its own behind base -/
structure SigsOwn (wr : World) (base : Nat) (T : List Rl) (vs : List Value) : Prop where
  sg : ∀ (i : Nat) u r, vs[i]? = some u → T[i]? = some r → wr.ownsRow base 2 1 u r.1.length (r.1.map (Value.int .i64)) ∧ r.2.size ≤ maxLen
  lo : ∀ (i : Nat) u k, vs[i]? = some u → u.ownBlock = some k → base < k ∧ k < wr.heap.size
  apart : ∀ (i j : Nat) u u' k, vs[i]? = some u → vs[j]? = some u' → u.ownBlock = some k → u'.ownBlock = some k → i = j
theorem SigsOwn.nil (w : World) (base : Nat) (T : List Rl) : SigsOwn w base T [] := ⟨fun i u r h => by simp at h, fun i u k h => by simp at h, fun i j u u' k h => by simp at h⟩
theorem SigsOwn.zone {w w' : World} {base : Nat} {T : List Rl} {vs : List Value} (h : SigsOwn w base T vs) (hz : Zone base (base + 1) w w') : SigsOwn w' base T vs :=
  ⟨fun i u r h1 h2 => by
    obtain ⟨a, b⟩ := h.sg i u r h1 h2
    exact ⟨own_zone a hz (fun k hk => by have := (h.lo i u k h1 hk).1; omega), b⟩,
   fun i u k h1 h2 => ⟨(h.lo i u k h1 h2).1, Nat.lt_of_lt_of_le (h.lo i u k h1 h2).2 hz.size⟩, h.apart⟩
theorem SigsOwn.snoc {w w' : World} {base g : Nat} {T : List Rl} {vs : List Value} {u : Value} {r : Rl} (h : SigsOwn w base T vs) (hb : Below w.heap.size w w') (hr : T[vs.length]? = some r) (hu : w'.ownsRow base 2 1 u r.1.length (r.1.map (Value.int .i64))) (hz : r.2.size ≤ maxLen)
    (hg : u.ownBlock = some g) (hg1 : w.heap.size ≤ g) (hg2 : g < w'.heap.size) (hbase : base < w.heap.size) : SigsOwn w' base T (vs ++ [u]) := by
  have at_ : ∀ (i : Nat) x, (vs ++ [u])[i]? = some x → (vs[i]? = some x) ∨ (i = vs.length ∧ x = u) := fun i x hi => by
    rcases Nat.lt_or_ge i vs.length with h1 | h1
    · rw [List.getElem?_append_left h1] at hi; exact .inl hi
    · rw [List.getElem?_append_right h1] at hi
      have h2 := (List.getElem?_eq_some_iff.1 hi).1
      simp at h2
      have h3 : i = vs.length := by omega
      subst h3
      simp at hi
      exact .inr ⟨rfl, hi.symm⟩
  refine ⟨fun i x q h1 h2 => ?_, fun i x k h1 h2 => ?_, fun i j x y k h1 h2 h3 h4 => ?_⟩
  · rcases at_ i x h1 with h1 | ⟨rfl, rfl⟩
    · exact ⟨own_below (h.sg i x q h1 h2).1 hb, (h.sg i x q h1 h2).2⟩
    · rw [hr] at h2
      injection h2 with h2
      subst h2
      exact ⟨hu, hz⟩
  · rcases at_ i x h1 with h1 | ⟨rfl, rfl⟩
    · exact ⟨(h.lo i x k h1 h2).1, Nat.lt_of_lt_of_le (h.lo i x k h1 h2).2 hb.size⟩
    · rw [hg] at h2
      injection h2 with h2
      omega
  · rcases at_ i x h1 with g1 | ⟨e1, e1'⟩
    · rcases at_ j y h2 with g2 | ⟨e2, e2'⟩
      · exact h.apart i j x y k g1 g2 h3 h4
      · have := (h.lo i x k g1 h3).2
        rw [e2', hg] at h4
        injection h4 with h4
        omega
    · rcases at_ j y h2 with g2 | ⟨e2, e2'⟩
      · have := (h.lo j y k g2 h4).2
        rw [e1', hg] at h3
        injection h3 with h3
        omega
      · omega
theorem infoRule : (Tryd.prog.info? 24).map (fun i => (i.zero, i.size, i.bytes)) = some (some (.agg #[.slice none 0 0, .string ⟨#[]⟩]), 2, 40) := by kernel_rfl
theorem take_rl {T : List Rl} {k : Nat} {r : Rl} (h : T[k]? = some r) : T.take (k + 1) = T.take k ++ [r] := by rw [List.take_add_one, h]; rfl

/-! ## rules compared -/
set_option maxHeartbeats 800000 in
theorem eqRule_any (B B' : Option Addr) (m d m' d' : Nat) (xs ys : List Int) (r t : ByteArray) (w : World) (hx : Ints w B m d xs) (hy : Ints w B' m' d' ys) :
    Calls Tryd.prog 10 #[.agg #[.slice B m d, .string r], .agg #[.slice B' m' d', .string t]] w fun e w' => e = .returned (.bool (decide (((xs, r) : Rl) = (ys, t)))) ∧ Below w.heap.size w w' := by
  cases h1 : decide (xs = ys)
  · have HF := Lib.hid (show decide (((xs, r) : Rl) = (ys, t)) = false by
      rw [decide_eq_false_iff_not]
      intro e
      exact of_decide_eq_false h1 (Prod.mk.inj e).1)
    go_enter Tryd.func10, Tryd.ntmps10
    go_wp2_with fail
    refine (isb (eqInts_any B B' m d m' d' xs ys _ (hx.below (two_boxes _ _ _)) (hy.below (two_boxes _ _ _))) h1).mono ?_
    rintro e_ w1 ⟨rfl, k1⟩
    have hc_w1 := bcell k1; have hf_w1 := bfree k1
    go_wp2
    go_ret
    exact ⟨by rw [HF.out]; rfl, next (two_boxes _ _ _) k1⟩
  · by_cases h2 : r = t
    · subst h2
      have HF := Lib.hid (show decide (((xs, r) : Rl) = (ys, r)) = true by rw [of_decide_eq_true h1]; simp)
      go_enter Tryd.func10, Tryd.ntmps10
      go_wp2_with fail
      refine (isb (eqInts_any B B' m d m' d' xs ys _ (hx.below (two_boxes _ _ _)) (hy.below (two_boxes _ _ _))) h1).mono ?_
      rintro e_ w1 ⟨rfl, k1⟩
      have hc_w1 := bcell k1; have hf_w1 := bfree k1
      have hz_w1_0 : w.heap.size + 1 < w1.heap.size := by have hz_ := k1.size; (try simp at hz_); omega
      have hz_w1_1 : w.heap.size < w1.heap.size := by have hz_ := k1.size; (try simp at hz_); omega
      go_wp2
      go_ret
      exact ⟨by rw [HF.out]; rfl, next (two_boxes _ _ _) k1⟩
    · have HF := Lib.hid (show decide (((xs, r) : Rl) = (ys, t)) = false by
        rw [decide_eq_false_iff_not]
        intro e
        exact h2 (Prod.mk.inj e).2)
      have hne := text_ne h2
      clear h2
      go_enter Tryd.func10, Tryd.ntmps10
      go_wp2_with fail
      refine (isb (eqInts_any B B' m d m' d' xs ys _ (hx.below (two_boxes _ _ _)) (hy.below (two_boxes _ _ _))) h1).mono ?_
      rintro e_ w1 ⟨rfl, k1⟩
      have hc_w1 := bcell k1; have hf_w1 := bfree k1
      have hz_w1_0 : w.heap.size + 1 < w1.heap.size := by have hz_ := k1.size; (try simp at hz_); omega
      have hz_w1_1 : w.heap.size < w1.heap.size := by have hz_ := k1.size; (try simp at hz_); omega
      go_wp2
      go_ret
      exact ⟨by rw [HF.out]; rfl, next (two_boxes _ _ _) k1⟩
end Go.Proofs.YtfacbdliegemgaaDoor
