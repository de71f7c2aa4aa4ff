/- The harness of rules: sizes, copies, comparisons. -/
import Derived.Test.YtnjjfcdddkabbaaDoorMarkR
import Derived.Test.YtnjjfcdddkabbaaDoorRuleA
namespace Go.Proofs.YtnjjfcdddkabbaaDoor
open Go.ChangeShapes Go.WideShapes Go.ChangeAt Go.RowKit

def rtot (T : List Rl) : Nat := (T.map fun r => r.1.length + r.2.size).sum
theorem rtot_succ {T : List Rl} {k : Nat} {xs : List Int} {r : ByteArray} (h : T[k]? = some (xs, r)) : rtot (T.take (k + 1)) = rtot (T.take k) + (xs.length + r.size) := by
  unfold rtot
  rw [List.take_add_one, h]
  simp
theorem rtot_take (T : List Rl) (k : Nat) : rtot (T.take k) ≤ rtot T := by
  unfold rtot
  conv => rhs; rw [← List.take_append_drop k T]
  rw [List.map_append, List.sum_append]
  omega
def szR (left : Int) (n z : Nat) : Int := if left - n - z < 0 then -1 else left - n - z
theorem szInts_any (A : Option Addr) (n c : Nat) (left : Int) (w : World) (hn : n ≤ 9223372036854775807) (h0 : 0 ≤ left) (h1 : left ≤ 1048576) :
    Calls Tryd.prog 23 #[.slice A n c, .int .i64 left] w fun e w' => e = .returned (.int .i64 (szR left n 0)) ∧ Below w.heap.size w w' := by
  by_cases h : left - (n : Int) < 0
  · have HF := Lib.hid (show szR left n 0 = -1 by unfold szR; rw [if_pos (by omega)])
    go_enter Tryd.func23, Tryd.ntmps23
    go_wp2
    go_ret
    exact ⟨by rw [HF.out]; rfl, Below.refl _ _⟩
  · have HF := Lib.hid (show szR left n 0 = left - n by unfold szR; rw [if_neg (by omega)]; omega)
    go_enter Tryd.func23, Tryd.ntmps23
    go_wp2
    go_ret
    exact ⟨by rw [HF.out]; rfl, Below.refl _ _⟩
set_option maxHeartbeats 800000 in
theorem szRule_any (B : Option Addr) (m d : Nat) (r : ByteArray) (left : Int) (w : World) (hm : m ≤ 9223372036854775807) (hr : r.size ≤ maxLen) (h0 : 0 ≤ left) (h1 : left ≤ 1048576) :
    Calls Tryd.prog 12 #[.agg #[.slice B m d, .string r], .int .i64 left] w fun e w' => e = .returned (.int .i64 (szR left m r.size)) ∧ Below w.heap.size w w' := by
  unfold maxLen at hr
  have hI := fun W => szInts_any B m d left W hm h0 h1
  by_cases h : left - (m : Int) < 0
  · have HF := Lib.hid (show szR left m r.size = -1 by unfold szR; rw [if_pos (by omega)])
    rw [show szR left m 0 = -1 by unfold szR; rw [if_pos (by omega)]] at hI
    go_enter Tryd.func12, Tryd.ntmps12
    go_wp2_with fail
    refine (hI _).mono ?_
    rintro e_ w1 ⟨rfl, k1⟩
    have hc_w1 := bcell k1; have hf_w1 := bfree k1
    go_wp2
    go_ret
    exact ⟨by rw [HF.out]; rfl, next (one_box _ _) k1⟩
  · rw [show szR left m 0 = left - m by unfold szR; rw [if_neg (by omega)]; omega] at hI
    obtain ⟨l1, hl1⟩ : ∃ l1 : Int, left - m = l1 := ⟨_, rfl⟩
    rw [hl1] at hI
    have hl0 : 0 ≤ l1 := by omega
    have hl2 : l1 ≤ 1048576 := by omega
    by_cases h2 : l1 - (r.size : Int) < 0
    · have HF := Lib.hid (show szR left m r.size = -1 by unfold szR; rw [if_pos (by omega)])
      clear hl1 h
      go_enter Tryd.func12, Tryd.ntmps12
      go_wp2_with fail
      refine (hI _).mono ?_
      rintro e_ w1 ⟨rfl, k1⟩
      have hc_w1 := bcell k1; have hf_w1 := bfree k1
      have hz_w1_0 : w.heap.size < w1.heap.size := by have hz_ := k1.size; (try simp at hz_); omega
      go_wp2
      go_ret
      exact ⟨by rw [HF.out]; rfl, next (one_box _ _) k1⟩
    · have HF := Lib.hid (show szR left m r.size = l1 - r.size by unfold szR; rw [if_neg (by omega)]; omega)
      clear hl1 h
      go_enter Tryd.func12, Tryd.ntmps12
      go_wp2_with fail
      refine (hI _).mono ?_
      rintro e_ w1 ⟨rfl, k1⟩
      have hc_w1 := bcell k1; have hf_w1 := bfree k1
      have hz_w1_0 : w.heap.size < w1.heap.size := by have hz_ := k1.size; (try simp at hz_); omega
      go_wp2
      go_ret
      exact ⟨by rw [HF.out]; rfl, next (one_box _ _) k1⟩
set_option maxRecDepth 100000 in
set_option maxHeartbeats 1000000 in
theorem szRules_any (A : Option Addr) (n c : Nat) (T : List Rl) (left : Int) (w : World) (hx : Rules w A n c T) (h0 : 0 ≤ left) (h1 : left ≤ 1048576) :
    Calls Tryd.prog 5 #[.slice A n c, .int .i64 left] w fun e w' => e = .returned (.int .i64 (szR left n (rtot T))) ∧ Below w.heap.size w w' := by
  have hcm := hx.cap.2
  have hnc := hx.cap.1
  have HX := Lib.hid hx.1
  unfold maxLen at hcm
  by_cases h : left - (n : Int) < 0
  · have HF := Lib.hid (show szR left n (rtot T) = -1 by unfold szR; rw [if_pos (by omega)])
    go_enter Tryd.func5, Tryd.ntmps5
    go_wp2
    go_ret
    exact ⟨by rw [HF.out]; rfl, Below.refl _ _⟩
  · go_enter Tryd.func5, Tryd.ntmps5
    go_wp2
    go_loopw [1, 5] (fun l i wr => ∃ (k : Nat) (q : Int), k ≤ n ∧ i = .int .i64 k ∧ l = .int .i64 q ∧ 0 ≤ q ∧ q ≤ 1048576 ∧ Hid (q = left - n - rtot (T.take k)) ∧ Below w.heap.size w wr) (fun _ i _ => n - (intOf i).toNat)
    case atStart => exact ⟨0, left - n, Nat.zero_le _, rfl, rfl, by omega, by omega, by simp [Hid, rtot], Below.refl _ _⟩
    case round =>
      obtain ⟨k, q, hk, rfl, rfl, q0, q1, hq, hb⟩ := hrel
      by_cases hlt : k < n
      · obtain ⟨b, off, rfl, hbl⟩ := hx.at_ k hlt
        obtain ⟨B', m', d', xs, r, hT, c0, c1, hz, hrz⟩ := hx.el hb k hlt
        have hm' : m' ≤ 9223372036854775807 := by have h1 := hz.2.le; have h2 := hz.2.cap; unfold maxLen at h2; omega
        have hs := fun W => szRule_any B' m' d' r q W hm' hrz q0 q1
        have hlen := hz.1
        have ht := rtot_succ hT.out
        have ht2 := rtot_take T (k + 1)
        by_cases hneg : q - m' - r.size < 0
        · have HF := Lib.hid (show szR left n (rtot T) = -1 by have := hq.out; unfold szR; rw [if_pos (by omega)])
          rw [show szR q m' r.size = -1 by unfold szR; rw [if_pos hneg]] at hs
          clear hlen ht ht2 hq
          go_wp2_with fail
          refine (hs _).mono ?_
          rintro e_ w1 ⟨rfl, k1⟩
          have hc_w1 := bcell k1; have hf_w1 := bfree k1
          go_wp2
          go_ret
          exact ⟨by rw [HF.out]; rfl, next hb k1⟩
        · have HQ := Lib.hid (show q - m' - r.size = left - n - rtot (T.take (k + 1)) by have := hq.out; omega)
          rw [show szR q m' r.size = q - m' - r.size by unfold szR; rw [if_neg hneg]] at hs
          have hq1 : q - m' - r.size ≤ 1048576 := by omega
          generalize q - m' - r.size = q' at *
          have hq0 : 0 ≤ q' := by omega
          clear hlen ht ht2 hq
          go_wp2_with fail
          refine (hs _).mono ?_
          rintro e_ w1 ⟨rfl, k1⟩
          have hc_w1 := bcell k1; have hf_w1 := bfree k1
          go_wp2
          go_roundw
          case rel => exact ⟨k + 1, q', by omega, by go_num, rfl, hq0, hq1, HQ, next hb k1⟩
          case measure => simp [intOf]; omega
      · have HF := Lib.hid (show szR left n (rtot T) = q by
          have h5 := hq.out
          rw [List.take_of_length_le (by have := HX.out; omega)] at h5
          unfold szR
          rw [if_neg (by omega)]
          omega)
        clear hq
        go_wp2
        go_ret
        exact ⟨by rw [HF.out]; rfl, hb⟩

theorem own_mono' {w : World} {base base' : Nat} {e : TypeId} {size : Nat} {v : Value} {n : Nat} {xs : List Value} (h : w.ownsRow base e size v n xs) (hb : base' ≤ base) : w.ownsRow base' e size v n xs :=
  ⟨h.1, h.2.imp id fun ⟨g, cap, cur, a, b, r⟩ => ⟨g, cap, cur, a, Nat.le_trans hb b, r⟩⟩
theorem own_set {w : World} {base b j : Nat} {e : TypeId} {size : Nat} {v u : Value} {n : Nat} {xs : List Value} (h : w.ownsRow base e size v n xs) (hne : v.ownBlock ≠ some b) : (w.setCell ⟨b, j, none⟩ u).ownsRow base e size v n xs :=
  own_block h fun k hk => Below.heap_setCell _ _ _ k (fun e => hne (by rw [hk, e]))
set_option maxHeartbeats 1000000 in
theorem toRule_any (B : Option Addr) (m d : Nat) (xs : List Int) (r : ByteArray) (w : World) (hx : Ints w B m d xs) (hm : m ≤ 1048576) :
    Calls Tryd.prog 16 #[.agg #[.slice B m d, .string r]] w fun e w' => e = .returned (.agg #[.slice (some ⟨w.heap.size + 3, 0, none⟩) m m, .string r]) ∧ w'.ownsRow (w.heap.size + 3) 2 1 (.slice (some ⟨w.heap.size + 3, 0, none⟩) m m) m (xs.map (Value.int .i64)) ∧ Below w.heap.size w w' := by
  have ht := fun (W : World) (hs : W.heap.size = w.heap.size + 3) (hW : Below w.heap.size w W) => toInts_any B m d xs W (hx.below hW) hm
  go_enter Tryd.func16, Tryd.ntmps16
  go_wp2_with fail
  refine (ht _ (by simp) (three_boxes _ _ _ _)).mono ?_
  rintro e_ w1 ⟨rfl, ho, h1⟩
  have hc := bcell h1
  have hf := bfree h1
  have hz1 : w.heap.size + 3 ≤ w1.heap.size := by have := h1.size; simp at this; omega
  clear ht
  go_wp2
  refine bodyPost_ret (v := .agg #[.slice (some ⟨w.heap.size + 3, 0, none⟩) m m, .string r]) (by simp [results, Tryd.results16, go_sem, hc, hf]) rfl ⟨rfl, ?_, ?_⟩
  · refine own_set (own_set (own_set (own_set ?_ ?_) ?_) ?_) ?_
    · simpa using ho
    all_goals (simp [Value.ownBlock]; try omega)
  · refine Below.setCell (Below.setCell (Below.setCell (Below.setCell (next (three_boxes _ _ _ _) h1) ?_ _) ?_ _) ?_ _) ?_ _
    all_goals (simp; try omega)

/-! ## copies of rules -/
/-- the signs of rules, each in a block of its own behind base -/
structure SigsOwn (wr : World) (base : Nat) (T : List Rl) (vs : List Value) : Prop where
  sg : ∀ (i : Nat) u r, vs[i]? = some u → T[i]? = some r → wr.ownsRow base 2 1 u r.1.length (r.1.map (Value.int .i64)) ∧ r.2.size ≤ maxLen
  lo : ∀ (i : Nat) u k, vs[i]? = some u → u.ownBlock = some k → base < k ∧ k < wr.heap.size
  apart : ∀ (i j : Nat) u u' k, vs[i]? = some u → vs[j]? = some u' → u.ownBlock = some k → u'.ownBlock = some k → i = j
theorem SigsOwn.nil (w : World) (base : Nat) (T : List Rl) : SigsOwn w base T [] := ⟨fun i u r h => by simp at h, fun i u k h => by simp at h, fun i j u u' k h => by simp at h⟩
theorem SigsOwn.zone {w w' : World} {base : Nat} {T : List Rl} {vs : List Value} (h : SigsOwn w base T vs) (hz : Zone base (base + 1) w w') : SigsOwn w' base T vs :=
  ⟨fun i u r h1 h2 => by
    obtain ⟨a, b⟩ := h.sg i u r h1 h2
    exact ⟨own_zone a hz (fun k hk => by have := (h.lo i u k h1 hk).1; omega), b⟩,
   fun i u k h1 h2 => ⟨(h.lo i u k h1 h2).1, Nat.lt_of_lt_of_le (h.lo i u k h1 h2).2 hz.size⟩, h.apart⟩
theorem SigsOwn.snoc {w w' : World} {base g : Nat} {T : List Rl} {vs : List Value} {u : Value} {r : Rl} (h : SigsOwn w base T vs) (hb : Below w.heap.size w w') (hr : T[vs.length]? = some r) (hu : w'.ownsRow base 2 1 u r.1.length (r.1.map (Value.int .i64))) (hz : r.2.size ≤ maxLen)
    (hg : u.ownBlock = some g) (hg1 : w.heap.size ≤ g) (hg2 : g < w'.heap.size) (hbase : base < w.heap.size) : SigsOwn w' base T (vs ++ [u]) := by
  have at_ : ∀ (i : Nat) x, (vs ++ [u])[i]? = some x → (vs[i]? = some x) ∨ (i = vs.length ∧ x = u) := fun i x hi => by
    rcases Nat.lt_or_ge i vs.length with h1 | h1
    · rw [List.getElem?_append_left h1] at hi; exact .inl hi
    · rw [List.getElem?_append_right h1] at hi
      have h2 := (List.getElem?_eq_some_iff.1 hi).1
      simp at h2
      have h3 : i = vs.length := by omega
      subst h3
      simp at hi
      exact .inr ⟨rfl, hi.symm⟩
  refine ⟨fun i x q h1 h2 => ?_, fun i x k h1 h2 => ?_, fun i j x y k h1 h2 h3 h4 => ?_⟩
  · rcases at_ i x h1 with h1 | ⟨rfl, rfl⟩
    · exact ⟨own_below (h.sg i x q h1 h2).1 hb, (h.sg i x q h1 h2).2⟩
    · rw [hr] at h2
      injection h2 with h2
      subst h2
      exact ⟨hu, hz⟩
  · rcases at_ i x h1 with h1 | ⟨rfl, rfl⟩
    · exact ⟨(h.lo i x k h1 h2).1, Nat.lt_of_lt_of_le (h.lo i x k h1 h2).2 hb.size⟩
    · rw [hg] at h2
      injection h2 with h2
      omega
  · rcases at_ i x h1 with g1 | ⟨e1, e1'⟩
    · rcases at_ j y h2 with g2 | ⟨e2, e2'⟩
      · exact h.apart i j x y k g1 g2 h3 h4
      · have := (h.lo i x k g1 h3).2
        rw [e2', hg] at h4
        injection h4 with h4
        omega
    · rcases at_ j y h2 with g2 | ⟨e2, e2'⟩
      · have := (h.lo j y k g2 h4).2
        rw [e1', hg] at h3
        injection h3 with h3
        omega
      · omega
theorem infoRule : (Tryd.prog.info? 39).map (fun i => (i.zero, i.size, i.bytes)) = some (some (.agg #[.slice none 0 0, .string ⟨#[]⟩]), 2, 40) := by kernel_rfl
theorem take_rl {T : List Rl} {k : Nat} {r : Rl} (h : T[k]? = some r) : T.take (k + 1) = T.take k ++ [r] := by rw [List.take_add_one, h]; rfl

set_option maxRecDepth 100000 in
set_option maxHeartbeats 2000000 in
theorem toRules_any (A : Option Addr) (n c : Nat) (T : List Rl) (w : World) (hx : Rules w A n c T) (hn : n ≤ 1048576) (hT : rtot T ≤ 1048576) :
    Calls Tryd.prog 7 #[.slice A n c] w fun e w' => e = .returned (.slice (some ⟨w.heap.size, 0, none⟩) n n) ∧ OwnRules w' w.heap.size w'.heap.size (.slice (some ⟨w.heap.size, 0, none⟩) n n) n T ∧ Below w.heap.size w w' := by
  have hcm := hx.cap.2
  have hnc := hx.cap.1
  have HX := Lib.hid hx.1
  unfold maxLen at hcm
  obtain ⟨i0, hi, hz0, hz1, hz2⟩ := info_parts infoRule
  have hmk := fun W => run_make_rowN (P := Tryd.prog) 26 39 i0 _ Tryd.underlying26 hi hz0 .i64 .i64 n n (Nat.le_refl _) (by rw [hz2]; omega) (by omega) W
  go_enter Tryd.func7, Tryd.ntmps7
  go_wp2
  go_loopw [4] (fun i wr => ∃ (k : Nat) (ys vs : List Value), k ≤ n ∧ i = .int .i64 k ∧ vs.length = k ∧ Hid (ys.take (k * 2) = rcells vs (T.take k)) ∧
      wr.ownsRow w.heap.size 39 2 (.slice (some ⟨w.heap.size, 0, none⟩) n n) n ys ∧ Hid (SigsOwn wr w.heap.size T vs) ∧ Below w.heap.size w wr) (fun i _ => n - (intOf i).toNat)
  case atStart => exact ⟨0, (madeCells #[.slice none 0 0, .string ⟨#[]⟩] (n * 2)).toList, [], Nat.zero_le _, rfl, rfl, by simp [Hid, rcells], World.ownsRow_lit w _ n (Nat.le_refl _) (by unfold maxLen; omega) (size_madeCells _ _), SigsOwn.nil _ _ _, (Below.refl _ _).alloc (Nat.le_refl _) _⟩
  case round =>
    obtain ⟨k, ys, vs, hk, rfl, hvl, hys, hown, hso, hb⟩ := hrel
    have HV := Lib.hid hvl
    clear hvl
    by_cases hlt : k < n
    · obtain ⟨b, off, rfl, hbl⟩ := hx.at_ k hlt
      obtain ⟨B', m', d', xs, r, hTk, c0, c1, hz, hrz⟩ := hx.el hb k hlt
      have hm' : m' ≤ 1048576 := by have := rtot_succ hTk.out; have := rtot_take T (k + 1); have := hz.1; omega
      have hbw : b < wr.heap.size := Nat.lt_of_lt_of_le hbl hb.size
      have hgw : w.heap.size < wr.heap.size := (hown.lt _ rfl).2
      go_wp2_with fail
      refine (toRule_any B' m' d' xs r _ hz hm').mono ?_
      rintro e_ w1 ⟨rfl, ho1, h1⟩
      have hg2 := (ho1.lt _ rfl).2
      have hown1 := own_below hown h1
      have hyl := hown1.1
      have d0 := hown1.cellAt (k * 2) (by omega)
      have d1 := hown1.cellAt (k * 2 + 1) (by omega)
      rw [List.getElem?_eq_getElem (by omega)] at d0 d1
      have e0 := hown1.frozenAt (k * 2)
      have e1 := hown1.frozenAt (k * 2 + 1)
      generalize ys[k * 2] = u0 at d0
      generalize ys[k * 2 + 1] = u1 at d1
      have hs1 := hown1.stored (k * 2) (.slice (some ⟨wr.heap.size + 3, 0, none⟩) m' m')
      have hs2 := hs1.1.stored (k * 2 + 1) (.string r)
      have HS := Lib.hid hs2.1
      have hsn := hso.out.snoc (u := .slice (some ⟨wr.heap.size + 3, 0, none⟩) m' m') (r := (xs, r)) (g := wr.heap.size + 3) h1 (by rw [HV.out]; exact hTk.out) (by rw [← hz.1]; exact own_mono' ho1 (by omega)) hrz rfl (by omega) hg2 hgw
      have HSN := Lib.hid ((hsn.zone ((Zone.set w1 w.heap.size (k * 2) (.slice (some ⟨wr.heap.size + 3, 0, none⟩) m' m') (Nat.le_refl _) (Nat.lt_succ_self _)).trans (Zone.set _ w.heap.size (k * 2 + 1) (.string r) (Nat.le_refl _) (Nat.lt_succ_self _)))))
      have H1 := Lib.hid (show ((ys.set (k * 2) (.slice (some ⟨wr.heap.size + 3, 0, none⟩) m' m')).set (k * 2 + 1) (.string r)).take (k * 2 + 2) = rcells (vs ++ [Value.slice (some ⟨wr.heap.size + 3, 0, none⟩) m' m']) (T.take (k + 1)) by
        rw [take_snoc2 hys.out (by omega), take_rl hTk.out, rcells_snoc _ _ (by rw [HV.out, List.length_take, ← HX.out]; omega)])
      have HVL := Lib.hid (show (vs ++ [Value.slice (some ⟨wr.heap.size + 3, 0, none⟩) m' m']).length = k + 1 by rw [List.length_append, HV.out]; rfl)
      clear hs1 hs2 hown1 hys hsn ho1 hso
      go_wp2
      go_roundw
      case rel => exact ⟨k + 1, _, vs ++ [Value.slice (some ⟨wr.heap.size + 3, 0, none⟩) m' m'], by omega, by go_num, HVL.out, by rw [Nat.add_mul]; exact H1, HS.out, HSN, ((hb.trans (h1.mono hb.size)).setCell (Nat.le_refl _) _).setCell (Nat.le_refl _) _⟩
      case measure => simp [intOf]; omega
    · obtain rfl : k = n := by omega
      have hyl := hown.1
      have hgw : w.heap.size < wr.heap.size := (hown.lt _ rfl).2
      have hys' := hys.out
      rw [List.take_of_length_le (by omega), List.take_of_length_le (by have := HX.out; omega)] at hys'
      rw [hys'] at hown
      have HF : Hid (OwnRules wr w.heap.size wr.heap.size (.slice (some ⟨w.heap.size, 0, none⟩) k k) k T) :=
        ⟨vs, HX.out.symm, HV.out, hown, hso.out.sg, fun i u q h1 h2 => ⟨(hso.out.lo i u q h1 h2).2, fun e => by have := (hso.out.lo i u q h1 h2).1; have e' : w.heap.size = q := Option.some.inj e; omega⟩, fun q h1 => by have e' : w.heap.size = q := Option.some.inj h1; omega, hso.out.apart⟩
      clear hys hys' hown hyl hso
      go_wp2
      go_ret
      exact ⟨rfl, HF.out, hb⟩

/-! ## rules compared -/
set_option maxHeartbeats 800000 in
theorem eqRule_any (B B' : Option Addr) (m d m' d' : Nat) (xs ys : List Int) (r t : ByteArray) (w : World) (hx : Ints w B m d xs) (hy : Ints w B' m' d' ys) :
    Calls Tryd.prog 20 #[.agg #[.slice B m d, .string r], .agg #[.slice B' m' d', .string t]] w fun e w' => e = .returned (.bool (decide (((xs, r) : Rl) = (ys, t)))) ∧ Below w.heap.size w w' := by
  cases h1 : decide (xs = ys)
  · have HF := Lib.hid (show decide (((xs, r) : Rl) = (ys, t)) = false by
      rw [decide_eq_false_iff_not]
      intro e
      exact of_decide_eq_false h1 (Prod.mk.inj e).1)
    go_enter Tryd.func20, Tryd.ntmps20
    go_wp2_with fail
    refine (isb (eqInts_any B B' m d m' d' xs ys _ (hx.below (two_boxes _ _ _)) (hy.below (two_boxes _ _ _))) h1).mono ?_
    rintro e_ w1 ⟨rfl, k1⟩
    have hc_w1 := bcell k1; have hf_w1 := bfree k1
    go_wp2
    go_ret
    exact ⟨by rw [HF.out]; rfl, next (two_boxes _ _ _) k1⟩
  · by_cases h2 : r = t
    · subst h2
      have HF := Lib.hid (show decide (((xs, r) : Rl) = (ys, r)) = true by rw [of_decide_eq_true h1]; simp)
      go_enter Tryd.func20, Tryd.ntmps20
      go_wp2_with fail
      refine (isb (eqInts_any B B' m d m' d' xs ys _ (hx.below (two_boxes _ _ _)) (hy.below (two_boxes _ _ _))) h1).mono ?_
      rintro e_ w1 ⟨rfl, k1⟩
      have hc_w1 := bcell k1; have hf_w1 := bfree k1
      have hz_w1_0 : w.heap.size + 1 < w1.heap.size := by have hz_ := k1.size; (try simp at hz_); omega
      have hz_w1_1 : w.heap.size < w1.heap.size := by have hz_ := k1.size; (try simp at hz_); omega
      go_wp2
      go_ret
      exact ⟨by rw [HF.out]; rfl, next (two_boxes _ _ _) k1⟩
    · have HF := Lib.hid (show decide (((xs, r) : Rl) = (ys, t)) = false by
        rw [decide_eq_false_iff_not]
        intro e
        exact h2 (Prod.mk.inj e).2)
      have hne := text_ne h2
      clear h2
      go_enter Tryd.func20, Tryd.ntmps20
      go_wp2_with fail
      refine (isb (eqInts_any B B' m d m' d' xs ys _ (hx.below (two_boxes _ _ _)) (hy.below (two_boxes _ _ _))) h1).mono ?_
      rintro e_ w1 ⟨rfl, k1⟩
      have hc_w1 := bcell k1; have hf_w1 := bfree k1
      have hz_w1_0 : w.heap.size + 1 < w1.heap.size := by have hz_ := k1.size; (try simp at hz_); omega
      have hz_w1_1 : w.heap.size < w1.heap.size := by have hz_ := k1.size; (try simp at hz_); omega
      go_wp2
      go_ret
      exact ⟨by rw [HF.out]; rfl, next (two_boxes _ _ _) k1⟩
set_option maxRecDepth 100000 in
set_option maxHeartbeats 1000000 in
theorem eqRules_any (A B : Option Addr) (n c m d : Nat) (T U : List Rl) (w : World) (hx : Rules w A n c T) (hy : Rules w B m d U) :
    Calls Tryd.prog 9 #[.slice A n c, .slice B m d] w fun e w' => e = .returned (.bool (decide (T = U))) ∧ Below w.heap.size w w' := by
  have hcm := hx.cap.2
  have hnc := hx.cap.1
  have hdm := hy.cap.2
  have hmd := hy.cap.1
  have HX := Lib.hid hx.1
  have HY := Lib.hid hy.1
  unfold maxLen at hcm hdm
  by_cases hnm : n = m
  · subst hnm
    go_enter Tryd.func9, Tryd.ntmps9
    go_wp2
    go_loopw [5] (fun i wr => ∃ (k : Nat), k ≤ n ∧ i = .int .i64 k ∧ Hid (T.take k = U.take k) ∧ Below w.heap.size w wr) (fun i _ => n - (intOf i).toNat)
    case atStart => exact ⟨0, Nat.zero_le _, rfl, rfl, Below.refl _ _⟩
    case round =>
      obtain ⟨k, hk, rfl, hq, hb⟩ := hrel
      by_cases hlt : k < n
      · obtain ⟨b, off, rfl, hbl⟩ := hx.at_ k hlt
        obtain ⟨B1, m1, d1, xs, r, ht1, c0, c1, hz1, _⟩ := hx.el hb k hlt
        obtain ⟨b2, off2, rfl, hbl2⟩ := hy.at_ k hlt
        obtain ⟨B2, m2, d2, ys, t, ht2, c2, c3, hz2, _⟩ := hy.el hb k hlt
        have hbw : b < wr.heap.size := Nat.lt_of_lt_of_le hbl hb.size
        have hbw2 : b2 < wr.heap.size := Nat.lt_of_lt_of_le hbl2 hb.size
        have hj0 : (0 : Int) ≤ (k : Int) := Int.natCast_nonneg _
        have hj1 : (k : Int) < (n : Int) := by omega
        cases he : decide (((xs, r) : Rl) = (ys, t))
        · have HF := Lib.hid (show decide (T = U) = false by
            rw [decide_eq_false_iff_not]
            intro e
            have h1 := ht1.out
            rw [e, ht2.out] at h1
            exact of_decide_eq_false he (Option.some.inj h1).symm)
          go_wp2
          refine wp_region_later (by kernel_rfl) (by kernel_rfl) ?_
          repeat (go_big_quiet_step ((go_at_call 20; exact Calls.later (isb (eqRule_any B1 B2 m1 d1 m2 d2 xs ys r t _ (hz1.below (after_below _)) (hz2.below (after_below _))) he))))
          refine wpQuiet_nil ?_
          intro w3 hw2; have h3 := later_below hw2; clear hw2
          go_wp2
          go_ret
          exact ⟨by rw [HF.out]; rfl, next hb h3⟩
        · have HQ := Lib.hid (show T.take (k + 1) = U.take (k + 1) by rw [List.take_add_one, List.take_add_one, hq.out, ht1.out, ht2.out, of_decide_eq_true he])
          go_wp2
          refine wp_region_later (by kernel_rfl) (by kernel_rfl) ?_
          repeat (go_big_quiet_step ((go_at_call 20; exact Calls.later (isb (eqRule_any B1 B2 m1 d1 m2 d2 xs ys r t _ (hz1.below (after_below _)) (hz2.below (after_below _))) he))))
          refine wpQuiet_nil ?_
          intro w3 hw2; have h3 := later_below hw2; clear hw2
          go_wp2
          go_roundw
          case rel => exact ⟨k + 1, by omega, by go_num, HQ, next hb h3⟩
          case measure => simp [intOf]; omega
      · have HT := Lib.hid (show decide (T = U) = true by
          have := hq.out
          rw [List.take_of_length_le (by have := HX.out; omega), List.take_of_length_le (by have := HY.out; omega)] at this
          exact decide_eq_true this)
        clear hq
        go_wp2
        go_ret
        exact ⟨by rw [HT.out]; rfl, hb⟩
  · have HF := Lib.hid (show decide (T = U) = false by
      rw [decide_eq_false_iff_not]
      intro e
      exact hnm (by rw [HX.out, HY.out, e]))
    go_enter Tryd.func9, Tryd.ntmps9
    go_wp2
    go_ret
    exact ⟨by rw [HF.out]; rfl, Below.refl _ _⟩
end Go.Proofs.YtnjjfcdddkabbaaDoor
