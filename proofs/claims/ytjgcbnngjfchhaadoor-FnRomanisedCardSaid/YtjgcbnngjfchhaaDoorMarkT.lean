/- Rules marked: each in its own memory. -/
import Derived.Test.YtjgcbnngjfchhaaDoorHarnR
namespace Go.Proofs.YtjgcbnngjfchhaaDoor
open Go.ChangeShapes Go.WideShapes Go.ChangeAt Go.RowKit

def rsum (T : List Rl) : Nat := (T.map fun r => r.1.length).sum
theorem rsum_le (T : List Rl) : rsum T ≤ rtot T := by
  unfold rsum rtot
  induction T with
  | nil => simp
  | cons r q ih => simp only [List.map_cons, List.sum_cons]; omega
def rmarks : Nat → List Rl → List Rl
  | _, [] => []
  | k, r :: T => (imarks k r.1.length, markT (k + r.1.length)) :: rmarks (k + r.1.length + 1) T
theorem rmarks_len : ∀ (k : Nat) (T : List Rl), (rmarks k T).length = T.length
  | _, [] => rfl
  | k, r :: T => by simp only [rmarks, List.length_cons, rmarks_len (k + r.1.length + 1) T]
theorem rmarks_at : ∀ {k j : Nat} {T : List Rl} {xs : List Int} {r : ByteArray}, T[j]? = some (xs, r) → (rmarks k T)[j]? = some (imarks (k + (j + rsum (T.take j))) xs.length, markT (k + (j + rsum (T.take j)) + xs.length))
  | k, _, [], xs, r, h => by simp at h
  | k, 0, t :: T, xs, r, h => by
    simp at h
    subst h
    simp [rmarks, rsum]
  | k, j + 1, t :: T, xs, r, h => by
    simp only [List.getElem?_cons_succ] at h
    simp only [rmarks, List.getElem?_cons_succ]
    rw [rmarks_at h]
    have e : rsum ((t :: T).take (j + 1)) = t.1.length + rsum (T.take j) := by simp [rsum]
    rw [e, show k + t.1.length + 1 + (j + rsum (T.take j)) = k + (j + 1 + (t.1.length + rsum (T.take j))) by omega]
theorem rsum_succ {T : List Rl} {k : Nat} {xs : List Int} {r : ByteArray} (h : T[k]? = some (xs, r)) : rsum (T.take (k + 1)) = rsum (T.take k) + xs.length := by
  unfold rsum
  rw [List.take_add_one, h]
  simp
theorem rsum_take (T : List Rl) (k : Nat) : rsum (T.take k) ≤ rsum T := by
  unfold rsum
  conv => rhs; rw [← List.take_append_drop k T]
  rw [List.map_append, List.sum_append]
  omega
/-- the first j rules marked, the others as they were -/
def rmix (k : Nat) (T : List Rl) (j : Nat) : List Rl := (rmarks k T).take j ++ T.drop j
theorem rmix_zero (k : Nat) (T : List Rl) : rmix k T 0 = T := by simp [rmix]
theorem rmix_all {k : Nat} {T : List Rl} {j : Nat} (h : T.length ≤ j) : rmix k T j = rmarks k T := by
  unfold rmix
  rw [List.take_of_length_le (by rw [rmarks_len]; exact h), List.drop_of_length_le h, List.append_nil]
theorem rmix_at {k j : Nat} {T : List Rl} {x : Rl} (h : T[j]? = some x) : (rmix k T j)[j]? = some x := by
  have hj := (List.getElem?_eq_some_iff.1 h).1
  unfold rmix
  rw [List.getElem?_append_right (by rw [List.length_take, rmarks_len]; omega), List.length_take, rmarks_len, Nat.min_eq_left (by omega), Nat.sub_self, List.getElem?_drop]
  exact h
theorem rmix_step {k j : Nat} {T : List Rl} {x y : Rl} (h : T[j]? = some x) (hy : (rmarks k T)[j]? = some y) : (rmix k T j).set j y = rmix k T (j + 1) := by
  have hj := (List.getElem?_eq_some_iff.1 h).1
  unfold rmix
  rw [List.set_append_right _ _ (by rw [List.length_take, rmarks_len]; omega), List.length_take, rmarks_len, Nat.min_eq_left (by omega), Nat.sub_self, List.take_add_one, hy]
  have e : T.drop j = x :: T.drop (j + 1) := by
    rw [List.drop_eq_getElem_cons hj]
    congr 1
    have := (List.getElem?_eq_some_iff.1 h).2
    exact this
  rw [e]
  simp

theorem Zone.of_own {lo hi : Nat} {w w' : World} {v : Value} (h : w.grownBy w' v.ownBlock) (hb : ∀ k, v.ownBlock = some k → lo ≤ k ∧ k < hi) : Zone lo hi w w' :=
  ⟨h.os, h.tape, h.output, h.size, fun k hk hne => h.block k hk (fun e => by have := hb k e.symm; omega)⟩
theorem set_same {α : Type} {l : List α} {i : Nat} {a : α} (h : l[i]? = some a) : l.set i a = l := by
  obtain ⟨hi, e⟩ := List.getElem?_eq_some_iff.1 h
  rw [← e, List.set_getElem_self]
/-- the signs of one rule changed in their own block -/
theorem OwnR.marked {w w1 : World} {base top : Nat} {v u : Value} {n i : Nat} {T : List Rl} {vs : List Value} {xs ys : List Int} {r : ByteArray} (h : OwnR w base top v n T vs) (hu : vs[i]? = some u) (hT : T[i]? = some (xs, r))
    (hg : w.grownBy w1 u.ownBlock) (ho : w1.ownsRow base 2 1 u xs.length (ys.map (Value.int .i64))) (hl : ys.length = xs.length) : OwnR w1 base top v n (T.set i (ys, r)) vs := by
  have hrow : rcells vs (T.set i (ys, r)) = rcells vs T := by
    rw [← rcells_set ys r (by rw [h.vlen, h.len])]
    exact set_same (rcells_at hu hT).2
  have blk : ∀ k, w.heap.size > k → u.ownBlock ≠ some k → w1.heap[k]? = w.heap[k]? := fun k hk hne => hg.block k hk (fun e => hne e.symm)
  have hi := (List.getElem?_eq_some_iff.1 hT).1
  refine ⟨by rw [List.length_set]; exact h.len, h.vlen, ?_, fun j x q h1 h2 => ?_, h.lo, h.vlo, h.apart⟩
  · rw [hrow]
    exact own_block h.row fun k hk => blk k (h.row.lt k hk).2 (fun e => (h.lo i u k hu e).2 hk)
  · by_cases e : j = i
    · subst e
      rw [List.getElem?_set_self hi] at h2
      injection h2 with h2
      subst h2
      rw [hu] at h1
      injection h1 with h1
      subst h1
      exact ⟨by rw [hl]; exact ho, (h.sg j _ _ hu hT).2⟩
    · rw [List.getElem?_set_ne (fun e' => e e'.symm)] at h2
      obtain ⟨a, b⟩ := h.sg j x q h1 h2
      exact ⟨own_block a fun k hk => blk k (a.lt k hk).2 (fun e' => e (h.apart j i x u k h1 hu hk e')), b⟩
/-- the text of one rule changed -/
theorem OwnR.text {w : World} {base top g c : Nat} {n i : Nat} {T : List Rl} {vs : List Value} {xs : List Int} {r t : ByteArray} (h : OwnR w base top (.slice (some ⟨g, 0, none⟩) n c) n T vs) (hT : T[i]? = some (xs, r)) (ht : t.size ≤ maxLen) :
    OwnR (w.setCell ⟨g, i * 2 + 1, none⟩ (.string t)) base top (.slice (some ⟨g, 0, none⟩) n c) n (T.set i (xs, t)) vs := by
  have hi := (List.getElem?_eq_some_iff.1 hT).1
  refine ⟨by rw [List.length_set]; exact h.len, h.vlen, ?_, fun j x q h1 h2 => ?_, h.lo, h.vlo, h.apart⟩
  · have := (h.row.stored (i * 2 + 1) (.string t)).1
    rw [rcells_set xs t (by rw [h.vlen, h.len])] at this
    exact this
  · by_cases e : j = i
    · subst e
      rw [List.getElem?_set_self hi] at h2
      injection h2 with h2
      subst h2
      obtain ⟨a, b⟩ := h.sg j x _ h1 hT
      exact ⟨own_set a (fun e => (h.lo j x g h1 e).2 rfl), ht⟩
    · rw [List.getElem?_set_ne (fun e' => e e'.symm)] at h2
      obtain ⟨a, b⟩ := h.sg j x q h1 h2
      exact ⟨own_set a (fun e => (h.lo j x g h1 e).2 rfl), b⟩

set_option maxRecDepth 100000 in
set_option maxHeartbeats 2000000 in
theorem markRules_full (base top k n : Nat) (v : Value) (T : List Rl) (w : World) (h : OwnRules w base top v n T) (hk : 0 < k) (hm : k + (n + rsum T) ≤ 1000000000000) :
    Calls Tryd.prog 12 #[v, .int .i64 k] w fun e w' => e = .returned (.int .i64 (k + (n + rsum T) : Nat)) ∧ OwnRules w' base top v n (rmarks k T) ∧ Zone base top w w' := by
  obtain ⟨vs, h⟩ := h
  have hform : ∃ A c, v = .slice A n c ∧ n ≤ c ∧ c ≤ maxLen ∧ (0 < n → ∃ g, A = some ⟨g, 0, none⟩ ∧ base ≤ g ∧ g < w.heap.size) := by
    rcases h.row.2 with ⟨hv, hn⟩ | ⟨g, cap, cur, hv, hb, hg, hnc, hcm, _⟩
    · subst hv
      exact ⟨none, 0, by rw [hn], by omega, by unfold maxLen; omega, fun h => by omega⟩
    · subst hv
      exact ⟨_, _, rfl, hnc, hcm, fun _ => ⟨g, rfl, (h.row.lt g rfl)⟩⟩
  obtain ⟨A, c, rfl, hnc, hcm, hA⟩ := hform
  have HL := Lib.hid h.len
  have HVL := Lib.hid h.vlen
  have HO := Lib.hid h
  clear h
  unfold maxLen at hcm
  go_enter Tryd.func12, Tryd.ntmps12
  go_wp2
  go_loopw [1, 5] (fun q i wr => ∃ (j : Nat), j ≤ n ∧ i = .int .i64 j ∧ q = .int .i64 (k + (j + rsum (T.take j)) : Nat) ∧ Hid (OwnR wr base top (.slice A n c) n (rmix k T j) vs) ∧ Hid (Zone base top w wr)) (fun _ i _ => n - (intOf i).toNat)
  case atStart => exact ⟨0, Nat.zero_le _, rfl, by simp [rsum], by rw [rmix_zero]; exact HO.out, Zone.refl _ _ _⟩
  case round =>
    clear HO
    obtain ⟨j, hj, rfl, rfl, ho, hz⟩ := hrel
    by_cases hlt : j < n
    · obtain ⟨g, rfl, hg1, hg2⟩ := hA (by omega)
      obtain ⟨⟨xs, r⟩, hTj⟩ : ∃ x, T[j]? = some x := ⟨_, List.getElem?_eq_getElem (by rw [HL.out]; exact hlt)⟩
      obtain ⟨u, hu⟩ : ∃ u, vs[j]? = some u := ⟨_, List.getElem?_eq_getElem (by rw [HVL.out]; exact hlt)⟩
      have HT := Lib.hid hTj
      have HU := Lib.hid hu
      have hmx := rmix_at (k := k) hTj
      obtain ⟨hsg, hrz⟩ := ho.out.sg j u _ hu hmx
      have hcl := rcells_at hu hmx
      have c0 := ho.out.row.cellAt (j * 2) (by omega)
      rw [hcl.1] at c0
      have hs1 := rsum_succ hTj
      have hs2 := rsum_take T (j + 1)
      obtain ⟨q, hq⟩ : ∃ q, k + (j + rsum (T.take j)) = q := ⟨_, rfl⟩
      have hmark := fun W (hW : W.ownsRow base 2 1 u xs.length (xs.map (Value.int .i64))) => markInts_gen base q xs.length u xs W hW (by omega) (by omega)
      have HS := Lib.hid (show q + xs.length + 1 = k + (j + 1 + rsum (T.take (j + 1))) by omega)
      have hqm : q + xs.length + 1 ≤ 1000000000000 := by omega
      have hq0 : 0 < q := by omega
      have HQ := Lib.hid hq
      rw [hq]
      clear hTj hu hmx hcl hs1 hs2 hq
      obtain ⟨B', m', d', rfl⟩ : ∃ B' m' d', u = .slice B' m' d' := by
        rcases hsg.2 with ⟨hv, _⟩ | ⟨g, cap, cur, hv, _⟩
        · exact ⟨_, _, _, hv⟩
        · exact ⟨_, _, _, hv⟩
      have hlen : xs.length = xs.length := rfl
      obtain ⟨m, hm⟩ : ∃ m, xs.length = m := ⟨_, rfl⟩
      have HM := Lib.hid hm
      rw [hm] at hmark hsg
      rw [hm] at HS hqm
      clear hm hlen
      go_wp2_with fail
      refine (hmark _ hsg).mono ?_
      rintro e_ w1 ⟨rfl, ho1, hg3⟩
      have ho2 := ho.out.marked HU.out (rmix_at HT.out) hg3 (by rw [HM.out]; exact ho1) (by rw [imarks_len, HM.out])
      have hz1 := Lib.hid (hz.out.trans (Zone.of_own hg3 (fun k' hk' => ⟨(hsg.lt k' hk').1, (ho.out.lo j _ k' HU.out hk').1⟩)))
      clear hmark ho ho1 hg3 c0 hsg hz
      go_wp2_with fail
      refine (markText_any (q + m) _ (by omega) (by omega)).mono ?_
      rintro e_ w2 ⟨rfl, h2⟩
      have ho3 := ho2.below h2
      have hset : ((rmix k T j).set j (imarks q m, r))[j]? = some (imarks q m, r) := by
        rw [List.getElem?_set_self]
        exact (List.getElem?_eq_some_iff.1 (rmix_at HT.out)).1
      have c1 := ho3.row.cellAt (j * 2 + 1) (by omega)
      rw [(rcells_at HU.out hset).2] at c1
      have f1 := ho3.row.frozenAt (j * 2 + 1)
      have ho4 := ho3.text (t := markT (q + m)) hset (by have := markT_size (q + m); unfold maxLen; omega)
      rw [List.set_set, rmix_step HT.out (by have := rmarks_at (k := k) HT.out; rw [HQ.out, HM.out] at this; exact this)] at ho4
      have HO4 := Lib.hid ho4
      have HZ4 := Lib.hid ((hz1.out.trans (Zone.of_below h2)).trans (Zone.set w2 g (j * 2 + 1) (.string (markT (q + m))) hg1 (ho3.vlo g rfl)))
      clear ho2 ho3 ho4 hz1 hset
      go_wp2
      go_roundw
      case rel => exact ⟨j + 1, by omega, by go_num, by rw [← HS.out]; go_num, HO4, HZ4⟩
      case measure => simp [intOf]; omega
    · obtain rfl : j = n := by omega
      have hall := ho.out
      rw [rmix_all (by rw [HL.out]; exact Nat.le_refl _)] at hall
      have HF : Hid (OwnRules wr base top (.slice A j c) j (rmarks k T)) := ⟨vs, hall⟩
      have HE := Lib.hid (show rsum (T.take j) = rsum T by rw [List.take_of_length_le (by rw [HL.out]; exact Nat.le_refl _)])
      clear ho hall
      go_wp2
      go_ret
      exact ⟨by rw [← HE.out]; rfl, HF.out, hz.out⟩
theorem markRules_any (base top k n : Nat) (v : Value) (T : List Rl) (w : World) (h : OwnRules w base top v n T) (hk : 0 < k) (hm : k + (n + rsum T) ≤ 1000000000000) (_ : base ≤ top ∨ True) :
    Calls Tryd.prog 12 #[v, .int .i64 k] w fun e w' => e = .returned (.int .i64 (k + (n + rsum T) : Nat)) ∧ Zone base top w w' :=
  (markRules_full base top k n v T w h hk hm).mono fun _ _ ⟨a, _, c⟩ => ⟨a, c⟩
end Go.Proofs.YtjgcbnngjfchhaaDoor
