/- isUseless. -/
import Derived.Test.YtjgcbnngjfchhaaDoorDelR
import Derived.Test.YtjgcbnngjfchhaaDoorRuleC
import Derived.Test.YtjgcbnngjfchhaaDoorRuleD
namespace Go.Proofs.YtjgcbnngjfchhaaDoor
open Go.ChangeShapes Go.WideShapes Go.ChangeAt Go.RowKit
theorem own_cut {w w3 : World} {base g cap n i : Nat} {T : List Rl} {vs : List Value} (h : OwnR w base w.heap.size (.slice (some ⟨g, 0, none⟩) n cap) n T vs) (hi : i < n) (hg : w.grownBy w3 (some g))
    (hrow : w3.ownsRow base 39 2 (.slice (some ⟨g, 0, none⟩) (n - 1) cap) (n - 1) ((rcells vs T).take (i * 2) ++ (rcells vs T).drop ((i + 1) * 2))) : Rules w3 (some ⟨g, 0, none⟩) (n - 1) cap (cutR T i) := by
  obtain ⟨A', c', hv, hR⟩ := rules_cut (w := w3) (w' := w3) (A := none) (c := 0) (T := T) (cs := rcells vs T) h.len.symm (by rw [rcells_len _ _ (by rw [h.vlen, h.len]), h.len]) (fun q hq => by
    have e1 : vs[q]? = some (vs[q]'(by rw [h.vlen]; exact hq)) := List.getElem?_eq_getElem _
    have e2 : T[q]? = some (T[q]'(by rw [h.len]; exact hq)) := List.getElem?_eq_getElem _
    obtain ⟨h1, h2⟩ := h.sg q _ _ e1 e2
    obtain ⟨h3, h4⟩ := rcells_at e1 e2
    have h5 := own_far h1 hg (fun k hk e => (h.lo q _ k e1 hk).2 e)
    obtain ⟨B, d, hu, hI⟩ := own_ints_ h5
    rw [hu] at h3
    exact ⟨B, _, d, _, _, e2, h3, h4, hI, h2⟩) hi (Below.refl _ _) hrow
  injection hv with a1 a2 a3
  subst a1; subst a3
  exact hR
theorem rcells_one : ∀ {vs : List Value} {T : List Rl} {n base : Nat} {W : World} (_ : ∀ (i : Nat) u r, vs[i]? = some u → T[i]? = some r → W.ownsRow base 2 1 u r.1.length (r.1.map (Value.int .i64))) (_ : vs.length = n) (_ : T.length = n), ∀ u ∈ rcells vs T, u.oneCell' = true
  | [], _, _, _, _, _, _, _, u, hu => by simp [rcells] at hu
  | _ :: _, [], _, _, _, _, h1, h2, u, hu => by simp [rcells] at hu
  | v :: vs, t :: T, n, base, W, h, h1, h2, u, hu => by
    simp [rcells] at hu
    rcases hu with rfl | rfl | hu
    · obtain ⟨A, c, e, _⟩ := own_ints_ (h 0 u t rfl rfl)
      rw [e]; rfl
    · rfl
    · exact rcells_one (n := n - 1) (fun i u r a b => h (i + 1) u r a b) (by simp at h1; omega) (by simp at h2; omega) u hu
theorem own_shape {w : World} {base n : Nat} {e : TypeId} {size : Nat} {v : Value} {xs : List Value} (h : w.ownsRow base e size v n xs) (h0 : 0 < n) : ∃ g cap, v = .slice (some ⟨g, 0, none⟩) n cap := by
  rcases h.2 with ⟨_, hn⟩ | ⟨g, cap, cur, hv, _⟩
  · omega
  · exact ⟨g, cap, hv⟩
theorem text_decU (a b : ByteArray) : decide (a = b) = (a.toList == b.toList) := by
  by_cases h : a = b
  · subst h; simp
  · rw [text_ne h, decide_eq_false h]
/-- whether the table without a rule makes the same of the rule's signs -/
def useless (T : List Rl) (i : Nat) (xs : List Int) (r : ByteArray) : Bool := decide (1 < xs.length) && usedOk (cutR T i) xs && decide (roman (cutR T i) (usedList (cutR T i) xs) = r)
set_option maxRecDepth 100000 in
set_option maxHeartbeats 2000000 in
theorem isUseless_any (A : Option Addr) (n c i : Nat) (T : List Rl) (xs : List Int) (r : ByteArray) (w : World) (hx : Rules w A n c T) (hTi : T[i]? = some (xs, r)) (hi : i < n) (hn : n ≤ 1048576) (hs : ∀ (k : Nat) ys q, T[k]? = some (ys, q) → ys.length ≤ 1000000) (hr : ∀ r ∈ T, r.2.size ≤ 4) :
    Calls Tryd.prog 37 #[.slice A n c, .int .i64 i] w fun e w' => e = .returned (.bool (useless T i xs r)) ∧ Below w.heap.size w w' := by
  obtain ⟨b, off, rfl, hbl⟩ := hx.at_ i hi
  obtain ⟨B', m', d', xs', r', hTk, c0, c1, hz, hrz⟩ := hx.el (Below.refl _ _) i hi
  go_enter Tryd.func37, Tryd.ntmps37
  go_wp2_with fail
  have HB1 := box1C w (.cells #[.slice B' m' d', .string r'] 39)
  refine (cloneTable_any (some ⟨b, off, none⟩) n c T _ (hx.below HB1) hn (fun k ys q hk => by have := hs k ys q hk; omega)).mono ?_
  rintro e_ w1 ⟨v, rfl, ⟨vs, ho⟩, h1⟩
  obtain ⟨g, cap, rfl⟩ := own_shape ho.row (by omega)
  have hone : ∀ u ∈ rcells vs T, u.oneCell' = true := rcells_one (fun q u x h1 h2 => (ho.sg q u x h1 h2).1) ho.vlen ho.len
  have hd := delRule_any g n cap i (i + 1) _ rfl (rcells vs T) w1 ho.row hi hn hone
  clear hone
  go_wp2_with fail
  refine hd.mono ?_
  rintro e_ w2 ⟨rfl, hrow, hg2⟩
  have hR := own_cut ho hi hg2 hrow
  have hge : w.heap.size + 1 ≤ g := by have := (ho.row.lt g rfl).1; simpa using this
  have hb1 := next HB1 h1
  have hb2 : Below w.heap.size w w2 := hb1.grown hg2 hb1.size (fun k hk => by have e : g = k := Option.some.inj hk; omega)
  have z0 : w2.cell? ⟨w.heap.size, 0, none⟩ = some (.slice B' m' d') := grown_cell hg2 (cell_keep h1 (show (w.alloc (.cells #[.slice B' m' d', .string r'] 39)).cell? ⟨w.heap.size, 0, none⟩ = some (.slice B' m' d') by simp)) (fun e => by have e : g = w.heap.size := Option.some.inj e; omega)
  have z1 : w2.cell? ⟨w.heap.size, 1, none⟩ = some (.string r') := grown_cell hg2 (cell_keep h1 (show (w.alloc (.cells #[.slice B' m' d', .string r'] 39)).cell? ⟨w.heap.size, 1, none⟩ = some (.string r') by simp)) (fun e => by have e : g = w.heap.size := Option.some.inj e; omega)
  have hz2 := hz.below hb2
  have hm' : m' ≤ 1000000 := by have := hs i xs' r' hTk.out; have := hz.1; omega
  have hcr : ∀ q ∈ cutR T i, q.2.size ≤ 4 := fun q hq => by
    rcases List.mem_append.1 hq with h | h
    · exact hr q (List.mem_of_mem_take h)
    · exact hr q (List.mem_of_mem_drop h)
  have hru := rulesUsed_any _ _ _ _ _ _ (cutR T i) xs' w2 hR hz2 hm'
  have HO := Lib.hid hb2
  clear hrow hg2 ho hb1 h1 HB1 hd
  have hTe := hTk.out.symm.trans hTi
  injection hTe with hTe
  injection hTe with ex er
  subst ex
  subst er
  have hml := hz.1
  have HM := Lib.hid hml
  clear hml
  cases hk : usedOk (cutR T i) xs' with
  | false =>
    rw [hk] at hru
    have HK := Lib.hid hk
    clear hk
    go_wp2_with fail
    refine hru.mono ?_
    rintro e_ w3 ⟨v2, rfl, ho3, h3⟩
    have y0 := cell_keep h3 z0
    have hw3 : w.heap.size < w3.heap.size := World.block_lt_of_cell? w3 _ y0
    have HB := Lib.hid (HO.out.trans (h3.mono HO.out.size))
    have HF := Lib.hid (show useless T i xs' r' = false by unfold useless; rw [HK.out]; simp)
    clear h3 ho3 hru HO
    by_cases h1x : (1 : Int) < (m' : Int)
    · go_wp2_with fail
      refine wp_region_later (by kernel_rfl) (by kernel_rfl) ?_
      repeat (go_big_quiet_step (fail))
      refine wpQuiet_nil ?_
      intro w4 hw2; have h4 := later_below hw2; clear hw2
      have HB4 := Lib.hid (HB.out.trans (h4.mono HB.out.size))
      go_wp2
      go_ret
      exact ⟨by rw [HF.out]; rfl, HB4.out⟩
    · have hd1 : decide ((1 : Int) < (m' : Int)) = false := decide_eq_false h1x
      go_wp2_with fail
      refine wp_region_later (by kernel_rfl) (by kernel_rfl) ?_
      repeat (go_big_quiet_step (fail))
      refine wpQuiet_nil ?_
      intro w4 hw2; have h4 := later_below hw2; clear hw2
      have HB4 := Lib.hid (HB.out.trans (h4.mono HB.out.size))
      go_wp2
      go_ret
      exact ⟨by rw [HF.out]; rfl, HB4.out⟩
  | true =>
    rw [hk] at hru
    have HK := Lib.hid hk
    clear hk
    go_wp2_with fail
    refine hru.mono ?_
    rintro e_ w3 ⟨v2, rfl, ho3, h3⟩
    have y0 := cell_keep h3 z0
    have hw3 : w.heap.size < w3.heap.size := World.block_lt_of_cell? w3 _ y0
    have y1 := cell_keep h3 z1
    have HB := Lib.hid (HO.out.trans (h3.mono HO.out.size))
    by_cases h1x : (1 : Int) < (m' : Int)
    · obtain ⟨A3, c3, rfl, hI⟩ := own_ints_ ho3
      have hro := romanOf_any _ _ _ _ _ _ (cutR T i) (usedList (cutR T i) xs') w3 (hR.below h3) hI (by have := usedList_len (cutR T i) xs'; have := HM.out; omega) hcr usedList_in
      clear ho3 hru HO
      clear hro
      have hml := (show (usedList (cutR T i) xs').length ≤ 1000000 by have := usedList_len (cutR T i) xs'; have := HM.out; omega)
      go_wp2_with fail
      refine wp_region_later (by kernel_rfl) (by kernel_rfl) ?_
      repeat (go_big_quiet_step ((go_at_call 53; exact Calls.later (romanOf_any _ _ _ _ _ _ (cutR T i) (usedList (cutR T i) xs') _ ((hR.below h3).below (after_below _)) (hI.below (after_below _)) hml hcr usedList_in))))
      refine wpQuiet_nil ?_
      intro w4 hw2; have h4 := later_below hw2; clear hw2
      have HB4 := Lib.hid (HB.out.trans (h4.mono HB.out.size))
      have HF := Lib.hid (show useless T i xs' r' = ((roman (cutR T i) (usedList (cutR T i) xs')).toList == r'.toList) by unfold useless; rw [HK.out, ← HM.out, decide_eq_true (show 1 < m' by omega), Bool.true_and, Bool.true_and]; exact text_decU _ _)
      clear h4 h3 hI
      go_wp2
      go_ret
      exact ⟨by rw [HF.out]; rfl, HB4.out⟩
    · have HF := Lib.hid (show useless T i xs' r' = false by unfold useless; rw [← HM.out, decide_eq_false (show ¬ 1 < m' by omega)]; simp)
      clear h3 ho3 hru HO
      have hd1 : decide ((1 : Int) < (m' : Int)) = false := decide_eq_false h1x
      go_wp2_with fail
      refine wp_region_later (by kernel_rfl) (by kernel_rfl) ?_
      repeat (go_big_quiet_step (fail))
      refine wpQuiet_nil ?_
      intro w4 hw2; have h4 := later_below hw2; clear hw2
      have HB4 := Lib.hid (HB.out.trans (h4.mono HB.out.size))
      go_wp2
      go_ret
      exact ⟨by rw [HF.out]; rfl, HB4.out⟩
end Go.Proofs.YtjgcbnngjfchhaaDoor
