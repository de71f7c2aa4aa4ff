/- The distance of words: what the functions compute. -/
import Derived.Test.YtjcmmfpnlfhldaaDoorDist
import Derived.Test.YtjcmmfpnlfhldaaDoorMix
namespace Go.Proofs.YtjcmmfpnlfhldaaDoor
open Go.ChangeShapes Go.WideShapes Go.ChangeAt Go.RowKit

def edAt (x : UInt8) (b : List UInt8) (R nx : List Int) (k : Nat) : Int := min (min (R.getD k 0 + if x = b.getD k 0 then 0 else 1) (R.getD (k + 1) 0 + 1)) (nx.getD k 0 + 1)
def edPart (x : UInt8) (i : Int) (b : List UInt8) (R : List Int) : Nat → List Int
  | 0 => [i]
  | k + 1 => edPart x i b R k ++ [edAt x b R (edPart x i b R k) k]
def natRow (n : Nat) : List Int := (List.range n).map fun k : Nat => (k : Int)
def edRow (a b : List UInt8) : Nat → List Int
  | 0 => natRow (b.length + 1)
  | i + 1 => edPart (a.getD i 0) (i + 1) b (edRow a b i) b.length
def edit (a b : List UInt8) : Int := (edRow a b a.length).getD b.length 0
def edVal (a b : ByteArray) : Int := if twoCode a b = 0 then edit a.data.toList b.data.toList else 0
theorem edPart_len (x : UInt8) (i : Int) (b : List UInt8) (R : List Int) : ∀ k, (edPart x i b R k).length = k + 1
  | 0 => rfl
  | k + 1 => by simp [edPart, edPart_len x i b R k]
theorem edRow_len (a b : List UInt8) : ∀ i, (edRow a b i).length = b.length + 1
  | 0 => by simp [edRow, natRow]
  | i + 1 => by simp [edRow, edPart_len]
theorem natRow_at (n k : Nat) (h : k < n) : (natRow n).getD k 0 = k := by
  unfold natRow
  rw [List.getD_eq_getElem?_getD, List.getElem?_map, List.getElem?_range h]
  rfl
theorem natRow_succ (k : Nat) : natRow (k + 1) = natRow k ++ [(k : Int)] := by
  unfold natRow
  rw [List.range_succ, List.map_append]
  rfl
theorem natRow_in (n : Nat) : inR n (natRow n) := fun k => by
  by_cases h : k < n
  · rw [natRow_at n k h]; omega
  · rw [List.getD_eq_getElem?_getD, List.getElem?_eq_none (by simp [natRow]; omega)]; simp
theorem edAt_in {x : UInt8} {b : List UInt8} {M : Int} {R nx : List Int} (k : Nat) (hR : inR M R) (hn : inR (M + 1) nx) : 0 ≤ edAt x b R nx k ∧ edAt x b R nx k ≤ M + 1 := by
  have h1 := hR k; have h2 := hR (k + 1); have h3 := hn k
  unfold edAt
  split <;> omega
theorem edPart_in {x : UInt8} {i : Int} {b : List UInt8} {M : Int} {R : List Int} (h0 : 0 ≤ i) (hi : i ≤ M + 1) (hM : 0 ≤ M) (hR : inR M R) : ∀ k, inR (M + 1) (edPart x i b R k)
  | 0 => fun k => by
    cases k with
    | zero => simpa [edPart] using ⟨h0, hi⟩
    | succ k => simp [edPart]; omega
  | k + 1 => inR_snoc (edPart_in h0 hi hM hR k) (edAt_in k hR (edPart_in h0 hi hM hR k)).1 (edAt_in k hR (edPart_in h0 hi hM hR k)).2
theorem edRow_in (a b : List UInt8) : ∀ i : Nat, inR (b.length + 1 + i) (edRow a b i)
  | 0 => by
    have := natRow_in (b.length + 1)
    intro k; have h := this k
    unfold edRow
    simpa using h
  | i + 1 => by
    have := edPart_in (x := a.getD i 0) (b := b) (i := (i : Int) + 1) (M := b.length + 1 + i) (by omega) (by omega) (by omega) (edRow_in a b i) b.length
    intro k
    have h := this k
    unfold edRow
    refine ⟨h.1, Int.le_trans h.2 (by push_cast; omega)⟩
theorem ed_row {a : ByteArray} (b : ByteArray) {k : Nat} {R : List Int} (hk : k < a.size) (h : edRow a.data.toList b.data.toList k = R) : edRow a.data.toList b.data.toList (k + 1) = edPart a[k] (k + 1) b.data.toList R b.size := by
  unfold edRow
  rw [getD_at a hk, h]
  rfl
theorem ed_eq {L nx : List Int} {x : UInt8} {b : ByteArray} {j : Nat} {r m n : Int} (h : L = nx ++ [min (min (r + if x = b.data.toList.getD j 0 then 0 else 1) m) n]) (hj : j < b.size) (e : x = b[j]) : L = nx ++ [min (min r m) n] := by
  rw [h, getD_at b hj, if_pos e, Int.add_zero]
theorem ed_ne {L nx : List Int} {x : UInt8} {b : ByteArray} {j : Nat} {r m n : Int} (h : L = nx ++ [min (min (r + if x = b.data.toList.getD j 0 then 0 else 1) m) n]) (hj : j < b.size) (e : ¬ x = b[j]) : L = nx ++ [min (min (r + 1) m) n] := by
  rw [h, getD_at b hj, if_neg e]

theorem min_ways (r x1 y : Int) : (y + 1 < r ∧ y < x1) ∨ (x1 + 1 < r ∧ x1 ≤ y) ∨ (r ≤ x1 + 1 ∧ r ≤ y + 1) := by omega

set_option maxRecDepth 100000 in
set_option maxHeartbeats 4000000 in
theorem edit_impl (a b : ByteArray) (w : World) (ha : a.size ≤ 16) (hb : b.size ≤ 16) :
    Calls Tryd.prog 14 #[.string a, .string b] w fun e w' => e = .returned (.int .i64 (edit a.data.toList b.data.toList)) ∧ Below w.heap.size w w' := by
  obtain ⟨i0, hi, hz0, hz1, hz2⟩ := info_parts infoInt
  have hmk := fun W => run_make_rowN (P := Tryd.prog) 32 2 i0 _ Tryd.underlying32 hi hz0 .i64 .i64 (b.size + 1) (b.size + 1) (Nat.le_refl _) (by rw [hz2]; omega) (by omega) W
  rw [show ((b.size + 1 : Nat) : Int) = (b.size : Int) + 1 from by omega] at hmk
  go_enter Tryd.func14, Tryd.ntmps14
  go_wp2
  go_loopw [17] (fun i wr => ∃ (k : Nat) (ys : List Int), k ≤ b.size + 1 ∧ i = .int .i64 k ∧ Hid (ys.take k = (natRow (b.size + 1)).take k) ∧
      wr.ownsRow w.heap.size 2 1 (.slice (some ⟨w.heap.size, 0, none⟩) (b.size + 1) (b.size + 1)) (b.size + 1) (ys.map (Value.int .i64)) ∧ Below w.heap.size w wr) (fun i _ => b.size + 1 - (intOf i).toNat)
  case atStart => exact ⟨0, List.replicate (b.size + 1) 0, Nat.zero_le _, rfl, rfl, own_zero w b.size (by omega), (Below.refl _ _).alloc (Nat.le_refl _) _⟩
  case round =>
    obtain ⟨k, ys, hk, rfl, hys, hown, hb0⟩ := hrel
    have hyl : ys.length = b.size + 1 := by have := hown.1; simpa using this
    by_cases hlt : k < b.size + 1
    · have d0 := hown.cellAt k (by omega)
      rw [List.getElem?_map, List.getElem?_eq_getElem (by omega)] at d0
      have f0 := hown.frozenAt k
      have hst := (hown.stored k (.int .i64 k)).1
      rw [← List.map_set] at hst
      have HST := Lib.hid hst
      have HY := Lib.hid (take_set1 ys (natRow (b.size + 1)) k (k : Int) hys.out (by simp [hyl, natRow]) (by unfold natRow; rw [List.getElem?_map, List.getElem?_range hlt]; rfl))
      clear hst hys hown
      simp only [Option.map_some] at d0
      generalize ys[k] = u0 at d0
      have hk2 : (k : Int) < (b.size : Int) + 1 := by omega
      go_wp2
      go_roundw
      case rel => exact ⟨k + 1, ys.set k k, by omega, by go_num, HY.out, HST.out, hb0.setCell (Nat.le_refl _) _⟩
      case measure => simp [intOf]; omega
    · have hyE : ys = natRow (b.size + 1) := by
        have := hys.out
        rw [List.take_of_length_le (by omega), List.take_of_length_le (by simp [natRow]; omega)] at this
        exact this
      subst hyE
      clear hys hyl
      have hk2 : ¬ ((k : Int) < (b.size : Int) + 1) := by omega
      go_wp2
      go_loopw [5, 27] (fun rv i wr => ∃ (k : Nat), k ≤ a.size ∧ i = .int .i64 k ∧ wr.ownsRow w.heap.size 2 1 rv (b.size + 1) ((edRow a.data.toList b.data.toList k).map (Value.int .i64)) ∧ Below w.heap.size w wr) (fun _ i _ => a.size - (intOf i).toNat)
      case atStart => exact ⟨0, Nat.zero_le _, rfl, hown, hb0⟩
      case round =>
        clear hown hb0
        obtain ⟨k, hk, rfl, hown, hb0⟩ := hrel
        by_cases hlt : k < a.size
        · obtain ⟨g, cap, rfl, hg0, hg1, hgc, hgm, hcell, _⟩ := own_int hown (by omega)
          go_wp2
          obtain ⟨wo, rfl⟩ : ∃ wo : World, wo = wr := ⟨_, rfl⟩
          have HR := Lib.hid (edRow_in a.data.toList b.data.toList k)
          have hR1 := edRow_len a.data.toList b.data.toList k
          have hbl : b.data.toList.length = b.size := by simp
          generalize hRE : edRow a.data.toList b.data.toList k = R at *
          have HRE := Lib.hid hRE
          clear hRE
          go_loopw [8, 35] (fun nx i wr => ∃ (j : Nat), j ≤ b.size ∧ i = .int .i64 j ∧ wr.ownsRow wo.heap.size 2 1 nx (j + 1) ((edPart a[k] (k + 1) b.data.toList R j).map (Value.int .i64)) ∧ Below wo.heap.size wo wr) (fun _ i _ => b.size - (intOf i).toNat)
          case atStart =>
            refine ⟨0, Nat.zero_le _, rfl, ?_, (Below.refl _ _).alloc (Nat.le_refl _) _⟩
            exact World.ownsRow_lit wo #[.int .i64 (k + 1)] 1 (Nat.le_refl _) (by unfold maxLen; omega) rfl
          case round =>
            obtain ⟨j, hj, rfl, hown2, hb2⟩ := hrel
            by_cases hjl : j < b.size
            · obtain ⟨g2, cap2, rfl, hg20, hg21, hgc2, hgm2, hcell2, _⟩ := own_int hown2 (by omega)
              have hP := edPart_in (x := a[k]) (b := b.data.toList) (i := (k : Int) + 1) (by omega) (by omega) (by omega) HR.out j
              have hPl := edPart_len a[k] (k + 1) b.data.toList R j
              have c0 := (hb2.cell (p := ⟨g, j, none⟩) hg1).trans (hcell j (by omega))
              have c1 := (hb2.cell (p := ⟨g, j + 1, none⟩) hg1).trans (hcell (j + 1) (by omega))
              have c2 := hcell2 j (by omega)
              have b0 := HR.out j
              have b1 := HR.out (j + 1)
              have b2 := hP j
              have hAt : Hid (edPart a[k] (k + 1) b.data.toList R (j + 1) = edPart a[k] (k + 1) b.data.toList R j ++ [min (min (R.getD j 0 + if a[k] = b.data.toList.getD j 0 then 0 else 1) (R.getD (j + 1) 0 + 1)) ((edPart a[k] (k + 1) b.data.toList R j).getD j 0 + 1)]) := rfl
              clear hcell2 hP
              generalize edPart a[k] (k + 1) b.data.toList R j = nx at *
              generalize R.getD j 0 = x0 at *
              generalize R.getD (j + 1) 0 = x1 at *
              generalize nx.getD j 0 = y at *
              have hgw : g < wr.heap.size := Nat.lt_of_lt_of_le hg1 hb2.size
              have hj0 : (0 : Int) ≤ (j : Int) := Int.natCast_nonneg _
              have hj1 : (j : Int) < (b.size : Int) := by omega
              generalize hZ' : edPart a[k] (k + 1) b.data.toList R (j + 1) = lcsZ at hAt
              have hZ := Lib.hid hZ'
              clear hZ'
              by_cases he : a[k] = b[j]
              · have hq : ((a[k].toNat : Int) != (b[j].toNat : Int)) = false := by rw [he]; simp
                have hA := Lib.hid (ed_eq hAt.out hjl he)
                clear he hAt
                rcases min_ways (x0) x1 y with ⟨q1, q2⟩ | ⟨q1, q2⟩ | ⟨q1, q2⟩
                · have hM := Lib.hid (show lcsZ = nx ++ [y + 1] by rw [hA.out, show min (min (x0) (x1 + 1)) (y + 1) = y + 1 from by omega])
                  clear hA
                  go_wp2
                  refine wp_region_later (by kernel_rfl) (by kernel_rfl) ?_
                  repeat (go_big_quiet_step (fail))
                  refine wpQuiet_nil ?_
                  intro w2 hw2; have h2 := later_below hw2; clear hw2
                  have hc_w2 := bcell h2; have hf_w2 := bfree h2
                  have hz_w2_0 : g < w2.heap.size := by have hz_ := h2.size; (try simp at hz_); omega
                  have hz_w2_1 : g2 < w2.heap.size := by have hz_ := h2.size; (try simp at hz_); omega
                  go_wp2
                  refine wp_region_tail 4 14 (by kernel_rfl) (by kernel_rfl) (fun _ _ _ _ h => h) ?_
                  simp only [List.take_succ_cons, List.take_zero, List.drop_succ_cons, List.drop_zero]
                  repeat (go_big_quiet_step (fail))
                  refine wpQuiet_nil ?_
                  intro w3 hw2; have h3 := later_below hw2; clear hw2
                  have hc_w3 := bcell h3; have hf_w3 := bfree h3
                  have hz_w3_0 : g < w3.heap.size := by have hz_ := h3.size; (try simp at hz_); omega
                  have hz_w3_1 : g2 < w3.heap.size := by have hz_ := h3.size; (try simp at hz_); omega
                  have hown3 := own_below (own_below hown2 h2) h3
                  have hz3 : wo.heap.size ≤ w3.heap.size := Nat.le_trans hb2.size (Nat.le_trans h2.size h3.size)
                  go_wp2_with (at_builtin; refine wpList_append_own _ rfl _ _ 32 rfl wo.heap.size 2 i0 (.int .i64 0) 1 8 Tryd.underlying32 hi hz0 hz1 hz2 rfl (by decide) _ _ _ rfl (hown3.alloc _) ⟨w3.heap.size, 0, none⟩ 1 1 [.int .i64 (y + 1)] rfl rfl ?c1 ?c2 ?c3 ?c4 ?c5 ?_)
                  case c1 => exact cell_one_new _ _ _
                  case c2 => simp [Value.oneCell']
                  case c3 => unfold maxLen; omega
                  case c4 => omega
                  case c5 => simp; omega
                  intro v4 w4 hown4 hgrow _
                  have HO : Hid (w4.ownsRow wo.heap.size 2 1 v4 (j + 1 + 1) (lcsZ.map (Value.int .i64))) := by rw [hM.out, List.map_append]; exact hown4
                  have HB : Hid (Below wo.heap.size wo w4) := ((((hb2.trans (h2.mono hb2.size)).trans (h3.mono (Nat.le_trans hb2.size h2.size))).alloc hz3 _).grown hgrow (by simp; omega) (fun q hq => by simp [Value.ownBlock] at hq; omega))
                  clear hown4 hgrow
                  go_wp2
                  go_roundw
                  case rel => exact ⟨j + 1, by omega, by go_num, by rw [hZ.out]; exact HO.out, HB.out⟩
                  case measure => simp [intOf]; omega
                · have hM := Lib.hid (show lcsZ = nx ++ [x1 + 1] by rw [hA.out, show min (min (x0) (x1 + 1)) (y + 1) = x1 + 1 from by omega])
                  clear hA
                  go_wp2
                  refine wp_region_later (by kernel_rfl) (by kernel_rfl) ?_
                  repeat (go_big_quiet_step (fail))
                  refine wpQuiet_nil ?_
                  intro w2 hw2; have h2 := later_below hw2; clear hw2
                  have hc_w2 := bcell h2; have hf_w2 := bfree h2
                  have hz_w2_0 : g < w2.heap.size := by have hz_ := h2.size; (try simp at hz_); omega
                  have hz_w2_1 : g2 < w2.heap.size := by have hz_ := h2.size; (try simp at hz_); omega
                  go_wp2
                  refine wp_region_tail 4 14 (by kernel_rfl) (by kernel_rfl) (fun _ _ _ _ h => h) ?_
                  simp only [List.take_succ_cons, List.take_zero, List.drop_succ_cons, List.drop_zero]
                  repeat (go_big_quiet_step (fail))
                  refine wpQuiet_nil ?_
                  intro w3 hw2; have h3 := later_below hw2; clear hw2
                  have hc_w3 := bcell h3; have hf_w3 := bfree h3
                  have hz_w3_0 : g < w3.heap.size := by have hz_ := h3.size; (try simp at hz_); omega
                  have hz_w3_1 : g2 < w3.heap.size := by have hz_ := h3.size; (try simp at hz_); omega
                  have hown3 := own_below (own_below hown2 h2) h3
                  have hz3 : wo.heap.size ≤ w3.heap.size := Nat.le_trans hb2.size (Nat.le_trans h2.size h3.size)
                  go_wp2_with (at_builtin; refine wpList_append_own _ rfl _ _ 32 rfl wo.heap.size 2 i0 (.int .i64 0) 1 8 Tryd.underlying32 hi hz0 hz1 hz2 rfl (by decide) _ _ _ rfl (hown3.alloc _) ⟨w3.heap.size, 0, none⟩ 1 1 [.int .i64 (x1 + 1)] rfl rfl ?c1 ?c2 ?c3 ?c4 ?c5 ?_)
                  case c1 => exact cell_one_new _ _ _
                  case c2 => simp [Value.oneCell']
                  case c3 => unfold maxLen; omega
                  case c4 => omega
                  case c5 => simp; omega
                  intro v4 w4 hown4 hgrow _
                  have HO : Hid (w4.ownsRow wo.heap.size 2 1 v4 (j + 1 + 1) (lcsZ.map (Value.int .i64))) := by rw [hM.out, List.map_append]; exact hown4
                  have HB : Hid (Below wo.heap.size wo w4) := ((((hb2.trans (h2.mono hb2.size)).trans (h3.mono (Nat.le_trans hb2.size h2.size))).alloc hz3 _).grown hgrow (by simp; omega) (fun q hq => by simp [Value.ownBlock] at hq; omega))
                  clear hown4 hgrow
                  go_wp2
                  go_roundw
                  case rel => exact ⟨j + 1, by omega, by go_num, by rw [hZ.out]; exact HO.out, HB.out⟩
                  case measure => simp [intOf]; omega
                · have hM := Lib.hid (show lcsZ = nx ++ [x0] by rw [hA.out, show min (min (x0) (x1 + 1)) (y + 1) = x0 from by omega])
                  clear hA
                  go_wp2
                  refine wp_region_later (by kernel_rfl) (by kernel_rfl) ?_
                  repeat (go_big_quiet_step (fail))
                  refine wpQuiet_nil ?_
                  intro w2 hw2; have h2 := later_below hw2; clear hw2
                  have hc_w2 := bcell h2; have hf_w2 := bfree h2
                  have hz_w2_0 : g < w2.heap.size := by have hz_ := h2.size; (try simp at hz_); omega
                  have hz_w2_1 : g2 < w2.heap.size := by have hz_ := h2.size; (try simp at hz_); omega
                  go_wp2
                  refine wp_region_tail 4 14 (by kernel_rfl) (by kernel_rfl) (fun _ _ _ _ h => h) ?_
                  simp only [List.take_succ_cons, List.take_zero, List.drop_succ_cons, List.drop_zero]
                  repeat (go_big_quiet_step (fail))
                  refine wpQuiet_nil ?_
                  intro w3 hw2; have h3 := later_below hw2; clear hw2
                  have hc_w3 := bcell h3; have hf_w3 := bfree h3
                  have hz_w3_0 : g < w3.heap.size := by have hz_ := h3.size; (try simp at hz_); omega
                  have hz_w3_1 : g2 < w3.heap.size := by have hz_ := h3.size; (try simp at hz_); omega
                  have hown3 := own_below (own_below hown2 h2) h3
                  have hz3 : wo.heap.size ≤ w3.heap.size := Nat.le_trans hb2.size (Nat.le_trans h2.size h3.size)
                  go_wp2_with (at_builtin; refine wpList_append_own _ rfl _ _ 32 rfl wo.heap.size 2 i0 (.int .i64 0) 1 8 Tryd.underlying32 hi hz0 hz1 hz2 rfl (by decide) _ _ _ rfl (hown3.alloc _) ⟨w3.heap.size, 0, none⟩ 1 1 [.int .i64 (x0)] rfl rfl ?c1 ?c2 ?c3 ?c4 ?c5 ?_)
                  case c1 => exact cell_one_new _ _ _
                  case c2 => simp [Value.oneCell']
                  case c3 => unfold maxLen; omega
                  case c4 => omega
                  case c5 => simp; omega
                  intro v4 w4 hown4 hgrow _
                  have HO : Hid (w4.ownsRow wo.heap.size 2 1 v4 (j + 1 + 1) (lcsZ.map (Value.int .i64))) := by rw [hM.out, List.map_append]; exact hown4
                  have HB : Hid (Below wo.heap.size wo w4) := ((((hb2.trans (h2.mono hb2.size)).trans (h3.mono (Nat.le_trans hb2.size h2.size))).alloc hz3 _).grown hgrow (by simp; omega) (fun q hq => by simp [Value.ownBlock] at hq; omega))
                  clear hown4 hgrow
                  go_wp2
                  go_roundw
                  case rel => exact ⟨j + 1, by omega, by go_num, by rw [hZ.out]; exact HO.out, HB.out⟩
                  case measure => simp [intOf]; omega
              · have hq : ((a[k].toNat : Int) != (b[j].toNat : Int)) = true := by
                  rw [bne_iff_ne]
                  intro e
                  exact he (UInt8.toNat_inj.1 (by omega))
                have hA := Lib.hid (ed_ne hAt.out hjl he)
                clear he hAt
                rcases min_ways (x0 + 1) x1 y with ⟨q1, q2⟩ | ⟨q1, q2⟩ | ⟨q1, q2⟩
                · have hM := Lib.hid (show lcsZ = nx ++ [y + 1] by rw [hA.out, show min (min (x0 + 1) (x1 + 1)) (y + 1) = y + 1 from by omega])
                  clear hA
                  go_wp2
                  refine wp_region_later (by kernel_rfl) (by kernel_rfl) ?_
                  repeat (go_big_quiet_step (fail))
                  refine wpQuiet_nil ?_
                  intro w2 hw2; have h2 := later_below hw2; clear hw2
                  have hc_w2 := bcell h2; have hf_w2 := bfree h2
                  have hz_w2_0 : g < w2.heap.size := by have hz_ := h2.size; (try simp at hz_); omega
                  have hz_w2_1 : g2 < w2.heap.size := by have hz_ := h2.size; (try simp at hz_); omega
                  go_wp2
                  refine wp_region_tail 4 14 (by kernel_rfl) (by kernel_rfl) (fun _ _ _ _ h => h) ?_
                  simp only [List.take_succ_cons, List.take_zero, List.drop_succ_cons, List.drop_zero]
                  repeat (go_big_quiet_step (fail))
                  refine wpQuiet_nil ?_
                  intro w3 hw2; have h3 := later_below hw2; clear hw2
                  have hc_w3 := bcell h3; have hf_w3 := bfree h3
                  have hz_w3_0 : g < w3.heap.size := by have hz_ := h3.size; (try simp at hz_); omega
                  have hz_w3_1 : g2 < w3.heap.size := by have hz_ := h3.size; (try simp at hz_); omega
                  have hown3 := own_below (own_below hown2 h2) h3
                  have hz3 : wo.heap.size ≤ w3.heap.size := Nat.le_trans hb2.size (Nat.le_trans h2.size h3.size)
                  go_wp2_with (at_builtin; refine wpList_append_own _ rfl _ _ 32 rfl wo.heap.size 2 i0 (.int .i64 0) 1 8 Tryd.underlying32 hi hz0 hz1 hz2 rfl (by decide) _ _ _ rfl (hown3.alloc _) ⟨w3.heap.size, 0, none⟩ 1 1 [.int .i64 (y + 1)] rfl rfl ?c1 ?c2 ?c3 ?c4 ?c5 ?_)
                  case c1 => exact cell_one_new _ _ _
                  case c2 => simp [Value.oneCell']
                  case c3 => unfold maxLen; omega
                  case c4 => omega
                  case c5 => simp; omega
                  intro v4 w4 hown4 hgrow _
                  have HO : Hid (w4.ownsRow wo.heap.size 2 1 v4 (j + 1 + 1) (lcsZ.map (Value.int .i64))) := by rw [hM.out, List.map_append]; exact hown4
                  have HB : Hid (Below wo.heap.size wo w4) := ((((hb2.trans (h2.mono hb2.size)).trans (h3.mono (Nat.le_trans hb2.size h2.size))).alloc hz3 _).grown hgrow (by simp; omega) (fun q hq => by simp [Value.ownBlock] at hq; omega))
                  clear hown4 hgrow
                  go_wp2
                  go_roundw
                  case rel => exact ⟨j + 1, by omega, by go_num, by rw [hZ.out]; exact HO.out, HB.out⟩
                  case measure => simp [intOf]; omega
                · have hM := Lib.hid (show lcsZ = nx ++ [x1 + 1] by rw [hA.out, show min (min (x0 + 1) (x1 + 1)) (y + 1) = x1 + 1 from by omega])
                  clear hA
                  go_wp2
                  refine wp_region_later (by kernel_rfl) (by kernel_rfl) ?_
                  repeat (go_big_quiet_step (fail))
                  refine wpQuiet_nil ?_
                  intro w2 hw2; have h2 := later_below hw2; clear hw2
                  have hc_w2 := bcell h2; have hf_w2 := bfree h2
                  have hz_w2_0 : g < w2.heap.size := by have hz_ := h2.size; (try simp at hz_); omega
                  have hz_w2_1 : g2 < w2.heap.size := by have hz_ := h2.size; (try simp at hz_); omega
                  go_wp2
                  refine wp_region_tail 4 14 (by kernel_rfl) (by kernel_rfl) (fun _ _ _ _ h => h) ?_
                  simp only [List.take_succ_cons, List.take_zero, List.drop_succ_cons, List.drop_zero]
                  repeat (go_big_quiet_step (fail))
                  refine wpQuiet_nil ?_
                  intro w3 hw2; have h3 := later_below hw2; clear hw2
                  have hc_w3 := bcell h3; have hf_w3 := bfree h3
                  have hz_w3_0 : g < w3.heap.size := by have hz_ := h3.size; (try simp at hz_); omega
                  have hz_w3_1 : g2 < w3.heap.size := by have hz_ := h3.size; (try simp at hz_); omega
                  have hown3 := own_below (own_below hown2 h2) h3
                  have hz3 : wo.heap.size ≤ w3.heap.size := Nat.le_trans hb2.size (Nat.le_trans h2.size h3.size)
                  go_wp2_with (at_builtin; refine wpList_append_own _ rfl _ _ 32 rfl wo.heap.size 2 i0 (.int .i64 0) 1 8 Tryd.underlying32 hi hz0 hz1 hz2 rfl (by decide) _ _ _ rfl (hown3.alloc _) ⟨w3.heap.size, 0, none⟩ 1 1 [.int .i64 (x1 + 1)] rfl rfl ?c1 ?c2 ?c3 ?c4 ?c5 ?_)
                  case c1 => exact cell_one_new _ _ _
                  case c2 => simp [Value.oneCell']
                  case c3 => unfold maxLen; omega
                  case c4 => omega
                  case c5 => simp; omega
                  intro v4 w4 hown4 hgrow _
                  have HO : Hid (w4.ownsRow wo.heap.size 2 1 v4 (j + 1 + 1) (lcsZ.map (Value.int .i64))) := by rw [hM.out, List.map_append]; exact hown4
                  have HB : Hid (Below wo.heap.size wo w4) := ((((hb2.trans (h2.mono hb2.size)).trans (h3.mono (Nat.le_trans hb2.size h2.size))).alloc hz3 _).grown hgrow (by simp; omega) (fun q hq => by simp [Value.ownBlock] at hq; omega))
                  clear hown4 hgrow
                  go_wp2
                  go_roundw
                  case rel => exact ⟨j + 1, by omega, by go_num, by rw [hZ.out]; exact HO.out, HB.out⟩
                  case measure => simp [intOf]; omega
                · have hM := Lib.hid (show lcsZ = nx ++ [x0 + 1] by rw [hA.out, show min (min (x0 + 1) (x1 + 1)) (y + 1) = x0 + 1 from by omega])
                  clear hA
                  go_wp2
                  refine wp_region_later (by kernel_rfl) (by kernel_rfl) ?_
                  repeat (go_big_quiet_step (fail))
                  refine wpQuiet_nil ?_
                  intro w2 hw2; have h2 := later_below hw2; clear hw2
                  have hc_w2 := bcell h2; have hf_w2 := bfree h2
                  have hz_w2_0 : g < w2.heap.size := by have hz_ := h2.size; (try simp at hz_); omega
                  have hz_w2_1 : g2 < w2.heap.size := by have hz_ := h2.size; (try simp at hz_); omega
                  go_wp2
                  refine wp_region_tail 4 14 (by kernel_rfl) (by kernel_rfl) (fun _ _ _ _ h => h) ?_
                  simp only [List.take_succ_cons, List.take_zero, List.drop_succ_cons, List.drop_zero]
                  repeat (go_big_quiet_step (fail))
                  refine wpQuiet_nil ?_
                  intro w3 hw2; have h3 := later_below hw2; clear hw2
                  have hc_w3 := bcell h3; have hf_w3 := bfree h3
                  have hz_w3_0 : g < w3.heap.size := by have hz_ := h3.size; (try simp at hz_); omega
                  have hz_w3_1 : g2 < w3.heap.size := by have hz_ := h3.size; (try simp at hz_); omega
                  have hown3 := own_below (own_below hown2 h2) h3
                  have hz3 : wo.heap.size ≤ w3.heap.size := Nat.le_trans hb2.size (Nat.le_trans h2.size h3.size)
                  go_wp2_with (at_builtin; refine wpList_append_own _ rfl _ _ 32 rfl wo.heap.size 2 i0 (.int .i64 0) 1 8 Tryd.underlying32 hi hz0 hz1 hz2 rfl (by decide) _ _ _ rfl (hown3.alloc _) ⟨w3.heap.size, 0, none⟩ 1 1 [.int .i64 (x0 + 1)] rfl rfl ?c1 ?c2 ?c3 ?c4 ?c5 ?_)
                  case c1 => exact cell_one_new _ _ _
                  case c2 => simp [Value.oneCell']
                  case c3 => unfold maxLen; omega
                  case c4 => omega
                  case c5 => simp; omega
                  intro v4 w4 hown4 hgrow _
                  have HO : Hid (w4.ownsRow wo.heap.size 2 1 v4 (j + 1 + 1) (lcsZ.map (Value.int .i64))) := by rw [hM.out, List.map_append]; exact hown4
                  have HB : Hid (Below wo.heap.size wo w4) := ((((hb2.trans (h2.mono hb2.size)).trans (h3.mono (Nat.le_trans hb2.size h2.size))).alloc hz3 _).grown hgrow (by simp; omega) (fun q hq => by simp [Value.ownBlock] at hq; omega))
                  clear hown4 hgrow
                  go_wp2
                  go_roundw
                  case rel => exact ⟨j + 1, by omega, by go_num, by rw [hZ.out]; exact HO.out, HB.out⟩
                  case measure => simp [intOf]; omega
            · have hjn : j = b.size := by omega
              have hO := own_base hown2 hb0.size
              rw [hjn, ← ed_row b hlt HRE.out] at hO
              have HO := Lib.hid hO
              clear hO
              have HB := Lib.hid (hb0.trans (hb2.mono hb0.size))
              clear hown2
              go_wp2
              go_roundw
              case rel => exact ⟨k + 1, by omega, by go_num, HO.out, HB.out⟩
              case measure => simp [intOf]; omega
        · have hka : k = a.size := by omega
          obtain ⟨g, cap, rfl, hg0, hg1, hgc, hgm, hcell, _⟩ := own_int hown (by omega)
          have c0 := hcell b.size (by omega)
          have hgc' : (b.size : Int) < ((b.size + 1 : Nat) : Int) := by omega
          have HL := Lib.hid (show (edRow a.data.toList b.data.toList k).getD b.size 0 = edit a.data.toList b.data.toList by unfold edit; rw [hka]; rfl)
          generalize (edRow a.data.toList b.data.toList k).getD b.size 0 = x at *
          clear hcell hown
          go_wp2
          go_ret
          exact ⟨by rw [← HL.out]; rfl, hb0⟩

set_option maxRecDepth 100000 in
set_option maxHeartbeats 4000000 in
theorem edit_spec (a b : ByteArray) (w : World) (ha : a.size ≤ 16) (hb : b.size ≤ 16) :
    Calls Tryd.prog 16 #[.string a, .string b] w fun e w' => e = .returned (.int .i64 (edit a.data.toList b.data.toList)) ∧ Below w.heap.size w w' := by
  obtain ⟨i0, hi, hz0, hz1, hz2⟩ := info_parts infoInt
  go_enter Tryd.func16, Tryd.ntmps16
  go_wp2
  go_loopw [5, 6] (fun rv i wr => ∃ (k : Nat), k ≤ b.size + 1 ∧ i = .int .i64 k ∧ wr.ownsRow w.heap.size 2 1 rv k ((natRow k).map (Value.int .i64)) ∧ Below w.heap.size w wr) (fun _ i _ => b.size + 1 - (intOf i).toNat)
  case atStart => exact ⟨0, Nat.zero_le _, rfl, World.ownsRow_lit w #[] 0 (Nat.le_refl _) (by unfold maxLen; omega) rfl, (Below.refl _ _).alloc (Nat.le_refl _) _⟩
  case round =>
    obtain ⟨k, hk, rfl, hown, hb0⟩ := hrel
    by_cases hlt : k < b.size + 1
    · have hk2 : (k : Int) ≤ (b.size : Int) := by omega
      have hz3 := hb0.size
      go_wp2_with (at_builtin; refine wpList_append_own _ rfl _ _ 32 rfl w.heap.size 2 i0 (.int .i64 0) 1 8 Tryd.underlying32 hi hz0 hz1 hz2 rfl (by decide) _ _ _ rfl (hown.alloc _) ⟨wr.heap.size, 0, none⟩ 1 1 [.int .i64 k] rfl rfl ?c1 ?c2 ?c3 ?c4 ?c5 ?_)
      case c1 => exact cell_one_new _ _ _
      case c2 => simp [Value.oneCell']
      case c3 => unfold maxLen; omega
      case c4 => omega
      case c5 => simp; omega
      intro v4 w4 hown4 hgrow _
      have HO : Hid (w4.ownsRow w.heap.size 2 1 v4 (k + 1) ((natRow (k + 1)).map (Value.int .i64))) := by rw [natRow_succ, List.map_append]; exact hown4
      have HB : Hid (Below w.heap.size w w4) := (hb0.alloc hz3 _).grown hgrow (by simp; omega) (fun q hq => (hown.lt q hq).1)
      clear hown4 hgrow hown
      go_wp2
      go_roundw
      case rel => exact ⟨k + 1, by omega, by go_num, HO.out, HB.out⟩
      case measure => simp [intOf]; omega
    · have hkE : k = b.size + 1 := by omega
      have hown' := hown
      rw [hkE] at hown'
      clear hown
      have hown := hown'
      clear hown'
      have hk3 : (b.size : Int) < (k : Int) := by omega
      have hd1 : decide (k ≤ b.size) = false := by simp; omega
      clear hkE hk hlt
      go_wp2
      go_loopw [5, 7] (fun rv i wr => ∃ (k : Nat), k ≤ a.size ∧ i = .int .i64 ((k : Int) + 1) ∧ wr.ownsRow w.heap.size 2 1 rv (b.size + 1) ((edRow a.data.toList b.data.toList k).map (Value.int .i64)) ∧ Below w.heap.size w wr) (fun _ i _ => a.size + 1 - (intOf i).toNat)
      case atStart => exact ⟨0, Nat.zero_le _, rfl, hown, hb0⟩
      case round =>
        clear hown hb0
        obtain ⟨k, hk, rfl, hown, hb0⟩ := hrel
        by_cases hlt : k < a.size
        · obtain ⟨g, cap, rfl, hg0, hg1, hgc, hgm, hcell, _⟩ := own_int hown (by omega)
          have hd2 : decide ((k : Int) + 1 ≤ (a.size : Int)) = true := by simp; omega
          go_wp2
          obtain ⟨wo, rfl⟩ : ∃ wo : World, wo = wr := ⟨_, rfl⟩
          have HR := Lib.hid (edRow_in a.data.toList b.data.toList k)
          have hR1 := edRow_len a.data.toList b.data.toList k
          have hbl : b.data.toList.length = b.size := by simp
          generalize hRE : edRow a.data.toList b.data.toList k = R at *
          have HRE := Lib.hid hRE
          clear hRE
          go_loopw [8, 9] (fun nx i wr => ∃ (j : Nat), j ≤ b.size ∧ i = .int .i64 ((j : Int) + 1) ∧ wr.ownsRow wo.heap.size 2 1 nx (j + 1) ((edPart a[k] (k + 1) b.data.toList R j).map (Value.int .i64)) ∧ Below wo.heap.size wo wr) (fun _ i _ => b.size + 1 - (intOf i).toNat)
          case atStart =>
            refine ⟨0, Nat.zero_le _, rfl, ?_, (Below.refl _ _).alloc (Nat.le_refl _) _⟩
            exact World.ownsRow_lit wo #[.int .i64 (k + 1)] 1 (Nat.le_refl _) (by unfold maxLen; omega) rfl
          case round =>
            obtain ⟨j, hj, rfl, hown2, hb2⟩ := hrel
            by_cases hjl : j < b.size
            · obtain ⟨g2, cap2, rfl, hg20, hg21, hgc2, hgm2, hcell2, _⟩ := own_int hown2 (by omega)
              have hP := edPart_in (x := a[k]) (b := b.data.toList) (i := (k : Int) + 1) (by omega) (by omega) (by omega) HR.out j
              have hPl := edPart_len a[k] (k + 1) b.data.toList R j
              have c0 := (hb2.cell (p := ⟨g, j, none⟩) hg1).trans (hcell j (by omega))
              have c1 := (hb2.cell (p := ⟨g, j + 1, none⟩) hg1).trans (hcell (j + 1) (by omega))
              have c2 := hcell2 j (by omega)
              have b0 := HR.out j
              have b1 := HR.out (j + 1)
              have b2 := hP j
              have hAt : Hid (edPart a[k] (k + 1) b.data.toList R (j + 1) = edPart a[k] (k + 1) b.data.toList R j ++ [min (min (R.getD j 0 + if a[k] = b.data.toList.getD j 0 then 0 else 1) (R.getD (j + 1) 0 + 1)) ((edPart a[k] (k + 1) b.data.toList R j).getD j 0 + 1)]) := rfl
              clear hcell2 hP
              generalize edPart a[k] (k + 1) b.data.toList R j = nx at *
              generalize R.getD j 0 = x0 at *
              generalize R.getD (j + 1) 0 = x1 at *
              generalize nx.getD j 0 = y at *
              have hgw : g < wr.heap.size := Nat.lt_of_lt_of_le hg1 hb2.size
              have hj0 : (0 : Int) ≤ (j : Int) := Int.natCast_nonneg _
              have hj1 : (j : Int) < (b.size : Int) := by omega
              generalize hZ' : edPart a[k] (k + 1) b.data.toList R (j + 1) = lcsZ at hAt
              have hZ := Lib.hid hZ'
              clear hZ'
              by_cases he : a[k] = b[j]
              · have hq : ((a[k].toNat : Int) != (b[j].toNat : Int)) = false := by rw [he]; simp
                have hA := Lib.hid (ed_eq hAt.out hjl he)
                clear he hAt
                rcases min_ways (x0) x1 y with ⟨q1, q2⟩ | ⟨q1, q2⟩ | ⟨q1, q2⟩
                · have hM := Lib.hid (show lcsZ = nx ++ [y + 1] by rw [hA.out, show min (min (x0) (x1 + 1)) (y + 1) = y + 1 from by omega])
                  clear hA
                  go_wp2
                  refine wp_region_later (by kernel_rfl) (by kernel_rfl) ?_
                  repeat (go_big_quiet_step (fail))
                  refine wpQuiet_nil ?_
                  intro w2 hw2; have h2 := later_below hw2; clear hw2
                  have hc_w2 := bcell h2; have hf_w2 := bfree h2
                  have hz_w2_0 : g < w2.heap.size := by have hz_ := h2.size; (try simp at hz_); omega
                  have hz_w2_1 : g2 < w2.heap.size := by have hz_ := h2.size; (try simp at hz_); omega
                  go_wp2
                  refine wp_region_tail 4 14 (by kernel_rfl) (by kernel_rfl) (fun _ _ _ _ h => h) ?_
                  simp only [List.take_succ_cons, List.take_zero, List.drop_succ_cons, List.drop_zero]
                  repeat (go_big_quiet_step (fail))
                  refine wpQuiet_nil ?_
                  intro w3 hw2; have h3 := later_below hw2; clear hw2
                  have hc_w3 := bcell h3; have hf_w3 := bfree h3
                  have hz_w3_0 : g < w3.heap.size := by have hz_ := h3.size; (try simp at hz_); omega
                  have hz_w3_1 : g2 < w3.heap.size := by have hz_ := h3.size; (try simp at hz_); omega
                  have hown3 := own_below (own_below hown2 h2) h3
                  have hz3 : wo.heap.size ≤ w3.heap.size := Nat.le_trans hb2.size (Nat.le_trans h2.size h3.size)
                  go_wp2_with (at_builtin; refine wpList_append_own _ rfl _ _ 32 rfl wo.heap.size 2 i0 (.int .i64 0) 1 8 Tryd.underlying32 hi hz0 hz1 hz2 rfl (by decide) _ _ _ rfl (hown3.alloc _) ⟨w3.heap.size, 0, none⟩ 1 1 [.int .i64 (y + 1)] rfl rfl ?c1 ?c2 ?c3 ?c4 ?c5 ?_)
                  case c1 => exact cell_one_new _ _ _
                  case c2 => simp [Value.oneCell']
                  case c3 => unfold maxLen; omega
                  case c4 => omega
                  case c5 => simp; omega
                  intro v4 w4 hown4 hgrow _
                  have HO : Hid (w4.ownsRow wo.heap.size 2 1 v4 (j + 1 + 1) (lcsZ.map (Value.int .i64))) := by rw [hM.out, List.map_append]; exact hown4
                  have HB : Hid (Below wo.heap.size wo w4) := ((((hb2.trans (h2.mono hb2.size)).trans (h3.mono (Nat.le_trans hb2.size h2.size))).alloc hz3 _).grown hgrow (by simp; omega) (fun q hq => by simp [Value.ownBlock] at hq; omega))
                  clear hown4 hgrow
                  go_wp2
                  go_roundw
                  case rel => exact ⟨j + 1, by omega, by congr 1, by rw [hZ.out]; exact HO.out, HB.out⟩
                  case measure => simp [intOf]; omega
                · have hM := Lib.hid (show lcsZ = nx ++ [x1 + 1] by rw [hA.out, show min (min (x0) (x1 + 1)) (y + 1) = x1 + 1 from by omega])
                  clear hA
                  go_wp2
                  refine wp_region_later (by kernel_rfl) (by kernel_rfl) ?_
                  repeat (go_big_quiet_step (fail))
                  refine wpQuiet_nil ?_
                  intro w2 hw2; have h2 := later_below hw2; clear hw2
                  have hc_w2 := bcell h2; have hf_w2 := bfree h2
                  have hz_w2_0 : g < w2.heap.size := by have hz_ := h2.size; (try simp at hz_); omega
                  have hz_w2_1 : g2 < w2.heap.size := by have hz_ := h2.size; (try simp at hz_); omega
                  go_wp2
                  refine wp_region_tail 4 14 (by kernel_rfl) (by kernel_rfl) (fun _ _ _ _ h => h) ?_
                  simp only [List.take_succ_cons, List.take_zero, List.drop_succ_cons, List.drop_zero]
                  repeat (go_big_quiet_step (fail))
                  refine wpQuiet_nil ?_
                  intro w3 hw2; have h3 := later_below hw2; clear hw2
                  have hc_w3 := bcell h3; have hf_w3 := bfree h3
                  have hz_w3_0 : g < w3.heap.size := by have hz_ := h3.size; (try simp at hz_); omega
                  have hz_w3_1 : g2 < w3.heap.size := by have hz_ := h3.size; (try simp at hz_); omega
                  have hown3 := own_below (own_below hown2 h2) h3
                  have hz3 : wo.heap.size ≤ w3.heap.size := Nat.le_trans hb2.size (Nat.le_trans h2.size h3.size)
                  go_wp2_with (at_builtin; refine wpList_append_own _ rfl _ _ 32 rfl wo.heap.size 2 i0 (.int .i64 0) 1 8 Tryd.underlying32 hi hz0 hz1 hz2 rfl (by decide) _ _ _ rfl (hown3.alloc _) ⟨w3.heap.size, 0, none⟩ 1 1 [.int .i64 (x1 + 1)] rfl rfl ?c1 ?c2 ?c3 ?c4 ?c5 ?_)
                  case c1 => exact cell_one_new _ _ _
                  case c2 => simp [Value.oneCell']
                  case c3 => unfold maxLen; omega
                  case c4 => omega
                  case c5 => simp; omega
                  intro v4 w4 hown4 hgrow _
                  have HO : Hid (w4.ownsRow wo.heap.size 2 1 v4 (j + 1 + 1) (lcsZ.map (Value.int .i64))) := by rw [hM.out, List.map_append]; exact hown4
                  have HB : Hid (Below wo.heap.size wo w4) := ((((hb2.trans (h2.mono hb2.size)).trans (h3.mono (Nat.le_trans hb2.size h2.size))).alloc hz3 _).grown hgrow (by simp; omega) (fun q hq => by simp [Value.ownBlock] at hq; omega))
                  clear hown4 hgrow
                  go_wp2
                  go_roundw
                  case rel => exact ⟨j + 1, by omega, by congr 1, by rw [hZ.out]; exact HO.out, HB.out⟩
                  case measure => simp [intOf]; omega
                · have hM := Lib.hid (show lcsZ = nx ++ [x0] by rw [hA.out, show min (min (x0) (x1 + 1)) (y + 1) = x0 from by omega])
                  clear hA
                  go_wp2
                  refine wp_region_later (by kernel_rfl) (by kernel_rfl) ?_
                  repeat (go_big_quiet_step (fail))
                  refine wpQuiet_nil ?_
                  intro w2 hw2; have h2 := later_below hw2; clear hw2
                  have hc_w2 := bcell h2; have hf_w2 := bfree h2
                  have hz_w2_0 : g < w2.heap.size := by have hz_ := h2.size; (try simp at hz_); omega
                  have hz_w2_1 : g2 < w2.heap.size := by have hz_ := h2.size; (try simp at hz_); omega
                  go_wp2
                  refine wp_region_tail 4 14 (by kernel_rfl) (by kernel_rfl) (fun _ _ _ _ h => h) ?_
                  simp only [List.take_succ_cons, List.take_zero, List.drop_succ_cons, List.drop_zero]
                  repeat (go_big_quiet_step (fail))
                  refine wpQuiet_nil ?_
                  intro w3 hw2; have h3 := later_below hw2; clear hw2
                  have hc_w3 := bcell h3; have hf_w3 := bfree h3
                  have hz_w3_0 : g < w3.heap.size := by have hz_ := h3.size; (try simp at hz_); omega
                  have hz_w3_1 : g2 < w3.heap.size := by have hz_ := h3.size; (try simp at hz_); omega
                  have hown3 := own_below (own_below hown2 h2) h3
                  have hz3 : wo.heap.size ≤ w3.heap.size := Nat.le_trans hb2.size (Nat.le_trans h2.size h3.size)
                  go_wp2_with (at_builtin; refine wpList_append_own _ rfl _ _ 32 rfl wo.heap.size 2 i0 (.int .i64 0) 1 8 Tryd.underlying32 hi hz0 hz1 hz2 rfl (by decide) _ _ _ rfl (hown3.alloc _) ⟨w3.heap.size, 0, none⟩ 1 1 [.int .i64 (x0)] rfl rfl ?c1 ?c2 ?c3 ?c4 ?c5 ?_)
                  case c1 => exact cell_one_new _ _ _
                  case c2 => simp [Value.oneCell']
                  case c3 => unfold maxLen; omega
                  case c4 => omega
                  case c5 => simp; omega
                  intro v4 w4 hown4 hgrow _
                  have HO : Hid (w4.ownsRow wo.heap.size 2 1 v4 (j + 1 + 1) (lcsZ.map (Value.int .i64))) := by rw [hM.out, List.map_append]; exact hown4
                  have HB : Hid (Below wo.heap.size wo w4) := ((((hb2.trans (h2.mono hb2.size)).trans (h3.mono (Nat.le_trans hb2.size h2.size))).alloc hz3 _).grown hgrow (by simp; omega) (fun q hq => by simp [Value.ownBlock] at hq; omega))
                  clear hown4 hgrow
                  go_wp2
                  go_roundw
                  case rel => exact ⟨j + 1, by omega, by congr 1, by rw [hZ.out]; exact HO.out, HB.out⟩
                  case measure => simp [intOf]; omega
              · have hq : ((a[k].toNat : Int) != (b[j].toNat : Int)) = true := by
                  rw [bne_iff_ne]
                  intro e
                  exact he (UInt8.toNat_inj.1 (by omega))
                have hA := Lib.hid (ed_ne hAt.out hjl he)
                clear he hAt
                rcases min_ways (x0 + 1) x1 y with ⟨q1, q2⟩ | ⟨q1, q2⟩ | ⟨q1, q2⟩
                · have hM := Lib.hid (show lcsZ = nx ++ [y + 1] by rw [hA.out, show min (min (x0 + 1) (x1 + 1)) (y + 1) = y + 1 from by omega])
                  clear hA
                  go_wp2
                  refine wp_region_later (by kernel_rfl) (by kernel_rfl) ?_
                  repeat (go_big_quiet_step (fail))
                  refine wpQuiet_nil ?_
                  intro w2 hw2; have h2 := later_below hw2; clear hw2
                  have hc_w2 := bcell h2; have hf_w2 := bfree h2
                  have hz_w2_0 : g < w2.heap.size := by have hz_ := h2.size; (try simp at hz_); omega
                  have hz_w2_1 : g2 < w2.heap.size := by have hz_ := h2.size; (try simp at hz_); omega
                  go_wp2
                  refine wp_region_tail 4 14 (by kernel_rfl) (by kernel_rfl) (fun _ _ _ _ h => h) ?_
                  simp only [List.take_succ_cons, List.take_zero, List.drop_succ_cons, List.drop_zero]
                  repeat (go_big_quiet_step (fail))
                  refine wpQuiet_nil ?_
                  intro w3 hw2; have h3 := later_below hw2; clear hw2
                  have hc_w3 := bcell h3; have hf_w3 := bfree h3
                  have hz_w3_0 : g < w3.heap.size := by have hz_ := h3.size; (try simp at hz_); omega
                  have hz_w3_1 : g2 < w3.heap.size := by have hz_ := h3.size; (try simp at hz_); omega
                  have hown3 := own_below (own_below hown2 h2) h3
                  have hz3 : wo.heap.size ≤ w3.heap.size := Nat.le_trans hb2.size (Nat.le_trans h2.size h3.size)
                  go_wp2_with (at_builtin; refine wpList_append_own _ rfl _ _ 32 rfl wo.heap.size 2 i0 (.int .i64 0) 1 8 Tryd.underlying32 hi hz0 hz1 hz2 rfl (by decide) _ _ _ rfl (hown3.alloc _) ⟨w3.heap.size, 0, none⟩ 1 1 [.int .i64 (y + 1)] rfl rfl ?c1 ?c2 ?c3 ?c4 ?c5 ?_)
                  case c1 => exact cell_one_new _ _ _
                  case c2 => simp [Value.oneCell']
                  case c3 => unfold maxLen; omega
                  case c4 => omega
                  case c5 => simp; omega
                  intro v4 w4 hown4 hgrow _
                  have HO : Hid (w4.ownsRow wo.heap.size 2 1 v4 (j + 1 + 1) (lcsZ.map (Value.int .i64))) := by rw [hM.out, List.map_append]; exact hown4
                  have HB : Hid (Below wo.heap.size wo w4) := ((((hb2.trans (h2.mono hb2.size)).trans (h3.mono (Nat.le_trans hb2.size h2.size))).alloc hz3 _).grown hgrow (by simp; omega) (fun q hq => by simp [Value.ownBlock] at hq; omega))
                  clear hown4 hgrow
                  go_wp2
                  go_roundw
                  case rel => exact ⟨j + 1, by omega, by congr 1, by rw [hZ.out]; exact HO.out, HB.out⟩
                  case measure => simp [intOf]; omega
                · have hM := Lib.hid (show lcsZ = nx ++ [x1 + 1] by rw [hA.out, show min (min (x0 + 1) (x1 + 1)) (y + 1) = x1 + 1 from by omega])
                  clear hA
                  go_wp2
                  refine wp_region_later (by kernel_rfl) (by kernel_rfl) ?_
                  repeat (go_big_quiet_step (fail))
                  refine wpQuiet_nil ?_
                  intro w2 hw2; have h2 := later_below hw2; clear hw2
                  have hc_w2 := bcell h2; have hf_w2 := bfree h2
                  have hz_w2_0 : g < w2.heap.size := by have hz_ := h2.size; (try simp at hz_); omega
                  have hz_w2_1 : g2 < w2.heap.size := by have hz_ := h2.size; (try simp at hz_); omega
                  go_wp2
                  refine wp_region_tail 4 14 (by kernel_rfl) (by kernel_rfl) (fun _ _ _ _ h => h) ?_
                  simp only [List.take_succ_cons, List.take_zero, List.drop_succ_cons, List.drop_zero]
                  repeat (go_big_quiet_step (fail))
                  refine wpQuiet_nil ?_
                  intro w3 hw2; have h3 := later_below hw2; clear hw2
                  have hc_w3 := bcell h3; have hf_w3 := bfree h3
                  have hz_w3_0 : g < w3.heap.size := by have hz_ := h3.size; (try simp at hz_); omega
                  have hz_w3_1 : g2 < w3.heap.size := by have hz_ := h3.size; (try simp at hz_); omega
                  have hown3 := own_below (own_below hown2 h2) h3
                  have hz3 : wo.heap.size ≤ w3.heap.size := Nat.le_trans hb2.size (Nat.le_trans h2.size h3.size)
                  go_wp2_with (at_builtin; refine wpList_append_own _ rfl _ _ 32 rfl wo.heap.size 2 i0 (.int .i64 0) 1 8 Tryd.underlying32 hi hz0 hz1 hz2 rfl (by decide) _ _ _ rfl (hown3.alloc _) ⟨w3.heap.size, 0, none⟩ 1 1 [.int .i64 (x1 + 1)] rfl rfl ?c1 ?c2 ?c3 ?c4 ?c5 ?_)
                  case c1 => exact cell_one_new _ _ _
                  case c2 => simp [Value.oneCell']
                  case c3 => unfold maxLen; omega
                  case c4 => omega
                  case c5 => simp; omega
                  intro v4 w4 hown4 hgrow _
                  have HO : Hid (w4.ownsRow wo.heap.size 2 1 v4 (j + 1 + 1) (lcsZ.map (Value.int .i64))) := by rw [hM.out, List.map_append]; exact hown4
                  have HB : Hid (Below wo.heap.size wo w4) := ((((hb2.trans (h2.mono hb2.size)).trans (h3.mono (Nat.le_trans hb2.size h2.size))).alloc hz3 _).grown hgrow (by simp; omega) (fun q hq => by simp [Value.ownBlock] at hq; omega))
                  clear hown4 hgrow
                  go_wp2
                  go_roundw
                  case rel => exact ⟨j + 1, by omega, by congr 1, by rw [hZ.out]; exact HO.out, HB.out⟩
                  case measure => simp [intOf]; omega
                · have hM := Lib.hid (show lcsZ = nx ++ [x0 + 1] by rw [hA.out, show min (min (x0 + 1) (x1 + 1)) (y + 1) = x0 + 1 from by omega])
                  clear hA
                  go_wp2
                  refine wp_region_later (by kernel_rfl) (by kernel_rfl) ?_
                  repeat (go_big_quiet_step (fail))
                  refine wpQuiet_nil ?_
                  intro w2 hw2; have h2 := later_below hw2; clear hw2
                  have hc_w2 := bcell h2; have hf_w2 := bfree h2
                  have hz_w2_0 : g < w2.heap.size := by have hz_ := h2.size; (try simp at hz_); omega
                  have hz_w2_1 : g2 < w2.heap.size := by have hz_ := h2.size; (try simp at hz_); omega
                  go_wp2
                  refine wp_region_tail 4 14 (by kernel_rfl) (by kernel_rfl) (fun _ _ _ _ h => h) ?_
                  simp only [List.take_succ_cons, List.take_zero, List.drop_succ_cons, List.drop_zero]
                  repeat (go_big_quiet_step (fail))
                  refine wpQuiet_nil ?_
                  intro w3 hw2; have h3 := later_below hw2; clear hw2
                  have hc_w3 := bcell h3; have hf_w3 := bfree h3
                  have hz_w3_0 : g < w3.heap.size := by have hz_ := h3.size; (try simp at hz_); omega
                  have hz_w3_1 : g2 < w3.heap.size := by have hz_ := h3.size; (try simp at hz_); omega
                  have hown3 := own_below (own_below hown2 h2) h3
                  have hz3 : wo.heap.size ≤ w3.heap.size := Nat.le_trans hb2.size (Nat.le_trans h2.size h3.size)
                  go_wp2_with (at_builtin; refine wpList_append_own _ rfl _ _ 32 rfl wo.heap.size 2 i0 (.int .i64 0) 1 8 Tryd.underlying32 hi hz0 hz1 hz2 rfl (by decide) _ _ _ rfl (hown3.alloc _) ⟨w3.heap.size, 0, none⟩ 1 1 [.int .i64 (x0 + 1)] rfl rfl ?c1 ?c2 ?c3 ?c4 ?c5 ?_)
                  case c1 => exact cell_one_new _ _ _
                  case c2 => simp [Value.oneCell']
                  case c3 => unfold maxLen; omega
                  case c4 => omega
                  case c5 => simp; omega
                  intro v4 w4 hown4 hgrow _
                  have HO : Hid (w4.ownsRow wo.heap.size 2 1 v4 (j + 1 + 1) (lcsZ.map (Value.int .i64))) := by rw [hM.out, List.map_append]; exact hown4
                  have HB : Hid (Below wo.heap.size wo w4) := ((((hb2.trans (h2.mono hb2.size)).trans (h3.mono (Nat.le_trans hb2.size h2.size))).alloc hz3 _).grown hgrow (by simp; omega) (fun q hq => by simp [Value.ownBlock] at hq; omega))
                  clear hown4 hgrow
                  go_wp2
                  go_roundw
                  case rel => exact ⟨j + 1, by omega, by congr 1, by rw [hZ.out]; exact HO.out, HB.out⟩
                  case measure => simp [intOf]; omega
            · have hjn : j = b.size := by omega
              have hO := own_base hown2 hb0.size
              rw [hjn, ← ed_row b hlt HRE.out] at hO
              have HO := Lib.hid hO
              clear hO
              have HB := Lib.hid (hb0.trans (hb2.mono hb0.size))
              clear hown2
              go_wp2
              go_roundw
              case rel => exact ⟨k + 1, by omega, by congr 1, HO.out, HB.out⟩
              case measure => simp [intOf]; omega
        · have hka : k = a.size := by omega
          obtain ⟨g, cap, rfl, hg0, hg1, hgc, hgm, hcell, _⟩ := own_int hown (by omega)
          have c0 := hcell b.size (by omega)
          have hgc' : (b.size : Int) < ((b.size + 1 : Nat) : Int) := by omega
          have HL := Lib.hid (show (edRow a.data.toList b.data.toList k).getD b.size 0 = edit a.data.toList b.data.toList by unfold edit; rw [hka]; rfl)
          generalize (edRow a.data.toList b.data.toList k).getD b.size 0 = x at *
          clear hcell hown
          go_wp2
          go_ret
          exact ⟨by rw [← HL.out]; rfl, hb0⟩

set_option maxHeartbeats 800000 in
theorem EditDistance_impl (a b : ByteArray) (w : World) (ha : a.size ≤ maxLen) (hb : b.size ≤ maxLen) :
    Calls Tryd.prog 6 #[.string a, .string b] w fun e w' => e = .returned (.tuple #[.int .i64 (edVal a b), .int .i64 (twoCode a b)]) ∧ Below w.heap.size w w' := by
  have hall := two_all a b
  rcases two_cases a b with ⟨h, h1, h2⟩ | ⟨h, _⟩
  · have HT := Lib.hid (show edVal a b = edit a.data.toList b.data.toList by unfold edVal; rw [h.out]; rfl)
    have HC := Lib.hid (two_words true a b w ha hb (by rw [hall, h.out]; rfl))
    have ha' := isWord_size h1
    have hb' := isWord_size h2
    clear h1 h2 hall
    go_enter Tryd.func6, Tryd.ntmps6
    go_wp2_with fail
    refine (HC.out).mono ?_
    rintro e_ w1 ⟨rfl, k1⟩
    have hc_w1 := bcell k1; have hf_w1 := bfree k1
    go_wp2_with fail
    refine (edit_impl a b _ ha' hb').mono ?_
    rintro e_ w2 ⟨rfl, k2⟩
    have hc_w2 := bcell k2; have hf_w2 := bfree k2
    go_wp2
    go_ret2
    exact ⟨by rw [HT.out, h.out]; rfl, next k1 k2⟩
  · have HT := Lib.hid (show edVal a b = 0 by unfold edVal; rw [h.out]; rfl)
    have HC := Lib.hid (two_words false a b w ha hb (by rw [hall, h.out]; rfl))
    clear hall
    go_enter Tryd.func6, Tryd.ntmps6
    go_wp2_with fail
    refine (HC.out).mono ?_
    rintro e_ w1 ⟨rfl, k1⟩
    have hc_w1 := bcell k1; have hf_w1 := bfree k1
    go_wp2
    go_ret2
    exact ⟨by rw [HT.out, h.out]; rfl, k1⟩

set_option maxHeartbeats 800000 in
theorem EditDistance_spec (a b : ByteArray) (w : World) (ha : a.size ≤ maxLen) (hb : b.size ≤ maxLen) :
    Calls Tryd.prog 7 #[.string a, .string b] w fun e w' => e = .returned (.tuple #[.int .i64 (edVal a b), .int .i64 (twoCode a b)]) ∧ Below w.heap.size w w' := by
  rcases two_cases a b with ⟨h, h1, h2⟩ | ⟨h, _⟩
  · have HT := Lib.hid (show edVal a b = edit a.data.toList b.data.toList by unfold edVal; rw [h.out]; rfl)
    have e0 : (twoCode a b != 0) = false := by rw [h.out]; rfl
    have ha' := isWord_size h1
    have hb' := isWord_size h2
    clear h1 h2
    go_enter Tryd.func7, Tryd.ntmps7
    go_wp2_with fail
    refine (l01Two_any a b _ ha hb).mono ?_
    rintro e_ w1 ⟨rfl, k1⟩
    have hc_w1 := bcell k1; have hf_w1 := bfree k1
    go_wp2_with fail
    refine (edit_spec a b _ ha' hb').mono ?_
    rintro e_ w2 ⟨rfl, k2⟩
    have hc_w2 := bcell k2; have hf_w2 := bfree k2
    go_wp2
    go_ret2
    exact ⟨by rw [HT.out, h.out]; rfl, next k1 k2⟩
  · have HT := Lib.hid (show edVal a b = 0 by unfold edVal; rw [h.out]; rfl)
    have e0 : (twoCode a b != 0) = true := by rw [h.out]; rfl
    go_enter Tryd.func7, Tryd.ntmps7
    go_wp2_with fail
    refine (l01Two_any a b _ ha hb).mono ?_
    rintro e_ w1 ⟨rfl, k1⟩
    have hc_w1 := bcell k1; have hf_w1 := bfree k1
    go_wp2
    go_ret2
    exact ⟨by rw [HT.out]; rfl, k1⟩
end Go.Proofs.YtjcmmfpnlfhldaaDoor
