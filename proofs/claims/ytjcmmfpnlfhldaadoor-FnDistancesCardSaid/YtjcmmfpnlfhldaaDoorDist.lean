/- Letters in common and the distance of words: what the functions compute. -/
import Derived.Test.YtjcmmfpnlfhldaaDoorWords
import Derived.StillTailTactics
import Derived.Deep.AppendLies
namespace Go.Proofs.YtjcmmfpnlfhldaaDoor
open Go.ChangeShapes Go.WideShapes Go.ChangeAt Go.RowKit

def lcsAt (x : UInt8) (b : List UInt8) (R nx : List Int) (k : Nat) : Int := if x = b.getD k 0 then R.getD k 0 + 1 else max (R.getD (k + 1) 0) (nx.getD k 0)
def lcsPart (x : UInt8) (b : List UInt8) (R : List Int) : Nat → List Int
  | 0 => [0]
  | k + 1 => lcsPart x b R k ++ [lcsAt x b R (lcsPart x b R k) k]
def lcsRow (a b : List UInt8) : Nat → List Int
  | 0 => List.replicate (b.length + 1) 0
  | i + 1 => lcsPart (a.getD i 0) b (lcsRow a b i) b.length
def lcs (a b : List UInt8) : Int := (lcsRow a b a.length).getD b.length 0
theorem lcsPart_len (x : UInt8) (b : List UInt8) (R : List Int) : ∀ k, (lcsPart x b R k).length = k + 1
  | 0 => rfl
  | k + 1 => by simp [lcsPart, lcsPart_len x b R k]
theorem lcsRow_len (a b : List UInt8) : ∀ i, (lcsRow a b i).length = b.length + 1
  | 0 => by simp [lcsRow]
  | i + 1 => by simp [lcsRow, lcsPart_len]
/-- all numbers of a row lie in a range -/
def inR (M : Int) (R : List Int) : Prop := ∀ k, 0 ≤ R.getD k 0 ∧ R.getD k 0 ≤ M
theorem inR_snoc {M : Int} {R : List Int} {x : Int} (h : inR M R) (h0 : 0 ≤ x) (h1 : x ≤ M) : inR M (R ++ [x]) := fun k => by
  rw [List.getD_eq_getElem?_getD, List.getElem?_append]
  split
  · rw [← List.getD_eq_getElem?_getD]; exact h k
  · by_cases e : k - R.length = 0
    · rw [e]; simpa using ⟨h0, h1⟩
    · rw [List.getElem?_eq_none (by simp; omega)]; simp; omega
theorem inR_mono {M N : Int} {R : List Int} (h : inR M R) (hMN : M ≤ N) : inR N R := fun k => ⟨(h k).1, Int.le_trans (h k).2 hMN⟩
theorem lcsAt_in {x : UInt8} {b : List UInt8} {M : Int} {R nx : List Int} (k : Nat) (hR : inR M R) (hn : inR (M + 1) nx) : 0 ≤ lcsAt x b R nx k ∧ lcsAt x b R nx k ≤ M + 1 := by
  have h1 := hR k; have h2 := hR (k + 1); have h3 := hn k
  unfold lcsAt
  split <;> omega
theorem lcsPart_in {x : UInt8} {b : List UInt8} {M : Int} {R : List Int} (hM : 0 ≤ M) (hR : inR M R) : ∀ k, inR (M + 1) (lcsPart x b R k)
  | 0 => fun k => by
    have : (lcsPart x b R 0).getD k 0 = 0 := by cases k <;> simp [lcsPart]
    rw [this]; omega
  | k + 1 => inR_snoc (lcsPart_in hM hR k) (lcsAt_in k hR (lcsPart_in hM hR k)).1 (lcsAt_in k hR (lcsPart_in hM hR k)).2
theorem lcsRow_in (a b : List UInt8) : ∀ i : Nat, inR i (lcsRow a b i)
  | 0 => fun k => by
    have : (lcsRow a b 0).getD k 0 = 0 := by
      unfold lcsRow
      rw [List.getD_eq_getElem?_getD, List.getElem?_replicate]
      split <;> rfl
    rw [this]; simp
  | i + 1 => by
    have := lcsPart_in (x := a.getD i 0) (b := b) (M := i) (by omega) (lcsRow_in a b i) b.length
    intro k
    have h := this k
    unfold lcsRow
    simpa using h

theorem getD_at (b : ByteArray) {j : Nat} (h : j < b.size) : b.data.toList.getD j 0 = b[j] := by
  rw [List.getD_eq_getElem?_getD, get_list b h]; rfl
theorem lcs_eq {L nx : List Int} {x : UInt8} {b : ByteArray} {j : Nat} {x0 m : Int} (h : L = nx ++ [if x = b.data.toList.getD j 0 then x0 else m]) (hj : j < b.size) (e : x = b[j]) : L = nx ++ [x0] := by
  rw [h, getD_at b hj, if_pos e]
theorem lcs_ne {L nx : List Int} {x : UInt8} {b : ByteArray} {j : Nat} {x0 m : Int} (h : L = nx ++ [if x = b.data.toList.getD j 0 then x0 else m]) (hj : j < b.size) (e : ¬ x = b[j]) : L = nx ++ [m] := by
  rw [h, getD_at b hj, if_neg e]
theorem lcs_row {a : ByteArray} (b : ByteArray) {k : Nat} {R : List Int} (hk : k < a.size) (h : lcsRow a.data.toList b.data.toList k = R) : lcsRow a.data.toList b.data.toList (k + 1) = lcsPart a[k] b.data.toList R b.size := by
  unfold lcsRow
  rw [getD_at a hk, h]
  rfl
theorem own_base {w : World} {base base' : Nat} {e : TypeId} {size : Nat} {v : Value} {n : Nat} {xs : List Value} (h : w.ownsRow base e size v n xs) (hb : base' ≤ base) : w.ownsRow base' e size v n xs := by
  refine ⟨h.1, ?_⟩
  rcases h.2 with h2 | ⟨g, cap, cur, h1, h2, h3⟩
  · exact .inl h2
  · exact .inr ⟨g, cap, cur, h1, Nat.le_trans hb h2, h3⟩
theorem own_zero (w : World) (n : Nat) (hn : n ≤ 1000000) : (w.alloc (.cells (madeCells #[Value.int .i64 0] (n + 1)) 2)).ownsRow w.heap.size 2 1 (.slice (some ⟨w.heap.size, 0, none⟩) (n + 1) (n + 1)) (n + 1) ((List.replicate (n + 1) (0 : Int)).map (Value.int .i64)) := by
  have h := World.ownsRow_lit (base := w.heap.size) (e := 2) (size := 1) w (madeCells #[Value.int .i64 0] (n + 1)) (n + 1) (Nat.le_refl _) (by unfold maxLen; omega) (by rw [size_madeCells]; omega)
  rw [toList_madeCells_one] at h
  rw [List.map_replicate]
  exact h
theorem isWord_size {s : ByteArray} (h : isWord s = true) : s.size ≤ 16 := by
  unfold isWord small at h
  simp at h
  omega
def lcsVal (a b : ByteArray) : Int := if twoCode a b = 0 then lcs a.data.toList b.data.toList else 0
theorem infoInt : (Tryd.prog.info? 2).map (fun i => (i.zero, i.size, i.bytes)) = some (some (.int .i64 0), 1, 8) := by kernel_rfl

/-- an owned row of integers, opened at two places -/
theorem own_int {w : World} {base n : Nat} {v : Value} {R : List Int} (h : w.ownsRow base 2 1 v n (R.map (Value.int .i64))) (hn : 0 < n) :
    ∃ g cap, v = .slice (some ⟨g, 0, none⟩) n cap ∧ base ≤ g ∧ g < w.heap.size ∧ n ≤ cap ∧ cap ≤ maxLen ∧ (∀ k, k < n → w.cell? ⟨g, k, none⟩ = some (.int .i64 (R.getD k 0))) ∧ (∀ k, w.frozen? ⟨g, k, none⟩ = false) := by
  obtain ⟨g, cap, rfl, hb, hlt⟩ := h.form hn
  refine ⟨g, cap, rfl, hb, hlt, ?_, ?_, fun k hk => ?_, fun k => h.frozenAt k⟩
  · rcases h.2 with ⟨h', _⟩ | ⟨_, _, _, h', _, _, h2, _⟩
    · cases h'
    · injection h' with _ _ h3; rw [h3]; exact h2
  · rcases h.2 with ⟨h', _⟩ | ⟨_, _, _, h', _, _, _, h2, _⟩
    · cases h'
    · injection h' with _ _ h3; rw [h3]; exact h2
  · have hl : R.length = n := by have := h.1; simpa using this
    rw [h.cellAt k (by omega), List.getElem?_map, List.getD_eq_getElem?_getD, List.getElem?_eq_getElem (by omega)]
    rfl

set_option maxHeartbeats 2000000 in
theorem letters_impl (a b : ByteArray) (w : World) (ha : a.size ≤ 16) (hb : b.size ≤ 16) :
    Calls Tryd.prog 17 #[.string a, .string b] w fun e w' => e = .returned (.int .i64 (lcs a.data.toList b.data.toList)) ∧ Below w.heap.size w w' := by
  obtain ⟨i0, hi, hz0, hz1, hz2⟩ := info_parts infoInt
  have hmk := fun W => run_make_rowN (P := Tryd.prog) 32 2 i0 _ Tryd.underlying32 hi hz0 .i64 .i64 (b.size + 1) (b.size + 1) (Nat.le_refl _) (by rw [hz2]; omega) (by omega) W
  rw [show ((b.size + 1 : Nat) : Int) = (b.size : Int) + 1 from by omega] at hmk
  go_enter Tryd.func17, Tryd.ntmps17
  go_wp2
  go_loopw [5, 16] (fun rv i wr => ∃ (k : Nat), k ≤ a.size ∧ i = .int .i64 k ∧ wr.ownsRow w.heap.size 2 1 rv (b.size + 1) ((lcsRow a.data.toList b.data.toList k).map (Value.int .i64)) ∧ Below w.heap.size w wr) (fun _ i _ => a.size - (intOf i).toNat)
  case atStart =>
    refine ⟨0, Nat.zero_le _, rfl, ?_, (Below.refl _ _).alloc (Nat.le_refl _) _⟩
    exact own_zero w b.size (by omega)
  case round =>
    obtain ⟨k, hk, rfl, hown, hb0⟩ := hrel
    by_cases hlt : k < a.size
    · obtain ⟨g, cap, rfl, hg0, hg1, hgc, hgm, hcell, _⟩ := own_int hown (by omega)
      go_wp2
      obtain ⟨wo, rfl⟩ : ∃ wo : World, wo = wr := ⟨_, rfl⟩
      have HR := Lib.hid (lcsRow_in a.data.toList b.data.toList k)
      have hR1 := lcsRow_len a.data.toList b.data.toList k
      generalize hRE : lcsRow a.data.toList b.data.toList k = R at *
      have HRE := Lib.hid hRE
      clear hRE
      go_loopw [7, 22] (fun nx i wr => ∃ (j : Nat), j ≤ b.size ∧ i = .int .i64 j ∧ wr.ownsRow wo.heap.size 2 1 nx (j + 1) ((lcsPart a[k] b.data.toList R j).map (Value.int .i64)) ∧ Below wo.heap.size wo wr) (fun _ i _ => b.size - (intOf i).toNat)
      case atStart =>
        refine ⟨0, Nat.zero_le _, rfl, ?_, (Below.refl _ _).alloc (Nat.le_refl _) _⟩
        exact World.ownsRow_lit wo #[.int .i64 0] 1 (Nat.le_refl _) (by unfold maxLen; omega) rfl
      case round =>
        obtain ⟨j, hj, rfl, hown2, hb2⟩ := hrel
        by_cases hjl : j < b.size
        · obtain ⟨g2, cap2, rfl, hg20, hg21, hgc2, hgm2, hcell2, _⟩ := own_int hown2 (by omega)
          have hP := lcsPart_in (x := a[k]) (b := b.data.toList) (by omega : (0 : Int) ≤ k) HR.out j
          have hPl := lcsPart_len a[k] b.data.toList R j
          have c0 := (hb2.cell (p := ⟨g, j, none⟩) hg1).trans (hcell j (by omega))
          have c1 := (hb2.cell (p := ⟨g, j + 1, none⟩) hg1).trans (hcell (j + 1) (by omega))
          have c2 := hcell2 j (by omega)
          have b0 := HR.out j
          have b1 := HR.out (j + 1)
          have b2 := hP j
          have hAt : Hid (lcsPart a[k] b.data.toList R (j + 1) = lcsPart a[k] b.data.toList R j ++ [if a[k] = b.data.toList.getD j 0 then R.getD j 0 + 1 else max (R.getD (j + 1) 0) ((lcsPart a[k] b.data.toList R j).getD j 0)]) := rfl
          clear hcell2 hP
          generalize lcsPart a[k] b.data.toList R j = nx at *
          generalize R.getD j 0 = x0 at *
          generalize R.getD (j + 1) 0 = x1 at *
          generalize nx.getD j 0 = y at *
          have hgw : g < wr.heap.size := Nat.lt_of_lt_of_le hg1 hb2.size
          have hj0 : (0 : Int) ≤ (j : Int) := Int.natCast_nonneg _
          have hj1 : (j : Int) < (b.size : Int) := by omega
          by_cases he : a[k] = b[j]
          · have hq : ((a[k].toNat : Int) == (b[j].toNat : Int)) = true := by rw [he]; simp
            have hA := Lib.hid (lcs_eq hAt.out hjl he)
            clear he hAt
            go_wp2
            refine wp_region_later (by kernel_rfl) (by kernel_rfl) ?_
            repeat (go_big_quiet_step (fail))
            refine wpQuiet_nil ?_
            intro w2 hw2; have h2 := later_below hw2; clear hw2
            have hc_w2 := bcell h2; have hf_w2 := bfree h2
            have hz_w2_0 : g < w2.heap.size := by have hz_ := h2.size; (try simp at hz_); omega
            have hz_w2_1 : g2 < w2.heap.size := by have hz_ := h2.size; (try simp at hz_); omega
            go_wp2
            refine wp_region_later (by kernel_rfl) (by kernel_rfl) ?_
            repeat (go_big_quiet_step (fail))
            refine wpQuiet_nil ?_
            intro w3 hw2; have h3 := later_below hw2; clear hw2
            have hc_w3 := bcell h3; have hf_w3 := bfree h3
            have hz_w3_0 : g < w3.heap.size := by have hz_ := h3.size; (try simp at hz_); omega
            have hz_w3_1 : g2 < w3.heap.size := by have hz_ := h3.size; (try simp at hz_); omega
            have hown3 := own_below (own_below hown2 h2) h3
            have hz3 : wo.heap.size ≤ w3.heap.size := Nat.le_trans hb2.size (Nat.le_trans h2.size h3.size)
            go_wp2_with (at_builtin; refine wpList_append_own _ rfl _ _ 32 rfl wo.heap.size 2 i0 (.int .i64 0) 1 8 Tryd.underlying32 hi hz0 hz1 hz2 rfl (by decide) _ _ _ rfl (hown3.alloc _) ⟨w3.heap.size, 0, none⟩ 1 1 [.int .i64 (x0 + 1)] rfl rfl ?c1 ?c2 ?c3 ?c4 ?c5 ?_)
            case c1 => exact cell_one_new _ _ _
            case c2 => simp [Value.oneCell']
            case c3 => unfold maxLen; omega
            case c4 => omega
            case c5 => simp; omega
            intro v4 w4 hown4 hgrow _
            have HO : Hid (w4.ownsRow wo.heap.size 2 1 v4 (j + 1 + 1) ((lcsPart a[k] b.data.toList R (j + 1)).map (Value.int .i64))) := by rw [hA.out, List.map_append]; exact hown4
            have HB : Hid (Below wo.heap.size wo w4) := ((((hb2.trans (h2.mono hb2.size)).trans (h3.mono (Nat.le_trans hb2.size h2.size))).alloc hz3 _).grown hgrow (by simp; omega) (fun q hq => by simp [Value.ownBlock] at hq; omega))
            clear hown4 hgrow
            go_wp2
            go_roundw
            case rel => exact ⟨j + 1, by omega, by go_num, HO.out, HB.out⟩
            case measure => simp [intOf]; omega
          · have hq : ((a[k].toNat : Int) == (b[j].toNat : Int)) = false := by
              rw [beq_eq_false_iff_ne]
              intro e
              exact he (UInt8.toNat_inj.1 (by omega))
            have hA := Lib.hid (lcs_ne hAt.out hjl he)
            clear he hAt
            go_wp2
            refine wp_region_later (by kernel_rfl) (by kernel_rfl) ?_
            repeat (go_big_quiet_step (fail))
            refine wpQuiet_nil ?_
            intro w2 hw2; have h2 := later_below hw2; clear hw2
            have hc_w2 := bcell h2; have hf_w2 := bfree h2
            have hz_w2_0 : g < w2.heap.size := by have hz_ := h2.size; (try simp at hz_); omega
            have hz_w2_1 : g2 < w2.heap.size := by have hz_ := h2.size; (try simp at hz_); omega
            go_wp2
            refine wp_region_later (by kernel_rfl) (by kernel_rfl) ?_
            repeat (go_big_quiet_step (fail))
            refine wpQuiet_nil ?_
            intro w3 hw2; have h3 := later_below hw2; clear hw2
            have hc_w3 := bcell h3; have hf_w3 := bfree h3
            have hz_w3_0 : g < w3.heap.size := by have hz_ := h3.size; (try simp at hz_); omega
            have hz_w3_1 : g2 < w3.heap.size := by have hz_ := h3.size; (try simp at hz_); omega
            have hown3 := own_below (own_below hown2 h2) h3
            have hz3 : wo.heap.size ≤ w3.heap.size := Nat.le_trans hb2.size (Nat.le_trans h2.size h3.size)
            go_wp2_with (at_builtin; refine wpList_append_own _ rfl _ _ 32 rfl wo.heap.size 2 i0 (.int .i64 0) 1 8 Tryd.underlying32 hi hz0 hz1 hz2 rfl (by decide) _ _ _ rfl (hown3.alloc _) ⟨w3.heap.size, 0, none⟩ 1 1 [.int .i64 (max x1 y)] rfl rfl ?c1 ?c2 ?c3 ?c4 ?c5 ?_)
            case c1 => exact cell_one_new _ _ _
            case c2 => simp [Value.oneCell']
            case c3 => unfold maxLen; omega
            case c4 => omega
            case c5 => simp; omega
            intro v4 w4 hown4 hgrow _
            have HO : Hid (w4.ownsRow wo.heap.size 2 1 v4 (j + 1 + 1) ((lcsPart a[k] b.data.toList R (j + 1)).map (Value.int .i64))) := by rw [hA.out, List.map_append]; exact hown4
            have HB : Hid (Below wo.heap.size wo w4) := ((((hb2.trans (h2.mono hb2.size)).trans (h3.mono (Nat.le_trans hb2.size h2.size))).alloc hz3 _).grown hgrow (by simp; omega) (fun q hq => by simp [Value.ownBlock] at hq; omega))
            clear hown4 hgrow
            go_wp2
            go_roundw
            case rel => exact ⟨j + 1, by omega, by go_num, HO.out, HB.out⟩
            case measure => simp [intOf]; omega
        · have hjn : j = b.size := by omega
          have hO := own_base hown2 hb0.size
          rw [hjn, ← lcs_row b hlt HRE.out] at hO
          have HO := Lib.hid hO
          clear hO
          have HB := Lib.hid (hb0.trans (hb2.mono hb0.size))
          clear hown2
          go_wp2
          go_roundw
          case rel => exact ⟨k + 1, by omega, by go_num, HO.out, HB.out⟩
          case measure => simp [intOf]; omega
    · have hka : k = a.size := by omega
      obtain ⟨g, cap, rfl, hg0, hg1, hgc, hgm, hcell, _⟩ := own_int hown (by omega)
      have c0 := hcell b.size (by omega)
      have hgc' : (b.size : Int) < ((b.size + 1 : Nat) : Int) := by omega
      have HL := Lib.hid (show (lcsRow a.data.toList b.data.toList k).getD b.size 0 = lcs a.data.toList b.data.toList by unfold lcs; rw [hka]; rfl)
      generalize (lcsRow a.data.toList b.data.toList k).getD b.size 0 = x at *
      clear hcell hown
      go_wp2
      go_ret
      exact ⟨by rw [← HL.out]; rfl, hb0⟩
set_option maxHeartbeats 2000000 in
theorem Letters_spec (a b : ByteArray) (w : World) (ha' : a.size ≤ maxLen) (hb' : b.size ≤ maxLen) :
    Calls Tryd.prog 9 #[.string a, .string b] w fun e w' => e = .returned (.tuple #[.int .i64 (lcsVal a b), .int .i64 (twoCode a b)]) ∧ Below w.heap.size w w' := by
  rcases two_cases a b with ⟨h, h1, h2⟩ | ⟨h, _⟩
  rotate_left
  · have e0 : (twoCode a b != 0) = true := by rw [h.out]; rfl
    have HT := Lib.hid (show lcsVal a b = 0 by unfold lcsVal; rw [h.out]; rfl)
    go_enter Tryd.func9, Tryd.ntmps9
    go_wp2_with fail
    refine (l01Two_any a b _ ha' hb').mono ?_
    rintro e_ w1 ⟨rfl, k1⟩
    have hc_w1 := bcell k1; have hf_w1 := bfree k1
    go_wp2
    go_ret2
    exact ⟨by rw [HT.out]; rfl, k1⟩
  have e0 : (twoCode a b != 0) = false := by rw [h.out]; rfl
  have HT := Lib.hid (show lcsVal a b = lcs a.data.toList b.data.toList by unfold lcsVal; rw [h.out]; rfl)
  have ha := isWord_size h1
  have hb := isWord_size h2
  clear h1 h2
  obtain ⟨i0, hi, hz0, hz1, hz2⟩ := info_parts infoInt
  have hmk := fun W => run_make_rowN (P := Tryd.prog) 32 2 i0 _ Tryd.underlying32 hi hz0 .i64 .i64 (b.size + 1) (b.size + 1) (Nat.le_refl _) (by rw [hz2]; omega) (by omega) W
  rw [show ((b.size + 1 : Nat) : Int) = (b.size : Int) + 1 from by omega] at hmk
  go_enter Tryd.func9, Tryd.ntmps9
  go_wp2_with fail
  refine (l01Two_any a b _ ha' hb').mono ?_
  rintro e_ w0 ⟨rfl, k0⟩
  have hc_w0 := bcell k0; have hf_w0 := bfree k0
  clear hc_w0 hf_w0
  go_wp2
  go_loopw [7, 8] (fun rv i wr => ∃ (k : Nat), k ≤ a.size ∧ i = .int .i64 k ∧ wr.ownsRow w0.heap.size 2 1 rv (b.size + 1) ((lcsRow a.data.toList b.data.toList k).map (Value.int .i64)) ∧ Below w0.heap.size w0 wr) (fun _ i _ => a.size - (intOf i).toNat)
  case atStart =>
    refine ⟨0, Nat.zero_le _, rfl, ?_, (Below.refl _ _).alloc (Nat.le_refl _) _⟩
    exact own_zero w0 b.size (by omega)
  case round =>
    obtain ⟨k, hk, rfl, hown, hb0⟩ := hrel
    by_cases hlt : k < a.size
    · obtain ⟨g, cap, rfl, hg0, hg1, hgc, hgm, hcell, _⟩ := own_int hown (by omega)
      go_wp2
      obtain ⟨wo, rfl⟩ : ∃ wo : World, wo = wr := ⟨_, rfl⟩
      have HR := Lib.hid (lcsRow_in a.data.toList b.data.toList k)
      have hR1 := lcsRow_len a.data.toList b.data.toList k
      generalize hRE : lcsRow a.data.toList b.data.toList k = R at *
      have HRE := Lib.hid hRE
      clear hRE
      go_loopw [9, 10] (fun nx i wr => ∃ (j : Nat), j ≤ b.size ∧ i = .int .i64 j ∧ wr.ownsRow wo.heap.size 2 1 nx (j + 1) ((lcsPart a[k] b.data.toList R j).map (Value.int .i64)) ∧ Below wo.heap.size wo wr) (fun _ i _ => b.size - (intOf i).toNat)
      case atStart =>
        refine ⟨0, Nat.zero_le _, rfl, ?_, (Below.refl _ _).alloc (Nat.le_refl _) _⟩
        exact World.ownsRow_lit wo #[.int .i64 0] 1 (Nat.le_refl _) (by unfold maxLen; omega) rfl
      case round =>
        obtain ⟨j, hj, rfl, hown2, hb2⟩ := hrel
        by_cases hjl : j < b.size
        · obtain ⟨g2, cap2, rfl, hg20, hg21, hgc2, hgm2, hcell2, _⟩ := own_int hown2 (by omega)
          have hP := lcsPart_in (x := a[k]) (b := b.data.toList) (by omega : (0 : Int) ≤ k) HR.out j
          have hPl := lcsPart_len a[k] b.data.toList R j
          have c0 := (hb2.cell (p := ⟨g, j, none⟩) hg1).trans (hcell j (by omega))
          have c1 := (hb2.cell (p := ⟨g, j + 1, none⟩) hg1).trans (hcell (j + 1) (by omega))
          have c2 := hcell2 j (by omega)
          have b0 := HR.out j
          have b1 := HR.out (j + 1)
          have b2 := hP j
          have hAt : Hid (lcsPart a[k] b.data.toList R (j + 1) = lcsPart a[k] b.data.toList R j ++ [if a[k] = b.data.toList.getD j 0 then R.getD j 0 + 1 else max (R.getD (j + 1) 0) ((lcsPart a[k] b.data.toList R j).getD j 0)]) := rfl
          clear hcell2 hP
          generalize lcsPart a[k] b.data.toList R j = nx at *
          generalize R.getD j 0 = x0 at *
          generalize R.getD (j + 1) 0 = x1 at *
          generalize nx.getD j 0 = y at *
          have hgw : g < wr.heap.size := Nat.lt_of_lt_of_le hg1 hb2.size
          have hj0 : (0 : Int) ≤ (j : Int) := Int.natCast_nonneg _
          have hj1 : (j : Int) < (b.size : Int) := by omega
          by_cases he : a[k] = b[j]
          · have hq : ((a[k].toNat : Int) == (b[j].toNat : Int)) = true := by rw [he]; simp
            have hA := Lib.hid (lcs_eq hAt.out hjl he)
            clear he hAt
            go_wp2
            refine wp_region_later (by kernel_rfl) (by kernel_rfl) ?_
            repeat (go_big_quiet_step (fail))
            refine wpQuiet_nil ?_
            intro w2 hw2; have h2 := later_below hw2; clear hw2
            have hc_w2 := bcell h2; have hf_w2 := bfree h2
            have hz_w2_0 : g < w2.heap.size := by have hz_ := h2.size; (try simp at hz_); omega
            have hz_w2_1 : g2 < w2.heap.size := by have hz_ := h2.size; (try simp at hz_); omega
            go_wp2
            refine wp_region_later (by kernel_rfl) (by kernel_rfl) ?_
            repeat (go_big_quiet_step (fail))
            refine wpQuiet_nil ?_
            intro w3 hw2; have h3 := later_below hw2; clear hw2
            have hc_w3 := bcell h3; have hf_w3 := bfree h3
            have hz_w3_0 : g < w3.heap.size := by have hz_ := h3.size; (try simp at hz_); omega
            have hz_w3_1 : g2 < w3.heap.size := by have hz_ := h3.size; (try simp at hz_); omega
            have hown3 := own_below (own_below hown2 h2) h3
            have hz3 : wo.heap.size ≤ w3.heap.size := Nat.le_trans hb2.size (Nat.le_trans h2.size h3.size)
            go_wp2_with (at_builtin; refine wpList_append_own _ rfl _ _ 32 rfl wo.heap.size 2 i0 (.int .i64 0) 1 8 Tryd.underlying32 hi hz0 hz1 hz2 rfl (by decide) _ _ _ rfl (hown3.alloc _) ⟨w3.heap.size, 0, none⟩ 1 1 [.int .i64 (x0 + 1)] rfl rfl ?c1 ?c2 ?c3 ?c4 ?c5 ?_)
            case c1 => exact cell_one_new _ _ _
            case c2 => simp [Value.oneCell']
            case c3 => unfold maxLen; omega
            case c4 => omega
            case c5 => simp; omega
            intro v4 w4 hown4 hgrow _
            have HO : Hid (w4.ownsRow wo.heap.size 2 1 v4 (j + 1 + 1) ((lcsPart a[k] b.data.toList R (j + 1)).map (Value.int .i64))) := by rw [hA.out, List.map_append]; exact hown4
            have HB : Hid (Below wo.heap.size wo w4) := ((((hb2.trans (h2.mono hb2.size)).trans (h3.mono (Nat.le_trans hb2.size h2.size))).alloc hz3 _).grown hgrow (by simp; omega) (fun q hq => by simp [Value.ownBlock] at hq; omega))
            clear hown4 hgrow
            go_wp2
            go_roundw
            case rel => exact ⟨j + 1, by omega, by go_num, HO.out, HB.out⟩
            case measure => simp [intOf]; omega
          · have hq : ((a[k].toNat : Int) == (b[j].toNat : Int)) = false := by
              rw [beq_eq_false_iff_ne]
              intro e
              exact he (UInt8.toNat_inj.1 (by omega))
            have hA := Lib.hid (lcs_ne hAt.out hjl he)
            clear he hAt
            go_wp2
            refine wp_region_later (by kernel_rfl) (by kernel_rfl) ?_
            repeat (go_big_quiet_step (fail))
            refine wpQuiet_nil ?_
            intro w2 hw2; have h2 := later_below hw2; clear hw2
            have hc_w2 := bcell h2; have hf_w2 := bfree h2
            have hz_w2_0 : g < w2.heap.size := by have hz_ := h2.size; (try simp at hz_); omega
            have hz_w2_1 : g2 < w2.heap.size := by have hz_ := h2.size; (try simp at hz_); omega
            go_wp2
            refine wp_region_later (by kernel_rfl) (by kernel_rfl) ?_
            repeat (go_big_quiet_step (fail))
            refine wpQuiet_nil ?_
            intro w3 hw2; have h3 := later_below hw2; clear hw2
            have hc_w3 := bcell h3; have hf_w3 := bfree h3
            have hz_w3_0 : g < w3.heap.size := by have hz_ := h3.size; (try simp at hz_); omega
            have hz_w3_1 : g2 < w3.heap.size := by have hz_ := h3.size; (try simp at hz_); omega
            have hown3 := own_below (own_below hown2 h2) h3
            have hz3 : wo.heap.size ≤ w3.heap.size := Nat.le_trans hb2.size (Nat.le_trans h2.size h3.size)
            go_wp2_with (at_builtin; refine wpList_append_own _ rfl _ _ 32 rfl wo.heap.size 2 i0 (.int .i64 0) 1 8 Tryd.underlying32 hi hz0 hz1 hz2 rfl (by decide) _ _ _ rfl (hown3.alloc _) ⟨w3.heap.size, 0, none⟩ 1 1 [.int .i64 (max x1 y)] rfl rfl ?c1 ?c2 ?c3 ?c4 ?c5 ?_)
            case c1 => exact cell_one_new _ _ _
            case c2 => simp [Value.oneCell']
            case c3 => unfold maxLen; omega
            case c4 => omega
            case c5 => simp; omega
            intro v4 w4 hown4 hgrow _
            have HO : Hid (w4.ownsRow wo.heap.size 2 1 v4 (j + 1 + 1) ((lcsPart a[k] b.data.toList R (j + 1)).map (Value.int .i64))) := by rw [hA.out, List.map_append]; exact hown4
            have HB : Hid (Below wo.heap.size wo w4) := ((((hb2.trans (h2.mono hb2.size)).trans (h3.mono (Nat.le_trans hb2.size h2.size))).alloc hz3 _).grown hgrow (by simp; omega) (fun q hq => by simp [Value.ownBlock] at hq; omega))
            clear hown4 hgrow
            go_wp2
            go_roundw
            case rel => exact ⟨j + 1, by omega, by go_num, HO.out, HB.out⟩
            case measure => simp [intOf]; omega
        · have hjn : j = b.size := by omega
          have hO := own_base hown2 hb0.size
          rw [hjn, ← lcs_row b hlt HRE.out] at hO
          have HO := Lib.hid hO
          clear hO
          have HB := Lib.hid (hb0.trans (hb2.mono hb0.size))
          clear hown2
          go_wp2
          go_roundw
          case rel => exact ⟨k + 1, by omega, by go_num, HO.out, HB.out⟩
          case measure => simp [intOf]; omega
    · have hka : k = a.size := by omega
      obtain ⟨g, cap, rfl, hg0, hg1, hgc, hgm, hcell, _⟩ := own_int hown (by omega)
      have c0 := hcell b.size (by omega)
      have hgc' : (b.size : Int) < ((b.size + 1 : Nat) : Int) := by omega
      have HL := Lib.hid (show (lcsRow a.data.toList b.data.toList k).getD b.size 0 = lcs a.data.toList b.data.toList by unfold lcs; rw [hka]; rfl)
      generalize (lcsRow a.data.toList b.data.toList k).getD b.size 0 = x at *
      clear hcell hown
      go_wp2
      go_ret2
      exact ⟨by rw [HT.out, ← HL.out, h.out]; rfl, next k0 hb0⟩

set_option maxHeartbeats 800000 in
theorem Letters_impl (a b : ByteArray) (w : World) (ha : a.size ≤ maxLen) (hb : b.size ≤ maxLen) :
    Calls Tryd.prog 8 #[.string a, .string b] w fun e w' => e = .returned (.tuple #[.int .i64 (lcsVal a b), .int .i64 (twoCode a b)]) ∧ Below w.heap.size w w' := by
  have hall := two_all a b
  rcases two_cases a b with ⟨h, h1, h2⟩ | ⟨h, _⟩
  · have HT := Lib.hid (show lcsVal a b = lcs a.data.toList b.data.toList by unfold lcsVal; rw [h.out]; rfl)
    have HC := Lib.hid (two_words true a b w ha hb (by rw [hall, h.out]; rfl))
    have ha' := isWord_size h1
    have hb' := isWord_size h2
    clear h1 h2 hall
    go_enter Tryd.func8, Tryd.ntmps8
    go_wp2_with fail
    refine (HC.out).mono ?_
    rintro e_ w1 ⟨rfl, k1⟩
    have hc_w1 := bcell k1; have hf_w1 := bfree k1
    go_wp2_with fail
    refine (letters_impl a b _ ha' hb').mono ?_
    rintro e_ w2 ⟨rfl, k2⟩
    have hc_w2 := bcell k2; have hf_w2 := bfree k2
    go_wp2
    go_ret2
    exact ⟨by rw [HT.out, h.out]; rfl, next k1 k2⟩
  · have HT := Lib.hid (show lcsVal a b = 0 by unfold lcsVal; rw [h.out]; rfl)
    have HC := Lib.hid (two_words false a b w ha hb (by rw [hall, h.out]; rfl))
    clear hall
    go_enter Tryd.func8, Tryd.ntmps8
    go_wp2_with fail
    refine (HC.out).mono ?_
    rintro e_ w1 ⟨rfl, k1⟩
    have hc_w1 := bcell k1; have hf_w1 := bfree k1
    go_wp2
    go_ret2
    exact ⟨by rw [HT.out, h.out]; rfl, k1⟩
end Go.Proofs.YtjcmmfpnlfhldaaDoor
