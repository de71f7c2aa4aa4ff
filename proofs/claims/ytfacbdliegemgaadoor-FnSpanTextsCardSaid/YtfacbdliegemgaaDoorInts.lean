/- Slices of integers: opened, copied, compared, marked. -/
import Derived.Test.YtfacbdliegemgaaDoorOpen
import Derived.Test.YtfacbdliegemgaaDoorJoin
namespace Go.Proofs.YtfacbdliegemgaaDoor
open Go.ChangeShapes Go.WideShapes Go.ChangeAt Go.RowKit Go.Deep Go.Joins

/-- a slice of integers, as the list of them -/
def Ints (w : World) (A : Option Addr) (n c : Nat) (xs : List Int) : Prop := n = xs.length ∧ Reads w 1 A n c (xs.map (Value.int .i64))
theorem Ints.below {w w' : World} {A : Option Addr} {n c : Nat} {xs : List Int} (h : Ints w A n c xs) (hb : Below w.heap.size w w') : Ints w' A n c xs := ⟨h.1, h.2.below hb⟩
theorem Ints.at_ {w : World} {A : Option Addr} {n c : Nat} {xs : List Int} (h : Ints w A n c xs) (k : Nat) (hk : k < n) : ∃ b off, A = some ⟨b, off, none⟩ ∧ b < w.heap.size := by
  obtain ⟨b, off, e, hlt, _⟩ := h.2.at_ (by omega)
  exact ⟨b, off, e, hlt⟩
theorem Ints.el {w wr : World} {b off n c : Nat} {xs : List Int} (h : Ints w (some ⟨b, off, none⟩) n c xs) {B : Nat} (hb : Below B w wr) (hbl : b < B) (k : Nat) (hk : k < n) :
    ∃ s, Hid (xs[k]? = some s) ∧ wr.cell? ⟨b, off + k, none⟩ = some (.int .i64 s) := by
  obtain ⟨b', off', e, _, hc⟩ := h.2.at_ (by omega)
  injection e with e; injection e with e1 e2
  subst e1; subst e2
  have hl : k < xs.length := by rw [← h.1]; exact hk
  exact ⟨xs[k], List.getElem?_eq_getElem hl, (hb.cell (p := ⟨b, off + k, none⟩) hbl).trans (hc k _ (by simp [hl]))⟩
theorem own_ints {w : World} {base : Nat} {e : TypeId} {A : Option Addr} {n c : Nat} {xs : List Int} (h : w.ownsRow base e 1 (.slice A n c) n (xs.map (Value.int .i64))) : Ints w A n c xs :=
  ⟨by have := h.1; simpa using this.symm, Reads.of_own h⟩
theorem own_ints_ {w : World} {base : Nat} {e : TypeId} {v : Value} {n : Nat} {xs : List Int} (h : w.ownsRow base e 1 v n (xs.map (Value.int .i64))) : ∃ A c, v = .slice A n c ∧ Ints w A n c xs := by
  rcases h.2 with ⟨hv, hn⟩ | ⟨g, cap, cur, hv, _⟩
  · subst hv
    subst hn
    exact ⟨none, _, rfl, own_ints h⟩
  · subst hv
    exact ⟨_, _, rfl, own_ints h⟩
theorem open_ints_ {H : Type} {enc : TypeId × Value → H} {P : Program} {w : World} {base : Nat} {spare : Nat → Bool} {held : Bool}
    {t e : TypeId} {v : Value} {r : Reach} {b0 : Nat} {d : DataW H} {p : List MemPlace} (ht : P.underlying t = some (.slice e)) (he : P.underlying e = some (.int .i64)) (hC : P.cellsOf e = 1)
    (hv : Value.okWide P w r b0 t v) (h : DataW.Trod enc P w base spare held t v d p) :
    ∃ (A : Option Addr) (n c : Nat) (xs : List Int), v = .slice A n c ∧ Ints w A n c xs := by
  obtain ⟨A, n, c, el, fuel, rfl, hr, hl, he2⟩ := open_row ht hC (by omega) hv h
  have hex : ∀ i, ∃ s : Int, i < n → el i = [.int .i64 s] := fun i => by
    by_cases hlt : i < n
    · obtain ⟨y, hy⟩ := he2 i hlt
      obtain ⟨s, hs, _⟩ := DataW.trod_int he hy
      exact ⟨s, fun _ => hs⟩
    · exact ⟨0, fun h => absurd h hlt⟩
  obtain ⟨X, hX⟩ := Classical.axiomOfChoice hex
  refine ⟨A, n, c, (List.range n).map X, rfl, by simp, ?_⟩
  have : ((List.range n).map X).map (Value.int .i64) = (List.range n).flatMap el := by
    rw [congr_flat (g := fun i => [Value.int .i64 (X i)]) (fun i hi => hX i (by simpa using hi)), List.map_map, List.map_eq_flatMap]
    rfl
  rw [this]
  exact hr

set_option maxRecDepth 100000 in
set_option maxHeartbeats 1000000 in
theorem eqInts_any (A B : Option Addr) (n c m d : Nat) (xs ys : List Int) (w : World) (hx : Ints w A n c xs) (hy : Ints w B m d ys) :
    Calls Tryd.prog 15 #[.slice A n c, .slice B m d] w fun e w' => e = .returned (.bool (decide (xs = ys))) ∧ Below w.heap.size w w' := by
  have hcm := hx.2.cap
  have hnc := hx.2.le
  have hdm := hy.2.cap
  have hmd := hy.2.le
  have HX := Lib.hid hx.1
  have HY := Lib.hid hy.1
  unfold maxLen at hcm hdm
  by_cases hnm : n = m
  · subst hnm
    go_enter Tryd.func15, Tryd.ntmps15
    go_wp2
    go_loopw [5] (fun i wr => ∃ (k : Nat), k ≤ n ∧ i = .int .i64 k ∧ Hid (xs.take k = ys.take k) ∧ Below w.heap.size w wr) (fun i _ => n - (intOf i).toNat)
    case atStart => exact ⟨0, Nat.zero_le _, rfl, rfl, Below.refl _ _⟩
    case round =>
      obtain ⟨k, hk, rfl, hq, hb⟩ := hrel
      by_cases hlt : k < n
      · obtain ⟨b, off, rfl, hbl⟩ := hx.at_ k hlt
        obtain ⟨s, hs, c0⟩ := hx.el hb hbl k hlt
        obtain ⟨b2, off2, rfl, hbl2⟩ := hy.at_ k hlt
        obtain ⟨t, ht, c1⟩ := hy.el hb hbl2 k hlt
        by_cases hst : s = t
        · have HQ := Lib.hid (show xs.take (k + 1) = ys.take (k + 1) by rw [List.take_add_one, List.take_add_one, hq.out, hs.out, ht.out, hst])
          have hbw : b < wr.heap.size := Nat.lt_of_lt_of_le hbl hb.size
          have hbw2 : b2 < wr.heap.size := Nat.lt_of_lt_of_le hbl2 hb.size
          subst hst
          have hq0 : (s != s) = false := by simp
          have hj0 : (0 : Int) ≤ (k : Int) := Int.natCast_nonneg _
          have hj1 : (k : Int) < (n : Int) := by omega
          go_wp2
          refine wp_region_later (by kernel_rfl) (by kernel_rfl) ?_
          repeat (go_big_quiet_step (fail))
          refine wpQuiet_nil ?_
          intro w2 hw2; have h2 := later_below hw2; clear hw2
          go_wp2
          go_roundw
          case rel => exact ⟨k + 1, by omega, by go_num, HQ, next hb h2⟩
          case measure => simp [intOf]; omega
        · have hne : (s != t) = true := by simpa using hst
          have HF := Lib.hid (show decide (xs = ys) = false by
            rw [decide_eq_false_iff_not]
            intro e
            have h1 := hs.out
            rw [e, ht.out] at h1
            exact hst (Option.some.inj h1).symm)
          clear hst
          have hbw : b < wr.heap.size := Nat.lt_of_lt_of_le hbl hb.size
          have hbw2 : b2 < wr.heap.size := Nat.lt_of_lt_of_le hbl2 hb.size
          have hj0 : (0 : Int) ≤ (k : Int) := Int.natCast_nonneg _
          have hj1 : (k : Int) < (n : Int) := by omega
          go_wp2
          refine wp_region_later (by kernel_rfl) (by kernel_rfl) ?_
          repeat (go_big_quiet_step (fail))
          refine wpQuiet_nil ?_
          intro w2 hw2; have h2 := later_below hw2; clear hw2
          go_wp2
          go_ret
          exact ⟨by rw [HF.out]; rfl, next hb h2⟩
      · have HT := Lib.hid (show decide (xs = ys) = true by
          have := hq.out
          rw [List.take_of_length_le (by have := HX.out; omega), List.take_of_length_le (by have := HY.out; omega)] at this
          exact decide_eq_true this)
        clear hq
        go_wp2
        go_ret
        exact ⟨by rw [HT.out]; rfl, hb⟩
  · have HF := Lib.hid (show decide (xs = ys) = false by
      rw [decide_eq_false_iff_not]
      intro e
      exact hnm (by rw [HX.out, HY.out, e]))
    go_enter Tryd.func15, Tryd.ntmps15
    go_wp2
    go_ret
    exact ⟨by rw [HF.out]; rfl, Below.refl _ _⟩


/-- marks of integers -/
def imarks (k n : Nat) : List Int := (List.range n).map fun i => ((k + i : Nat) : Int)
theorem imarks_len (k n : Nat) : (imarks k n).length = n := by simp [imarks]
theorem imarks_at (k n i : Nat) (h : i < n) : (imarks k n)[i]? = some ((k + i : Nat) : Int) := by
  unfold imarks
  rw [List.getElem?_map, List.getElem?_range h]; rfl

set_option maxRecDepth 100000 in
set_option maxHeartbeats 1000000 in
theorem markInts_any (base k n : Nat) (v : Value) (xs : List Int) (w : World) (hown : w.ownsRow base 2 1 v n (xs.map (Value.int .i64))) (hk : 0 < k) (hm : k + n ≤ 1000000000000) (hbase : base ≤ w.heap.size) :
    Calls Tryd.prog 16 #[v, .int .i64 k] w fun e w' => e = .returned (.int .i64 (k + n : Nat)) ∧ w'.ownsRow base 2 1 v n ((imarks k n).map (Value.int .i64)) ∧ Below base w w' := by
  have hxl : xs.length = n := by have := hown.1; simpa using this
  have hform : ∃ A c, v = .slice A n c ∧ n ≤ c ∧ c ≤ maxLen ∧ (0 < n → ∃ g, A = some ⟨g, 0, none⟩ ∧ base ≤ g ∧ g < w.heap.size) := by
    rcases hown.2 with ⟨hv, hn⟩ | ⟨g, cap, cur, hv, hb, hg, hnc, hcm, _⟩
    · subst hv
      exact ⟨none, 0, by rw [hn], by omega, by unfold maxLen; omega, fun h => by omega⟩
    · subst hv
      exact ⟨_, _, rfl, hnc, hcm, fun _ => ⟨g, rfl, (hown.lt g rfl)⟩⟩
  obtain ⟨A, c, rfl, hnc, hcm, hA⟩ := hform
  unfold maxLen at hcm
  go_enter Tryd.func16, Tryd.ntmps16
  go_wp2
  go_loopw [1, 5] (fun q i wr => ∃ (j : Nat) (ys : List Int), j ≤ n ∧ i = .int .i64 j ∧ q = .int .i64 (k + j : Nat) ∧ Hid (ys.take j = (imarks k n).take j) ∧ Hid (wr.ownsRow base 2 1 (.slice A n c) n (ys.map (Value.int .i64))) ∧ Below base w wr) (fun _ i _ => n - (intOf i).toNat)
  case atStart => exact ⟨0, xs, Nat.zero_le _, rfl, by simp, rfl, hown, Below.refl _ _⟩
  case round =>
    clear hown
    obtain ⟨j, ys, hj, rfl, rfl, hys, ho, hb⟩ := hrel
    have hyl : ys.length = n := by have := ho.out.1; simpa using this
    by_cases hlt : j < n
    · obtain ⟨g, rfl, hg1, hg2⟩ := hA (by omega)
      have hown2 := ho.out
      have d0 := hown2.cellAt j (by omega)
      rw [List.getElem?_map, List.getElem?_eq_getElem (by omega)] at d0
      have f0 := hown2.frozenAt j
      have hst := (hown2.stored j (.int .i64 (k + j : Nat))).1
      rw [← List.map_set] at hst
      have HST := Lib.hid hst
      have HY := Lib.hid (take_set1 ys (imarks k n) j ((k + j : Nat) : Int) hys.out (by rw [hyl, imarks_len]) (imarks_at k n j hlt))
      simp only [Option.map_some] at d0
      clear hst hys hown2 ho
      generalize ys[j] = u0 at d0
      go_wp2
      go_roundw
      case rel => exact ⟨j + 1, _, by omega, by go_num, by go_num, HY.out, HST, hb.setCell hg1 _⟩
      case measure => simp [intOf]; omega
    · obtain rfl : j = n := by omega
      have hE : ys = imarks k j := by
        have := hys.out
        rw [List.take_of_length_le (by omega), List.take_of_length_le (by rw [imarks_len]; omega)] at this
        exact this
      rw [hE] at ho
      clear hE hys
      go_wp2
      go_ret
      exact ⟨rfl, ho.out, hb⟩

set_option maxRecDepth 100000 in
set_option maxHeartbeats 1000000 in
theorem heldInts_any (k n c : Nat) (A : Option Addr) (w : World) (hx : Ints w A n c (imarks k n)) (hk : 0 < k) (hm : k + n ≤ 1000000000000) :
    Calls Tryd.prog 17 #[.slice A n c, .int .i64 k] w fun e w' => e = .returned (.int .i64 (k + n : Nat)) ∧ Below w.heap.size w w' := by
  have hcm := hx.2.cap
  have hnc := hx.2.le
  unfold maxLen at hcm
  go_enter Tryd.func17, Tryd.ntmps17
  go_wp2
  go_loopw [1, 5] (fun q i wr => ∃ (j : Nat), j ≤ n ∧ i = .int .i64 j ∧ q = .int .i64 (k + j : Nat) ∧ Below w.heap.size w wr) (fun _ i _ => n - (intOf i).toNat)
  case atStart => exact ⟨0, Nat.zero_le _, rfl, by simp, Below.refl _ _⟩
  case round =>
    obtain ⟨j, hj, rfl, rfl, hb⟩ := hrel
    by_cases hlt : j < n
    · obtain ⟨b, off, rfl, hbl⟩ := hx.at_ j hlt
      obtain ⟨t, ht, c0⟩ := hx.el hb hbl j hlt
      have e : t = ((k + j : Nat) : Int) := by have := ht.out; rw [imarks_at k n j hlt] at this; exact (Option.some.inj this).symm
      subst e
      have hq0 : (((k + j : Nat) : Int) != ((k + j : Nat) : Int)) = false := by simp
      have hbw : b < wr.heap.size := Nat.lt_of_lt_of_le hbl hb.size
      have hj0 : (0 : Int) ≤ (j : Int) := Int.natCast_nonneg _
      have hj1 : (j : Int) < (n : Int) := by omega
      go_wp2
      go_roundw
      case rel => exact ⟨j + 1, by omega, by go_num, by go_num, hb⟩
      case measure => simp [intOf]; omega
    · obtain rfl : j = n := by omega
      go_wp2
      go_ret
      exact ⟨rfl, hb⟩


end Go.Proofs.YtfacbdliegemgaaDoor
