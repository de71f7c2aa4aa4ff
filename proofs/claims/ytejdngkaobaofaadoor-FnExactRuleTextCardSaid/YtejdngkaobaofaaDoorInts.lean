/- Slices of integers: opened, copied, compared, marked. -/
import Derived.Test.YtejdngkaobaofaaDoorOpen
import Derived.Test.YtejdngkaobaofaaDoorJoin
namespace Go.Proofs.YtejdngkaobaofaaDoor
open Go.ChangeShapes Go.WideShapes Go.ChangeAt Go.RowKit Go.Deep Go.Joins

/-- a slice of integers, as the list of them -/
def Ints (w : World) (A : Option Addr) (n c : Nat) (xs : List Int) : Prop := n = xs.length ∧ Reads w 1 A n c (xs.map (Value.int .i64))
theorem Ints.below {w w' : World} {A : Option Addr} {n c : Nat} {xs : List Int} (h : Ints w A n c xs) (hb : Below w.heap.size w w') : Ints w' A n c xs := ⟨h.1, h.2.below hb⟩
theorem Ints.at_ {w : World} {A : Option Addr} {n c : Nat} {xs : List Int} (h : Ints w A n c xs) (k : Nat) (hk : k < n) : ∃ b off, A = some ⟨b, off, none⟩ ∧ b < w.heap.size := by
  obtain ⟨b, off, e, hlt, _⟩ := h.2.at_ (by omega)
  exact ⟨b, off, e, hlt⟩
theorem Ints.el {w wr : World} {b off n c : Nat} {xs : List Int} (h : Ints w (some ⟨b, off, none⟩) n c xs) {B : Nat} (hb : Below B w wr) (hbl : b < B) (k : Nat) (hk : k < n) :
    ∃ s, Hid (xs[k]? = some s) ∧ wr.cell? ⟨b, off + k, none⟩ = some (.int .i64 s) := by
  obtain ⟨b', off', e, _, hc⟩ := h.2.at_ (by omega)
  injection e with e; injection e with e1 e2
  subst e1; subst e2
  have hl : k < xs.length := by rw [← h.1]; exact hk
  exact ⟨xs[k], List.getElem?_eq_getElem hl, (hb.cell (p := ⟨b, off + k, none⟩) hbl).trans (hc k _ (by simp [hl]))⟩
theorem own_ints {w : World} {base : Nat} {e : TypeId} {A : Option Addr} {n c : Nat} {xs : List Int} (h : w.ownsRow base e 1 (.slice A n c) n (xs.map (Value.int .i64))) : Ints w A n c xs :=
  ⟨by have := h.1; simpa using this.symm, Reads.of_own h⟩
theorem own_ints_ {w : World} {base : Nat} {e : TypeId} {v : Value} {n : Nat} {xs : List Int} (h : w.ownsRow base e 1 v n (xs.map (Value.int .i64))) : ∃ A c, v = .slice A n c ∧ Ints w A n c xs := by
  rcases h.2 with ⟨hv, hn⟩ | ⟨g, cap, cur, hv, _⟩
  · subst hv
    subst hn
    exact ⟨none, _, rfl, own_ints h⟩
  · subst hv
    exact ⟨_, _, rfl, own_ints h⟩
theorem open_ints_ {H : Type} {enc : TypeId × Value → H} {P : Program} {w : World} {base : Nat} {spare : Nat → Bool} {held : Bool}
    {t e : TypeId} {v : Value} {r : Reach} {b0 : Nat} {d : DataW H} {p : List MemPlace} (ht : P.underlying t = some (.slice e)) (he : P.underlying e = some (.int .i64)) (hC : P.cellsOf e = 1)
    (hv : Value.okWide P w r b0 t v) (h : DataW.Trod enc P w base spare held t v d p) :
    ∃ (A : Option Addr) (n c : Nat) (xs : List Int), v = .slice A n c ∧ Ints w A n c xs := by
  obtain ⟨A, n, c, el, fuel, rfl, hr, hl, he2⟩ := open_row ht hC (by omega) hv h
  have hex : ∀ i, ∃ s : Int, i < n → el i = [.int .i64 s] := fun i => by
    by_cases hlt : i < n
    · obtain ⟨y, hy⟩ := he2 i hlt
      obtain ⟨s, hs, _⟩ := DataW.trod_int he hy
      exact ⟨s, fun _ => hs⟩
    · exact ⟨0, fun h => absurd h hlt⟩
  obtain ⟨X, hX⟩ := Classical.axiomOfChoice hex
  refine ⟨A, n, c, (List.range n).map X, rfl, by simp, ?_⟩
  have : ((List.range n).map X).map (Value.int .i64) = (List.range n).flatMap el := by
    rw [congr_flat (g := fun i => [Value.int .i64 (X i)]) (fun i hi => hX i (by simpa using hi)), List.map_map, List.map_eq_flatMap]
    rfl
  rw [this]
  exact hr

set_option maxRecDepth 100000 in
set_option maxHeartbeats 1000000 in
theorem eqInts_any (A B : Option Addr) (n c m d : Nat) (xs ys : List Int) (w : World) (hx : Ints w A n c xs) (hy : Ints w B m d ys) :
    Calls Tryd.prog 18 #[.slice A n c, .slice B m d] w fun e w' => e = .returned (.bool (decide (xs = ys))) ∧ Below w.heap.size w w' := by
  have hcm := hx.2.cap
  have hnc := hx.2.le
  have hdm := hy.2.cap
  have hmd := hy.2.le
  have HX := Lib.hid hx.1
  have HY := Lib.hid hy.1
  unfold maxLen at hcm hdm
  by_cases hnm : n = m
  · subst hnm
    go_enter Tryd.func18, Tryd.ntmps18
    go_wp2
    go_loopw [5] (fun i wr => ∃ (k : Nat), k ≤ n ∧ i = .int .i64 k ∧ Hid (xs.take k = ys.take k) ∧ Below w.heap.size w wr) (fun i _ => n - (intOf i).toNat)
    case atStart => exact ⟨0, Nat.zero_le _, rfl, rfl, Below.refl _ _⟩
    case round =>
      obtain ⟨k, hk, rfl, hq, hb⟩ := hrel
      by_cases hlt : k < n
      · obtain ⟨b, off, rfl, hbl⟩ := hx.at_ k hlt
        obtain ⟨s, hs, c0⟩ := hx.el hb hbl k hlt
        obtain ⟨b2, off2, rfl, hbl2⟩ := hy.at_ k hlt
        obtain ⟨t, ht, c1⟩ := hy.el hb hbl2 k hlt
        by_cases hst : s = t
        · have HQ := Lib.hid (show xs.take (k + 1) = ys.take (k + 1) by rw [List.take_add_one, List.take_add_one, hq.out, hs.out, ht.out, hst])
          have hbw : b < wr.heap.size := Nat.lt_of_lt_of_le hbl hb.size
          have hbw2 : b2 < wr.heap.size := Nat.lt_of_lt_of_le hbl2 hb.size
          subst hst
          have hq0 : (s != s) = false := by simp
          have hj0 : (0 : Int) ≤ (k : Int) := Int.natCast_nonneg _
          have hj1 : (k : Int) < (n : Int) := by omega
          go_wp2
          refine wp_region_later (by kernel_rfl) (by kernel_rfl) ?_
          repeat (go_big_quiet_step (fail))
          refine wpQuiet_nil ?_
          intro w2 hw2; have h2 := later_below hw2; clear hw2
          go_wp2
          go_roundw
          case rel => exact ⟨k + 1, by omega, by go_num, HQ, next hb h2⟩
          case measure => simp [intOf]; omega
        · have hne : (s != t) = true := by simpa using hst
          have HF := Lib.hid (show decide (xs = ys) = false by
            rw [decide_eq_false_iff_not]
            intro e
            have h1 := hs.out
            rw [e, ht.out] at h1
            exact hst (Option.some.inj h1).symm)
          clear hst
          have hbw : b < wr.heap.size := Nat.lt_of_lt_of_le hbl hb.size
          have hbw2 : b2 < wr.heap.size := Nat.lt_of_lt_of_le hbl2 hb.size
          have hj0 : (0 : Int) ≤ (k : Int) := Int.natCast_nonneg _
          have hj1 : (k : Int) < (n : Int) := by omega
          go_wp2
          refine wp_region_later (by kernel_rfl) (by kernel_rfl) ?_
          repeat (go_big_quiet_step (fail))
          refine wpQuiet_nil ?_
          intro w2 hw2; have h2 := later_below hw2; clear hw2
          go_wp2
          go_ret
          exact ⟨by rw [HF.out]; rfl, next hb h2⟩
      · have HT := Lib.hid (show decide (xs = ys) = true by
          have := hq.out
          rw [List.take_of_length_le (by have := HX.out; omega), List.take_of_length_le (by have := HY.out; omega)] at this
          exact decide_eq_true this)
        clear hq
        go_wp2
        go_ret
        exact ⟨by rw [HT.out]; rfl, hb⟩
  · have HF := Lib.hid (show decide (xs = ys) = false by
      rw [decide_eq_false_iff_not]
      intro e
      exact hnm (by rw [HX.out, HY.out, e]))
    go_enter Tryd.func18, Tryd.ntmps18
    go_wp2
    go_ret
    exact ⟨by rw [HF.out]; rfl, Below.refl _ _⟩


set_option maxRecDepth 100000 in
set_option maxHeartbeats 1000000 in
theorem toInts_any (A : Option Addr) (n c : Nat) (xs : List Int) (w : World) (hx : Ints w A n c xs) (hn : n ≤ 1048576) :
    Calls Tryd.prog 15 #[.slice A n c] w fun e w' => e = .returned (.slice (some ⟨w.heap.size, 0, none⟩) n n) ∧ w'.ownsRow w.heap.size 2 1 (.slice (some ⟨w.heap.size, 0, none⟩) n n) n (xs.map (Value.int .i64)) ∧ Below w.heap.size w w' := by
  have hcm := hx.2.cap
  have hnc := hx.2.le
  have HX := Lib.hid hx.1
  unfold maxLen at hcm
  obtain ⟨i0, hi, hz0, hz1, hz2⟩ := info_parts infoInt
  have hmk := fun W => run_make_rowN (P := Tryd.prog) 22 2 i0 _ Tryd.underlying22 hi hz0 .i64 .i64 n n (Nat.le_refl _) (by rw [hz2]; omega) (by omega) W
  go_enter Tryd.func15, Tryd.ntmps15
  go_wp2
  go_loopw [4] (fun i wr => ∃ (k : Nat) (ys : List Value), k ≤ n ∧ i = .int .i64 k ∧ Hid (ys.take k = (xs.map (Value.int .i64)).take k) ∧
      wr.ownsRow w.heap.size 2 1 (.slice (some ⟨w.heap.size, 0, none⟩) n n) n ys ∧ Below w.heap.size w wr) (fun i _ => n - (intOf i).toNat)
  case atStart => exact ⟨0, (madeCells #[.int .i64 0] n).toList, Nat.zero_le _, rfl, rfl, World.ownsRow_lit w _ n (Nat.le_refl _) (by unfold maxLen; omega) (by rw [size_madeCells]; omega), (Below.refl _ _).alloc (Nat.le_refl _) _⟩
  case round =>
    obtain ⟨k, ys, hk, rfl, hys, hown, hb⟩ := hrel
    by_cases hlt : k < n
    · obtain ⟨b, off, rfl, hbl⟩ := hx.at_ k hlt
      obtain ⟨s, hs, c0⟩ := hx.el hb hbl k hlt
      have hyl := hown.1
      have d0 := hown.cellAt k (by omega)
      rw [List.getElem?_eq_getElem (by omega)] at d0
      have e0 := hown.frozenAt k
      generalize ys[k] = u0 at d0
      have HS := Lib.hid (hown.stored k (.int .i64 s)).1
      have HY := Lib.hid (take_set1 ys (xs.map (Value.int .i64)) k (.int .i64 s) hys.out (by rw [List.length_map, ← HX.out]; omega) (by rw [List.getElem?_map, hs.out]; rfl))
      clear hys hown
      go_wp2
      go_roundw
      case rel => exact ⟨k + 1, _, by omega, by go_num, HY, HS.out, hb.setCell (Nat.le_refl _) _⟩
      case measure => simp [intOf]; omega
    · have hyl := hown.1
      have hys' : ys = xs.map (Value.int .i64) := by
        have := hys.out
        rw [List.take_of_length_le (by omega), List.take_of_length_le (by rw [List.length_map, ← HX.out]; omega)] at this
        exact this
      rw [hys'] at hown
      have HO := Lib.hid hown
      clear hys hys' hyl hown
      go_wp2
      go_ret
      exact ⟨rfl, HO.out, hb⟩


/-- marks of integers -/
def imarks (k n : Nat) : List Int := (List.range n).map fun i => ((k + i : Nat) : Int)
theorem imarks_len (k n : Nat) : (imarks k n).length = n := by simp [imarks]
theorem imarks_at (k n i : Nat) (h : i < n) : (imarks k n)[i]? = some ((k + i : Nat) : Int) := by
  unfold imarks
  rw [List.getElem?_map, List.getElem?_range h]; rfl

end Go.Proofs.YtejdngkaobaofaaDoor
