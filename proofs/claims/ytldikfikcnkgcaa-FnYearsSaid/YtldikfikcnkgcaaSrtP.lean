/- slices.SortFunc at spans by their first years: what does not lean on the sort's contract. -/
import Derived.Shelf.SlSortCmp.InsertionK
import Derived.Sort.OwnSortedInts
import Derived.Test.YtldikfikcnkgcaaIterP
namespace Go.Proofs.Ytldikfikcnkgcaa
open Go.ChangeShapes Go.WideShapes Go.ChangeAt Go.RowKit Go.Sort
def cmp3 (a b : Int) : Int := if a < b then -1 else if b < a then 1 else 0
set_option maxHeartbeats 800000 in
theorem cmpCompareP_any (a b : Int) (w : World) : Calls Try.prog 58 #[.int .i64 a, .int .i64 b] w fun e w' => e = .returned (.int .i64 (cmp3 a b)) ∧ w' = w := by
  have hnan : ∀ (x : Int) (W : World), Calls Try.prog 70 #[.int .i64 x] W fun e W' => e = .returned (.bool false) ∧ W' = W := fun x W => by
    go_enter Try.func70, Try.ntmps70
    go_wp2
    go_ret
    exact ⟨rfl, rfl⟩
  by_cases h1 : a < b
  · have HF := Lib.hid (show cmp3 a b = -1 by unfold cmp3; rw [if_pos h1])
    go_enter Try.func58, Try.ntmps58
    go_wp2_with fail
    refine (hnan a _).mono ?_
    rintro e_ w1 ⟨rfl, rfl⟩
    go_wp2_with fail
    refine (hnan b _).mono ?_
    rintro e_ w2 ⟨rfl, rfl⟩
    go_wp2
    go_ret
    exact ⟨by rw [HF.out]; rfl, rfl⟩
  · by_cases h2 : b < a
    · have HF := Lib.hid (show cmp3 a b = 1 by unfold cmp3; rw [if_neg h1, if_pos h2])
      go_enter Try.func58, Try.ntmps58
      go_wp2_with fail
      refine (hnan a _).mono ?_
      rintro e_ w1 ⟨rfl, rfl⟩
      go_wp2_with fail
      refine (hnan b _).mono ?_
      rintro e_ w2 ⟨rfl, rfl⟩
      go_wp2
      go_ret
      exact ⟨by rw [HF.out]; rfl, rfl⟩
    · have HF := Lib.hid (show cmp3 a b = 0 by unfold cmp3; rw [if_neg h1, if_neg h2])
      go_enter Try.func58, Try.ntmps58
      go_wp2_with fail
      refine (hnan a _).mono ?_
      rintro e_ w1 ⟨rfl, rfl⟩
      go_wp2_with fail
      refine (hnan b _).mono ?_
      rintro e_ w2 ⟨rfl, rfl⟩
      go_wp2
      go_ret
      exact ⟨by rw [HF.out]; rfl, rfl⟩
def encSp (x : Sp) : List Value := [.int .i64 x.1, .int .i64 x.2]
set_option maxHeartbeats 1000000 in
theorem closP_any (x y : Sp) (W : World) : Calls Try.prog 57 #[.agg #[.int .i64 x.1, .int .i64 x.2], .agg #[.int .i64 y.1, .int .i64 y.2]] W fun e w' => e = .returned (.int .i64 (cmp3 x.1 y.1)) ∧ ∃ q os', w' = grow (W.drewN q) os' := by
  have hcon := fun W' => cmpCompareP_any x.1 y.1 W'
  generalize cmp3 x.1 y.1 = r at hcon ⊢
  go_enter Try.func57, Try.ntmps57
  go_wp2_with fail
  refine (hcon _).mono ?_
  rintro e w' ⟨rfl, rfl⟩
  go_wp2
  go_ret
  exact ⟨rfl, 0, _, by rw [alloc_eq_grow, alloc_eq_grow, grow_grow]; rfl⟩
theorem swoP : SWO (ltOf fun (x y : Sp) => cmp3 x.1 y.1) := by
  have e : ∀ x y : Sp, ltOf (fun (x y : Sp) => cmp3 x.1 y.1) x y = decide (x.1 < y.1) := fun x y => by
    unfold ltOf cmp3
    by_cases h : x.1 < y.1
    · simp [h]
    · by_cases h2 : y.1 < x.1
      · simp [h, h2]
      · simp [h, h2]
  refine ⟨fun x => by rw [e]; simp, fun x y z h1 h2 => ?_, fun x y z h1 h2 => ?_⟩
  · rw [e] at *
    have := of_decide_eq_true h1; have := of_decide_eq_true h2
    exact decide_eq_true (by omega)
  · rw [e] at *
    have := of_decide_eq_false h1; have := of_decide_eq_false h2
    exact decide_eq_false (by omega)
theorem ltP (x y : Sp) : ltOf (fun (x y : Sp) => cmp3 x.1 y.1) x y = false ↔ y.1 ≤ x.1 := by
  unfold ltOf cmp3
  by_cases h : x.1 < y.1
  · simp [h]
  · by_cases h2 : y.1 < x.1
    · simp [h, h2]; omega
    · simp [h, h2]; omega
theorem flatP_at (d : Array Sp) (j : Nat) (hj : j < d.size * 2) : (spanCells d.toList)[j]? = some (flatK encSp 2 d)[j]! := by
  rw [get_flatK encSp 2 d j hj]
  have hi : j / 2 < d.toList.length := by simp; omega
  obtain ⟨h0, h1⟩ := spanCells_at d.toList (j / 2) hi
  have hd : d[j / 2]! = d.toList[j / 2] := by rw [getElem!_pos d (j / 2) (by simpa using hi), Array.getElem_toList]
  have hg : d.toList.getD (j / 2) (0, 0) = d.toList[j / 2] := by rw [List.getD_eq_getElem?_getD, List.getElem?_eq_getElem hi]; rfl
  rw [hd]
  rw [hg] at h0 h1
  rcases Nat.mod_two_eq_zero_or_one j with h | h
  · rw [show j / 2 * 2 = j by omega] at h0
    rw [h0, h]
    rfl
  · rw [show j / 2 * 2 + 1 = j by omega] at h1
    rw [h1, h]
    rfl
theorem flatP_list (d : Array Sp) : (flatK encSp 2 d).toList = spanCells d.toList := by
  apply List.ext_getElem?
  intro j
  by_cases hj : j < d.size * 2
  · rw [flatP_at d j hj, Array.getElem?_toList, getElem!_pos (flatK encSp 2 d) j (by simpa using hj), Array.getElem?_eq_getElem (by simpa using hj)]
  · rw [List.getElem?_eq_none (by simp; omega), List.getElem?_eq_none (by rw [spanCells_len]; simp; omega)]
theorem heapSrt {w : World} {g m : Nat} {os : Array Obj} {cur F : Array Value} {e : TypeId} (hb : w.heap[g]? = some (.cells cur e (0, 0))) :
    (grow (putRow id (Sort.ahead w m) g 0 F) os).heap[g]? = some (.cells (putCells id 0 F cur) e (0, 0)) := by
  have hg : g < w.heap.size := (Array.getElem?_eq_some_iff.1 hb).1
  rw [heap_grow_old _ _ (by simpa using hg)]
  simp [putRow, mapBlock, Sort.ahead, Array.getElem?_modify, hb, onCells]
theorem grownSrt {w : World} {g m : Nat} {os : Array Obj} {F : Array Value} : w.grownBy (grow (putRow id (Sort.ahead w m) g 0 F) os) (some g) := by
  refine ⟨rfl, rfl, rfl, by simp, fun k hk hne => ?_⟩
  rw [heap_grow_old _ _ (by simpa using hk)]
  have : g ≠ k := fun e => hne (by rw [e])
  simp [putRow, mapBlock, Sort.ahead, Array.getElem?_modify, this]
theorem takeSrt (cur F : Array Value) (h : F.size ≤ cur.size) : (putCells id 0 F cur).toList.take F.size = F.toList := by
  apply List.ext_getElem?
  intro j
  by_cases hj : j < F.size
  · rw [List.getElem?_take_of_lt hj, Array.getElem?_toList]
    simp [putCells, hj, show j < cur.size by omega]
  · rw [List.getElem?_take_eq_none (by omega), List.getElem?_eq_none (by simp; omega)]
/-- behind the sort the slice owns the new order -/
theorem own_sortK {w : World} {base g cap n m : Nat} {e : TypeId} {os : Array Obj} {d : Array Sp} {zs : List Sp} (h : w.ownsRow base e 2 (.slice (some ⟨g, 0, none⟩) n cap) n (spanCells zs)) (hd : d.size = n) :
    (sortWorldK encSp 2 w g 0 m d os).ownsRow base e 2 (.slice (some ⟨g, 0, none⟩) n cap) n (spanCells d.toList) := by
  rcases h.2 with ⟨h0, _⟩ | ⟨g', cap', cur, h0, hbg, hg, hnc, hcm, hsz, ht⟩
  · cases h0
  · simp only [Value.slice.injEq, Option.some.injEq, Addr.mk.injEq, and_true, true_and] at h0
    obtain ⟨rfl, rfl⟩ := h0
    refine ⟨by rw [spanCells_len]; simp [hd], .inr ⟨g, cap, _, rfl, hbg, heapSrt hg, hnc, hcm, by simp [putCells, hsz], ?_⟩⟩
    have hF : (flatK encSp 2 d).size = n * 2 := by rw [size_flatK, hd]
    rw [← hF, takeSrt cur _ (by rw [hF, hsz]; omega), flatP_list]
theorem holdsSrt {w : World} {base g cap n : Nat} {e : TypeId} {d : Array Sp} (h : w.ownsRow base e 2 (.slice (some ⟨g, 0, none⟩) n cap) n (spanCells d.toList)) (hd : d.size = n) : HoldsK encSp 2 w g 0 d := by
  intro j hj
  have hj' : j < d.size * 2 := by simpa using hj
  have hc := h.cellAt j (by rw [← hd]; exact hj')
  rw [flatP_at d j hj'] at hc
  rw [Nat.zero_add]
  exact ⟨hc, h.frozenAt j⟩
end Go.Proofs.Ytldikfikcnkgcaa
