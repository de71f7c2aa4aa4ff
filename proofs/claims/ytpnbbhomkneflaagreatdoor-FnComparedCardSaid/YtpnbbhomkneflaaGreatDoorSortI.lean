/- Sorted lists of phrases: listSorter, slices.IsSortedFunc, l06Sorted, AreSorted. -/
import Derived.Test.YtpnbbhomkneflaaGreatDoorSortH
namespace Go.Proofs.YtpnbbhomkneflaaGreatDoor
open Go.ChangeShapes Go.WideShapes Go.ChangeAt Go.RowKit
set_option maxRecDepth 100000 in
set_option maxHeartbeats 4000000 in
theorem listSorter_any (A B C : Option Addr) (n c m d q f : Nat) (xs : List ByteArray) (ig : List Int) (ps : List ByteArray) (w : World) (hx : Strs w A n c xs) (hy : Ints w B m d ig) (hp : Strs w C q f ps) (hs : ∀ s ∈ ps, s.size ≤ 1048576) (hm : MaxCell w) :
    Calls Tryz.prog 36 #[.slice A n c, .slice B m d, .slice C q f] w fun e w' => ∃ A' n' c' B' m' d', e = .returned (.tuple #[.agg #[.slice A' n' c', .slice B' m' d'], .int .i64 (l6Code xs ig ps)]) ∧ (l6Code xs ig ps = 0 → A' = A ∧ n' = n ∧ c' = c ∧ B' = B ∧ m' = m ∧ d' = d) ∧ Below w.heap.size w w' := by
  have hqm := hp.2.1.cap
  have hqf := hp.2.1.le
  unfold maxLen at hqm
  have HPL := Lib.hid hp.1
  have b0 := boxO w (.cells #[.slice none 0 0, .slice none 0 0] 45)
  have h1 := newSorter_any A B C n c m d q f xs ig ps _ (hx.below b0) (hy.below b0) (hp.below b0) hs (hm.below b0)
  have p0 : (w.alloc (.cells #[.slice none 0 0, .slice none 0 0] 45)).cell? ⟨w.heap.size, 0, none⟩ = some (.slice none 0 0) := by simp
  have p1 : (w.alloc (.cells #[.slice none 0 0, .slice none 0 0] 45)).cell? ⟨w.heap.size, 1, none⟩ = some (.slice none 0 0) := by simp
  have g0 : (w.alloc (.cells #[.slice none 0 0, .slice none 0 0] 45)).frozen? ⟨w.heap.size, 0, none⟩ = false := by simp
  have g1 : (w.alloc (.cells #[.slice none 0 0, .slice none 0 0] 45)).frozen? ⟨w.heap.size, 1, none⟩ = false := by simp
  have hzb : w.heap.size < (w.alloc (.cells #[.slice none 0 0, .slice none 0 0] 45)).heap.size := by simp
  obtain ⟨k, hk⟩ : ∃ k, nsCode xs ig ps = k := ⟨_, rfl⟩
  rw [hk] at h1
  have HK := Lib.hid hk
  by_cases h0 : k = 0
  · subst h0
    by_cases h20 : 20 < q
    · have HF := Lib.hid (show l6Code xs ig ps = 3 by unfold l6Code; rw [hk, if_pos rfl, ← HPL.out, if_pos h20])
      clear hk
      go_enter Tryz.func36, Tryz.ntmps36
      go_wp2_with fail
      refine h1.mono ?_
      rintro e_ w1 ⟨A', n', c', B', m', d', rfl, hv, k1⟩
      have b1 := boxO w1 (.cells #[.slice A' n' c', .slice B' m' d'] 45)
      have x0 := cell_keep b1 (cell_keep k1 p0)
      have x1 := cell_keep b1 (cell_keep k1 p1)
      have f0 : (w1.alloc (.cells #[.slice A' n' c', .slice B' m' d'] 45)).frozen? ⟨w.heap.size, 0, none⟩ = false := (bfree b1 _ _ (Nat.lt_of_lt_of_le hzb k1.size)).trans ((bfree k1 _ _ hzb).trans g0)
      have f1 : (w1.alloc (.cells #[.slice A' n' c', .slice B' m' d'] 45)).frozen? ⟨w.heap.size, 1, none⟩ = false := (bfree b1 _ _ (Nat.lt_of_lt_of_le hzb k1.size)).trans ((bfree k1 _ _ hzb).trans g1)
      have HB := Lib.hid (next (next b0 k1) b1)
      clear h1 k1 b1 hv p0 p1 g0 g1
      go_wp2
      refine bodyPost_ret (v := .tuple #[.agg #[.slice none 0 0, .slice none 0 0], .int .i64 3]) (by simp [results, Tryz.results36, go_sem, x0, x1, f0, f1]) rfl ⟨_, _, _, _, _, _, by rw [HF.out], by rw [HF.out]; intro h; exact absurd h (by decide), ?_⟩
      exact ((HB.out).setCell (Nat.le_refl _) _).setCell (Nat.le_refl _) _
    · have HF := Lib.hid (show l6Code xs ig ps = 0 by unfold l6Code; rw [hk, if_pos rfl, ← HPL.out, if_neg h20])
      clear hk
      go_enter Tryz.func36, Tryz.ntmps36
      go_wp2_with fail
      refine h1.mono ?_
      rintro e_ w1 ⟨A', n', c', B', m', d', rfl, hv, k1⟩
      obtain ⟨rfl, rfl, rfl, rfl, rfl, rfl⟩ := hv trivial
      have b1 := boxO w1 (.cells #[.slice A' n' c', .slice B' m' d'] 45)
      have x0 := cell_keep b1 (cell_keep k1 p0)
      have x1 := cell_keep b1 (cell_keep k1 p1)
      have f0 : (w1.alloc (.cells #[.slice A' n' c', .slice B' m' d'] 45)).frozen? ⟨w.heap.size, 0, none⟩ = false := (bfree b1 _ _ (Nat.lt_of_lt_of_le hzb k1.size)).trans ((bfree k1 _ _ hzb).trans g0)
      have f1 : (w1.alloc (.cells #[.slice A' n' c', .slice B' m' d'] 45)).frozen? ⟨w.heap.size, 1, none⟩ = false := (bfree b1 _ _ (Nat.lt_of_lt_of_le hzb k1.size)).trans ((bfree k1 _ _ hzb).trans g1)
      have HB := Lib.hid (next (next b0 k1) b1)
      clear h1 k1 b1 hv p0 p1 g0 g1
      go_wp2
      refine bodyPost_ret (v := .tuple #[.agg #[.slice A' n' c', .slice B' m' d'], .int .i64 0]) (by simp [results, Tryz.results36, go_sem, x0, x1, f0, f1]) rfl ⟨_, _, _, _, _, _, by rw [HF.out], fun _ => ⟨rfl, rfl, rfl, rfl, rfl, rfl⟩, ?_⟩
      exact ((HB.out).setCell (Nat.le_refl _) _).setCell (Nat.le_refl _) _
  · have HF := Lib.hid (l6_bad hk h0)
    have hne : (k == 0) = false := beq_eq_false_iff_ne.2 h0
    clear hk
    go_enter Tryz.func36, Tryz.ntmps36
    go_wp2_with fail
    refine h1.mono ?_
    rintro e_ w1 ⟨A', n', c', B', m', d', rfl, hv, k1⟩
    have b1 := boxO w1 (.cells #[.slice A' n' c', .slice B' m' d'] 45)
    have x0 := cell_keep b1 (cell_keep k1 p0)
    have x1 := cell_keep b1 (cell_keep k1 p1)
    have f0 : (w1.alloc (.cells #[.slice A' n' c', .slice B' m' d'] 45)).frozen? ⟨w.heap.size, 0, none⟩ = false := (bfree b1 _ _ (Nat.lt_of_lt_of_le hzb k1.size)).trans ((bfree k1 _ _ hzb).trans g0)
    have f1 : (w1.alloc (.cells #[.slice A' n' c', .slice B' m' d'] 45)).frozen? ⟨w.heap.size, 1, none⟩ = false := (bfree b1 _ _ (Nat.lt_of_lt_of_le hzb k1.size)).trans ((bfree k1 _ _ hzb).trans g1)
    have HB := Lib.hid (next (next b0 k1) b1)
    clear h1 k1 b1 hv p0 p1 g0 g1
    go_wp2
    refine bodyPost_ret (v := .tuple #[.agg #[.slice A' n' c', .slice B' m' d'], .int .i64 k]) (by simp [results, Tryz.results36, go_sem, x0, x1, f0, f1]) rfl ⟨_, _, _, _, _, _, by rw [HF.out], by rw [HF.out]; intro h; exact absurd h h0, ?_⟩
    exact ((HB.out).setCell (Nat.le_refl _) _).setCell (Nat.le_refl _) _
/-! ## sorted lists -/
def cAt (xs : List ByteArray) (ig : List Int) (ps : List ByteArray) (i : Nat) : Int := cmpP xs ig (ps.getD (i - 1) ⟨#[]⟩) (ps.getD i ⟨#[]⟩)
def sortedP (xs : List ByteArray) (ig : List Int) (ps : List ByteArray) : Bool := (List.range ps.length).all fun i => i == 0 || !decide (0 < cAt xs ig ps i)
theorem sorted_no {xs : List ByteArray} {ig : List Int} {ps : List ByteArray} {i : Nat} (h1 : 1 ≤ i) (h2 : i < ps.length) (h : 0 < cAt xs ig ps i) : sortedP xs ig ps = false := by
  unfold sortedP
  rw [List.all_eq_false]
  refine ⟨i, List.mem_range.2 h2, ?_⟩
  rw [decide_eq_true h]
  simp
  omega
theorem sorted_yes {xs : List ByteArray} {ig : List Int} {ps : List ByteArray} (h : ∀ i, 1 ≤ i → i < ps.length → ¬ 0 < cAt xs ig ps i) : sortedP xs ig ps = true := by
  unfold sortedP
  rw [List.all_eq_true]
  intro i hi
  rcases Nat.eq_zero_or_pos i with h0 | h0
  · subst h0; rfl
  · rw [decide_eq_false (h i h0 (List.mem_range.1 hi))]
    simp
theorem cAt_is {xs : List ByteArray} {ig : List Int} {ps : List ByteArray} {i : Nat} {s t : ByteArray} (hs : ps[i - 1]? = some s) (ht : ps[i]? = some t) : cAt xs ig ps i = cmpP xs ig s t := by
  unfold cAt
  rw [List.getD_eq_getElem?_getD, List.getD_eq_getElem?_getD, hs, ht]
  rfl
set_option maxRecDepth 100000 in
set_option maxHeartbeats 2000000 in
theorem l06Sorted_any (A B C : Option Addr) (n c m d q f : Nat) (xs : List ByteArray) (ig : List Int) (ps : List ByteArray) (w : World) (hx : Strs w A n c xs) (hy : Ints w B m d ig) (hp : Strs w C q f ps) (ha : isAlpha xs = true) (hs : ∀ s ∈ ps, s.size ≤ 1048576) (hph : ps.all isPhrase = true) :
    Calls Tryz.prog 35 #[.slice A n c, .slice C q f, .slice B m d] w fun e w' => e = .returned (.bool (sortedP xs ig ps)) ∧ Below w.heap.size w w' := by
  have hqm := hp.2.1.cap
  have hqf := hp.2.1.le
  unfold maxLen at hqm
  have HP := Lib.hid hp.1
  have HS := Lib.hid hs
  have HPH := Lib.hid (List.all_eq_true.1 hph)
  clear hs hph
  go_enter Tryz.func35, Tryz.ntmps35
  go_wp2
  go_loopw [7] (fun i wr => ∃ k : Nat, 1 ≤ k ∧ (k ≤ q ∨ k = 1) ∧ i = .int .i64 k ∧ Hid (∀ i, 1 ≤ i → i < k → ¬ 0 < cAt xs ig ps i) ∧ Below w.heap.size w wr) (fun i _ => q - (intOf i).toNat)
  case atStart => exact ⟨1, Nat.le_refl _, .inr rfl, rfl, fun i h1 h2 => absurd h2 (by omega), Below.refl _ _⟩
  case round =>
    obtain ⟨k, hk1, hk, rfl, hup, hb⟩ := hrel
    by_cases hlt : k < q
    · obtain ⟨b, off, rfl, hbl⟩ := hp.at_ k hlt
      obtain ⟨t, ht, c1, _⟩ := hp.el hb hbl k hlt
      obtain ⟨s, hs, c0, _⟩ := hp.el hb hbl (k - 1) (by omega)
      have hbw : b < wr.heap.size := Nat.lt_of_lt_of_le hbl hb.size
      have HC := Lib.hid (fun W h1 h2 => l06Compare_any A B n c m d xs ig s t W h1 h2 ha (HS.out s (List.mem_of_getElem? hs.out)) (HS.out t (List.mem_of_getElem? ht.out)) (HPH.out s (List.mem_of_getElem? hs.out)) (HPH.out t (List.mem_of_getElem? ht.out)))
      have HCA := Lib.hid (cAt_is (xs := xs) (ig := ig) hs.out ht.out)
      obtain ⟨r, hr⟩ : ∃ r, cmpP xs ig s t = r := ⟨_, rfl⟩
      rw [hr] at HCA
      simp only [hr] at HC
      clear hr
      obtain ⟨j, rfl⟩ : ∃ j, k = j + 1 := ⟨k - 1, by omega⟩
      have e1 : IntKind.i64.wrap (((j + 1 : Nat) : Int) - 1) = (j : Int) := by rw [IntWalk.i64_in _ (by omega)]; omega
      have e2 : ((j + 1 : Nat) : Int) - 1 = (j : Int) := by omega
      simp only [Nat.add_sub_cancel] at c0
      have j0 : (0 : Int) ≤ (j : Int) := by omega
      have jq : (j : Int) < (q : Int) := by omega
      have j1 : ((j + 1 : Nat) : Int) < (q : Int) := by omega
      have hx2 := hx.below hb
      have hy2 := hy.below hb
      have HLT := Lib.hid hlt
      clear hlt
      by_cases h0 : 0 < r
      · have HF := Lib.hid (show sortedP xs ig ps = false from sorted_no (i := j + 1) (by omega) (by rw [← HP.out]; exact HLT.out) (by rw [HCA.out]; exact h0))
        clear hup
        have hlt : j + 1 < q := HLT.out
        go_wp2
        refine wp_region_later (by kernel_rfl) (by kernel_rfl) ?_
        repeat (go_big_quiet_step ((go_at_call 22; exact Calls.later (HC.out _ (hx2.below (after_below _)) (hy2.below (after_below _))))))
        refine wpQuiet_nil ?_
        intro w2 hw2; have h2 := later_below hw2; clear hw2
        have HB := Lib.hid (next hb h2)
        clear h2
        go_wp2
        go_ret
        exact ⟨by rw [HF.out]; rfl, HB.out⟩
      · have HU := Lib.hid (show ∀ i, 1 ≤ i → i < j + 1 + 1 → ¬ 0 < cAt xs ig ps i from fun i h1 h2 => by
          by_cases e : i = j + 1
          · rw [e, HCA.out]; exact h0
          · exact hup.out i h1 (by omega))
        clear hup
        have hlt : j + 1 < q := HLT.out
        go_wp2
        refine wp_region_later (by kernel_rfl) (by kernel_rfl) ?_
        repeat (go_big_quiet_step ((go_at_call 22; exact Calls.later (HC.out _ (hx2.below (after_below _)) (hy2.below (after_below _))))))
        refine wpQuiet_nil ?_
        intro w2 hw2; have h2 := later_below hw2; clear hw2
        have HB := Lib.hid (next hb h2)
        clear h2 e1 e2
        go_wp2
        go_roundw
        case rel => exact ⟨j + 1 + 1, by omega, by omega, by go_num, fun i a b => by have := HU.out i a b; omega, HB.out⟩
        case measure => simp [intOf]; omega
    · have HF := Lib.hid (show sortedP xs ig ps = true from sorted_yes fun i h1 h2 => hup.out i h1 (by have := HP.out; omega))
      clear hup
      go_wp2
      go_ret
      exact ⟨by rw [HF.out]; rfl, hb⟩
set_option maxRecDepth 100000 in
set_option maxHeartbeats 2000000 in
theorem IsSortedFunc_any (A B C : Option Addr) (n c m d q f : Nat) (xs : List ByteArray) (ig : List Int) (ps : List ByteArray) (w : World) (hx : Strs w A n c xs) (hy : Ints w B m d ig) (hp : Strs w C q f ps) (ha : isAlpha xs = true) (hs : ∀ s ∈ ps, s.size ≤ 1048576) (hph : ps.all isPhrase = true) (hsp : ps.all (spAll xs) = true) (hm : MaxCell w) :
    Calls Tryz.prog 33 #[.slice C q f, .func (.func 20) #[.agg #[.slice A n c, .slice B m d]] #[]] w fun e w' => e = .returned (.bool (sortedP xs ig ps)) ∧ Below w.heap.size w w' := by
  have hqm := hp.2.1.cap
  have hqf := hp.2.1.le
  unfold maxLen at hqm
  have HP := Lib.hid hp.1
  have HS := Lib.hid hs
  have HPH := Lib.hid (List.all_eq_true.1 hph)
  have HSP := Lib.hid (List.all_eq_true.1 hsp)
  clear hs hph hsp
  go_enter Tryz.func33, Tryz.ntmps33
  go_wp2
  go_loopw [5] (fun i wr => ∃ k : Int, -1 ≤ k ∧ k < q ∧ i = .int .i64 k ∧ Hid (∀ i : Nat, k < i → i < q → ¬ 0 < cAt xs ig ps i) ∧ Below w.heap.size w wr) (fun i _ => (intOf i + 1).toNat)
  case atStart => exact ⟨(q : Int) - 1, by omega, by omega, rfl, fun i h1 h2 => by omega, Below.refl _ _⟩
  case round =>
    obtain ⟨k, hk0, hk, rfl, hup, hb⟩ := hrel
    by_cases hlt : 0 < k
    · obtain ⟨j, rfl⟩ : ∃ j : Nat, k = ((j + 1 : Nat) : Int) := ⟨(k - 1).toNat, by omega⟩
      have hjq : j + 1 < q := by omega
      obtain ⟨b, off, rfl, hbl⟩ := hp.at_ (j + 1) hjq
      obtain ⟨t, ht, c1, _⟩ := hp.el hb hbl (j + 1) hjq
      obtain ⟨s, hs, c0, _⟩ := hp.el hb hbl j (by omega)
      have hbw : b < wr.heap.size := Nat.lt_of_lt_of_le hbl hb.size
      have HC := Lib.hid (fun W h1 h2 h3 => compare_any A B n c m d xs ig t s W h1 h2 ha h3 (HS.out t (List.mem_of_getElem? ht.out)) (HS.out s (List.mem_of_getElem? hs.out)) (HPH.out t (List.mem_of_getElem? ht.out)) (HPH.out s (List.mem_of_getElem? hs.out)) (HSP.out t (List.mem_of_getElem? ht.out)) (HSP.out s (List.mem_of_getElem? hs.out)))
      have HCA := Lib.hid (show cAt xs ig ps (j + 1) = - cmpP xs ig t s by rw [cAt_is (i := j + 1) hs.out ht.out]; exact cmpP_anti xs ig t s)
      obtain ⟨r, hr⟩ : ∃ r, cmpP xs ig t s = r := ⟨_, rfl⟩
      rw [hr] at HCA
      simp only [hr] at HC
      clear hr
      have e1 : IntKind.i64.wrap (((j + 1 : Nat) : Int) - 1) = (j : Int) := by rw [IntWalk.i64_in _ (by omega)]; omega
      have e2 : ((j + 1 : Nat) : Int) - 1 = (j : Int) := by omega
      have j0 : (0 : Int) ≤ (j : Int) := by omega
      have jq : (j : Int) < (q : Int) := by omega
      have hx2 := hx.below hb
      have hy2 := hy.below hb
      have hm2 := hm.below hb
      by_cases h0 : r < 0
      · have HF := Lib.hid (show sortedP xs ig ps = false from sorted_no (i := j + 1) (by omega) (by rw [← HP.out]; exact hjq) (by rw [HCA.out]; omega))
        clear hup
        go_wp2
        refine wp_region_later (by kernel_rfl) (by kernel_rfl) ?_
        repeat (go_big_quiet_step ((go_at_call 20; exact Calls.later (HC.out _ (hx2.below (after_below _)) (hy2.below (after_below _)) (hm2.below (after_below _))))))
        refine wpQuiet_nil ?_
        intro w2 hw2; have h2 := later_below hw2; clear hw2
        have HB := Lib.hid (next hb h2)
        clear h2
        go_wp2
        go_ret
        exact ⟨by rw [HF.out]; rfl, HB.out⟩
      · have HU := Lib.hid (show ∀ i : Nat, (j : Int) < i → i < q → ¬ 0 < cAt xs ig ps i from fun i h1 h2 => by
          by_cases e : i = j + 1
          · rw [e, HCA.out]; omega
          · exact hup.out i (by omega) h2)
        clear hup
        go_wp2
        refine wp_region_later (by kernel_rfl) (by kernel_rfl) ?_
        repeat (go_big_quiet_step ((go_at_call 20; exact Calls.later (HC.out _ (hx2.below (after_below _)) (hy2.below (after_below _)) (hm2.below (after_below _))))))
        refine wpQuiet_nil ?_
        intro w2 hw2; have h2 := later_below hw2; clear hw2
        have HB := Lib.hid (next hb h2)
        clear h2 e1
        go_wp2
        go_roundw
        case rel => exact ⟨(j : Int), by omega, by omega, by first | rfl | (congr 1; omega) | go_num, fun i a b => by have := HU.out i a b; omega, HB.out⟩
        case measure => simp [intOf]; omega
    · have HF := Lib.hid (show sortedP xs ig ps = true from sorted_yes fun i h1 h2 => hup.out i (by omega) (by rw [HP.out]; exact h2))
      clear hup
      go_wp2
      go_ret
      exact ⟨by rw [HF.out]; rfl, hb⟩
theorem total_mem {xs : List ByteArray} {s : ByteArray} (h : s ∈ xs) : s.size ≤ total xs := by
  unfold total
  induction xs with
  | nil => cases h
  | cons x r ih =>
    rw [List.map_cons, List.sum_cons]
    rcases List.mem_cons.1 h with rfl | h
    · omega
    · have := ih h; omega
def asVal (xs : List ByteArray) (ig : List Int) (ps : List ByteArray) : Bool := if l6Code xs ig ps = 0 then sortedP xs ig ps else false
theorem l6_zero {xs : List ByteArray} {ig : List Int} {ps : List ByteArray} (h : l6Code xs ig ps = 0) : isAlpha xs = true ∧ ps.all isPhrase = true ∧ ps.all (spAll xs) = true ∧ ps.length ≤ 20 := by
  unfold l6Code at h
  split at h
  · rename_i h0
    split at h
    · cases h
    · obtain ⟨a, b, c⟩ := ns_zero h0
      exact ⟨a, b, c, by omega⟩
  · rename_i h0; exact absurd h h0
set_option maxRecDepth 100000 in
set_option maxHeartbeats 2000000 in
theorem AreSorted_impl (A B C : Option Addr) (n c m d q f : Nat) (xs : List ByteArray) (ig : List Int) (ps : List ByteArray) (w : World) (hx : Strs w A n c xs) (hy : Ints w B m d ig) (hp : Strs w C q f ps) (hs : ∀ s ∈ ps, s.size ≤ 1048576) (hm : MaxCell w) :
    Calls Tryz.prog 14 #[.slice A n c, .slice C q f, .slice B m d] w fun e w' => e = .returned (.tuple #[.bool (asVal xs ig ps), .int .i64 (l6Code xs ig ps)]) ∧ Below w.heap.size w w' := by
  obtain ⟨k, hk⟩ : ∃ k, l6Code xs ig ps = k := ⟨_, rfl⟩
  have h1 := listSorter_any A B C n c m d q f xs ig ps w hx hy hp hs hm
  rw [hk] at h1
  have HK := Lib.hid hk
  by_cases h0 : k = 0
  · subst h0
    obtain ⟨ha, hph, hsp, _⟩ := l6_zero hk
    have HC := Lib.hid (fun W h1 h2 h3 h4 => IsSortedFunc_any A B C n c m d q f xs ig ps W h1 h2 h3 ha hs hph hsp h4)
    have HF := Lib.hid (show asVal xs ig ps = sortedP xs ig ps by unfold asVal; rw [if_pos hk])
    clear hk ha hph hsp hs
    go_enter Tryz.func14, Tryz.ntmps14
    go_wp2_with fail
    refine h1.mono ?_
    rintro e_ w1 ⟨A', n', c', B', m', d', rfl, hv, k1⟩
    obtain ⟨rfl, rfl, rfl, rfl, rfl, rfl⟩ := hv trivial
    clear h1
    have hB := next k1 (boxO w1 (.cells #[.slice A' n' c', .slice B' m' d'] 45))
    have h2 := HC.out _ (hx.below hB) (hy.below hB) (hp.below hB) (hm.below hB)
    go_wp2_with fail
    refine h2.mono ?_
    rintro e_ w2 ⟨rfl, k2⟩
    clear h2
    go_wp2
    go_ret2
    exact ⟨by rw [HF.out, HK.out]; rfl, next hB k2⟩
  · have HF := Lib.hid (show asVal xs ig ps = false by unfold asVal; rw [hk, if_neg h0])
    have hne : (k != 0) = true := by rw [bne_iff_ne]; exact h0
    clear hk
    go_enter Tryz.func14, Tryz.ntmps14
    go_wp2_with fail
    refine h1.mono ?_
    rintro e_ w1 ⟨A', n', c', B', m', d', rfl, hv, k1⟩
    clear h1
    go_wp2
    go_ret2
    exact ⟨by rw [HF.out, HK.out]; rfl, next k1 (boxO _ _)⟩
end Go.Proofs.YtpnbbhomkneflaaGreatDoor
