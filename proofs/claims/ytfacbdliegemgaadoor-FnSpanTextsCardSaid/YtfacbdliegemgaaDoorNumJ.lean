/- Numbers joined by a byte: what the functions compute. -/
import Derived.Test.YtfacbdliegemgaaDoorNum
import Derived.Test.YtfacbdliegemgaaDoorJoin
namespace Go.Proofs.YtfacbdliegemgaaDoor
open Go.ChangeShapes Go.WideShapes Go.ChangeAt Go.RowKit

def jn (c : UInt8) (xs : List ByteArray) : ByteArray := ⟨(Lib.join (bytesOf xs) [c]).toArray⟩
theorem jn_nil (c : UInt8) : jn c [] = ⟨#[]⟩ := rfl
theorem jn_one (c : UInt8) (x : ByteArray) : jn c [x] = x := by
  unfold jn bytesOf
  rw [List.map_cons, List.map_nil, Lib.join_one]
theorem join_snoc_ (c : UInt8) (xs : List (List UInt8)) (x : List UInt8) (h : xs ≠ []) : Lib.join (xs ++ [x]) [c] = Lib.join xs [c] ++ ([c] ++ x) := by
  cases xs with
  | nil => exact absurd rfl h
  | cons y r =>
    rw [List.cons_append, Lib.join_cons, Lib.join_cons]
    unfold Lib.joinTail
    simp
theorem jn_snoc (c : UInt8) (xs : List ByteArray) (x : ByteArray) (h : xs ≠ []) : jn c (xs ++ [x]) = jn c xs ++ ⟨#[c]⟩ ++ x := by
  unfold jn bytesOf
  rw [List.map_append, List.map_cons, List.map_nil, join_snoc_ _ _ _ (by simpa using h)]
  apply ByteArray.ext
  simp [ByteArray.data_append]
theorem jn_size (c : UInt8) (xs : List ByteArray) : (jn c xs).size ≤ total xs + xs.length := by
  cases xs with
  | nil => simp [jn_nil, ByteArray.size]
  | cons x r =>
    have h := Lib.join_length x.data.toList (bytesOf r) [c]
    have e : (jn c (x :: r)).size = (Lib.join (x.data.toList :: bytesOf r) [c]).length := by
      unfold jn bytesOf
      simp [ByteArray.size]
    have e2 : Lib.lens (bytesOf (x :: r)) = total (x :: r) := by
      unfold Lib.lens total bytesOf
      rw [List.map_map, show (List.length ∘ fun s : ByteArray => s.data.toList) = ByteArray.size from funext fun s => Array.length_toList]
    have e3 : (bytesOf r).length = r.length := by unfold bytesOf; rw [List.length_map]
    have e4 : x.data.toList :: bytesOf r = bytesOf (x :: r) := rfl
    rw [e, h, e3, e4, e2, List.length_cons, List.length_cons, List.length_nil]
    omega
theorem jn_step {c : UInt8} {xs : List ByteArray} {k : Nat} {x : ByteArray} (h : xs[k]? = some x) (hk : 0 < k) : jn c (xs.take (k + 1)) = jn c (xs.take k) ++ ⟨#[c]⟩ ++ x := by
  rw [List.take_add_one, h]
  refine jn_snoc _ _ _ ?_
  intro e
  have h1 := congrArg List.length e
  have h2 := (List.getElem?_eq_some_iff.1 h).1
  rw [List.length_take, List.length_nil] at h1
  omega
theorem jn_first {c : UInt8} {xs : List ByteArray} {x : ByteArray} (h : xs[0]? = some x) : jn c (xs.take 1) = x := by
  rw [List.take_add_one, h]
  exact jn_one c x
/-- numbers that are small enough -/
def numB (n : Int) : Bool := decide (-1000000000000000 ≤ n ∧ n ≤ 1000000000000000)
theorem numT_size {n : Int} (h : numB n = true) : (numT n).size ≤ 21 := by
  have hb := of_decide_eq_true h
  have hp : (10 : Nat) ^ 20 = 100000000000000000000 := by decide
  have e : (numT n).size = (Lib.itoa n).length := by unfold numT; simp [ByteArray.size]
  rw [e]
  by_cases hn : n < 0
  · rw [itoa_neg hn, List.length_cons]
    have := dec_le 19 n.natAbs (by omega)
    omega
  · rw [itoa_pos hn]
    have := dec_le 19 n.toNat (by omega)
    omega
theorem nums_total {ns : List Int} (h : ns.all numB = true) : total (ns.map numT) ≤ 21 * ns.length := by
  induction ns with
  | nil => simp [total]
  | cons n r ih =>
    rw [List.all_cons, Bool.and_eq_true] at h
    have h1 := ih h.2
    have h2 := numT_size h.1
    unfold total at h1 ⊢
    simp only [List.map_cons, List.sum_cons, List.length_cons] at h1 ⊢
    omega
theorem num_at {ns : List Int} (h : ns.all numB = true) {k : Nat} {n : Int} (hn : ns[k]? = some n) : -1000000000000000 ≤ n ∧ n ≤ 1000000000000000 := of_decide_eq_true (List.all_eq_true.1 h n (List.mem_of_getElem? hn))
theorem joinS_any (A : Option Addr) (n c : Nat) (xs : List ByteArray) (b : UInt8) (w : World) (hx : Strs w A n c xs) (hT : total xs + n ≤ 1000000000000) :
    Calls Tryd.prog 77 #[.slice A n c, .string ⟨#[b]⟩] w fun e w' => e = .returned (.string (jn b xs)) ∧ Below w.heap.size w w' := by
  cases xs with
  | nil =>
    obtain rfl : n = 0 := hx.1
    exact (Tryd.strings_Join_none A c ⟨#[b]⟩ w).mono fun e w' ⟨he, hw⟩ => ⟨he, by rw [hw]; exact Below.refl _ _⟩
  | cons x r =>
    obtain rfl : n = (x :: r).length := hx.1
    obtain ⟨b', off, rfl, hbl, hcell⟩ := hx.2.1.at_ (by simp)
    have hl : (Lib.join (bytesOf (x :: r)) [b]).length = (jn b (x :: r)).size := by unfold jn; simp [ByteArray.size]
    have h1 := jn_size b (x :: r)
    exact Tryd.strings_Join b' off c (x :: r) ⟨#[b]⟩ w (fun j y hy => hcell j (.string y) (by rw [List.getElem?_map, hy]; rfl)) hbl (by omega) hx.2.1.le
      (by show (Lib.join (bytesOf (x :: r)) [b]).length ≤ _; omega)

set_option maxRecDepth 100000 in
set_option maxHeartbeats 2000000 in
theorem join_num (A : Option Addr) (n c : Nat) (ns : List Int) (b : UInt8) (w : World) (hx : Ints w A n c ns) (hb : ns.all numB = true) (hn : n ≤ 1048576) (ht : PowTab w) :
    Calls Tryd.prog 69 #[.slice A n c, .string ⟨#[b]⟩] w fun e w' => e = .returned (.string (jn b (ns.map numT))) ∧ Below w.heap.size w w' := by
  have hcm := hx.2.cap
  have hnc := hx.2.le
  have HX := Lib.hid hx.1
  have HB := Lib.hid hb
  unfold maxLen at hcm
  clear hb
  obtain ⟨i0, hi, hz0, hz1, hz2⟩ := info_parts infoStr
  have hmk := fun W => run_make_rowN (P := Tryd.prog) 48 9 i0 _ Tryd.underlying48 hi hz0 .i64 .i64 n n (Nat.le_refl _) (by rw [hz2]; omega) (by omega) W
  go_enter Tryd.func69, Tryd.ntmps69
  go_wp2
  go_loopw [13] (fun i wr => ∃ (k : Nat) (ys : List Value), k ≤ n ∧ i = .int .i64 k ∧ Hid (ys.take k = ((ns.map numT).map Value.string).take k) ∧
      wr.ownsRow w.heap.size 9 1 (.slice (some ⟨w.heap.size, 0, none⟩) n n) n ys ∧ Below w.heap.size w wr) (fun i _ => n - (intOf i).toNat)
  case atStart => exact ⟨0, (madeCells #[.string ⟨#[]⟩] n).toList, Nat.zero_le _, rfl, rfl, World.ownsRow_lit w _ n (Nat.le_refl _) (by unfold maxLen; omega) (by rw [size_madeCells]; omega), (Below.refl _ _).alloc (Nat.le_refl _) _⟩
  case round =>
    obtain ⟨k, ys, hk, rfl, hys, hown, hb⟩ := hrel
    by_cases hlt : k < n
    · obtain ⟨b2, off, rfl, hbl⟩ := hx.at_ k hlt
      obtain ⟨s, hs, c0⟩ := hx.el hb hbl k hlt
      have hsb := num_at HB.out hs.out
      go_wp2_with fail
      refine (decimal_any s _ (by omega) (by omega) (ht.below hb)).mono ?_
      rintro e_ w1 ⟨rfl, h1⟩
      have hc_w1 := bcell h1; have hf_w1 := bfree h1
      have hown1 := own_below hown h1
      have hyl := hown1.1
      have d0 := hown1.cellAt k (by omega)
      rw [List.getElem?_eq_getElem (by omega)] at d0
      have e0 := hown1.frozenAt k
      generalize ys[k] = u0 at d0
      have HS := Lib.hid (hown1.stored k (.string (numT s))).1
      have HY := Lib.hid (take_set1 ys ((ns.map numT).map Value.string) k (.string (numT s)) hys.out (by rw [List.length_map, List.length_map, ← HX.out]; omega) (by rw [List.getElem?_map, List.getElem?_map, hs.out]; rfl))
      clear hys hown hown1
      go_wp2
      go_roundw
      case rel => exact ⟨k + 1, _, by omega, by go_num, HY, HS.out, (next hb h1).setCell (Nat.le_refl _) _⟩
      case measure => simp [intOf]; omega
    · have hyl := hown.1
      have hys' : ys = (ns.map numT).map Value.string := by
        have := hys.out
        rw [List.take_of_length_le (by omega), List.take_of_length_le (by rw [List.length_map, List.length_map, ← HX.out]; omega)] at this
        exact this
      rw [hys'] at hown
      have hst := own_reads hown (fun x hx => by
        obtain ⟨q, hq, rfl⟩ := List.mem_map.1 hx
        have := numT_size (List.all_eq_true.1 HB.out q hq)
        unfold maxLen; omega)
      have htt := nums_total HB.out
      rw [← HX.out] at htt
      clear hys hys' hyl hown
      go_wp2_with fail
      refine (joinS_any (some ⟨w.heap.size, 0, none⟩) n n (ns.map numT) b _ hst (by omega)).mono ?_
      rintro e_ w2 ⟨rfl, h2⟩
      have hc_w2 := bcell h2; have hf_w2 := bfree h2
      go_wp2
      go_ret
      exact ⟨rfl, next hb h2⟩

set_option maxRecDepth 100000 in
set_option maxHeartbeats 2000000 in
theorem l01Join_any (A : Option Addr) (n c : Nat) (ns : List Int) (b : UInt8) (w : World) (hx : Ints w A n c ns) (hb : ns.all numB = true) (hn : n ≤ 1048576) :
    Calls Tryd.prog 58 #[.slice A n c, .string ⟨#[b]⟩] w fun e w' => e = .returned (.string (jn b (ns.map numT))) ∧ Below w.heap.size w w' := by
  have hcm := hx.2.cap
  have hnc := hx.2.le
  have HX := Lib.hid hx.1
  have HB := Lib.hid hb
  unfold maxLen at hcm
  have hsz : ∀ k, k ≤ n → (jn b ((ns.map numT).take k)).size ≤ 100000000 := fun k hk => by
    have h1 := jn_size b ((ns.map numT).take k)
    have h2 := total_take (ns.map numT) k
    have h3 : ((ns.map numT).take k).length ≤ k := by rw [List.length_take]; omega
    have h4 := nums_total hb
    have := hx.1
    omega
  have HSZ := Lib.hid hsz
  clear hsz hb
  go_enter Tryd.func58, Tryd.ntmps58
  go_wp2
  go_loopw [5, 6] (fun o i wr => ∃ (k : Nat) (t : ByteArray), k ≤ n ∧ i = .int .i64 k ∧ o = .string t ∧ Hid (t = jn b ((ns.map numT).take k)) ∧ Below w.heap.size w wr) (fun _ i _ => n - (intOf i).toNat)
  case atStart => exact ⟨0, _, Nat.zero_le _, rfl, rfl, rfl, Below.refl _ _⟩
  case round =>
    obtain ⟨k, t, hk, rfl, rfl, hq, hb⟩ := hrel
    by_cases hlt : k < n
    · obtain ⟨b2, off, rfl, hbl⟩ := hx.at_ k hlt
      obtain ⟨s, hs, c0⟩ := hx.el hb hbl k hlt
      have hsb := num_at HB.out hs.out
      have hs2 : (ns.map numT)[k]? = some (numT s) := by rw [List.getElem?_map, hs.out]; rfl
      have z1 := HSZ.out k hk
      have z2 := HSZ.out (k + 1) hlt
      have hn1 := fun W => l01Number_any s W (by omega) (by omega)
      by_cases h0 : 0 < k
      · have HQ := Lib.hid (jn_step (c := b) hs2 h0)
        have e3 : (jn b ((ns.map numT).take (k + 1))).size = t.size + 1 + (numT s).size := by
          rw [HQ.out, ← hq.out, ByteArray.size_append, ByteArray.size_append]; rfl
        rw [e3] at z2
        rw [← hq.out] at z1
        have HT := Lib.hid (show t ++ ⟨#[b]⟩ ++ numT s = jn b ((ns.map numT).take (k + 1)) by rw [HQ.out, hq.out])
        obtain ⟨u, hu⟩ : ∃ u, numT s = u := ⟨_, rfl⟩
        rw [hu] at HT z2 hn1
        clear e3 hq HQ hs2 hu
        go_wp2_with fail
        refine (hn1 _).mono ?_
        rintro e_ w1 ⟨rfl, k1⟩
        have hc_w1 := bcell k1; have hf_w1 := bfree k1
        go_wp2
        go_roundw
        case rel => exact ⟨k + 1, _, by omega, by go_num, rfl, HT, next hb k1⟩
        case measure => simp [intOf]; omega
      · have HT := Lib.hid (show numT s = jn b ((ns.map numT).take (k + 1)) by
          have hk0 : k = 0 := by omega
          rw [hk0] at hs2 ⊢
          exact (jn_first hs2).symm)
        have ht : t = ⟨#[]⟩ := by rw [hq.out, show k = 0 by omega]; rfl
        subst ht
        rw [← HT.out] at z2
        obtain ⟨u, hu⟩ : ∃ u, numT s = u := ⟨_, rfl⟩
        rw [hu] at HT z2 hn1
        clear hq hs2 hu
        go_wp2_with fail
        refine (hn1 _).mono ?_
        rintro e_ w1 ⟨rfl, k1⟩
        have hc_w1 := bcell k1; have hf_w1 := bfree k1
        go_wp2
        go_roundw
        case rel => exact ⟨k + 1, _, by omega, by go_num, rfl, HT, next hb k1⟩
        case measure => simp [intOf]; omega
    · have HT := Lib.hid (show t = jn b (ns.map numT) by rw [hq.out, List.take_of_length_le (by rw [List.length_map]; have := HX.out; omega)])
      clear hq
      go_wp2
      go_ret
      exact ⟨by rw [← HT.out]; rfl, hb⟩
end Go.Proofs.YtfacbdliegemgaaDoor
