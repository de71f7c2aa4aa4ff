/- Joining words: what the functions compute. -/
import Derived.Test.YtnjeloggpbgloaaDoorMarks
import Derived.Lib.Join
namespace Go.Proofs.YtnjeloggpbgloaaDoor
open Go.ChangeShapes Go.WideShapes Go.ChangeAt Go.RowKit

def bytesOf (xs : List ByteArray) : List (List UInt8) := xs.map (·.data.toList)
def joined (xs : List ByteArray) : ByteArray := ⟨(Lib.join (bytesOf xs) [32]).toArray⟩
def total (xs : List ByteArray) : Nat := (xs.map ByteArray.size).sum
theorem joined_nil : joined [] = ⟨#[]⟩ := rfl
theorem joined_one (x : ByteArray) : joined [x] = x := by
  unfold joined bytesOf
  rw [List.map_cons, List.map_nil, Lib.join_one]
theorem join_snoc (xs : List (List UInt8)) (x : List UInt8) (h : xs ≠ []) : Lib.join (xs ++ [x]) [32] = Lib.join xs [32] ++ ([32] ++ x) := by
  cases xs with
  | nil => exact absurd rfl h
  | cons y r =>
    rw [List.cons_append, Lib.join_cons, Lib.join_cons]
    unfold Lib.joinTail
    simp
theorem joined_snoc (xs : List ByteArray) (x : ByteArray) (h : xs ≠ []) : joined (xs ++ [x]) = joined xs ++ ⟨#[32]⟩ ++ x := by
  unfold joined bytesOf
  rw [List.map_append, List.map_cons, List.map_nil, join_snoc _ _ (by simpa using h)]
  apply ByteArray.ext
  simp [ByteArray.data_append]
theorem joined_size (xs : List ByteArray) : (joined xs).size ≤ total xs + xs.length := by
  cases xs with
  | nil => simp [joined_nil, ByteArray.size]
  | cons x r =>
    have h := Lib.join_length x.data.toList (bytesOf r) [32]
    have e : (joined (x :: r)).size = (Lib.join (x.data.toList :: bytesOf r) [32]).length := by
      unfold joined bytesOf
      simp [ByteArray.size]
    have e2 : Lib.lens (bytesOf (x :: r)) = total (x :: r) := by
      unfold Lib.lens total bytesOf
      rw [List.map_map, show (List.length ∘ fun s : ByteArray => s.data.toList) = ByteArray.size from funext fun s => Array.length_toList]
    have e3 : (bytesOf r).length = r.length := by unfold bytesOf; rw [List.length_map]
    have e4 : x.data.toList :: bytesOf r = bytesOf (x :: r) := rfl
    rw [e, h, e3, e4, e2, List.length_cons, List.length_cons, List.length_nil]
    omega
theorem total_take (xs : List ByteArray) (k : Nat) : total (xs.take k) ≤ total xs := by
  unfold total
  conv => rhs; rw [← List.take_append_drop k xs]
  rw [List.map_append, List.sum_append]
  omega
theorem joined_step {xs : List ByteArray} {k : Nat} {x : ByteArray} (h : xs[k]? = some x) (hk : 0 < k) : joined (xs.take (k + 1)) = joined (xs.take k) ++ ⟨#[32]⟩ ++ x := by
  rw [List.take_add_one, h]
  refine joined_snoc _ _ ?_
  intro e
  have h1 := congrArg List.length e
  have h2 := (List.getElem?_eq_some_iff.1 h).1
  rw [List.length_take, List.length_nil] at h1
  omega
theorem joined_first {xs : List ByteArray} {x : ByteArray} (h : xs[0]? = some x) : joined (xs.take 1) = x := by
  rw [List.take_add_one, h]
  exact joined_one x

theorem cut_join (c : UInt8) : ∀ (r : List (List UInt8)) (x : List UInt8), (∀ y ∈ x :: r, ∀ b ∈ y, b ≠ c) → cutAt c (Lib.join (x :: r) [c]) = x :: r
  | [], x, h => by
    rw [Lib.join_one]
    exact cutAt_none (h x (by simp))
  | y :: r, x, h => by
    have e : Lib.join (x :: y :: r) [c] = x ++ c :: Lib.join (y :: r) [c] := by
      rw [Lib.join_cons, Lib.join_cons]
      simp [Lib.joinTail]
    rw [e, cutAt_app _ (h x (by simp)), cut_join c r y (fun z hz => h z (by simp [hz]))]
theorem word_bytes {x : ByteArray} (h : isWord x = true) : ∀ b ∈ x.data.toList, b ≠ 32 := by
  intro b hb e
  unfold isWord small at h
  rw [Bool.and_eq_true, List.all_eq_true] at h
  have := h.1 b hb
  subst e
  exact absurd this (by decide)
theorem cutS_joined {xs : List ByteArray} (h : xs.all isWord = true) (hn : xs ≠ []) : cutS 32 (joined xs) = xs := by
  cases xs with
  | nil => exact absurd rfl hn
  | cons x r =>
    rw [List.all_eq_true] at h
    have e : (joined (x :: r)).data.toList = Lib.join (x.data.toList :: bytesOf r) [32] := by
      unfold joined bytesOf; simp
    unfold cutS
    rw [e, cut_join 32 (bytesOf r) x.data.toList]
    · unfold bytesOf
      simp [Function.comp_def]
    · intro y hy
      rcases List.mem_cons.1 hy with rfl | hy
      · exact word_bytes (h x (by simp))
      · unfold bytesOf at hy
        obtain ⟨z, hz, rfl⟩ := List.mem_map.1 hy
        exact word_bytes (h z (by simp [hz]))
/-- JoinPhrase's answer -/
def jpOk (xs : List ByteArray) : Bool := xs.all isWord && decide (1 ≤ xs.length ∧ xs.length ≤ 8)
def jpText (xs : List ByteArray) : ByteArray := if jpOk xs = true then joined xs else ⟨#[]⟩
def jpCode (xs : List ByteArray) : Int := if jpOk xs = true then 0 else 1
theorem jp_phrase {xs : List ByteArray} (h : xs.all isWord = true) : isPhrase (joined xs) = decide (1 ≤ xs.length ∧ xs.length ≤ 8) := by
  cases xs with
  | nil => rfl
  | cons x r =>
    unfold isPhrase
    rw [cutS_joined h (by simp), h]
    simp

/-! ## walks -/
theorem jp_no {xs : List ByteArray} (h : jpOk xs = false) : Hid (jpText xs = ⟨#[]⟩ ∧ jpCode xs = 1) := by
  unfold Hid jpText jpCode
  rw [h]
  exact ⟨rfl, rfl⟩
theorem jp_yes {xs : List ByteArray} (h : jpOk xs = true) : Hid (jpText xs = joined xs ∧ jpCode xs = 0) := by
  unfold Hid jpText jpCode
  rw [h]
  exact ⟨rfl, rfl⟩
/-! ## the harness's copies and sizes -/
def szOf (left : Int) (n : Nat) (xs : List ByteArray) : Int := if left - n - total xs < 0 then -1 else left - n - total xs
theorem total_succ {xs : List ByteArray} {k : Nat} {x : ByteArray} (h : xs[k]? = some x) : total (xs.take (k + 1)) = total (xs.take k) + x.size := by
  unfold total
  rw [List.take_add_one, h]
  simp
set_option maxRecDepth 100000 in
set_option maxHeartbeats 1000000 in
theorem szStrs_any (A : Option Addr) (n c : Nat) (xs : List ByteArray) (left : Int) (w : World) (hx : Strs w A n c xs) (h0 : 0 ≤ left) (h1 : left ≤ 1048576) :
    Calls Tryd.prog 4 #[.slice A n c, .int .i64 left] w fun e w' => e = .returned (.int .i64 (szOf left n xs)) ∧ Below w.heap.size w w' := by
  have hcm := hx.2.1.cap
  have hnc := hx.2.1.le
  have HX := Lib.hid hx.1
  unfold maxLen at hcm
  by_cases hn : left < n
  · have HF := Lib.hid (show szOf left n xs = -1 by unfold szOf; rw [if_pos (by omega)])
    go_enter Tryd.func4, Tryd.ntmps4
    go_wp2
    go_ret
    exact ⟨by rw [HF.out]; rfl, Below.refl _ _⟩
  · go_enter Tryd.func4, Tryd.ntmps4
    go_wp2
    go_loopw [1, 5] (fun q i wr => ∃ (k : Nat) (r : Int), k ≤ n ∧ i = .int .i64 k ∧ q = .int .i64 r ∧ 0 ≤ r ∧ r ≤ 1048576 ∧ Hid (r = left - n - total (xs.take k)) ∧ Below w.heap.size w wr) (fun _ i _ => n - (intOf i).toNat)
    case atStart => exact ⟨0, left - n, Nat.zero_le _, rfl, rfl, by omega, by omega, by simp [Hid, total], Below.refl _ _⟩
    case round =>
      obtain ⟨k, r, hk, rfl, rfl, r0, r1, hr, hb⟩ := hrel
      by_cases hlt : k < n
      · obtain ⟨b, off, rfl, hbl⟩ := hx.at_ k hlt
        obtain ⟨s, hs, c0, hsz⟩ := hx.el hb hbl k hlt
        unfold maxLen at hsz
        have ht := total_succ hs.out
        by_cases hneg : r < s.size
        · have HF := Lib.hid (show szOf left n xs = -1 by
            unfold szOf
            have h1 := total_take xs (k + 1)
            have h2 := hr.out
            rw [if_pos (by omega)])
          clear ht hr
          go_wp2
          go_ret
          exact ⟨by rw [HF.out]; rfl, hb⟩
        · have HR := Lib.hid (show r - s.size = left - n - total (xs.take (k + 1)) by have := hr.out; omega)
          clear ht hr
          go_wp2
          go_roundw
          case rel => exact ⟨k + 1, r - s.size, by omega, by go_num, rfl, by omega, by omega, HR, hb⟩
          case measure => simp [intOf]; omega
      · have HF := Lib.hid (show szOf left n xs = r by
          have h2 := hr.out
          rw [List.take_of_length_le (by have := HX.out; omega)] at h2
          unfold szOf
          rw [if_neg (by omega)]
          omega)
        clear hr
        go_wp2
        go_ret
        exact ⟨by rw [HF.out]; rfl, hb⟩

set_option maxRecDepth 100000 in
set_option maxHeartbeats 1000000 in
theorem toStrs_any (A : Option Addr) (n c : Nat) (xs : List ByteArray) (w : World) (hx : Strs w A n c xs) (hn : n ≤ 1048576) :
    Calls Tryd.prog 6 #[.slice A n c] w fun e w' => e = .returned (.slice (some ⟨w.heap.size, 0, none⟩) n n) ∧ w'.ownsRow w.heap.size 9 1 (.slice (some ⟨w.heap.size, 0, none⟩) n n) n (xs.map Value.string) ∧ Below w.heap.size w w' := by
  have hcm := hx.2.1.cap
  have hnc := hx.2.1.le
  have HX := Lib.hid hx.1
  unfold maxLen at hcm
  obtain ⟨i0, hi, hz0, hz1, hz2⟩ := info_parts infoStr
  have hmk := fun W => run_make_rowN (P := Tryd.prog) 22 9 i0 _ Tryd.underlying22 hi hz0 .i64 .i64 n n (Nat.le_refl _) (by rw [hz2]; omega) (by omega) W
  go_enter Tryd.func6, Tryd.ntmps6
  go_wp2
  go_loopw [4] (fun i wr => ∃ (k : Nat) (ys : List Value), k ≤ n ∧ i = .int .i64 k ∧ Hid (ys.take k = (xs.map Value.string).take k) ∧
      wr.ownsRow w.heap.size 9 1 (.slice (some ⟨w.heap.size, 0, none⟩) n n) n ys ∧ Below w.heap.size w wr) (fun i _ => n - (intOf i).toNat)
  case atStart => exact ⟨0, (madeCells #[.string ⟨#[]⟩] n).toList, Nat.zero_le _, rfl, rfl, World.ownsRow_lit w _ n (Nat.le_refl _) (by unfold maxLen; omega) (by rw [size_madeCells]; omega), (Below.refl _ _).alloc (Nat.le_refl _) _⟩
  case round =>
    obtain ⟨k, ys, hk, rfl, hys, hown, hb⟩ := hrel
    by_cases hlt : k < n
    · obtain ⟨b, off, rfl, hbl⟩ := hx.at_ k hlt
      obtain ⟨s, hs, c0, hsz⟩ := hx.el hb hbl k hlt
      have hyl := hown.1
      have d0 := hown.cellAt k (by omega)
      rw [List.getElem?_eq_getElem (by omega)] at d0
      have e0 := hown.frozenAt k
      generalize ys[k] = u0 at d0
      have HS := Lib.hid (hown.stored k (.string s)).1
      have HY := Lib.hid (take_set1 ys (xs.map Value.string) k (.string s) hys.out (by rw [List.length_map, ← HX.out]; omega) (by rw [List.getElem?_map, hs.out]; rfl))
      clear hys hown
      go_wp2
      go_roundw
      case rel => exact ⟨k + 1, _, by omega, by go_num, HY, HS.out, hb.setCell (Nat.le_refl _) _⟩
      case measure => simp [intOf]; omega
    · have hyl := hown.1
      have hys' : ys = xs.map Value.string := by
        have := hys.out
        rw [List.take_of_length_le (by omega), List.take_of_length_le (by rw [List.length_map, ← HX.out]; omega)] at this
        exact this
      rw [hys'] at hown
      have HO := Lib.hid hown
      clear hys hys' hyl hown
      go_wp2
      go_ret
      exact ⟨rfl, HO.out, hb⟩
end Go.Proofs.YtnjeloggpbgloaaDoor
