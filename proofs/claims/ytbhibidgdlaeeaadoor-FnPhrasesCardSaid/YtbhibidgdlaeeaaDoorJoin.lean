/- Joining words: what the functions compute. -/
import Derived.Test.YtbhibidgdlaeeaaDoorMarks
import Derived.Lib.Join
namespace Go.Proofs.YtbhibidgdlaeeaaDoor
open Go.ChangeShapes Go.WideShapes Go.ChangeAt Go.RowKit

def bytesOf (xs : List ByteArray) : List (List UInt8) := xs.map (·.data.toList)
def joined (xs : List ByteArray) : ByteArray := ⟨(Lib.join (bytesOf xs) [32]).toArray⟩
def total (xs : List ByteArray) : Nat := (xs.map ByteArray.size).sum
theorem joined_nil : joined [] = ⟨#[]⟩ := rfl
theorem joined_one (x : ByteArray) : joined [x] = x := by
  unfold joined bytesOf
  rw [List.map_cons, List.map_nil, Lib.join_one]
theorem join_snoc (xs : List (List UInt8)) (x : List UInt8) (h : xs ≠ []) : Lib.join (xs ++ [x]) [32] = Lib.join xs [32] ++ ([32] ++ x) := by
  cases xs with
  | nil => exact absurd rfl h
  | cons y r =>
    rw [List.cons_append, Lib.join_cons, Lib.join_cons]
    unfold Lib.joinTail
    simp
theorem joined_snoc (xs : List ByteArray) (x : ByteArray) (h : xs ≠ []) : joined (xs ++ [x]) = joined xs ++ ⟨#[32]⟩ ++ x := by
  unfold joined bytesOf
  rw [List.map_append, List.map_cons, List.map_nil, join_snoc _ _ (by simpa using h)]
  apply ByteArray.ext
  simp [ByteArray.data_append]
theorem joined_size (xs : List ByteArray) : (joined xs).size ≤ total xs + xs.length := by
  cases xs with
  | nil => simp [joined_nil, ByteArray.size]
  | cons x r =>
    have h := Lib.join_length x.data.toList (bytesOf r) [32]
    have e : (joined (x :: r)).size = (Lib.join (x.data.toList :: bytesOf r) [32]).length := by
      unfold joined bytesOf
      simp [ByteArray.size]
    have e2 : Lib.lens (bytesOf (x :: r)) = total (x :: r) := by
      unfold Lib.lens total bytesOf
      rw [List.map_map, show (List.length ∘ fun s : ByteArray => s.data.toList) = ByteArray.size from funext fun s => Array.length_toList]
    have e3 : (bytesOf r).length = r.length := by unfold bytesOf; rw [List.length_map]
    have e4 : x.data.toList :: bytesOf r = bytesOf (x :: r) := rfl
    rw [e, h, e3, e4, e2, List.length_cons, List.length_cons, List.length_nil]
    omega
theorem total_take (xs : List ByteArray) (k : Nat) : total (xs.take k) ≤ total xs := by
  unfold total
  conv => rhs; rw [← List.take_append_drop k xs]
  rw [List.map_append, List.sum_append]
  omega
theorem joined_step {xs : List ByteArray} {k : Nat} {x : ByteArray} (h : xs[k]? = some x) (hk : 0 < k) : joined (xs.take (k + 1)) = joined (xs.take k) ++ ⟨#[32]⟩ ++ x := by
  rw [List.take_add_one, h]
  refine joined_snoc _ _ ?_
  intro e
  have h1 := congrArg List.length e
  have h2 := (List.getElem?_eq_some_iff.1 h).1
  rw [List.length_take, List.length_nil] at h1
  omega
theorem joined_first {xs : List ByteArray} {x : ByteArray} (h : xs[0]? = some x) : joined (xs.take 1) = x := by
  rw [List.take_add_one, h]
  exact joined_one x

theorem cut_join (c : UInt8) : ∀ (r : List (List UInt8)) (x : List UInt8), (∀ y ∈ x :: r, ∀ b ∈ y, b ≠ c) → cutAt c (Lib.join (x :: r) [c]) = x :: r
  | [], x, h => by
    rw [Lib.join_one]
    exact cutAt_none (h x (by simp))
  | y :: r, x, h => by
    have e : Lib.join (x :: y :: r) [c] = x ++ c :: Lib.join (y :: r) [c] := by
      rw [Lib.join_cons, Lib.join_cons]
      simp [Lib.joinTail]
    rw [e, cutAt_app _ (h x (by simp)), cut_join c r y (fun z hz => h z (by simp [hz]))]
theorem word_bytes {x : ByteArray} (h : isWord x = true) : ∀ b ∈ x.data.toList, b ≠ 32 := by
  intro b hb e
  unfold isWord small at h
  rw [Bool.and_eq_true, List.all_eq_true] at h
  have := h.1 b hb
  subst e
  exact absurd this (by decide)
theorem cutS_joined {xs : List ByteArray} (h : xs.all isWord = true) (hn : xs ≠ []) : cutS 32 (joined xs) = xs := by
  cases xs with
  | nil => exact absurd rfl hn
  | cons x r =>
    rw [List.all_eq_true] at h
    have e : (joined (x :: r)).data.toList = Lib.join (x.data.toList :: bytesOf r) [32] := by
      unfold joined bytesOf; simp
    unfold cutS
    rw [e, cut_join 32 (bytesOf r) x.data.toList]
    · unfold bytesOf
      simp [Function.comp_def]
    · intro y hy
      rcases List.mem_cons.1 hy with rfl | hy
      · exact word_bytes (h x (by simp))
      · unfold bytesOf at hy
        obtain ⟨z, hz, rfl⟩ := List.mem_map.1 hy
        exact word_bytes (h z (by simp [hz]))
/-- JoinPhrase's answer -/
def jpOk (xs : List ByteArray) : Bool := xs.all isWord && decide (1 ≤ xs.length ∧ xs.length ≤ 8)
def jpText (xs : List ByteArray) : ByteArray := if jpOk xs = true then joined xs else ⟨#[]⟩
def jpCode (xs : List ByteArray) : Int := if jpOk xs = true then 0 else 1
theorem jp_phrase {xs : List ByteArray} (h : xs.all isWord = true) : isPhrase (joined xs) = decide (1 ≤ xs.length ∧ xs.length ≤ 8) := by
  cases xs with
  | nil => rfl
  | cons x r =>
    unfold isPhrase
    rw [cutS_joined h (by simp), h]
    simp

/-! ## walks -/
set_option maxRecDepth 100000 in
set_option maxHeartbeats 1000000 in
theorem l01Words_any (A : Option Addr) (n c : Nat) (xs : List ByteArray) (w : World) (hx : Strs w A n c xs) (hT : total xs + n ≤ 1000000000000) :
    Calls Tryd.prog 139 #[.slice A n c] w fun e w' => e = .returned (.string (joined xs)) ∧ Below w.heap.size w w' := by
  have hcm := hx.2.1.cap
  have hnc := hx.2.1.le
  have HX := Lib.hid hx.1
  unfold maxLen at hcm
  have hsz : ∀ k, k ≤ n → (joined (xs.take k)).size ≤ 1000000000000 := fun k hk => by
    have h1 := joined_size (xs.take k)
    have h2 := total_take xs k
    have h3 : (xs.take k).length ≤ k := by rw [List.length_take]; omega
    omega
  have HSZ := Lib.hid hsz
  clear hsz
  go_enter Tryd.func139, Tryd.ntmps139
  go_wp2
  go_loopw [3, 4] (fun o i wr => ∃ (k : Nat) (t : ByteArray), k ≤ n ∧ i = .int .i64 k ∧ o = .string t ∧ Hid (t = joined (xs.take k)) ∧ Below w.heap.size w wr) (fun _ i _ => n - (intOf i).toNat)
  case atStart => exact ⟨0, _, Nat.zero_le _, rfl, rfl, rfl, Below.refl _ _⟩
  case round =>
    obtain ⟨k, t, hk, rfl, rfl, hq, hb⟩ := hrel
    by_cases hlt : k < n
    · obtain ⟨b, off, rfl, hbl⟩ := hx.at_ k hlt
      obtain ⟨s, hs, c0, _⟩ := hx.el hb hbl k hlt
      have z1 := HSZ.out k hk
      have z2 := HSZ.out (k + 1) hlt
      by_cases h0 : 0 < k
      · have HQ := Lib.hid (joined_step hs.out h0)
        have e3 : (joined (xs.take (k + 1))).size = t.size + 1 + s.size := by
          rw [HQ.out, ← hq.out, ByteArray.size_append, ByteArray.size_append]; rfl
        rw [e3] at z2
        rw [← hq.out] at z1
        have HT := Lib.hid (show t ++ ⟨#[32]⟩ ++ s = joined (xs.take (k + 1)) by rw [HQ.out, hq.out])
        clear e3 hq HQ
        go_wp2
        go_roundw
        case rel => exact ⟨k + 1, _, by omega, by go_num, rfl, HT, hb⟩
        case measure => simp [intOf]; omega
      · have HT := Lib.hid (show s = joined (xs.take (k + 1)) by
          have hk0 : k = 0 := by omega
          have h1 := hs.out
          rw [hk0] at h1 ⊢
          exact (joined_first h1).symm)
        have ht : t = ⟨#[]⟩ := by rw [hq.out, show k = 0 by omega]; rfl
        subst ht
        rw [← HT.out] at z2
        clear hq
        go_wp2
        go_roundw
        case rel => exact ⟨k + 1, _, by omega, by go_num, rfl, HT, hb⟩
        case measure => simp [intOf]; omega
    · have HT := Lib.hid (show t = joined xs by rw [hq.out, List.take_of_length_le (by have := HX.out; omega)])
      clear hq
      go_wp2
      go_ret
      exact ⟨by rw [← HT.out]; rfl, hb⟩

theorem join_any (A : Option Addr) (n c : Nat) (xs : List ByteArray) (w : World) (hx : Strs w A n c xs) (hT : total xs + n ≤ 1000000000000) :
    Calls Tryd.prog 137 #[.slice A n c, .string ⟨#[32]⟩] w fun e w' => e = .returned (.string (joined xs)) ∧ Below w.heap.size w w' := by
  cases xs with
  | nil =>
    obtain rfl : n = 0 := hx.1
    exact (Tryd.strings_Join_none A c ⟨#[32]⟩ w).mono fun e w' ⟨he, hw⟩ => ⟨he, by rw [hw]; exact Below.refl _ _⟩
  | cons x r =>
    obtain rfl : n = (x :: r).length := hx.1
    obtain ⟨b, off, rfl, hbl, hcell⟩ := hx.2.1.at_ (by simp)
    have hl : (Lib.join (bytesOf (x :: r)) [32]).length = (joined (x :: r)).size := by unfold joined; simp [ByteArray.size]
    have h1 := joined_size (x :: r)
    exact Tryd.strings_Join b off c (x :: r) ⟨#[32]⟩ w (fun j y hy => hcell j (.string y) (by rw [List.getElem?_map, hy]; rfl)) hbl (by omega) hx.2.1.le
      (by show (Lib.join (bytesOf (x :: r)) [32]).length ≤ _; omega)

theorem jp_no {xs : List ByteArray} (h : jpOk xs = false) : Hid (jpText xs = ⟨#[]⟩ ∧ jpCode xs = 1) := by
  unfold Hid jpText jpCode
  rw [h]
  exact ⟨rfl, rfl⟩
theorem jp_yes {xs : List ByteArray} (h : jpOk xs = true) : Hid (jpText xs = joined xs ∧ jpCode xs = 0) := by
  unfold Hid jpText jpCode
  rw [h]
  exact ⟨rfl, rfl⟩
set_option maxRecDepth 100000 in
set_option maxHeartbeats 1000000 in
theorem JoinPhrase_spec (A : Option Addr) (n c : Nat) (xs : List ByteArray) (w : World) (hx : Strs w A n c xs) (hT : total xs + n ≤ 1000000000000) :
    Calls Tryd.prog 82 #[.slice A n c] w fun e w' => e = .returned (.tuple #[.string (jpText xs), .int .i64 (jpCode xs)]) ∧ Below w.heap.size w w' := by
  have hcm := hx.2.1.cap
  have hnc := hx.2.1.le
  have HX := Lib.hid hx.1
  unfold maxLen at hcm
  go_enter Tryd.func82, Tryd.ntmps82
  go_wp2
  go_loopw [4] (fun i wr => ∃ k : Nat, k ≤ n ∧ i = .int .i64 k ∧ Hid ((xs.take k).all isWord = true) ∧ Below w.heap.size w wr) (fun i _ => n - (intOf i).toNat)
  case atStart => exact ⟨0, Nat.zero_le _, rfl, by simp [Hid], Below.refl _ _⟩
  case round =>
    obtain ⟨k, hk, rfl, hup, hb⟩ := hrel
    by_cases hlt : k < n
    · obtain ⟨b, off, rfl, hbl⟩ := hx.at_ k hlt
      obtain ⟨s, hs, c0, hsz⟩ := hx.el hb hbl k hlt
      cases hw : isWord s
      · go_wp2_with fail
        refine (IsWord_spec s _ hsz).mono ?_
        rintro e_ w1 ⟨rfl, h1⟩
        have hc_w1 := bcell h1; have hf_w1 := bfree h1
        have HF := jp_no (show jpOk xs = false by unfold jpOk; rw [all_not hs hw, Bool.false_and])
        go_wp2
        go_ret2
        exact ⟨by rw [HF.out.1, HF.out.2]; rfl, next hb h1⟩
      · go_wp2_with fail
        refine (IsWord_spec s _ hsz).mono ?_
        rintro e_ w1 ⟨rfl, h1⟩
        have hc_w1 := bcell h1; have hf_w1 := bfree h1
        have HU := Lib.hid (all_at hs hup.out hw)
        clear hup
        go_wp2
        go_roundw
        case rel => exact ⟨k + 1, by omega, by go_num, HU, next hb h1⟩
        case measure => simp [intOf]; omega
    · have hok : jpOk xs = decide (1 ≤ n ∧ n ≤ 8) := by
        unfold jpOk
        rw [all_done HX.out (by omega) hup.out, Bool.true_and, HX.out]
      clear hup
      by_cases h1 : 1 ≤ n
      · by_cases h8 : n ≤ 8
        · have HF := jp_yes (show jpOk xs = true by rw [hok]; exact decide_eq_true ⟨h1, h8⟩)
          clear hok
          have q0 : ((n : Int) == 0) = false := by simp; omega
          have q1 : ¬ (8 : Int) < (n : Int) := by omega
          go_wp2_with fail
          refine (l01Words_any A n c xs _ (hx.below hb) hT).mono ?_
          rintro e_ w1 ⟨rfl, k1⟩
          have hc_w1 := bcell k1; have hf_w1 := bfree k1
          go_wp2
          go_ret2
          exact ⟨by rw [HF.out.1, HF.out.2]; rfl, next hb k1⟩
        · have HF := jp_no (show jpOk xs = false by rw [hok]; exact decide_eq_false (by omega))
          clear hok
          go_wp2
          go_ret2
          exact ⟨by rw [HF.out.1, HF.out.2]; rfl, hb⟩
      · have HF := jp_no (show jpOk xs = false by rw [hok]; exact decide_eq_false (by omega))
        clear hok
        have hn0 : (n : Int) = 0 := by omega
        go_wp2
        go_ret2
        exact ⟨by rw [HF.out.1, HF.out.2]; rfl, hb⟩

set_option maxHeartbeats 1000000 in
theorem JoinPhrase_impl (A : Option Addr) (n c : Nat) (xs : List ByteArray) (w : World) (hx : Strs w A n c xs) (hT : total xs + n ≤ 1048576) (hm : MaxCell w) :
    Calls Tryd.prog 81 #[.slice A n c] w fun e w' => e = .returned (.tuple #[.string (jpText xs), .int .i64 (jpCode xs)]) ∧ Below w.heap.size w w' := by
  have hjs : (joined xs).size ≤ 1048576 := by
    have := joined_size xs
    have := hx.1
    omega
  have HN := hx.1
  have HX := Lib.hid HN
  clear HN
  cases ha : xs.all isWord
  · have HF := jp_no (show jpOk xs = false by unfold jpOk; rw [ha, Bool.false_and])
    go_enter Tryd.func81, Tryd.ntmps81
    go_wp2_with fail
    refine (join_any A n c xs _ hx (by omega)).mono ?_
    rintro e_ w1 ⟨rfl, k1⟩
    have hc_w1 := bcell k1; have hf_w1 := bfree k1
    go_wp2_with fail
    refine (isb (areWords_any A n c xs _ (hx.below k1)) ha).mono ?_
    rintro e_ w2 ⟨rfl, k2⟩
    have hc_w2 := bcell k2; have hf_w2 := bfree k2
    go_wp2
    go_ret2
    exact ⟨by rw [HF.out.1, HF.out.2]; rfl, next k1 k2⟩
  · have hph := jp_phrase ha
    have hok : jpOk xs = isPhrase (joined xs) := by rw [hph]; unfold jpOk; rw [ha, Bool.true_and]
    clear hph
    cases hp : isPhrase (joined xs)
    · have HF := jp_no (hok.trans hp)
      clear hok
      go_enter Tryd.func81, Tryd.ntmps81
      go_wp2_with fail
      refine (join_any A n c xs _ hx (by omega)).mono ?_
      rintro e_ w1 ⟨rfl, k1⟩
      have hc_w1 := bcell k1; have hf_w1 := bfree k1
      go_wp2_with fail
      refine (isb (areWords_any A n c xs _ (hx.below k1)) ha).mono ?_
      rintro e_ w2 ⟨rfl, k2⟩
      have hc_w2 := bcell k2; have hf_w2 := bfree k2
      go_wp2_with fail
      refine (isb (IsPhrase_impl (joined xs) _ hjs (hm.below (next k1 k2))) hp).mono ?_
      rintro e_ w3 ⟨rfl, k3⟩
      have hc_w3 := bcell k3; have hf_w3 := bfree k3
      go_wp2
      go_ret2
      exact ⟨by rw [HF.out.1, HF.out.2]; rfl, next (next k1 k2) k3⟩
    · have HF := jp_yes (hok.trans hp)
      clear hok
      go_enter Tryd.func81, Tryd.ntmps81
      go_wp2_with fail
      refine (join_any A n c xs _ hx (by omega)).mono ?_
      rintro e_ w1 ⟨rfl, k1⟩
      have hc_w1 := bcell k1; have hf_w1 := bfree k1
      go_wp2_with fail
      refine (isb (areWords_any A n c xs _ (hx.below k1)) ha).mono ?_
      rintro e_ w2 ⟨rfl, k2⟩
      have hc_w2 := bcell k2; have hf_w2 := bfree k2
      go_wp2_with fail
      refine (isb (IsPhrase_impl (joined xs) _ hjs (hm.below (next k1 k2))) hp).mono ?_
      rintro e_ w3 ⟨rfl, k3⟩
      have hc_w3 := bcell k3; have hf_w3 := bfree k3
      go_wp2
      go_ret2
      exact ⟨by rw [HF.out.1, HF.out.2]; rfl, next (next k1 k2) k3⟩

/-! ## the harness's copies and sizes -/
def szOf (left : Int) (n : Nat) (xs : List ByteArray) : Int := if left - n - total xs < 0 then -1 else left - n - total xs
theorem total_succ {xs : List ByteArray} {k : Nat} {x : ByteArray} (h : xs[k]? = some x) : total (xs.take (k + 1)) = total (xs.take k) + x.size := by
  unfold total
  rw [List.take_add_one, h]
  simp
end Go.Proofs.YtbhibidgdlaeeaaDoor
