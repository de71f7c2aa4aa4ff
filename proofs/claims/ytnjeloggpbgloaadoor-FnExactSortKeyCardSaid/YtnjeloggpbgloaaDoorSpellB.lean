/- Spelling: the next letter, and the whole word. -/
import Derived.Test.YtnjeloggpbgloaaDoorSpellA
namespace Go.Proofs.YtnjeloggpbgloaaDoor
open Go.ChangeShapes Go.WideShapes Go.ChangeAt Go.RowKit

def pre (x s : ByteArray) : Bool := decide (x.size ≤ s.size) && decide (s.extract 0 x.size = x)
/-- the longest letter among the first k with which a text begins, or -1 -/
def nx (xs : List ByteArray) (s : ByteArray) : Nat → Int
  | 0 => -1
  | k + 1 => if pre (xs.getD k ⟨#[]⟩) s && (decide (nx xs s k < 0) || decide ((xs.getD (nx xs s k).toNat ⟨#[]⟩).size < (xs.getD k ⟨#[]⟩).size)) then k else nx xs s k
theorem nx_in (xs : List ByteArray) (s : ByteArray) : ∀ k : Nat, -1 ≤ nx xs s k ∧ nx xs s k < k
  | 0 => by simp [nx]
  | k + 1 => by
    have := nx_in xs s k
    unfold nx
    split <;> omega
theorem nx_no {xs : List ByteArray} {s : ByteArray} {k : Nat} {x : ByteArray} (h : xs[k]? = some x) (hp : pre x s = false) : nx xs s (k + 1) = nx xs s k := by
  conv => lhs; unfold nx
  rw [List.getD_eq_getElem?_getD, h, Option.getD_some, hp]
  rfl
theorem nx_first {xs : List ByteArray} {s : ByteArray} {k : Nat} {x : ByteArray} (h : xs[k]? = some x) (hp : pre x s = true) (hb : nx xs s k < 0) : nx xs s (k + 1) = k := by
  conv => lhs; unfold nx
  rw [List.getD_eq_getElem?_getD, h, Option.getD_some, hp]
  simp [hb]
theorem nx_cmp {xs : List ByteArray} {s : ByteArray} {k : Nat} {x y : ByteArray} {q : Nat} (h : xs[k]? = some x) (hp : pre x s = true) (hq : nx xs s k = q) (hy : xs[q]? = some y) : nx xs s (k + 1) = if y.size < x.size then (k : Int) else q := by
  conv => lhs; unfold nx
  rw [hq]
  have e1 : xs.getD k ⟨#[]⟩ = x := by rw [List.getD_eq_getElem?_getD, h]; rfl
  have e2 : xs.getD ((q : Int)).toNat ⟨#[]⟩ = y := by rw [List.getD_eq_getElem?_getD, Int.toNat_natCast, hy]; rfl
  rw [e1, e2, hp]
  have e3 : ¬ ((q : Int) < 0) := by omega
  simp [e3]
theorem pre_eq {x s : ByteArray} (h : pre x s = true) : x.size ≤ s.size ∧ s.extract 0 x.size = x := by
  unfold pre at h
  simpa using h

theorem liteHasPrefix_any (s x : ByteArray) (w : World) (hs : s.size ≤ maxLen) (hx : x.size ≤ maxLen) :
    Calls Tryd.prog 44 #[.string s, .string x] w fun e w' => e = .returned (.bool (pre x s)) ∧ Below w.heap.size w w' := by
  unfold maxLen at hs hx
  by_cases h1 : x.size ≤ s.size
  · by_cases h2 : s.extract 0 x.size = x
    · have HP := Lib.hid (show pre x s = true by unfold pre; rw [h2]; simp [h1])
      have hq : ((s.extract 0 x.size).toList == x.toList) = true := by rw [h2]; simp
      go_enter Tryd.func44, Tryd.ntmps44
      go_wp2
      go_ret
      exact ⟨by rw [HP.out]; rfl, Below.refl _ _⟩
    · have HP := Lib.hid (show pre x s = false by unfold pre; simp [h2])
      have hne := text_ne h2
      clear h2
      go_enter Tryd.func44, Tryd.ntmps44
      go_wp2
      go_ret
      exact ⟨by rw [HP.out]; rfl, Below.refl _ _⟩
  · have HP := Lib.hid (show pre x s = false by unfold pre; simp [h1])
    go_enter Tryd.func44, Tryd.ntmps44
    go_wp2
    go_ret
    exact ⟨by rw [HP.out]; rfl, Below.refl _ _⟩
theorem HasPrefix_any (s x : ByteArray) (w : World) (hs : s.size ≤ maxLen) (hx : x.size ≤ maxLen) :
    Calls Tryd.prog 38 #[.string s, .string x] w fun e w' => e = .returned (.bool (pre x s)) ∧ Below w.heap.size w w' := by
  go_enter Tryd.func38, Tryd.ntmps38
  go_wp2_with fail
  refine (liteHasPrefix_any s x _ hs hx).mono ?_
  rintro e_ w1 ⟨rfl, h1⟩
  have hc_w1 := bcell h1; have hf_w1 := bfree h1
  go_wp2
  go_ret
  exact ⟨rfl, h1⟩

set_option maxRecDepth 100000 in
set_option maxHeartbeats 2000000 in
theorem l03Next_any (A : Option Addr) (n c : Nat) (xs : List ByteArray) (s : ByteArray) (w : World) (hx : Strs w A n c xs) (hs : s.size ≤ maxLen) :
    Calls Tryd.prog 32 #[.slice A n c, .string s] w fun e w' => e = .returned (.int .i64 (nx xs s n)) ∧ Below w.heap.size w w' := by
  have hcm := hx.2.1.cap
  have hnc := hx.2.1.le
  have HX := Lib.hid hx.1
  unfold maxLen at hcm hs
  go_enter Tryd.func32, Tryd.ntmps32
  go_wp2
  go_loopw [5, 6] (fun q i wr => ∃ (k : Nat) (b : Int), k ≤ n ∧ i = .int .i64 k ∧ q = .int .i64 b ∧ -1 ≤ b ∧ b < k ∧ Hid (nx xs s k = b) ∧ Below w.heap.size w wr) (fun _ i _ => n - (intOf i).toNat)
  case atStart => exact ⟨0, -1, Nat.zero_le _, rfl, rfl, by omega, by omega, rfl, Below.refl _ _⟩
  case round =>
    obtain ⟨k, bt, hk, rfl, rfl, b0, b1, hn, hb⟩ := hrel
    by_cases hlt : k < n
    · obtain ⟨b, off, rfl, hbl⟩ := hx.at_ k hlt
      obtain ⟨x, hxk, c0, hsz⟩ := hx.el hb hbl k hlt
      unfold maxLen at hsz
      have hbw : b < wr.heap.size := Nat.lt_of_lt_of_le hbl hb.size
      have hj0 : (0 : Int) ≤ (k : Int) := Int.natCast_nonneg _
      have hj1 : (k : Int) < (n : Int) := by omega
      by_cases h1 : x.size ≤ s.size
      · have h1' : (x.size : Int) ≤ (s.size : Int) := by omega
        by_cases h2 : s.extract 0 x.size = x
        · have hp : pre x s = true := by unfold pre; rw [h2]; simp [h1]
          have hq : ((s.extract 0 x.size).toList == x.toList) = true := by rw [h2]; simp
          clear h2
          by_cases hbt : bt < 0
          · have HN := Lib.hid (nx_first hxk.out hp (by rw [hn.out]; exact hbt))
            clear hn hp
            go_wp2
            refine wp_region_later (by kernel_rfl) (by kernel_rfl) ?_
            repeat (go_big_quiet_step (fail))
            refine wpQuiet_nil ?_
            intro w2 hw2; have h2 := later_below hw2; clear hw2
            go_wp2
            go_roundw
            case rel => exact ⟨k + 1, (k : Int), by omega, by go_num, rfl, by omega, by omega, HN, next hb h2⟩
            case measure => simp [intOf]; omega
          · obtain ⟨q, rfl⟩ : ∃ q : Nat, bt = q := ⟨bt.toNat, by omega⟩
            have hqn : q < n := by omega
            obtain ⟨y, hyq, c1, hyz⟩ := hx.el hb hbl q hqn
            unfold maxLen at hyz
            have hqi : (q : Int) < (n : Int) := by omega
            have hq0 : (0 : Int) ≤ (q : Int) := Int.natCast_nonneg _
            have hd1 : decide ((q : Int) < 0) = false := decide_eq_false hbt
            have HC := nx_cmp hxk.out hp hn.out hyq.out
            by_cases hyx : y.size < x.size
            · rw [if_pos hyx] at HC
              have HN := Lib.hid HC
              have hyx' : (y.size : Int) < (x.size : Int) := by omega
              clear hn hp HC
              go_wp2
              refine wp_region_later (by kernel_rfl) (by kernel_rfl) ?_
              repeat (go_big_quiet_step (fail))
              refine wpQuiet_nil ?_
              intro w2 hw2; have h2 := later_below hw2; clear hw2
              go_wp2
              go_roundw
              case rel => exact ⟨k + 1, (k : Int), by omega, by go_num, rfl, by omega, by omega, HN, next hb h2⟩
              case measure => simp [intOf]; omega
            · rw [if_neg hyx] at HC
              have HN := Lib.hid HC
              have hyx' : ¬ (y.size : Int) < (x.size : Int) := by omega
              clear hn hp HC
              go_wp2
              refine wp_region_later (by kernel_rfl) (by kernel_rfl) ?_
              repeat (go_big_quiet_step (fail))
              refine wpQuiet_nil ?_
              intro w2 hw2; have h2 := later_below hw2; clear hw2
              go_wp2
              go_roundw
              case rel => exact ⟨k + 1, (q : Int), by omega, by go_num, rfl, by omega, by omega, HN, next hb h2⟩
              case measure => simp [intOf]; omega
        · have HN := Lib.hid ((nx_no hxk.out (show pre x s = false by unfold pre; simp [h2])).trans hn.out)
          have hne := text_ne h2
          clear h2 hn
          go_wp2
          refine wp_region_later (by kernel_rfl) (by kernel_rfl) ?_
          repeat (go_big_quiet_step (fail))
          refine wpQuiet_nil ?_
          intro w2 hw2; have h2 := later_below hw2; clear hw2
          go_wp2
          go_roundw
          case rel => exact ⟨k + 1, bt, by omega, by go_num, rfl, b0, by omega, HN, next hb h2⟩
          case measure => simp [intOf]; omega
      · have HN := Lib.hid ((nx_no hxk.out (show pre x s = false by unfold pre; simp [h1])).trans hn.out)
        have h1' : ¬ (x.size : Int) ≤ (s.size : Int) := by omega
        clear hn
        go_wp2
        refine wp_region_later (by kernel_rfl) (by kernel_rfl) ?_
        repeat (go_big_quiet_step (fail))
        refine wpQuiet_nil ?_
        intro w2 hw2; have h2 := later_below hw2; clear hw2
        go_wp2
        go_roundw
        case rel => exact ⟨k + 1, bt, by omega, by go_num, rfl, b0, by omega, HN, next hb h2⟩
        case measure => simp [intOf]; omega
    · have HN := Lib.hid (show nx xs s n = bt by have := hn.out; rwa [show k = n by omega] at this)
      clear hn
      go_wp2
      go_ret
      exact ⟨by rw [HN.out]; rfl, hb⟩
end Go.Proofs.YtnjeloggpbgloaaDoor
