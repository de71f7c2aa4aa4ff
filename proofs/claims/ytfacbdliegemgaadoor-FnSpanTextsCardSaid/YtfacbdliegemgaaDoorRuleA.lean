/- Rules and tables: what IsRule, IsTable and the search for a rule compute. -/
import Derived.Test.YtfacbdliegemgaaDoorRules
import Derived.Test.YtfacbdliegemgaaDoorSame
namespace Go.Proofs.YtfacbdliegemgaaDoor
open Go.ChangeShapes Go.WideShapes Go.ChangeAt Go.RowKit

/-- a contract's integer, known -/
theorem isn {P : Program} {f : FuncId} {args : Array Value} {w : World} {p q : Int} (h : Calls P f args w fun e w' => e = .returned (.int .i64 p) ∧ Below w.heap.size w w') (e : p = q) :
    Calls P f args w fun e w' => e = .returned (.int .i64 q) ∧ Below w.heap.size w w' := e ▸ h
theorem one_box (w : World) (x : Obj) : Below w.heap.size w (w.alloc x) := (Below.refl _ _).alloc (Nat.le_refl _) _

theorem lengthI_any (A : Option Addr) (n c : Nat) (w : World) (hn : n ≤ c) (hc : c ≤ 9223372036854775807) :
    Calls Tryd.prog 74 #[.slice A n c] w fun e w' => e = .returned (.int .i64 n) ∧ Below w.heap.size w w' := by
  go_enter Tryd.func74, Tryd.ntmps74
  go_wp2
  go_ret
  exact ⟨rfl, Below.refl _ _⟩
theorem sg_all {most : Int} {xs : List Int} (h : xs.all (inB 0 19) = false) : sgB most xs = false := by unfold sgB; rw [h]; rfl
theorem sg_len {most : Int} {xs : List Int} {n : Nat} (hn : n = xs.length) (h : xs.all (inB 0 19) = true) : sgB most xs = decide (1 ≤ (n : Int) ∧ (n : Int) ≤ most) := by unfold sgB; rw [h, hn]; rfl
set_option maxHeartbeats 800000 in
theorem areSigns_any (A : Option Addr) (n c : Nat) (xs : List Int) (most : Int) (w : World) (hx : Ints w A n c xs) :
    Calls Tryd.prog 62 #[.slice A n c, .int .i64 most] w fun e w' => e = .returned (.bool (sgB most xs)) ∧ Below w.heap.size w w' := by
  have hcm := hx.2.cap
  have hnc := hx.2.le
  have HX := Lib.hid hx.1
  unfold maxLen at hcm
  cases h1 : decide (1 ≤ (n : Int) ∧ (n : Int) ≤ most)
  · have HF := Lib.hid (show sgB most xs = false by unfold sgB; rw [← HX.out, h1, Bool.and_false])
    go_enter Tryd.func62, Tryd.ntmps62
    go_wp2_with fail
    refine (lengthI_any A n c _ hnc hcm).mono ?_
    rintro e_ w1 ⟨rfl, k1⟩
    have hc_w1 := bcell k1; have hf_w1 := bfree k1
    go_wp2_with fail
    refine (isb (within_any n 1 most _) h1).mono ?_
    rintro e_ w2 ⟨rfl, k2⟩
    have hc_w2 := bcell k2; have hf_w2 := bfree k2
    go_wp2
    go_ret
    exact ⟨by rw [HF.out]; rfl, next k1 k2⟩
  · have HF := Lib.hid (show sgB most xs = xs.all (inB 0 19) by unfold sgB; rw [← HX.out, h1, Bool.and_true])
    go_enter Tryd.func62, Tryd.ntmps62
    go_wp2_with fail
    refine (lengthI_any A n c _ hnc hcm).mono ?_
    rintro e_ w1 ⟨rfl, k1⟩
    have hc_w1 := bcell k1; have hf_w1 := bfree k1
    go_wp2_with fail
    refine (isb (within_any n 1 most _) h1).mono ?_
    rintro e_ w2 ⟨rfl, k2⟩
    have hc_w2 := bcell k2; have hf_w2 := bfree k2
    go_wp2_with fail
    refine (areWithin_any A n c xs 0 19 _ ((hx.below k1).below k2)).mono ?_
    rintro e_ w3 ⟨rfl, k3⟩
    have hc_w3 := bcell k3; have hf_w3 := bfree k3
    go_wp2
    go_ret
    exact ⟨by rw [HF.out]; rfl, next (next k1 k2) k3⟩
set_option maxHeartbeats 800000 in
theorem l04Signs_any (A : Option Addr) (n c : Nat) (xs : List Int) (most : Int) (w : World) (hx : Ints w A n c xs) :
    Calls Tryd.prog 56 #[.slice A n c, .int .i64 most] w fun e w' => e = .returned (.bool (sgB most xs)) ∧ Below w.heap.size w w' := by
  have hcm := hx.2.cap
  have hnc := hx.2.le
  have HX := Lib.hid hx.1
  unfold maxLen at hcm
  go_enter Tryd.func56, Tryd.ntmps56
  go_wp2
  go_loopw [5] (fun i wr => ∃ k : Nat, k ≤ n ∧ i = .int .i64 k ∧ Hid ((xs.take k).all (inB 0 19) = true) ∧ Below w.heap.size w wr) (fun i _ => n - (intOf i).toNat)
  case atStart => exact ⟨0, Nat.zero_le _, rfl, by simp [Hid], Below.refl _ _⟩
  case round =>
    obtain ⟨k, hk, rfl, hup, hb⟩ := hrel
    by_cases hlt : k < n
    · obtain ⟨b, off, rfl, hbl⟩ := hx.at_ k hlt
      obtain ⟨s, hs, c0⟩ := hx.el hb hbl k hlt
      cases hw : inB 0 19 s
      · have HF := Lib.hid (sg_all (most := most) (all_not hs hw))
        go_wp2_with fail
        refine (isb (l01In_any s 0 19 _) hw).mono ?_
        rintro e_ w1 ⟨rfl, h1⟩
        have hc_w1 := bcell h1; have hf_w1 := bfree h1
        go_wp2
        go_ret
        exact ⟨by rw [HF.out]; rfl, next hb h1⟩
      · have HU := Lib.hid (all_at hs hup.out hw)
        clear hup
        go_wp2_with fail
        refine (isb (l01In_any s 0 19 _) hw).mono ?_
        rintro e_ w1 ⟨rfl, h1⟩
        have hc_w1 := bcell h1; have hf_w1 := bfree h1
        go_wp2
        go_roundw
        case rel => exact ⟨k + 1, by omega, by go_num, HU, next hb h1⟩
        case measure => simp [intOf]; omega
    · have HF := Lib.hid (sg_len (most := most) HX.out (all_done HX.out (by omega) hup.out))
      clear hup
      go_wp2_with fail
      refine (l01In_any n 1 most _).mono ?_
      rintro e_ w1 ⟨rfl, h1⟩
      have hc_w1 := bcell h1; have hf_w1 := bfree h1
      go_wp2
      go_ret
      exact ⟨ret_bool (by rw [HF.out, Bool.eq_iff_iff]; simp), next hb h1⟩
set_option maxHeartbeats 800000 in
theorem IsRule_impl (B : Option Addr) (m d : Nat) (xs : List Int) (r : ByteArray) (w : World) (hx : Ints w B m d xs) (hr : r.size ≤ maxLen) :
    Calls Tryd.prog 38 #[.agg #[.slice B m d, .string r]] w fun e w' => e = .returned (.bool (isRl (xs, r))) ∧ Below w.heap.size w w' := by
  cases h1 : sgB 3 xs
  · have HF := Lib.hid (show isRl (xs, r) = false by unfold isRl; rw [h1]; rfl)
    go_enter Tryd.func38, Tryd.ntmps38
    go_wp2_with fail
    refine (isb (areSigns_any B m d xs 3 _ (hx.below (one_box _ _))) h1).mono ?_
    rintro e_ w1 ⟨rfl, k1⟩
    have hc_w1 := bcell k1; have hf_w1 := bfree k1
    go_wp2
    go_ret
    exact ⟨by rw [HF.out]; rfl, next (one_box _ _) k1⟩
  · have HF := Lib.hid (show isRl (xs, r) = small 0 4 r by unfold isRl; rw [h1]; rfl)
    go_enter Tryd.func38, Tryd.ntmps38
    go_wp2_with fail
    refine (isb (areSigns_any B m d xs 3 _ (hx.below (one_box _ _))) h1).mono ?_
    rintro e_ w1 ⟨rfl, k1⟩
    have hc_w1 := bcell k1; have hf_w1 := bfree k1
    have hz_w1_0 : w.heap.size < w1.heap.size := by have hz_ := k1.size; (try simp at hz_); omega
    go_wp2_with fail
    refine (isSmall_any r 0 4 _ hr).mono ?_
    rintro e_ w2 ⟨rfl, k2⟩
    have hc_w2 := bcell k2; have hf_w2 := bfree k2
    go_wp2
    go_ret
    exact ⟨by rw [HF.out]; rfl, next (next (one_box _ _) k1) k2⟩
set_option maxHeartbeats 800000 in
theorem IsRule_spec (B : Option Addr) (m d : Nat) (xs : List Int) (r : ByteArray) (w : World) (hx : Ints w B m d xs) (hr : r.size ≤ maxLen) :
    Calls Tryd.prog 34 #[.agg #[.slice B m d, .string r]] w fun e w' => e = .returned (.bool (isRl (xs, r))) ∧ Below w.heap.size w w' := by
  cases h1 : sgB 3 xs
  · have HF := Lib.hid (show isRl (xs, r) = false by unfold isRl; rw [h1]; rfl)
    go_enter Tryd.func34, Tryd.ntmps34
    go_wp2_with fail
    refine (isb (l04Signs_any B m d xs 3 _ (hx.below (one_box _ _))) h1).mono ?_
    rintro e_ w1 ⟨rfl, k1⟩
    have hc_w1 := bcell k1; have hf_w1 := bfree k1
    go_wp2
    go_ret
    exact ⟨by rw [HF.out]; rfl, next (one_box _ _) k1⟩
  · have HF := Lib.hid (show isRl (xs, r) = small 0 4 r by unfold isRl; rw [h1]; rfl)
    go_enter Tryd.func34, Tryd.ntmps34
    go_wp2_with fail
    refine (isb (l04Signs_any B m d xs 3 _ (hx.below (one_box _ _))) h1).mono ?_
    rintro e_ w1 ⟨rfl, k1⟩
    have hc_w1 := bcell k1; have hf_w1 := bfree k1
    have hz_w1_0 : w.heap.size < w1.heap.size := by have hz_ := k1.size; (try simp at hz_); omega
    go_wp2_with fail
    refine (l03Lower_any r 0 4 _ hr).mono ?_
    rintro e_ w2 ⟨rfl, k2⟩
    have hc_w2 := bcell k2; have hf_w2 := bfree k2
    go_wp2
    go_ret
    exact ⟨by rw [HF.out]; rfl, next (next (one_box _ _) k1) k2⟩

/-! ## the search for a rule -/
/-! ## tables -/
end Go.Proofs.YtfacbdliegemgaaDoor
