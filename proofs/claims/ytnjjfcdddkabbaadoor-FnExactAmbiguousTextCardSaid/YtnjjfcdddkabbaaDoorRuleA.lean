/- Rules and tables: what IsRule, IsTable and the search for a rule compute. -/
import Derived.Test.YtnjjfcdddkabbaaDoorRules
import Derived.Test.YtnjjfcdddkabbaaDoorSame
namespace Go.Proofs.YtnjjfcdddkabbaaDoor
open Go.ChangeShapes Go.WideShapes Go.ChangeAt Go.RowKit

/-- a contract's integer, known -/
theorem isn {P : Program} {f : FuncId} {args : Array Value} {w : World} {p q : Int} (h : Calls P f args w fun e w' => e = .returned (.int .i64 p) ∧ Below w.heap.size w w') (e : p = q) :
    Calls P f args w fun e w' => e = .returned (.int .i64 q) ∧ Below w.heap.size w w' := e ▸ h
theorem one_box (w : World) (x : Obj) : Below w.heap.size w (w.alloc x) := (Below.refl _ _).alloc (Nat.le_refl _) _

theorem lengthI_any (A : Option Addr) (n c : Nat) (w : World) (hn : n ≤ c) (hc : c ≤ 9223372036854775807) :
    Calls Tryd.prog 50 #[.slice A n c] w fun e w' => e = .returned (.int .i64 n) ∧ Below w.heap.size w w' := by
  go_enter Tryd.func50, Tryd.ntmps50
  go_wp2
  go_ret
  exact ⟨rfl, Below.refl _ _⟩
theorem sg_all {most : Int} {xs : List Int} (h : xs.all (inB 0 19) = false) : sgB most xs = false := by unfold sgB; rw [h]; rfl
theorem sg_len {most : Int} {xs : List Int} {n : Nat} (hn : n = xs.length) (h : xs.all (inB 0 19) = true) : sgB most xs = decide (1 ≤ (n : Int) ∧ (n : Int) ≤ most) := by unfold sgB; rw [h, hn]; rfl
set_option maxHeartbeats 800000 in
theorem areSigns_any (A : Option Addr) (n c : Nat) (xs : List Int) (most : Int) (w : World) (hx : Ints w A n c xs) :
    Calls Tryd.prog 41 #[.slice A n c, .int .i64 most] w fun e w' => e = .returned (.bool (sgB most xs)) ∧ Below w.heap.size w w' := by
  have hcm := hx.2.cap
  have hnc := hx.2.le
  have HX := Lib.hid hx.1
  unfold maxLen at hcm
  cases h1 : decide (1 ≤ (n : Int) ∧ (n : Int) ≤ most)
  · have HF := Lib.hid (show sgB most xs = false by unfold sgB; rw [← HX.out, h1, Bool.and_false])
    go_enter Tryd.func41, Tryd.ntmps41
    go_wp2_with fail
    refine (lengthI_any A n c _ hnc hcm).mono ?_
    rintro e_ w1 ⟨rfl, k1⟩
    have hc_w1 := bcell k1; have hf_w1 := bfree k1
    go_wp2_with fail
    refine (isb (within_any n 1 most _) h1).mono ?_
    rintro e_ w2 ⟨rfl, k2⟩
    have hc_w2 := bcell k2; have hf_w2 := bfree k2
    go_wp2
    go_ret
    exact ⟨by rw [HF.out]; rfl, next k1 k2⟩
  · have HF := Lib.hid (show sgB most xs = xs.all (inB 0 19) by unfold sgB; rw [← HX.out, h1, Bool.and_true])
    go_enter Tryd.func41, Tryd.ntmps41
    go_wp2_with fail
    refine (lengthI_any A n c _ hnc hcm).mono ?_
    rintro e_ w1 ⟨rfl, k1⟩
    have hc_w1 := bcell k1; have hf_w1 := bfree k1
    go_wp2_with fail
    refine (isb (within_any n 1 most _) h1).mono ?_
    rintro e_ w2 ⟨rfl, k2⟩
    have hc_w2 := bcell k2; have hf_w2 := bfree k2
    go_wp2_with fail
    refine (areWithin_any A n c xs 0 19 _ ((hx.below k1).below k2)).mono ?_
    rintro e_ w3 ⟨rfl, k3⟩
    have hc_w3 := bcell k3; have hf_w3 := bfree k3
    go_wp2
    go_ret
    exact ⟨by rw [HF.out]; rfl, next (next k1 k2) k3⟩
set_option maxHeartbeats 800000 in
theorem l04Signs_any (A : Option Addr) (n c : Nat) (xs : List Int) (most : Int) (w : World) (hx : Ints w A n c xs) :
    Calls Tryd.prog 37 #[.slice A n c, .int .i64 most] w fun e w' => e = .returned (.bool (sgB most xs)) ∧ Below w.heap.size w w' := by
  have hcm := hx.2.cap
  have hnc := hx.2.le
  have HX := Lib.hid hx.1
  unfold maxLen at hcm
  go_enter Tryd.func37, Tryd.ntmps37
  go_wp2
  go_loopw [5] (fun i wr => ∃ k : Nat, k ≤ n ∧ i = .int .i64 k ∧ Hid ((xs.take k).all (inB 0 19) = true) ∧ Below w.heap.size w wr) (fun i _ => n - (intOf i).toNat)
  case atStart => exact ⟨0, Nat.zero_le _, rfl, by simp [Hid], Below.refl _ _⟩
  case round =>
    obtain ⟨k, hk, rfl, hup, hb⟩ := hrel
    by_cases hlt : k < n
    · obtain ⟨b, off, rfl, hbl⟩ := hx.at_ k hlt
      obtain ⟨s, hs, c0⟩ := hx.el hb hbl k hlt
      cases hw : inB 0 19 s
      · have HF := Lib.hid (sg_all (most := most) (all_not hs hw))
        go_wp2_with fail
        refine (isb (l01In_any s 0 19 _) hw).mono ?_
        rintro e_ w1 ⟨rfl, h1⟩
        have hc_w1 := bcell h1; have hf_w1 := bfree h1
        go_wp2
        go_ret
        exact ⟨by rw [HF.out]; rfl, next hb h1⟩
      · have HU := Lib.hid (all_at hs hup.out hw)
        clear hup
        go_wp2_with fail
        refine (isb (l01In_any s 0 19 _) hw).mono ?_
        rintro e_ w1 ⟨rfl, h1⟩
        have hc_w1 := bcell h1; have hf_w1 := bfree h1
        go_wp2
        go_roundw
        case rel => exact ⟨k + 1, by omega, by go_num, HU, next hb h1⟩
        case measure => simp [intOf]; omega
    · have HF := Lib.hid (sg_len (most := most) HX.out (all_done HX.out (by omega) hup.out))
      clear hup
      go_wp2_with fail
      refine (l01In_any n 1 most _).mono ?_
      rintro e_ w1 ⟨rfl, h1⟩
      have hc_w1 := bcell h1; have hf_w1 := bfree h1
      go_wp2
      go_ret
      exact ⟨ret_bool (by rw [HF.out, Bool.eq_iff_iff]; simp), next hb h1⟩
set_option maxHeartbeats 800000 in
theorem IsRule_impl (B : Option Addr) (m d : Nat) (xs : List Int) (r : ByteArray) (w : World) (hx : Ints w B m d xs) (hr : r.size ≤ maxLen) :
    Calls Tryd.prog 29 #[.agg #[.slice B m d, .string r]] w fun e w' => e = .returned (.bool (isRl (xs, r))) ∧ Below w.heap.size w w' := by
  cases h1 : sgB 3 xs
  · have HF := Lib.hid (show isRl (xs, r) = false by unfold isRl; rw [h1]; rfl)
    go_enter Tryd.func29, Tryd.ntmps29
    go_wp2_with fail
    refine (isb (areSigns_any B m d xs 3 _ (hx.below (one_box _ _))) h1).mono ?_
    rintro e_ w1 ⟨rfl, k1⟩
    have hc_w1 := bcell k1; have hf_w1 := bfree k1
    go_wp2
    go_ret
    exact ⟨by rw [HF.out]; rfl, next (one_box _ _) k1⟩
  · have HF := Lib.hid (show isRl (xs, r) = small 0 4 r by unfold isRl; rw [h1]; rfl)
    go_enter Tryd.func29, Tryd.ntmps29
    go_wp2_with fail
    refine (isb (areSigns_any B m d xs 3 _ (hx.below (one_box _ _))) h1).mono ?_
    rintro e_ w1 ⟨rfl, k1⟩
    have hc_w1 := bcell k1; have hf_w1 := bfree k1
    have hz_w1_0 : w.heap.size < w1.heap.size := by have hz_ := k1.size; (try simp at hz_); omega
    go_wp2_with fail
    refine (isSmall_any r 0 4 _ hr).mono ?_
    rintro e_ w2 ⟨rfl, k2⟩
    have hc_w2 := bcell k2; have hf_w2 := bfree k2
    go_wp2
    go_ret
    exact ⟨by rw [HF.out]; rfl, next (next (one_box _ _) k1) k2⟩
set_option maxHeartbeats 800000 in
theorem IsRule_spec (B : Option Addr) (m d : Nat) (xs : List Int) (r : ByteArray) (w : World) (hx : Ints w B m d xs) (hr : r.size ≤ maxLen) :
    Calls Tryd.prog 24 #[.agg #[.slice B m d, .string r]] w fun e w' => e = .returned (.bool (isRl (xs, r))) ∧ Below w.heap.size w w' := by
  cases h1 : sgB 3 xs
  · have HF := Lib.hid (show isRl (xs, r) = false by unfold isRl; rw [h1]; rfl)
    go_enter Tryd.func24, Tryd.ntmps24
    go_wp2_with fail
    refine (isb (l04Signs_any B m d xs 3 _ (hx.below (one_box _ _))) h1).mono ?_
    rintro e_ w1 ⟨rfl, k1⟩
    have hc_w1 := bcell k1; have hf_w1 := bfree k1
    go_wp2
    go_ret
    exact ⟨by rw [HF.out]; rfl, next (one_box _ _) k1⟩
  · have HF := Lib.hid (show isRl (xs, r) = small 0 4 r by unfold isRl; rw [h1]; rfl)
    go_enter Tryd.func24, Tryd.ntmps24
    go_wp2_with fail
    refine (isb (l04Signs_any B m d xs 3 _ (hx.below (one_box _ _))) h1).mono ?_
    rintro e_ w1 ⟨rfl, k1⟩
    have hc_w1 := bcell k1; have hf_w1 := bfree k1
    have hz_w1_0 : w.heap.size < w1.heap.size := by have hz_ := k1.size; (try simp at hz_); omega
    go_wp2_with fail
    refine (l03Lower_any r 0 4 _ hr).mono ?_
    rintro e_ w2 ⟨rfl, k2⟩
    have hc_w2 := bcell k2; have hf_w2 := bfree k2
    go_wp2
    go_ret
    exact ⟨by rw [HF.out]; rfl, next (next (one_box _ _) k1) k2⟩

/-! ## the search for a rule -/
set_option maxHeartbeats 800000 in
theorem l04Find_any (A B : Option Addr) (n c m d : Nat) (T : List Rl) (s : List Int) (w : World) (hx : Rules w A n c T) (hy : Ints w B m d s) :
    Calls Tryd.prog 25 #[.slice A n c, .slice B m d] w fun e w' => e = .returned (.int .i64 (fndR T s)) ∧ Below w.heap.size w w' := by
  have hcm := hx.cap.2
  have hnc := hx.cap.1
  have HX := Lib.hid hx.1
  unfold maxLen at hcm
  go_enter Tryd.func25, Tryd.ntmps25
  go_wp2
  go_loopw [5] (fun i wr => ∃ k : Nat, k ≤ n ∧ i = .int .i64 k ∧ Hid (hasR (T.take k) s = false) ∧ Below w.heap.size w wr) (fun i _ => n - (intOf i).toNat)
  case atStart => exact ⟨0, Nat.zero_le _, rfl, by simp [Hid, hasR, hasG, sgs], Below.refl _ _⟩
  case round =>
    obtain ⟨k, hk, rfl, hup, hb⟩ := hrel
    by_cases hlt : k < n
    · obtain ⟨b, off, rfl, hbl⟩ := hx.at_ k hlt
      obtain ⟨B', m', d', xs, r, ht, c0, c1, hz, hrz⟩ := hx.el hb k hlt
      cases he : decide (xs = s)
      · have HU := Lib.hid (hasR_succ ht.out (of_decide_eq_false he) hup.out)
        clear hup
        go_wp2_with fail
        refine (isb (l01Same_any B' B m' d' m d xs s _ hz (hy.below hb)) he).mono ?_
        rintro e_ w1 ⟨rfl, h1⟩
        have hc_w1 := bcell h1; have hf_w1 := bfree h1
        go_wp2
        go_roundw
        case rel => exact ⟨k + 1, by omega, by go_num, HU, next hb h1⟩
        case measure => simp [intOf]; omega
      · have HF := Lib.hid (show fndR T s = k by rw [← of_decide_eq_true he] at hup ⊢; exact fndR_at ht.out hup.out)
        go_wp2_with fail
        refine (isb (l01Same_any B' B m' d' m d xs s _ hz (hy.below hb)) he).mono ?_
        rintro e_ w1 ⟨rfl, h1⟩
        have hc_w1 := bcell h1; have hf_w1 := bfree h1
        go_wp2
        go_ret
        exact ⟨by rw [HF.out]; rfl, next hb h1⟩
    · have HF := Lib.hid (show fndR T s = -1 from fndR_none (by have := hup.out; rwa [List.take_of_length_le (by have := HX.out; omega)] at this))
      clear hup
      go_wp2
      go_ret
      exact ⟨by rw [HF.out]; rfl, hb⟩
set_option maxHeartbeats 800000 in
theorem findRule1_any (B' B : Option Addr) (m' d' m d : Nat) (xs s : List Int) (r : ByteArray) (p : Nat) (w : World) (hx : Ints w B' m' d' xs) (hy : Ints w B m d s) (hp : w.cell? ⟨p, 0, none⟩ = some (.slice B m d)) (hpl : p < w.heap.size) :
    Calls Tryd.prog 44 #[.agg #[.slice B' m' d', .string r], .pointer (some ⟨p, 0, none⟩)] w fun e w' => e = .returned (.bool (decide (xs = s))) ∧ Below w.heap.size w w' := by
  go_enter Tryd.func44, Tryd.ntmps44
  go_wp2_with fail
  refine (slEqual_any B' B m' d' m d xs s _ (hx.below (one_box _ _)) (hy.below (one_box _ _))).mono ?_
  rintro e_ w1 ⟨rfl, k1⟩
  have hc_w1 := bcell k1; have hf_w1 := bfree k1
  go_wp2
  go_ret
  exact ⟨rfl, next (one_box _ _) k1⟩
set_option maxHeartbeats 800000 in
theorem IndexFunc_rule (A B : Option Addr) (n c m d : Nat) (T : List Rl) (s : List Int) (p : Nat) (w : World) (hx : Rules w A n c T) (hy : Ints w B m d s) (hp : w.cell? ⟨p, 0, none⟩ = some (.slice B m d)) (hpl : p < w.heap.size) :
    Calls Tryd.prog 43 #[.slice A n c, .func (.func 44) #[] #[.pointer (some ⟨p, 0, none⟩)]] w fun e w' => e = .returned (.int .i64 (fndR T s)) ∧ Below w.heap.size w w' := by
  have hcm := hx.cap.2
  have hnc := hx.cap.1
  have HX := Lib.hid hx.1
  unfold maxLen at hcm
  go_enter Tryd.func43, Tryd.ntmps43
  go_wp2
  go_loopw [8] (fun i wr => ∃ k : Nat, k ≤ n ∧ i = .int .i64 k ∧ Hid (hasR (T.take k) s = false) ∧ Below w.heap.size w wr) (fun i _ => n - (intOf i).toNat)
  case atStart => exact ⟨0, Nat.zero_le _, rfl, by simp [Hid, hasR, hasG, sgs], Below.refl _ _⟩
  case round =>
    obtain ⟨k, hk, rfl, hup, hb⟩ := hrel
    by_cases hlt : k < n
    · obtain ⟨b, off, rfl, hbl⟩ := hx.at_ k hlt
      obtain ⟨B', m', d', xs, r, ht, c0, c1, hz, hrz⟩ := hx.el hb k hlt
      cases he : decide (xs = s)
      · have HU := Lib.hid (hasR_succ ht.out (of_decide_eq_false he) hup.out)
        clear hup
        go_wp2_with fail
        refine (isb (findRule1_any B' B m' d' m d xs s r p _ hz (hy.below hb) ((hb.cell (p := ⟨p, 0, none⟩) hpl).trans hp) (Nat.lt_of_lt_of_le hpl hb.size)) he).mono ?_
        rintro e_ w1 ⟨rfl, h1⟩
        have hc_w1 := bcell h1; have hf_w1 := bfree h1
        go_wp2
        go_roundw
        case rel => exact ⟨k + 1, by omega, by go_num, HU, next hb h1⟩
        case measure => simp [intOf]; omega
      · have HF := Lib.hid (show fndR T s = k by rw [← of_decide_eq_true he] at hup ⊢; exact fndR_at ht.out hup.out)
        go_wp2_with fail
        refine (isb (findRule1_any B' B m' d' m d xs s r p _ hz (hy.below hb) ((hb.cell (p := ⟨p, 0, none⟩) hpl).trans hp) (Nat.lt_of_lt_of_le hpl hb.size)) he).mono ?_
        rintro e_ w1 ⟨rfl, h1⟩
        have hc_w1 := bcell h1; have hf_w1 := bfree h1
        go_wp2
        go_ret
        exact ⟨by rw [HF.out]; rfl, next hb h1⟩
    · have HF := Lib.hid (show fndR T s = -1 from fndR_none (by have := hup.out; rwa [List.take_of_length_le (by have := HX.out; omega)] at this))
      clear hup
      go_wp2
      go_ret
      exact ⟨by rw [HF.out]; rfl, hb⟩
theorem findRule_any (A B : Option Addr) (n c m d : Nat) (T : List Rl) (s : List Int) (w : World) (hx : Rules w A n c T) (hy : Ints w B m d s) :
    Calls Tryd.prog 30 #[.slice A n c, .slice B m d] w fun e w' => e = .returned (.int .i64 (fndR T s)) ∧ Below w.heap.size w w' := by
  go_enter Tryd.func30, Tryd.ntmps30
  go_wp2_with fail
  refine (IndexFunc_rule A B n c m d T s w.heap.size _ (hx.below (one_box _ _)) (hy.below (one_box _ _)) (by simp) (by simp)).mono ?_
  rintro e_ w1 ⟨rfl, h1⟩
  have hc_w1 := bcell h1; have hf_w1 := bfree h1
  go_wp2
  go_ret
  exact ⟨rfl, next (one_box _ _) h1⟩

/-! ## tables -/
set_option maxRecDepth 100000 in
set_option maxHeartbeats 1000000 in
theorem IsTable_impl (A : Option Addr) (n c : Nat) (T : List Rl) (w : World) (hx : Rules w A n c T) :
    Calls Tryd.prog 17 #[.slice A n c] w fun e w' => e = .returned (.bool (isTab T)) ∧ Below w.heap.size w w' := by
  have hcm := hx.cap.2
  have hnc := hx.cap.1
  have HX := Lib.hid hx.1
  unfold maxLen at hcm
  go_enter Tryd.func17, Tryd.ntmps17
  go_wp2
  go_loopw [7] (fun i wr => ∃ k : Nat, k ≤ n ∧ i = .int .i64 k ∧ Hid (tabUpto T k) ∧ Below w.heap.size w wr) (fun i _ => n - (intOf i).toNat)
  case atStart => exact ⟨0, Nat.zero_le _, rfl, fun i hi => absurd hi (by omega), Below.refl _ _⟩
  case round =>
    obtain ⟨k, hk, rfl, hup, hb⟩ := hrel
    by_cases hlt : k < n
    · have hx0 := hx.below hb
      obtain ⟨b, off, rfl, hbl⟩ := hx.at_ k hlt
      obtain ⟨B', m', d', xs, r, ht, c0, c1, hz, hrz⟩ := hx.el hb k hlt
      have hat := tabAt_is ht.out
      have hbw : b < wr.heap.size := Nat.lt_of_lt_of_le hbl hb.size
      have hk0 : (0 : Int) ≤ (k : Int) := Int.natCast_nonneg _
      cases h1 : isRl (xs, r)
      · have HF := Lib.hid (isTab_no (by rw [← HX.out]; exact hlt) (by rw [hat, h1]; rfl))
        clear hat
        go_wp2
        refine wp_region_later (by kernel_rfl) (by kernel_rfl) ?_
        repeat (go_big_quiet_step ((go_at_call 29; exact Calls.later (isb (IsRule_impl B' m' d' xs r _ ((hz.below (one_box _ _)).below (after_below _)) hrz) h1))))
        refine wpQuiet_nil ?_
        intro w2 hw2; have h2 := later_below hw2; clear hw2
        go_wp2
        go_ret
        exact ⟨by rw [HF.out]; rfl, next (next hb (one_box _ _)) h2⟩
      · cases h2 : hasR (T.take k) xs
        · have HU := Lib.hid (tabUpto_succ hup.out (by rw [hat, h1, h2]; rfl))
          have hfn := fndR_none h2
          clear hat hup
          go_wp2
          refine wp_region_later (by kernel_rfl) (by kernel_rfl) ?_
          repeat (go_big_quiet_step ((first | (go_at_call 29; exact Calls.later (isb (IsRule_impl B' m' d' xs r _ ((hz.below (one_box _ _)).below (after_below _)) hrz) h1)) | (go_at_call 30; exact Calls.later (isn (findRule_any (some ⟨b, off, none⟩) B' k c m' d' (T.take k) xs _ (((hx0.below (one_box _ _)).below (after_below _)).take k hk) ((hz.below (one_box _ _)).below (after_below _))) hfn)))))
          refine wpQuiet_nil ?_
          intro w2 hw2; have k2 := later_below hw2; clear hw2
          go_wp2
          go_roundw
          case rel => exact ⟨k + 1, by omega, by go_num, HU, next (next hb (one_box _ _)) k2⟩
          case measure => simp [intOf]; omega
        · have HF := Lib.hid (isTab_no (by rw [← HX.out]; exact hlt) (by rw [hat, h1, h2]; rfl))
          obtain ⟨q, hfn⟩ : ∃ q : Int, fndR (T.take k) xs = q := ⟨_, rfl⟩
          have hq0 : 0 ≤ q := by have := fndR_has (T.take k) xs; rw [h2, hfn] at this; exact of_decide_eq_true this
          clear hat
          go_wp2
          refine wp_region_later (by kernel_rfl) (by kernel_rfl) ?_
          repeat (go_big_quiet_step ((first | (go_at_call 29; exact Calls.later (isb (IsRule_impl B' m' d' xs r _ ((hz.below (one_box _ _)).below (after_below _)) hrz) h1)) | (go_at_call 30; exact Calls.later (isn (findRule_any (some ⟨b, off, none⟩) B' k c m' d' (T.take k) xs _ (((hx0.below (one_box _ _)).below (after_below _)).take k hk) ((hz.below (one_box _ _)).below (after_below _))) hfn)))))
          refine wpQuiet_nil ?_
          intro w2 hw2; have k2 := later_below hw2; clear hw2
          go_wp2
          go_ret
          exact ⟨by rw [HF.out]; rfl, next (next hb (one_box _ _)) k2⟩
    · have HF := Lib.hid (isTab_end HX.out (show tabUpto T n by have := hup.out; rwa [show k = n by omega] at this))
      clear hup
      go_wp2
      go_ret
      exact ⟨ret_bool (by rw [HF.out, Bool.eq_iff_iff]; simp; omega), hb⟩
set_option maxRecDepth 100000 in
set_option maxHeartbeats 1000000 in
theorem IsTable_spec (A : Option Addr) (n c : Nat) (T : List Rl) (w : World) (hx : Rules w A n c T) :
    Calls Tryd.prog 13 #[.slice A n c] w fun e w' => e = .returned (.bool (isTab T)) ∧ Below w.heap.size w w' := by
  have hcm := hx.cap.2
  have hnc := hx.cap.1
  have HX := Lib.hid hx.1
  unfold maxLen at hcm
  go_enter Tryd.func13, Tryd.ntmps13
  go_wp2
  go_loopw [3] (fun i wr => ∃ k : Nat, k ≤ n ∧ i = .int .i64 k ∧ Hid (tabUpto T k) ∧ Below w.heap.size w wr) (fun i _ => n - (intOf i).toNat)
  case atStart => exact ⟨0, Nat.zero_le _, rfl, fun i hi => absurd hi (by omega), Below.refl _ _⟩
  case round =>
    obtain ⟨k, hk, rfl, hup, hb⟩ := hrel
    by_cases hlt : k < n
    · have hx0 := hx.below hb
      obtain ⟨b, off, rfl, hbl⟩ := hx.at_ k hlt
      obtain ⟨B', m', d', xs, r, ht, c0, c1, hz, hrz⟩ := hx.el hb k hlt
      have hat := tabAt_is ht.out
      have hbw : b < wr.heap.size := Nat.lt_of_lt_of_le hbl hb.size
      have hk0 : (0 : Int) ≤ (k : Int) := Int.natCast_nonneg _
      cases h1 : isRl (xs, r)
      · have HF := Lib.hid (isTab_no (by rw [← HX.out]; exact hlt) (by rw [hat, h1]; rfl))
        clear hat
        go_wp2_with fail
        refine (isb (IsRule_spec B' m' d' xs r _ hz hrz) h1).mono ?_
        rintro e_ w2 ⟨rfl, h2⟩
        have hc_w2 := bcell h2; have hf_w2 := bfree h2
        go_wp2
        go_ret
        exact ⟨by rw [HF.out]; rfl, next hb h2⟩
      · cases h2 : hasR (T.take k) xs
        · have HU := Lib.hid (tabUpto_succ hup.out (by rw [hat, h1, h2]; rfl))
          have hfn := fndR_at ht.out h2
          have f0 : ((k : Int) != (k : Int)) = false := by simp
          clear hat hup
          go_wp2_with fail
          refine (isb (IsRule_spec B' m' d' xs r _ hz hrz) h1).mono ?_
          rintro e_ w1 ⟨rfl, k1⟩
          have hc_w1 := bcell k1; have hf_w1 := bfree k1
          have e0 := cell_keep k1 c0
          go_wp2_with fail
          refine (isn (l04Find_any (some ⟨b, off, none⟩) B' n c m' d' T xs _ (hx0.below k1) (hz.below k1)) hfn).mono ?_
          rintro e_ w2 ⟨rfl, k2⟩
          have hc_w2 := bcell k2; have hf_w2 := bfree k2
          go_wp2
          go_roundw
          case rel => exact ⟨k + 1, by omega, by go_num, HU, next (next hb k1) k2⟩
          case measure => simp [intOf]; omega
        · have HF := Lib.hid (isTab_no (by rw [← HX.out]; exact hlt) (by rw [hat, h1, h2]; rfl))
          obtain ⟨q, hfn⟩ : ∃ q : Int, fndR T xs = q := ⟨_, rfl⟩
          have hq0 := fndR_ne h2
          rw [hfn] at hq0
          have f0 : (q != (k : Int)) = true := by simp; omega
          clear hat
          go_wp2_with fail
          refine (isb (IsRule_spec B' m' d' xs r _ hz hrz) h1).mono ?_
          rintro e_ w1 ⟨rfl, k1⟩
          have hc_w1 := bcell k1; have hf_w1 := bfree k1
          have e0 := cell_keep k1 c0
          go_wp2_with fail
          refine (isn (l04Find_any (some ⟨b, off, none⟩) B' n c m' d' T xs _ (hx0.below k1) (hz.below k1)) hfn).mono ?_
          rintro e_ w2 ⟨rfl, k2⟩
          have hc_w2 := bcell k2; have hf_w2 := bfree k2
          go_wp2
          go_ret
          exact ⟨by rw [HF.out]; rfl, next (next hb k1) k2⟩
    · have HF := Lib.hid (isTab_end HX.out (show tabUpto T n by have := hup.out; rwa [show k = n by omega] at this))
      clear hup
      go_wp2
      go_ret
      exact ⟨ret_bool (by rw [HF.out, Bool.eq_iff_iff]; simp; omega), hb⟩
end Go.Proofs.YtnjjfcdddkabbaaDoor
