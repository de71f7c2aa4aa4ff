/- Letters joined: what the functions compute. -/
import Derived.Test.YtbhibidgdlaeeaaDoorAlpha2
import Derived.Test.YtbhibidgdlaeeaaDoorInts
namespace Go.Proofs.YtbhibidgdlaeeaaDoor
open Go.ChangeShapes Go.WideShapes Go.ChangeAt Go.RowKit

def inB (lo hi y : Int) : Bool := decide (lo ≤ y ∧ y ≤ hi)
theorem iall_at {p : Int → Bool} {xs : List Int} {k : Nat} {s : Int} (h : Hid (xs[k]? = some s)) (hp : (xs.take k).all p = true) (hs : p s = true) : (xs.take (k + 1)).all p = true := all_at h hp hs

set_option maxHeartbeats 800000 in
theorem areWithin_any (A : Option Addr) (n c : Nat) (ys : List Int) (lo hi : Int) (w : World) (hx : Ints w A n c ys) :
    Calls Tryd.prog 113 #[.slice A n c, .int .i64 lo, .int .i64 hi] w fun e w' => e = .returned (.bool (ys.all (inB lo hi))) ∧ Below w.heap.size w w' := by
  have hm := hx.2.cap
  have hnc := hx.2.le
  unfold maxLen at hm
  have HN := Lib.hid hx.1
  go_enter Tryd.func113, Tryd.ntmps113
  go_wp2
  go_loopw [11] (fun i wr => ∃ k : Nat, k ≤ n ∧ i = .int .i64 k ∧ Hid ((ys.take k).all (inB lo hi) = true) ∧ Below w.heap.size w wr) (fun i _ => n - (intOf i).toNat)
  case atStart => exact ⟨0, Nat.zero_le _, rfl, by simp [Hid], Below.refl _ _⟩
  case round =>
    obtain ⟨k, hk, rfl, hup, hb⟩ := hrel
    by_cases hlt : k < n
    · obtain ⟨b, off, rfl, hbl⟩ := hx.at_ k hlt
      obtain ⟨s, hs, c0⟩ := hx.el hb hbl k hlt
      cases hw : inB lo hi s
      · go_wp2_with fail
        refine (isb (within_any s lo hi _) hw).mono ?_
        rintro e_ w1 ⟨rfl, h1⟩
        have hc_w1 := bcell h1; have hf_w1 := bfree h1
        have HF := Lib.hid (all_not hs hw)
        go_wp2
        go_ret
        exact ⟨by rw [HF.out]; rfl, next hb h1⟩
      · go_wp2_with fail
        refine (isb (within_any s lo hi _) hw).mono ?_
        rintro e_ w1 ⟨rfl, h1⟩
        have hc_w1 := bcell h1; have hf_w1 := bfree h1
        have HU := Lib.hid (all_at hs hup.out hw)
        clear hup
        go_wp2
        go_roundw
        case rel => exact ⟨k + 1, by omega, by go_num, HU, next hb h1⟩
        case measure => simp [intOf]; omega
    · have HF := Lib.hid (all_done HN.out (by omega) hup.out)
      clear hup
      go_wp2
      go_ret
      exact ⟨by rw [HF.out]; rfl, hb⟩

/-- the letters with some indices, one behind the other -/
def cat (xs : List ByteArray) (sp : List Int) : ByteArray := sp.foldl (fun t i => t ++ xs.getD i.toNat ⟨#[]⟩) ⟨#[]⟩
theorem cat_succ {xs : List ByteArray} {sp : List Int} {k q : Nat} {x : ByteArray} (h : sp[k]? = some (q : Int)) (hx : xs[q]? = some x) : cat xs (sp.take (k + 1)) = cat xs (sp.take k) ++ x := by
  unfold cat
  rw [List.take_add_one, h]
  simp [List.getD_eq_getElem?_getD, hx]
def jlBad (xs : List ByteArray) (sp : List Int) : Bool := decide (16 < sp.length) || !sp.all (inB 0 (xs.length - 1))
def jlCode (xs : List ByteArray) (sp : List Int) : Int := if isAlpha xs = true then if jlBad xs sp = true then 2 else 0 else 1
def jlText (xs : List ByteArray) (sp : List Int) : ByteArray := if isAlpha xs = true ∧ jlBad xs sp = false then cat xs sp else ⟨#[]⟩
theorem jl_no {xs : List ByteArray} (sp : List Int) (h : isAlpha xs = false) : Hid (jlText xs sp = ⟨#[]⟩ ∧ jlCode xs sp = 1) := by
  unfold Hid jlText jlCode
  simp [h]
theorem jl_bad {xs : List ByteArray} {sp : List Int} (h : isAlpha xs = true) (hb : jlBad xs sp = true) : Hid (jlText xs sp = ⟨#[]⟩ ∧ jlCode xs sp = 2) := by
  unfold Hid jlText jlCode
  simp [h, hb]
theorem jl_ok {xs : List ByteArray} {sp : List Int} (h : isAlpha xs = true) (hb : jlBad xs sp = false) : Hid (jlText xs sp = cat xs sp ∧ jlCode xs sp = 0) := by
  unfold Hid jlText jlCode
  simp [h, hb]
theorem alpha_size {xs : List ByteArray} (h : isAlpha xs = true) {q : Nat} {x : ByteArray} (hx : xs[q]? = some x) : 1 ≤ x.size ∧ x.size ≤ 3 := by
  unfold isAlpha at h
  rw [Bool.and_eq_true, List.all_eq_true] at h
  have h1 := h.1 q (by have := (List.getElem?_eq_some_iff.1 hx).1; simpa using this)
  rw [alphaAt_is hx, Bool.and_eq_true] at h1
  have h2 := h1.1
  unfold small at h2
  simp at h2
  omega

set_option maxRecDepth 100000 in
set_option maxHeartbeats 2000000 in
theorem l03Joined_any (A B : Option Addr) (n c m d : Nat) (xs : List ByteArray) (sp : List Int) (w : World) (hx : Strs w A n c xs) (hy : Ints w B m d sp) :
    Calls Tryd.prog 152 #[.slice A n c, .slice B m d] w fun e w' => e = .returned (.tuple #[.string (jlText xs sp), .int .i64 (jlCode xs sp)]) ∧ Below w.heap.size w w' := by
  have hcm := hx.2.1.cap
  have hnc := hx.2.1.le
  have hdm := hy.2.cap
  have hmd := hy.2.le
  have HX := Lib.hid hx.1
  have HY := Lib.hid hy.1
  unfold maxLen at hcm hdm
  cases ha : isAlpha xs
  · have HF := jl_no sp ha
    go_enter Tryd.func152, Tryd.ntmps152
    go_wp2_with fail
    refine (isb (IsAlphabet_spec A n c xs _ hx) ha).mono ?_
    rintro e_ w1 ⟨rfl, h1⟩
    have hc_w1 := bcell h1; have hf_w1 := bfree h1
    go_wp2
    go_ret2
    exact ⟨by rw [HF.out.1, HF.out.2]; rfl, h1⟩
  · have HA := Lib.hid ha
    by_cases h16 : 16 < m
    · have HF := jl_bad ha (show jlBad xs sp = true by unfold jlBad; rw [← HY.out]; simp [h16])
      go_enter Tryd.func152, Tryd.ntmps152
      go_wp2_with fail
      refine (isb (IsAlphabet_spec A n c xs _ hx) ha).mono ?_
      rintro e_ w1 ⟨rfl, h1⟩
      have hc_w1 := bcell h1; have hf_w1 := bfree h1
      go_wp2
      go_ret2
      exact ⟨by rw [HF.out.1, HF.out.2]; rfl, h1⟩
    · go_enter Tryd.func152, Tryd.ntmps152
      go_wp2_with fail
      refine (isb (IsAlphabet_spec A n c xs _ hx) ha).mono ?_
      rintro e_ w1 ⟨rfl, h1⟩
      have hc_w1 := bcell h1; have hf_w1 := bfree h1
      clear ha
      go_wp2
      go_loopw [6, 7] (fun o i wr => ∃ (k : Nat) (t : ByteArray), k ≤ m ∧ i = .int .i64 k ∧ o = .string t ∧ t.size ≤ 3 * k ∧ Hid ((sp.take k).all (inB 0 ((n : Int) - 1)) = true) ∧ Hid (t = cat xs (sp.take k)) ∧ Below w.heap.size w wr) (fun _ i _ => m - (intOf i).toNat)
      case atStart => exact ⟨0, ⟨#[]⟩, Nat.zero_le _, rfl, rfl, Nat.zero_le _, by simp [Hid], by simp [Hid, cat], h1⟩
      case round =>
        clear hc_w1 hf_w1 h1
        obtain ⟨k, t, hk, rfl, rfl, hts, hup, ht, hb⟩ := hrel
        by_cases hlt : k < m
        · obtain ⟨b2, off2, rfl, hbl2⟩ := hy.at_ k hlt
          obtain ⟨i, hi, c0⟩ := hy.el hb hbl2 k hlt
          cases hw : inB 0 ((n : Int) - 1) i
          · have HF := jl_bad HA.out (show jlBad xs sp = true by unfold jlBad; rw [← HX.out, all_not hi hw]; simp)
            go_wp2_with fail
            refine (isb (l01In_any i 0 ((n : Int) - 1) _) hw).mono ?_
            rintro e_ w2 ⟨rfl, h2⟩
            have hc_w2 := bcell h2; have hf_w2 := bfree h2
            go_wp2
            go_ret2
            exact ⟨by rw [HF.out.1, HF.out.2]; rfl, next hb h2⟩
          · have hi2 : 0 ≤ i ∧ i ≤ (n : Int) - 1 := by unfold inB at hw; exact of_decide_eq_true hw
            obtain ⟨q, rfl⟩ : ∃ q : Nat, i = q := ⟨i.toNat, by omega⟩
            have hqn : q < n := by omega
            obtain ⟨b, off, rfl, hbl⟩ := hx.at_ q hqn
            obtain ⟨x, hxq, c1, hsz⟩ := hx.el hb hbl q hqn
            have hx3 := alpha_size HA.out hxq.out
            have HU := Lib.hid (all_at hi hup.out hw)
            have HT := Lib.hid (show t ++ x = cat xs (sp.take (k + 1)) by rw [cat_succ hi.out hxq.out, ← ht.out])
            have hts2 : (t ++ x).size ≤ 3 * (k + 1) := by rw [ByteArray.size_append]; omega
            clear hup ht hi2
            go_wp2_with fail
            refine (isb (l01In_any q 0 ((n : Int) - 1) _) hw).mono ?_
            rintro e_ w2 ⟨rfl, h2⟩
            have hc_w2 := bcell h2; have hf_w2 := bfree h2
            have c0' := cell_keep h2 c0
            have c1' := cell_keep h2 c1
            go_wp2
            go_roundw
            case rel => exact ⟨k + 1, t ++ x, by omega, by go_num, rfl, hts2, HU, HT, next hb h2⟩
            case measure => simp [intOf]; omega
        · have HF := jl_ok HA.out (show jlBad xs sp = false by
            unfold jlBad
            rw [← HX.out, all_done HY.out (by omega) hup.out, ← HY.out]
            simp; omega)
          have HT := Lib.hid (show t = cat xs sp by rw [ht.out, List.take_of_length_le (by have := HY.out; omega)])
          clear hup ht
          go_wp2
          go_ret2
          exact ⟨by rw [HF.out.1, HF.out.2, ← HT.out]; rfl, hb⟩

set_option maxRecDepth 100000 in
set_option maxHeartbeats 2000000 in
theorem joinLetters_any (A B : Option Addr) (n c m d : Nat) (xs : List ByteArray) (sp : List Int) (w : World) (hx : Strs w A n c xs) (hy : Ints w B m d sp) :
    Calls Tryd.prog 151 #[.slice A n c, .slice B m d] w fun e w' => e = .returned (.tuple #[.string (jlText xs sp), .int .i64 (jlCode xs sp)]) ∧ Below w.heap.size w w' := by
  have hcm := hx.2.1.cap
  have hnc := hx.2.1.le
  have hdm := hy.2.cap
  have hmd := hy.2.le
  have HX := Lib.hid hx.1
  have HY := Lib.hid hy.1
  unfold maxLen at hcm hdm
  cases ha : isAlpha xs
  · have HF := jl_no sp ha
    go_enter Tryd.func151, Tryd.ntmps151
    go_wp2_with fail
    refine (isb (IsAlphabet_impl A n c xs _ hx) ha).mono ?_
    rintro e_ w1 ⟨rfl, h1⟩
    have hc_w1 := bcell h1; have hf_w1 := bfree h1
    go_wp2
    go_ret2
    exact ⟨by rw [HF.out.1, HF.out.2]; rfl, h1⟩
  · have HA := Lib.hid ha
    by_cases h16 : 16 < m
    · have HF := jl_bad ha (show jlBad xs sp = true by unfold jlBad; rw [← HY.out]; simp [h16])
      go_enter Tryd.func151, Tryd.ntmps151
      go_wp2_with fail
      refine (isb (IsAlphabet_impl A n c xs _ hx) ha).mono ?_
      rintro e_ w1 ⟨rfl, h1⟩
      have hc_w1 := bcell h1; have hf_w1 := bfree h1
      go_wp2
      go_ret2
      exact ⟨by rw [HF.out.1, HF.out.2]; rfl, h1⟩
    · cases hin : sp.all (inB 0 ((n : Int) - 1))
      · have HF := jl_bad ha (show jlBad xs sp = true by unfold jlBad; rw [← HX.out, hin]; simp)
        go_enter Tryd.func151, Tryd.ntmps151
        go_wp2_with fail
        refine (isb (IsAlphabet_impl A n c xs _ hx) ha).mono ?_
        rintro e_ w1 ⟨rfl, h1⟩
        have hc_w1 := bcell h1; have hf_w1 := bfree h1
        go_wp2_with fail
        refine (length_any A n c _ hnc hcm).mono ?_
        rintro e_ w2 ⟨rfl, h2⟩
        have hc_w2 := bcell h2; have hf_w2 := bfree h2
        go_wp2_with fail
        refine (isb (areWithin_any B m d sp 0 ((n : Int) - 1) _ ((hy.below h1).below h2)) hin).mono ?_
        rintro e_ w3 ⟨rfl, h3⟩
        have hc_w3 := bcell h3; have hf_w3 := bfree h3
        go_wp2
        go_ret2
        exact ⟨by rw [HF.out.1, HF.out.2]; rfl, next (next h1 h2) h3⟩
      · have HF := jl_ok HA.out (show jlBad xs sp = false by
          unfold jlBad
          rw [← HX.out, hin, ← HY.out]
          simp; omega)
        have HIN := Lib.hid hin
        go_enter Tryd.func151, Tryd.ntmps151
        go_wp2_with fail
        refine (isb (IsAlphabet_impl A n c xs _ hx) ha).mono ?_
        rintro e_ w1 ⟨rfl, h1⟩
        have hc_w1 := bcell h1; have hf_w1 := bfree h1
        go_wp2_with fail
        refine (length_any A n c _ hnc hcm).mono ?_
        rintro e_ w2 ⟨rfl, h2⟩
        have hc_w2 := bcell h2; have hf_w2 := bfree h2
        go_wp2_with fail
        refine (isb (areWithin_any B m d sp 0 ((n : Int) - 1) _ ((hy.below h1).below h2)) hin).mono ?_
        rintro e_ w3 ⟨rfl, h3⟩
        have hc_w3 := bcell h3; have hf_w3 := bfree h3
        have B3 := next (next h1 h2) h3
        clear ha hin hc_w1 hf_w1 hc_w2 hf_w2 hc_w3 hf_w3 h1 h2 h3
        go_wp2
        go_loopw [6, 27] (fun o i wr => ∃ (k : Nat) (t : ByteArray), k ≤ m ∧ i = .int .i64 k ∧ o = .string t ∧ t.size ≤ 3 * k ∧ Hid (t = cat xs (sp.take k)) ∧ Below w.heap.size w wr) (fun _ i _ => m - (intOf i).toNat)
        case atStart => exact ⟨0, ⟨#[]⟩, Nat.zero_le _, rfl, rfl, Nat.zero_le _, by simp [Hid, cat], B3⟩
        case round =>
          clear B3
          obtain ⟨k, t, hk, rfl, rfl, hts, ht, hb⟩ := hrel
          by_cases hlt : k < m
          · obtain ⟨b2, off2, rfl, hbl2⟩ := hy.at_ k hlt
            obtain ⟨i, hi, c0⟩ := hy.el hb hbl2 k hlt
            have hi2 : 0 ≤ i ∧ i ≤ (n : Int) - 1 := by
              have := List.all_eq_true.1 HIN.out i (List.mem_of_getElem? hi.out)
              unfold inB at this
              exact of_decide_eq_true this
            obtain ⟨q, rfl⟩ : ∃ q : Nat, i = q := ⟨i.toNat, by omega⟩
            have hqn : q < n := by omega
            obtain ⟨b, off, rfl, hbl⟩ := hx.at_ q hqn
            obtain ⟨x, hxq, c1, hsz⟩ := hx.el hb hbl q hqn
            have hx3 := alpha_size HA.out hxq.out
            have HT := Lib.hid (show t ++ x = cat xs (sp.take (k + 1)) by rw [cat_succ hi.out hxq.out, ← ht.out])
            have hts2 : (t ++ x).size ≤ 3 * (k + 1) := by rw [ByteArray.size_append]; omega
            clear ht hi2
            go_wp2
            go_roundw
            case rel => exact ⟨k + 1, t ++ x, by omega, by go_num, rfl, hts2, HT, hb⟩
            case measure => simp [intOf]; omega
          · have HT := Lib.hid (show t = cat xs sp by rw [ht.out, List.take_of_length_le (by have := HY.out; omega)])
            clear ht
            go_wp2
            go_ret2
            exact ⟨by rw [HF.out.1, HF.out.2, ← HT.out]; rfl, hb⟩
theorem JoinLetters_spec (A B : Option Addr) (n c m d : Nat) (xs : List ByteArray) (sp : List Int) (w : World) (hx : Strs w A n c xs) (hy : Ints w B m d sp) :
    Calls Tryd.prog 73 #[.slice A n c, .slice B m d] w fun e w' => e = .returned (.tuple #[.string (jlText xs sp), .int .i64 (jlCode xs sp)]) ∧ Below w.heap.size w w' := by
  go_enter Tryd.func73, Tryd.ntmps73
  go_wp2_with fail
  refine (l03Joined_any A B n c m d xs sp _ hx hy).mono ?_
  rintro e_ w1 ⟨rfl, h1⟩
  have hc_w1 := bcell h1; have hf_w1 := bfree h1
  go_wp2
  go_ret2
  exact ⟨rfl, h1⟩
theorem JoinLetters_impl (A B : Option Addr) (n c m d : Nat) (xs : List ByteArray) (sp : List Int) (w : World) (hx : Strs w A n c xs) (hy : Ints w B m d sp) :
    Calls Tryd.prog 72 #[.slice A n c, .slice B m d] w fun e w' => e = .returned (.tuple #[.string (jlText xs sp), .int .i64 (jlCode xs sp)]) ∧ Below w.heap.size w w' := by
  go_enter Tryd.func72, Tryd.ntmps72
  go_wp2_with fail
  refine (joinLetters_any A B n c m d xs sp _ hx hy).mono ?_
  rintro e_ w1 ⟨rfl, h1⟩
  have hc_w1 := bcell h1; have hf_w1 := bfree h1
  go_wp2
  go_ret2
  exact ⟨rfl, h1⟩
end Go.Proofs.YtbhibidgdlaeeaaDoor
