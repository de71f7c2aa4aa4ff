/- IsUnambiguous and AmbiguousText: the program and the reference. -/
import Derived.Test.YtnjjfcdddkabbaaDoorAmbF
import Derived.Test.YtnjjfcdddkabbaaDoorAmbI
import Derived.Test.YtnjjfcdddkabbaaDoorRuleA
namespace Go.Proofs.YtnjjfcdddkabbaaDoor
open Go.ChangeShapes Go.WideShapes Go.ChangeAt Go.RowKit
theorem iu_bad {T : List Rl} (h : isTab T = false) : iuOk T = false ∧ iuCode T = 1 := by unfold iuOk iuCode; rw [h]; exact ⟨rfl, rfl⟩
theorem iu_good {T : List Rl} (h : isTab T = true) : iuOk T = (!hasE T && !ambB T) ∧ iuCode T = 0 := by unfold iuOk iuCode; rw [h]; exact ⟨rfl, rfl⟩
theorem at_bad {T : List Rl} (h : isTab T = false) : atText T = ⟨#[]⟩ ∧ atCode T = 1 := by unfold atText atCode; rw [h]; exact ⟨rfl, rfl⟩
theorem at_emp {T : List Rl} (h : isTab T = true) (he : hasE T = true) : atText T = ⟨#[]⟩ ∧ atCode T = 5 := by unfold atText atCode; rw [h, he]; exact ⟨rfl, rfl⟩
theorem at_no {T : List Rl} (h : isTab T = true) (he : hasE T = false) (hb : ambB T = false) : atText T = ⟨#[]⟩ ∧ atCode T = 4 := by unfold atText atCode; rw [h, he, hb]; exact ⟨rfl, rfl⟩
theorem at_yes {T : List Rl} (h : isTab T = true) (he : hasE T = false) (hb : ambB T = true) : atText T = ambT T ∧ atCode T = 0 := by unfold atText atCode; rw [h, he, hb]; exact ⟨rfl, rfl⟩
set_option maxHeartbeats 1000000 in
theorem l05Plain_any (A : Option Addr) (n c : Nat) (T : List Rl) (w : World) (hx : Rules w A n c T) (hT : isTab T = true) :
    Calls Tryd.prog 21 #[.slice A n c] w fun e w' => e = .returned (.bool (!hasE T && !ambB T)) ∧ Below w.heap.size w w' := by
  cases he : hasE T with
  | true =>
    go_enter Tryd.func21, Tryd.ntmps21
    go_wp2_with fail
    refine (isb (l05Empty_any A n c T _ hx) he).mono ?_
    rintro e_ w1 ⟨rfl, h1⟩
    have hc_w1 := bcell h1; have hf_w1 := bfree h1
    go_wp2
    go_ret
    exact ⟨rfl, h1⟩
  | false =>
    have HA := Lib.hid (fun W hW => l05Ambiguous_any A n c T W hW hT)
    clear hT
    go_enter Tryd.func21, Tryd.ntmps21
    go_wp2_with fail
    refine (isb (l05Empty_any A n c T _ hx) he).mono ?_
    rintro e_ w1 ⟨rfl, h1⟩
    have hc_w1 := bcell h1; have hf_w1 := bfree h1
    go_wp2_with fail
    refine (HA.out _ (hx.below h1)).mono ?_
    rintro e_ w2 ⟨rfl, h2⟩
    go_wp2
    go_ret
    exact ⟨by simp, next h1 h2⟩
set_option maxHeartbeats 1000000 in
theorem isUnambiguous_any (A : Option Addr) (n c : Nat) (T : List Rl) (w : World) (hx : Rules w A n c T) (hT : isTab T = true) :
    Calls Tryd.prog 22 #[.slice A n c] w fun e w' => e = .returned (.bool (!hasE T && !ambB T)) ∧ Below w.heap.size w w' := by
  cases he : hasE T with
  | true =>
    go_enter Tryd.func22, Tryd.ntmps22
    go_wp2_with fail
    refine (isb (hasEmpty_any A n c T _ hx) he).mono ?_
    rintro e_ w1 ⟨rfl, h1⟩
    have hc_w1 := bcell h1; have hf_w1 := bfree h1
    go_wp2
    go_ret
    exact ⟨rfl, h1⟩
  | false =>
    have HA := Lib.hid (fun W hW => ambiguous_any A n c T W hW hT)
    clear hT
    go_enter Tryd.func22, Tryd.ntmps22
    go_wp2_with fail
    refine (isb (hasEmpty_any A n c T _ hx) he).mono ?_
    rintro e_ w1 ⟨rfl, h1⟩
    have hc_w1 := bcell h1; have hf_w1 := bfree h1
    go_wp2_with fail
    refine (HA.out _ (hx.below h1)).mono ?_
    rintro e_ w2 ⟨rfl, h2⟩
    go_wp2
    go_ret
    exact ⟨by simp, next h1 h2⟩
set_option maxHeartbeats 1000000 in
theorem IsUnambiguous_spec (A : Option Addr) (n c : Nat) (T : List Rl) (w : World) (hx : Rules w A n c T) :
    Calls Tryd.prog 10 #[.slice A n c] w fun e w' => e = .returned (.tuple #[.bool (iuOk T), .int .i64 (iuCode T)]) ∧ Below w.heap.size w w' := by
  cases ha : isTab T with
  | false =>
    have HF := Lib.hid (iu_bad ha)
    go_enter Tryd.func10, Tryd.ntmps10
    go_wp2_with fail
    refine (isb (IsTable_spec A n c T _ hx) ha).mono ?_
    rintro e_ w1 ⟨rfl, h1⟩
    have hc_w1 := bcell h1; have hf_w1 := bfree h1
    go_wp2
    go_ret2
    exact ⟨by rw [HF.out.1, HF.out.2]; rfl, h1⟩
  | true =>
    have HF := Lib.hid (iu_good ha)
    have HA := Lib.hid (fun W hW => l05Plain_any A n c T W hW ha)
    go_enter Tryd.func10, Tryd.ntmps10
    go_wp2_with fail
    refine (isb (IsTable_spec A n c T _ hx) ha).mono ?_
    rintro e_ w1 ⟨rfl, h1⟩
    have hc_w1 := bcell h1; have hf_w1 := bfree h1
    go_wp2_with fail
    refine (HA.out _ (hx.below h1)).mono ?_
    rintro e_ w2 ⟨rfl, h2⟩
    go_wp2
    go_ret2
    exact ⟨by rw [HF.out.1, HF.out.2]; rfl, next h1 h2⟩
set_option maxHeartbeats 1000000 in
theorem IsUnambiguous_impl (A : Option Addr) (n c : Nat) (T : List Rl) (w : World) (hx : Rules w A n c T) :
    Calls Tryd.prog 11 #[.slice A n c] w fun e w' => e = .returned (.tuple #[.bool (iuOk T), .int .i64 (iuCode T)]) ∧ Below w.heap.size w w' := by
  cases ha : isTab T with
  | false =>
    have HF := Lib.hid (iu_bad ha)
    go_enter Tryd.func11, Tryd.ntmps11
    go_wp2_with fail
    refine (isb (IsTable_impl A n c T _ hx) ha).mono ?_
    rintro e_ w1 ⟨rfl, h1⟩
    have hc_w1 := bcell h1; have hf_w1 := bfree h1
    go_wp2
    go_ret2
    exact ⟨by rw [HF.out.1, HF.out.2]; rfl, h1⟩
  | true =>
    have HF := Lib.hid (iu_good ha)
    have HA := Lib.hid (fun W hW => isUnambiguous_any A n c T W hW ha)
    go_enter Tryd.func11, Tryd.ntmps11
    go_wp2_with fail
    refine (isb (IsTable_impl A n c T _ hx) ha).mono ?_
    rintro e_ w1 ⟨rfl, h1⟩
    have hc_w1 := bcell h1; have hf_w1 := bfree h1
    go_wp2_with fail
    refine (HA.out _ (hx.below h1)).mono ?_
    rintro e_ w2 ⟨rfl, h2⟩
    go_wp2
    go_ret2
    exact ⟨by rw [HF.out.1, HF.out.2]; rfl, next h1 h2⟩
set_option maxHeartbeats 1000000 in
theorem AmbiguousText_spec (A : Option Addr) (n c : Nat) (T : List Rl) (w : World) (hx : Rules w A n c T) :
    Calls Tryd.prog 6 #[.slice A n c] w fun e w' => e = .returned (.tuple #[.string (atText T), .int .i64 (atCode T)]) ∧ Below w.heap.size w w' := by
  cases ha : isTab T with
  | false =>
    have HF := Lib.hid (at_bad ha)
    go_enter Tryd.func6, Tryd.ntmps6
    go_wp2_with fail
    refine (isb (IsTable_spec A n c T _ hx) ha).mono ?_
    rintro e_ w1 ⟨rfl, h1⟩
    have hc_w1 := bcell h1; have hf_w1 := bfree h1
    go_wp2
    go_ret2
    exact ⟨by rw [HF.out.1, HF.out.2]; rfl, h1⟩
  | true =>
    cases he : hasE T with
    | true =>
      have HF := Lib.hid (at_emp ha he)
      go_enter Tryd.func6, Tryd.ntmps6
      go_wp2_with fail
      refine (isb (IsTable_spec A n c T _ hx) ha).mono ?_
      rintro e_ w1 ⟨rfl, h1⟩
      have hc_w1 := bcell h1; have hf_w1 := bfree h1
      go_wp2_with fail
      refine (isb (l05Empty_any A n c T _ (hx.below h1)) he).mono ?_
      rintro e_ w2 ⟨rfl, h2⟩
      have hc_w2 := bcell h2; have hf_w2 := bfree h2
      go_wp2
      go_ret2
      exact ⟨by rw [HF.out.1, HF.out.2]; rfl, next h1 h2⟩
    | false =>
      have HA := fun W hW => l05Ambiguous_any A n c T W hW ha
      cases hb : ambB T with
      | false =>
        have HF := Lib.hid (at_no ha he hb)
        rw [hb] at HA
        have HA := Lib.hid HA
        go_enter Tryd.func6, Tryd.ntmps6
        go_wp2_with fail
        refine (isb (IsTable_spec A n c T _ hx) ha).mono ?_
        rintro e_ w1 ⟨rfl, h1⟩
        have hc_w1 := bcell h1; have hf_w1 := bfree h1
        go_wp2_with fail
        refine (isb (l05Empty_any A n c T _ (hx.below h1)) he).mono ?_
        rintro e_ w2 ⟨rfl, h2⟩
        have hc_w2 := bcell h2; have hf_w2 := bfree h2
        go_wp2_with fail
        refine (HA.out _ ((hx.below h1).below h2)).mono ?_
        rintro e_ w3 ⟨rfl, h3⟩
        go_wp2
        go_ret2
        exact ⟨by rw [HF.out.1, HF.out.2]; rfl, next (next h1 h2) h3⟩
      | true =>
        have HF := Lib.hid (at_yes ha he hb)
        rw [hb] at HA
        have HA := Lib.hid HA
        go_enter Tryd.func6, Tryd.ntmps6
        go_wp2_with fail
        refine (isb (IsTable_spec A n c T _ hx) ha).mono ?_
        rintro e_ w1 ⟨rfl, h1⟩
        have hc_w1 := bcell h1; have hf_w1 := bfree h1
        go_wp2_with fail
        refine (isb (l05Empty_any A n c T _ (hx.below h1)) he).mono ?_
        rintro e_ w2 ⟨rfl, h2⟩
        have hc_w2 := bcell h2; have hf_w2 := bfree h2
        go_wp2_with fail
        refine (HA.out _ ((hx.below h1).below h2)).mono ?_
        rintro e_ w3 ⟨rfl, h3⟩
        go_wp2
        go_ret2
        exact ⟨by rw [HF.out.1, HF.out.2]; rfl, next (next h1 h2) h3⟩
set_option maxHeartbeats 1000000 in
theorem AmbiguousText_impl (A : Option Addr) (n c : Nat) (T : List Rl) (w : World) (hx : Rules w A n c T) :
    Calls Tryd.prog 8 #[.slice A n c] w fun e w' => e = .returned (.tuple #[.string (atText T), .int .i64 (atCode T)]) ∧ Below w.heap.size w w' := by
  cases ha : isTab T with
  | false =>
    have HF := Lib.hid (at_bad ha)
    go_enter Tryd.func8, Tryd.ntmps8
    go_wp2_with fail
    refine (isb (IsTable_impl A n c T _ hx) ha).mono ?_
    rintro e_ w1 ⟨rfl, h1⟩
    have hc_w1 := bcell h1; have hf_w1 := bfree h1
    go_wp2
    go_ret2
    exact ⟨by rw [HF.out.1, HF.out.2]; rfl, h1⟩
  | true =>
    cases he : hasE T with
    | true =>
      have HF := Lib.hid (at_emp ha he)
      go_enter Tryd.func8, Tryd.ntmps8
      go_wp2_with fail
      refine (isb (IsTable_impl A n c T _ hx) ha).mono ?_
      rintro e_ w1 ⟨rfl, h1⟩
      have hc_w1 := bcell h1; have hf_w1 := bfree h1
      go_wp2_with fail
      refine (isb (hasEmpty_any A n c T _ (hx.below h1)) he).mono ?_
      rintro e_ w2 ⟨rfl, h2⟩
      have hc_w2 := bcell h2; have hf_w2 := bfree h2
      go_wp2
      go_ret2
      exact ⟨by rw [HF.out.1, HF.out.2]; rfl, next h1 h2⟩
    | false =>
      have HA := fun W hW => ambiguous_any A n c T W hW ha
      cases hb : ambB T with
      | false =>
        have HF := Lib.hid (at_no ha he hb)
        rw [hb] at HA
        have HA := Lib.hid HA
        go_enter Tryd.func8, Tryd.ntmps8
        go_wp2_with fail
        refine (isb (IsTable_impl A n c T _ hx) ha).mono ?_
        rintro e_ w1 ⟨rfl, h1⟩
        have hc_w1 := bcell h1; have hf_w1 := bfree h1
        go_wp2_with fail
        refine (isb (hasEmpty_any A n c T _ (hx.below h1)) he).mono ?_
        rintro e_ w2 ⟨rfl, h2⟩
        have hc_w2 := bcell h2; have hf_w2 := bfree h2
        go_wp2_with fail
        refine (HA.out _ ((hx.below h1).below h2)).mono ?_
        rintro e_ w3 ⟨rfl, h3⟩
        go_wp2
        go_ret2
        exact ⟨by rw [HF.out.1, HF.out.2]; rfl, next (next h1 h2) h3⟩
      | true =>
        have HF := Lib.hid (at_yes ha he hb)
        rw [hb] at HA
        have HA := Lib.hid HA
        go_enter Tryd.func8, Tryd.ntmps8
        go_wp2_with fail
        refine (isb (IsTable_impl A n c T _ hx) ha).mono ?_
        rintro e_ w1 ⟨rfl, h1⟩
        have hc_w1 := bcell h1; have hf_w1 := bfree h1
        go_wp2_with fail
        refine (isb (hasEmpty_any A n c T _ (hx.below h1)) he).mono ?_
        rintro e_ w2 ⟨rfl, h2⟩
        have hc_w2 := bcell h2; have hf_w2 := bfree h2
        go_wp2_with fail
        refine (HA.out _ ((hx.below h1).below h2)).mono ?_
        rintro e_ w3 ⟨rfl, h3⟩
        go_wp2
        go_ret2
        exact ⟨by rw [HF.out.1, HF.out.2]; rfl, next (next h1 h2) h3⟩
end Go.Proofs.YtnjjfcdddkabbaaDoor
