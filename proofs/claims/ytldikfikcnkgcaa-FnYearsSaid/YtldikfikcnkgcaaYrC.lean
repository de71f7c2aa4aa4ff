/- WithoutYears: the program's and the reference's. -/
import Derived.Test.YtldikfikcnkgcaaYrB
namespace Go.Proofs.Ytldikfikcnkgcaa
open Go.ChangeShapes Go.WideShapes Go.ChangeAt Go.RowKit
set_option maxRecDepth 100000 in
set_option maxHeartbeats 2000000 in
theorem WithoutYears_impl (A B : Option Addr) (n c m d : Nat) (xs ys : List Sp) (w : World) (hx : Spans w A n c xs) (hy : Spans w B m d ys) :
    Calls Try.prog 10 #[.slice A n c, .slice B m d] w fun e w' => ∃ v, e = .returned (.tuple #[v, .int .i64 (wyCode xs ys)]) ∧ w'.ownsRow w.heap.size 42 2 v (wyList xs ys).length (spanCells (wyList xs ys)) ∧ Below w.heap.size w w' := by
  rcases wy_cases xs ys with ⟨ha, HF⟩ | ⟨ha, hb, HF⟩ | ⟨ha, hb, hl, HF⟩ | ⟨ha, hb, hl, HF⟩
  · go_enter Try.func10, Try.ntmps10
    go_wp2_with fail
    refine (isb_ (areYears_impl A n c xs _ hx) ha).mono ?_
    rintro e_ w1 ⟨rfl, h1⟩
    have hc_w1 := bcell h1; have hf_w1 := bfree h1
    go_wp2
    go_ret2
    exact ⟨_, by rw [HF.out.2]; rfl, by rw [HF.out.1]; exact World.ownsRow_nil _ _ _ _, h1⟩
  · go_enter Try.func10, Try.ntmps10
    go_wp2_with fail
    refine (isb_ (areYears_impl A n c xs _ hx) ha).mono ?_
    rintro e_ w1 ⟨rfl, h1⟩
    have hc_w1 := bcell h1; have hf_w1 := bfree h1
    go_wp2_with fail
    refine (isb_ (areYears_impl B m d ys _ (hy.below h1)) hb).mono ?_
    rintro e_ w2 ⟨rfl, h2⟩
    have hc_w2 := bcell h2; have hf_w2 := bfree h2
    go_wp2
    go_ret2
    exact ⟨_, by rw [HF.out.2]; rfl, by rw [HF.out.1]; exact World.ownsRow_nil _ _ _ _, next h1 h2⟩
  all_goals
    have hwa := fun W h1 h2 => without_any A B n c m d xs ys W h1 h2 ha hb
    obtain ⟨l, hl_⟩ : ∃ l, wOut ys xs [] = l := ⟨_, rfl⟩
    rw [hl_] at hl
    try rw [hl_] at HF
    simp only [hl_] at hwa
    clear hl_
    go_enter Try.func10, Try.ntmps10
    go_wp2_with fail
    refine (isb_ (areYears_impl A n c xs _ hx) ha).mono ?_
    rintro e_ w1 ⟨rfl, h1⟩
    have hc_w1 := bcell h1; have hf_w1 := bfree h1
    go_wp2_with fail
    refine (isb_ (areYears_impl B m d ys _ (hy.below h1)) hb).mono ?_
    rintro e_ w2 ⟨rfl, h2⟩
    have hc_w2 := bcell h2; have hf_w2 := bfree h2
    have h12 := next h1 h2
    go_wp2_with fail
    refine (hwa _ (hx.below h12) (hy.below h12)).mono ?_
    rintro e_ w3 ⟨v, rfl, own3, h3⟩
    obtain ⟨A3, c3, rfl, hc1, hc2⟩ := own_formS own3
    have HB3 := Lib.hid (next h12 h3)
    have HO3 := Lib.hid (own_monoS own3 h12.size)
    clear hwa own3 h3 h12 h1 h2 ha hb
  · go_wp2_with fail
    refine (limited_no _ _ _ _ hl hc1 hc2).mono ?_
    rintro e_ w4 ⟨rfl, h4⟩
    have HB4 := Lib.hid (next HB3.out h4)
    clear h4
    go_wp2
    go_ret2
    exact ⟨_, by rw [HF.out.2]; rfl, by rw [HF.out.1]; exact World.ownsRow_nil _ _ _ _, HB4.out⟩
  · go_wp2_with fail
    refine (limited_yes _ _ _ _ hl hc1 hc2).mono ?_
    rintro e_ w4 ⟨rfl, h4⟩
    have HB4 := Lib.hid (next HB3.out h4)
    have HO4 := Lib.hid (own_below HO3.out h4)
    clear h4
    go_wp2
    go_ret2
    exact ⟨_, by rw [HF.out.2]; rfl, by rw [HF.out.1]; exact HO4.out, HB4.out⟩
set_option maxRecDepth 100000 in
set_option maxHeartbeats 2000000 in
theorem l02Sets_no (A B : Option Addr) (n c m d : Nat) (xs ys : List Sp) (w : World) (hx : Spans w A n c xs) (hy : Spans w B m d ys) :
    Calls Try.prog 34 #[.slice A n c, .slice B m d, .bool false] w fun e w' => ∃ v, e = .returned (.tuple #[v, .int .i64 (wyCode xs ys)]) ∧ w'.ownsRow w.heap.size 42 2 v (wyList xs ys).length (spanCells (wyList xs ys)) ∧ Below w.heap.size w w' := by
  rcases wy_cases xs ys with ⟨ha, HF⟩ | ⟨ha, hb, HF⟩ | ⟨ha, hb, hl, HF⟩ | ⟨ha, hb, hl, HF⟩
  · go_enter Try.func34, Try.ntmps34
    go_wp2_with fail
    refine (isb_ (areYears_spec A n c xs _ hx) ha).mono ?_
    rintro e_ w1 ⟨rfl, h1⟩
    have hc_w1 := bcell h1; have hf_w1 := bfree h1
    go_wp2
    go_ret2
    exact ⟨_, by rw [HF.out.2]; rfl, by rw [HF.out.1]; exact World.ownsRow_nil _ _ _ _, h1⟩
  · go_enter Try.func34, Try.ntmps34
    go_wp2_with fail
    refine (isb_ (areYears_spec A n c xs _ hx) ha).mono ?_
    rintro e_ w1 ⟨rfl, h1⟩
    have hc_w1 := bcell h1; have hf_w1 := bfree h1
    go_wp2_with fail
    refine (isb_ (areYears_spec B m d ys _ (hy.below h1)) hb).mono ?_
    rintro e_ w2 ⟨rfl, h2⟩
    have hc_w2 := bcell h2; have hf_w2 := bfree h2
    go_wp2
    go_ret2
    exact ⟨_, by rw [HF.out.2]; rfl, by rw [HF.out.1]; exact World.ownsRow_nil _ _ _ _, next h1 h2⟩
  all_goals
    have hwa := fun W h1 h2 => l02Build_no A B n c m d xs ys W h1 h2
    have HBU := Lib.hid (fun P h => build_without (P := P) ha hb h)
    go_enter Try.func34, Try.ntmps34
    go_wp2_with fail
    refine (isb_ (areYears_spec A n c xs _ hx) ha).mono ?_
    rintro e_ w1 ⟨rfl, h1⟩
    have hc_w1 := bcell h1; have hf_w1 := bfree h1
    go_wp2_with fail
    refine (isb_ (areYears_spec B m d ys _ (hy.below h1)) hb).mono ?_
    rintro e_ w2 ⟨rfl, h2⟩
    have hc_w2 := bcell h2; have hf_w2 := bfree h2
    have h12 := next h1 h2
    go_wp2_with fail
    refine (hwa _ (hx.below h12) (hy.below h12)).mono ?_
    rintro e_ w3 ⟨v, P, rfl, hB3, own3, h3⟩
    have hP := HBU.out P hB3
    rw [← hP] at hl
    try rw [← hP] at HF
    obtain ⟨A3, c3, rfl, hc1, hc2⟩ := own_formS own3
    have HB3 := Lib.hid (next h12 h3)
    have HO3 := Lib.hid (own_monoS own3 h12.size)
    unfold maxLen at hc2
    clear hwa own3 h3 h12 h1 h2 ha hb hP HBU hB3
  · go_wp2
    go_ret2
    exact ⟨_, by rw [HF.out.2]; rfl, by rw [HF.out.1]; exact World.ownsRow_nil _ _ _ _, HB3.out⟩
  · have hl2 : ¬ 12 < P.length := by omega
    go_wp2
    go_ret2
    exact ⟨_, by rw [HF.out.2]; rfl, by rw [HF.out.1]; exact HO3.out, HB3.out⟩
set_option maxHeartbeats 800000 in
theorem WithoutYears_spec (A B : Option Addr) (n c m d : Nat) (xs ys : List Sp) (w : World) (hx : Spans w A n c xs) (hy : Spans w B m d ys) :
    Calls Try.prog 8 #[.slice A n c, .slice B m d] w fun e w' => ∃ v, e = .returned (.tuple #[v, .int .i64 (wyCode xs ys)]) ∧ w'.ownsRow w.heap.size 42 2 v (wyList xs ys).length (spanCells (wyList xs ys)) ∧ Below w.heap.size w w' := by
  have hs := l02Sets_no A B n c m d xs ys w hx hy
  go_enter Try.func8, Try.ntmps8
  go_wp2_with fail
  refine hs.mono ?_
  rintro e_ w1 ⟨v, rfl, own1, h1⟩
  clear hs
  go_wp2
  go_ret2
  exact ⟨_, rfl, own1, h1⟩
end Go.Proofs.Ytldikfikcnkgcaa
