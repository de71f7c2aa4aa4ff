/- UnionOf: plain law and the reference. -/
import Derived.Test.YtldikfikcnkgcaaYrC
import Derived.Test.YtldikfikcnkgcaaSpanLaw3
namespace Go.Proofs.Ytldikfikcnkgcaa
open Go.ChangeShapes Go.WideShapes Go.ChangeAt Go.RowKit
def uniL (a b : List Sp) : List Sp := mrg [] ((a ++ b).mergeSort fun x y => decide (x.1 ≤ y.1))
theorem uni_sorted (a b : List Sp) : ((a ++ b).mergeSort fun x y => decide (x.1 ≤ y.1)).Pairwise (fun x y => x.1 ≤ y.1) :=
  (List.pairwise_mergeSort (le := fun x y : Sp => decide (x.1 ≤ y.1)) (fun p q r h1 h2 => by have := of_decide_eq_true h1; have := of_decide_eq_true h2; exact decide_eq_true (by omega)) (fun p q => by rcases Int.le_total p.1 q.1 with h | h <;> simp [h]) (a ++ b)).imp fun h => of_decide_eq_true h
theorem uni_is {a b : List Sp} (ha : areYears a = true) (hb : areYears b = true) : canon (uniL a b) ∧ ∀ y, inY (uniL a b) y ↔ inY a y ∨ inY b y := by
  obtain ⟨_, ba, _⟩ := canon_of ha
  obtain ⟨_, bb, _⟩ := canon_of hb
  exact union_is (fun s => by rw [List.mem_mergeSort, List.mem_append]) (fun s h => by have := ba s h; omega) (fun s h => by have := bb s h; omega) (uni_sorted a b)
theorem uni_any {a b ys : List Sp} (ha : areYears a = true) (hb : areYears b = true) (hp : ys.Perm (a ++ b)) (hs : ys.Pairwise (fun x y => x.1 ≤ y.1)) : mrg [] ys = uniL a b := by
  obtain ⟨_, ba, _⟩ := canon_of ha
  obtain ⟨_, bb, _⟩ := canon_of hb
  obtain ⟨h1, h2⟩ := union_is (xs := ys) (a := a) (b := b) (fun s => by rw [hp.mem_iff, List.mem_append]) (fun s h => by have := ba s h; omega) (fun s h => by have := bb s h; omega) hs
  obtain ⟨g1, g2⟩ := uni_is ha hb
  exact canon_uniq h1 g1 fun y => by rw [h2 y, g2 y]
def unCode (a b : List Sp) : Int := if wyOk a b = true then if (uniL a b).length ≤ 12 then 0 else 3 else 1
def unList (a b : List Sp) : List Sp := if wyOk a b = true ∧ (uniL a b).length ≤ 12 then uniL a b else []
theorem un_cases (a b : List Sp) : (areYears a = false ∧ Hid (unList a b = [] ∧ unCode a b = 1)) ∨ (areYears a = true ∧ areYears b = false ∧ Hid (unList a b = [] ∧ unCode a b = 1)) ∨
    (areYears a = true ∧ areYears b = true ∧ 12 < (uniL a b).length ∧ Hid (unList a b = [] ∧ unCode a b = 3)) ∨ (areYears a = true ∧ areYears b = true ∧ (uniL a b).length ≤ 12 ∧ Hid (unList a b = uniL a b ∧ unCode a b = 0)) := by
  unfold Hid unList unCode wyOk
  cases areYears a
  · simp
  · cases areYears b
    · simp
    · by_cases h : (uniL a b).length ≤ 12
      · simp [h]
      · have : 12 < (uniL a b).length := by omega
        simp [h, this]
set_option maxRecDepth 100000 in
set_option maxHeartbeats 2000000 in
theorem l02Sets_both (A B : Option Addr) (n c m d : Nat) (xs ys : List Sp) (w : World) (hx : Spans w A n c xs) (hy : Spans w B m d ys) :
    Calls Try.prog 34 #[.slice A n c, .slice B m d, .bool true] w fun e w' => ∃ v, e = .returned (.tuple #[v, .int .i64 (unCode xs ys)]) ∧ w'.ownsRow w.heap.size 42 2 v (unList xs ys).length (spanCells (unList xs ys)) ∧ Below w.heap.size w w' := by
  rcases un_cases xs ys with ⟨ha, HF⟩ | ⟨ha, hb, HF⟩ | ⟨ha, hb, hl, HF⟩ | ⟨ha, hb, hl, HF⟩
  · go_enter Try.func34, Try.ntmps34
    go_wp2_with fail
    refine (isb_ (areYears_spec A n c xs _ hx) ha).mono ?_
    rintro e_ w1 ⟨rfl, h1⟩
    have hc_w1 := bcell h1; have hf_w1 := bfree h1
    go_wp2
    go_ret2
    exact ⟨_, by rw [HF.out.2]; rfl, by rw [HF.out.1]; exact World.ownsRow_nil _ _ _ _, h1⟩
  · go_enter Try.func34, Try.ntmps34
    go_wp2_with fail
    refine (isb_ (areYears_spec A n c xs _ hx) ha).mono ?_
    rintro e_ w1 ⟨rfl, h1⟩
    have hc_w1 := bcell h1; have hf_w1 := bfree h1
    go_wp2_with fail
    refine (isb_ (areYears_spec B m d ys _ (hy.below h1)) hb).mono ?_
    rintro e_ w2 ⟨rfl, h2⟩
    have hc_w2 := bcell h2; have hf_w2 := bfree h2
    go_wp2
    go_ret2
    exact ⟨_, by rw [HF.out.2]; rfl, by rw [HF.out.1]; exact World.ownsRow_nil _ _ _ _, next h1 h2⟩
  all_goals
    have hwa := fun W h1 h2 => l02Build_both A B n c m d xs ys W h1 h2
    have HBU := Lib.hid (fun P h => build_union (P := P) ha hb h (uni_is ha hb).1 (uni_is ha hb).2)
    go_enter Try.func34, Try.ntmps34
    go_wp2_with fail
    refine (isb_ (areYears_spec A n c xs _ hx) ha).mono ?_
    rintro e_ w1 ⟨rfl, h1⟩
    have hc_w1 := bcell h1; have hf_w1 := bfree h1
    go_wp2_with fail
    refine (isb_ (areYears_spec B m d ys _ (hy.below h1)) hb).mono ?_
    rintro e_ w2 ⟨rfl, h2⟩
    have hc_w2 := bcell h2; have hf_w2 := bfree h2
    have h12 := next h1 h2
    go_wp2_with fail
    refine (hwa _ (hx.below h12) (hy.below h12)).mono ?_
    rintro e_ w3 ⟨v, P, rfl, hB3, own3, h3⟩
    have hP := HBU.out P hB3
    rw [← hP] at hl
    try rw [← hP] at HF
    obtain ⟨A3, c3, rfl, hc1, hc2⟩ := own_formS own3
    have HB3 := Lib.hid (next h12 h3)
    have HO3 := Lib.hid (own_monoS own3 h12.size)
    unfold maxLen at hc2
    clear hwa own3 h3 h12 h1 h2 ha hb hP HBU hB3
  · go_wp2
    go_ret2
    exact ⟨_, by rw [HF.out.2]; rfl, by rw [HF.out.1]; exact World.ownsRow_nil _ _ _ _, HB3.out⟩
  · have hl2 : ¬ 12 < P.length := by omega
    go_wp2
    go_ret2
    exact ⟨_, by rw [HF.out.2]; rfl, by rw [HF.out.1]; exact HO3.out, HB3.out⟩
set_option maxHeartbeats 800000 in
theorem UnionOf_spec (A B : Option Addr) (n c m d : Nat) (xs ys : List Sp) (w : World) (hx : Spans w A n c xs) (hy : Spans w B m d ys) :
    Calls Try.prog 14 #[.slice A n c, .slice B m d] w fun e w' => ∃ v, e = .returned (.tuple #[v, .int .i64 (unCode xs ys)]) ∧ w'.ownsRow w.heap.size 42 2 v (unList xs ys).length (spanCells (unList xs ys)) ∧ Below w.heap.size w w' := by
  have hs := l02Sets_both A B n c m d xs ys w hx hy
  go_enter Try.func14, Try.ntmps14
  go_wp2_with fail
  refine hs.mono ?_
  rintro e_ w1 ⟨v, rfl, own1, h1⟩
  clear hs
  go_wp2
  go_ret2
  exact ⟨_, rfl, own1, h1⟩
end Go.Proofs.Ytldikfikcnkgcaa
