/- Walk of the law UnionOf. -/
import Derived.Test.YtldikfikcnkgcaaYrC
import Derived.Test.YtldikfikcnkgcaaYrM
import Derived.Test.YtldikfikcnkgcaaYrV
namespace Go.Proofs.Ytldikfikcnkgcaa.fnExactUnionOf
open Go.ChangeShapes Go.WideShapes Go.ChangeAt Go.RowKit
set_option linter.unusedVariables false
set_option maxRecDepth 100000 in
set_option maxHeartbeats 4000000 in
theorem walk (A0 : Option Addr) (n0 c0 : Nat) (x0 : List (Int × Int)) (A1 : Option Addr) (n1 c1 : Nat) (x1 : List (Int × Int)) (w : World) (h0 : Spans w A0 n0 c0 x0) (h1 : Spans w A1 n1 c1 x1) : Calls Try.prog 4 #[.slice A0 n0 c0, .slice A1 n1 c1] w fun e w' => e = .returned (.bool true) ∧ Below w.heap.size w w' := by
  have hcm0 := h0.2.cap
  have hnc0 := h0.2.le
  unfold maxLen at hcm0
  have hcm1 := h1.2.cap
  have hnc1 := h1.2.le
  unfold maxLen at hcm1
  have hN0 := Lib.hid h0.1
  have hN1 := Lib.hid h1.1
  by_cases big0 : 1048576 < n0
  · have e1 : (if (1048576 : Int) < n0 then (-1 : Int) else 1048576 - n0) = -1 := by rw [if_pos (by omega)]
    go_enter Try.func4, Try.ntmps4
    go_wp2_with fail
    refine (szSpanS_any A0 n0 c0 1048576 _ (by omega) (by omega) (by omega)).mono ?_
    rintro e_ w1 ⟨rfl, rfl⟩
    go_wp2
    go_ret
    exact ⟨rfl, Below.refl _ _⟩
  have e1 : (if (1048576 : Int) < n0 then (-1 : Int) else 1048576 - n0) = 1048576 - n0 := by rw [if_neg (by omega)]
  have le0 : n0 ≤ 1048576 := by omega
  have HZ0 := fun W => szSpanS_any A0 n0 c0 1048576 W (by omega) (by omega) (by omega)
  rw [e1] at HZ0
  obtain ⟨lf, hlf⟩ : ∃ l : Int, (1048576 : Int) - n0 = l := ⟨_, rfl⟩
  rw [hlf] at HZ0
  have lf0 : ¬ lf < 0 := by omega
  have lf1 : lf ≤ 1048576 := by omega
  clear e1
  by_cases big1 : lf < n1
  · have HZ1 := fun W => szSpanS_any A1 n1 c1 lf W (by omega) (by omega) lf1
    rw [if_pos big1] at HZ1
    clear hlf
    go_enter Try.func4, Try.ntmps4
    go_wp2_with fail
    refine (HZ0 _).mono ?_
    rintro e_ w1 ⟨rfl, rfl⟩
    go_wp2_with fail
    refine (HZ1 _).mono ?_
    rintro e_ w2 ⟨rfl, rfl⟩
    go_wp2
    go_ret
    exact ⟨rfl, Below.refl _ _⟩
  have HZ1 := fun W => szSpanS_any A1 n1 c1 lf W (by omega) (by omega) lf1
  rw [if_neg big1] at HZ1
  have le1 : n1 ≤ 1048576 := by omega
  obtain ⟨lg, hlg⟩ : ∃ l : Int, lf - n1 = l := ⟨_, rfl⟩
  rw [hlg] at HZ1
  have lg0 : ¬ lg < 0 := by omega
  clear hlf hlg
  have xl0 : x0.length ≤ 1048576 := by rw [← hN0.out]; exact le0
  have xl1 : x1.length ≤ 1048576 := by rw [← hN1.out]; exact le1
  have hll : (unList x0 x1).length ≤ 1048576 := by have := un_len x0 x1; omega
  have cq1 : (unCode x0 x1 != unCode x0 x1) = false := by simp
  have HSP := fun A B n c m d W h1 h2 => UnionOf_spec A B n c m d x0 x1 W h1 h2
  have HIM := fun A B n c m d W h1 h2 h3 => UnionOf_impl A B n c m d x0 x1 W h1 h2 h3
  obtain ⟨lst, hlst⟩ : ∃ l, unList x0 x1 = l := ⟨_, rfl⟩
  obtain ⟨code, hcode⟩ : ∃ l, unCode x0 x1 = l := ⟨_, rfl⟩
  rw [hlst] at hll
  rw [hcode] at cq1
  simp only [hlst, hcode] at HSP HIM
  clear hlst hcode
  go_enter Try.func4, Try.ntmps4
  have B : Below w.heap.size w w := Below.refl _ _
  go_wp2_with fail
  refine (HZ0 _).mono ?_
  rintro e_ _ ⟨rfl, rfl⟩
  go_wp2_with fail
  refine (HZ1 _).mono ?_
  rintro e_ _ ⟨rfl, rfl⟩
  go_wp2_with fail
  refine (toSpanS_any A0 n0 c0 x0 _ (h0.below B) le0).mono ?_
  intro e_ w1 h_; obtain ⟨gos, rfl, hgeos, os, hk1⟩ := h_
  have zk1 := hk1.size
  replace B := next B hk1
  have zos := os.lt _ rfl
  go_wp2_with fail
  refine (toSpanS_any A1 n1 c1 x1 _ (h1.below B) le1).mono ?_
  intro e_ w2 h_; obtain ⟨got, rfl, hgeot, ot, hk2⟩ := h_
  have zk2 := hk2.size
  replace B := next B hk2
  replace os := own_below os hk2
  have zot := ot.lt _ rfl
  go_wp2_with fail
  refine (HSP _ _ _ _ _ _ _ (own_spans os rfl) (own_spans ot rfl)).mono ?_
  rintro e_ w3 ⟨v1, rfl, r1, hk3⟩
  have zk3 := hk3.size
  replace B := next B hk3
  replace os := own_below os hk3
  replace ot := own_below ot hk3
  obtain ⟨Ar1, cr1, rfl, _, _⟩ := own_formS r1
  have r1x := own_spans r1 rfl
  clear os ot r1
  have D := Below.refl w3.heap.size w3
  go_wp2_with fail
  refine (toSpanS_any A0 n0 c0 x0 _ (h0.below B) le0).mono ?_
  intro e_ w4 h_; obtain ⟨gox, rfl, hgeox, ox, hk4⟩ := h_
  have zk4 := hk4.size
  replace B := next B hk4
  replace D := next D hk4
  have zox := ox.lt _ rfl
  go_wp2_with fail
  refine (toSpanS_any A1 n1 c1 x1 _ (h1.below B) le1).mono ?_
  intro e_ w5 h_; obtain ⟨goy, rfl, hgeoy, oy, hk5⟩ := h_
  have zk5 := hk5.size
  replace B := next B hk5
  replace D := next D hk5
  replace ox := own_below ox hk5
  have zoy := oy.lt _ rfl
  go_wp2_with fail
  refine (HIM _ _ _ _ _ _ _ (own_spans ox rfl) (own_spans oy rfl) ⟨⟨_, _, rfl, (ox.lt _ rfl).2⟩, ⟨_, _, rfl, (oy.lt _ rfl).2⟩⟩).mono ?_
  rintro e_ w6 ⟨v2, rfl, r2, hk6⟩
  have zk6 := hk6.size
  replace B := next B hk6
  replace D := next D hk6
  replace ox := own_below ox hk6
  replace oy := own_below oy hk6
  obtain ⟨Ar2, cr2, rfl, _, _⟩ := own_formS r2
  go_wp2_with fail
  refine (isb_ (eqSpanS_any Ar2 Ar1 _ _ cr2 cr1 lst lst _ (own_spans r2 rfl) (r1x.below D)) (decide_eq_true rfl)).mono ?_
  rintro e_ w7 ⟨rfl, hk7⟩
  have zk7 := hk7.size
  replace B := next B hk7
  replace D := next D hk7
  replace ox := own_below ox hk7
  replace oy := own_below oy hk7
  replace r2 := own_below r2 hk7
  go_wp2_with fail
  refine (toSpanS_any A0 n0 c0 x0 _ (h0.below B) le0).mono ?_
  intro e_ w8 h_; obtain ⟨goz, rfl, hgeoz, oz, hk8⟩ := h_
  have zk8 := hk8.size
  replace B := next B hk8
  replace D := next D hk8
  replace ox := own_below ox hk8
  replace oy := own_below oy hk8
  replace r2 := own_below r2 hk8
  have zoz := oz.lt _ rfl
  go_wp2_with fail
  refine (isb_ (eqSpanS_any _ _ _ _ _ _ x0 x0 _ (own_spans ox rfl) (own_spans oz rfl)) (decide_eq_true rfl)).mono ?_
  rintro e_ w9 ⟨rfl, hk9⟩
  have zk9 := hk9.size
  replace B := next B hk9
  replace D := next D hk9
  replace ox := own_below ox hk9
  replace oy := own_below oy hk9
  replace r2 := own_below r2 hk9
  replace oz := own_below oz hk9
  clear oz zoz hgeoz
  go_wp2_with fail
  refine (toSpanS_any A1 n1 c1 x1 _ (h1.below B) le1).mono ?_
  intro e_ w10 h_; obtain ⟨goz, rfl, hgeoz, oz, hk10⟩ := h_
  have zk10 := hk10.size
  replace B := next B hk10
  replace D := next D hk10
  replace ox := own_below ox hk10
  replace oy := own_below oy hk10
  replace r2 := own_below r2 hk10
  have zoz := oz.lt _ rfl
  go_wp2_with fail
  refine (isb_ (eqSpanS_any _ _ _ _ _ _ x1 x1 _ (own_spans oy rfl) (own_spans oz rfl)) (decide_eq_true rfl)).mono ?_
  rintro e_ w11 ⟨rfl, hk11⟩
  have zk11 := hk11.size
  replace B := next B hk11
  replace D := next D hk11
  replace ox := own_below ox hk11
  replace oy := own_below oy hk11
  replace r2 := own_below r2 hk11
  replace oz := own_below oz hk11
  clear oz zoz hgeoz
  go_wp2_with fail
  refine (markSpans_any _ (1) _ _ x0 _ ox (by omega) (by omega)).mono ?_
  rintro e_ w12 ⟨rfl, om, hk12⟩
  have zk12 := hk12.size
  replace B := below_ownS B hk12 (by omega) (fun q hq => by have e' := Option.some.inj hq; simp only at e'; omega)
  replace D := below_ownS D hk12 (by omega) (fun q hq => by have e' := Option.some.inj hq; simp only at e'; omega)
  replace oy := own_farS oy hk12 (fun q hq e => by have a_ := (oy.lt q hq); have e' := Option.some.inj e; simp only at e'; have hq' := hq; (try (have h_ := Option.some.inj hq; simp only at h_)); omega)
  replace r2 := own_farS r2 hk12 (fun q hq e => by have a_ := (r2.lt q hq); have e' := Option.some.inj e; simp only at e'; have hq' := hq; (try (have h_ := Option.some.inj hq; simp only at h_)); omega)
  clear om ox
  go_wp2_with fail
  refine (markSpans_any _ (1 + 2 * x0.length) _ _ x1 _ oy (by omega) (by omega)).mono ?_
  rintro e_ w13 ⟨rfl, om, hk13⟩
  have zk13 := hk13.size
  replace B := below_ownS B hk13 (by omega) (fun q hq => by have e' := Option.some.inj hq; simp only at e'; omega)
  replace D := below_ownS D hk13 (by omega) (fun q hq => by have e' := Option.some.inj hq; simp only at e'; omega)
  replace r2 := own_farS r2 hk13 (fun q hq e => by have a_ := (r2.lt q hq); have e' := Option.some.inj e; simp only at e'; have hq' := hq; (try (have h_ := Option.some.inj hq; simp only at h_)); omega)
  clear om oy
  go_wp2_with fail
  refine (isb_ (eqSpanS_any Ar2 Ar1 _ _ cr2 cr1 lst lst _ (own_spans r2 rfl) (r1x.below D)) (decide_eq_true rfl)).mono ?_
  rintro e_ w14 ⟨rfl, hk14⟩
  have zk14 := hk14.size
  replace B := next B hk14
  replace D := next D hk14
  replace r2 := own_below r2 hk14
  have zr2 := fun k hk => r2.lt k hk
  go_wp2_with fail
  refine (markSpans_any _ 1 _ _ lst _ r2 (by omega) (by omega)).mono ?_
  rintro e_ w15 ⟨rfl, om, hk15⟩
  have zk15 := hk15.size
  replace B := below_ownS B hk15 (by omega) (fun q hq => by have := (zr2 q hq).1; omega)
  replace D := below_ownS D hk15 (by omega) (fun q hq => by have := (zr2 q hq).1; omega)
  have rg := own_spans om (smarks_len _ _).symm
  clear om r2
  go_wp2_with fail
  refine (heldSpans_any 1 _ _ _ _ rg (by omega) (by omega)).mono ?_
  rintro e_ w16 ⟨rfl, hk16⟩
  have zk16 := hk16.size
  replace B := next B hk16
  replace D := next D hk16
  replace rg := rg.below hk16
  go_wp2_with fail
  refine (toSpanS_any A0 n0 c0 x0 _ (h0.below B) le0).mono ?_
  intro e_ w17 h_; obtain ⟨gos, rfl, hgeos, os, hk17⟩ := h_
  have zk17 := hk17.size
  replace B := next B hk17
  replace D := next D hk17
  replace rg := rg.below hk17
  have zos := os.lt _ rfl
  go_wp2_with fail
  refine (toSpanS_any A1 n1 c1 x1 _ (h1.below B) le1).mono ?_
  intro e_ w18 h_; obtain ⟨got, rfl, hgeot, ot, hk18⟩ := h_
  have zk18 := hk18.size
  replace B := next B hk18
  replace D := next D hk18
  replace rg := rg.below hk18
  replace os := own_below os hk18
  have zot := ot.lt _ rfl
  go_wp2_with fail
  refine (HIM _ _ _ _ _ _ _ (own_spans os rfl) (own_spans ot rfl) ⟨⟨_, _, rfl, (os.lt _ rfl).2⟩, ⟨_, _, rfl, (ot.lt _ rfl).2⟩⟩).mono ?_
  rintro e_ w19 ⟨v3, rfl, r3, hk19⟩
  have zk19 := hk19.size
  replace B := next B hk19
  replace D := next D hk19
  replace rg := rg.below hk19
  replace os := own_below os hk19
  replace ot := own_below ot hk19
  obtain ⟨Ar3, cr3, rfl, _, _⟩ := own_formS r3
  have r3x := own_spans r3 rfl
  clear os ot r3
  go_wp2_with fail
  refine (isb_ (eqSpanS_any Ar3 Ar1 _ _ cr3 cr1 lst lst _ r3x (r1x.below D)) (decide_eq_true rfl)).mono ?_
  rintro e_ w20 ⟨rfl, hk20⟩
  have zk20 := hk20.size
  replace B := next B hk20
  replace D := next D hk20
  replace rg := rg.below hk20
  replace r3x := r3x.below hk20
  go_wp2_with fail
  refine (heldSpans_any 1 _ _ _ _ rg (by omega) (by omega)).mono ?_
  rintro e_ w21 ⟨rfl, hk21⟩
  have zk21 := hk21.size
  replace B := next B hk21
  replace D := next D hk21
  replace rg := rg.below hk21
  replace r3x := r3x.below hk21
  go_wp2
  go_ret
  exact ⟨rfl, B⟩
end Go.Proofs.Ytldikfikcnkgcaa.fnExactUnionOf
