/- Walk of the law AddRule. -/
import Derived.Test.YtjgcbnngjfchhaaDoorAddC
import Derived.Test.YtjgcbnngjfchhaaDoorHeldR
import Derived.Test.YtjgcbnngjfchhaaDoorMarkRu
import Derived.Deep.RegionLaw
namespace Go.Proofs.YtjgcbnngjfchhaaDoor
open Go.ChangeShapes Go.WideShapes Go.ChangeAt Go.RowKit
theorem zone_cell {lo hi : Nat} {w w' : World} (hz : Zone lo hi w w') {b o : Nat} {v : Value} (h : w.cell? ⟨b, o, none⟩ = some v) (hne : b < lo ∨ hi ≤ b) : w'.cell? ⟨b, o, none⟩ = some v :=
  (World.cell?_of_block (hz.block b (World.block_lt_of_cell? w _ h) hne)).trans h
theorem OwnRules.form {w : World} {base top n : Nat} {v : Value} {T : List Rl} (h : OwnRules w base top v n T) : ∃ A c, v = .slice A n c := by
  obtain ⟨vs, h⟩ := h
  rcases h.row.2 with ⟨hv, h0⟩ | ⟨g, cap, cur, hv, _⟩
  · exact ⟨none, 0, by rw [hv, h0]⟩
  · exact ⟨_, _, hv⟩
theorem ar_rsum (T : List Rl) (xs : List Int) (r : ByteArray) : (arList T xs r).length ≤ 30 ∧ rsum (arList T xs r) ≤ 3 * (arList T xs r).length := by
  rcases ar_tab T xs r with h | h
  · rw [h]; simp [rsum]
  · refine ⟨isTab_len h, ?_⟩
    have h1 : ∀ x ∈ arList T xs r, x.1.length ≤ 3 := fun x hx => by
      obtain ⟨k, hk, e⟩ := List.mem_iff_getElem.1 hx
      exact (isRl_len (xs := x.1) (r := x.2) (isTab_at h (by rw [List.getElem?_eq_getElem hk, e])).1).2.1
    generalize arList T xs r = L at h1
    clear h
    unfold rsum
    induction L with
    | nil => simp
    | cons a L ih =>
      have := ih (fun x hx => h1 x (List.mem_cons_of_mem _ hx))
      have := h1 a (List.mem_cons_self ..)
      simp only [List.map_cons, List.sum_cons, List.length_cons]
      omega
end Go.Proofs.YtjgcbnngjfchhaaDoor
namespace Go.Proofs.YtjgcbnngjfchhaaDoor.fnExactAddRule
open Go.ChangeShapes Go.WideShapes Go.ChangeAt Go.RowKit
set_option linter.unusedVariables false
set_option maxRecDepth 100000 in
set_option maxHeartbeats 8000000 in
theorem walk (A0 : Option Addr) (n0 c0 : Nat) (x0 : List Rl) (A1 : Option Addr) (n1 c1 : Nat) (x1 : List Int) (r1 : ByteArray) (hr1 : r1.size ≤ maxLen) (w : World) (h0 : Rules w A0 n0 c0 x0) (h1 : Ints w A1 n1 c1 x1) : Calls Tryd.prog 4 #[.slice A0 n0 c0, .agg #[.slice A1 n1 c1, .string r1]] w fun e w' => e = .returned (.bool true) ∧ Below w.heap.size w w' := by
  have hcm0 := h0.cap.2
  have hnc0 := h0.cap.1
  unfold maxLen at hcm0
  have hcm1 := h1.2.cap
  have hnc1 := h1.2.le
  unfold maxLen at hcm1
  have hb0 := one_box w (.cells #[.slice A1 n1 c1, .string r1] 35)
  by_cases neg0 : (1048576 : Int) - n0 - rtot x0 < 0
  · have hz : szR (1048576 : Int) n0 (rtot x0) = -1 := by unfold szR; rw [if_pos neg0]
    have HZ := fun W hW => szRules_any A0 n0 c0 x0 (1048576 : Int) W hW (by omega) (by omega)
    rw [hz] at HZ
    clear hz
    go_enter Tryd.func4, Tryd.ntmps4
    go_wp2_with fail
    refine (HZ _ (h0.below hb0)).mono ?_
    rintro e_ v1 ⟨rfl, k1⟩
    have hc_v1 := bcell k1; have hf_v1 := bfree k1
    go_wp2
    go_ret
    exact ⟨rfl, next hb0 k1⟩
  have HZ0 := fun W hW => szRules_any A0 n0 c0 x0 (1048576 : Int) W hW (by omega) (by omega)
  rw [show szR (1048576 : Int) n0 (rtot x0) = (1048576 : Int) - n0 - rtot x0 by unfold szR; rw [if_neg neg0]] at HZ0
  have le0 : n0 ≤ 1048576 := by omega
  have tt0 : rtot x0 ≤ 1048576 := by omega
  obtain ⟨left0, hleft0⟩ : ∃ l : Int, (1048576 : Int) - n0 - rtot x0 = l := ⟨_, rfl⟩
  rw [hleft0] at HZ0 neg0
  have lb0 : left0 ≤ 1048576 := by omega
  clear hleft0
  have e00 : (w.alloc (.cells #[.slice A1 n1 c1, .string r1] 35)).cell? ⟨w.heap.size, 0, none⟩ = some (.slice A1 n1 c1) := by simp
  have e01 : (w.alloc (.cells #[.slice A1 n1 c1, .string r1] 35)).cell? ⟨w.heap.size, 1, none⟩ = some (.string r1) := by simp
  have HZ1 := fun W => szRule_any A1 n1 c1 r1 left0 W (by omega) hr1 (by omega) lb0
  by_cases neg1 : left0 - n1 - r1.size < 0
  · rw [show szR left0 n1 r1.size = -1 by unfold szR; rw [if_pos neg1]] at HZ1
    go_enter Tryd.func4, Tryd.ntmps4
    go_wp2_with fail
    refine (HZ0 _ (h0.below hb0)).mono ?_
    rintro e_ u1 ⟨rfl, g1⟩
    have hc_u1 := bcell g1; have hf_u1 := bfree g1
    have f0 := cell_keep g1 e00
    have f1 := cell_keep g1 e01
    clear hc_u1 hf_u1
    go_wp2_with fail
    refine (HZ1 _).mono ?_
    rintro e_ u2 ⟨rfl, g2⟩
    have hc_u2 := bcell g2; have hf_u2 := bfree g2
    go_wp2
    go_ret
    exact ⟨rfl, next (next hb0 g1) g2⟩
  rw [show szR left0 n1 r1.size = left0 - n1 - r1.size by unfold szR; rw [if_neg neg1]] at HZ1
  have le1 : n1 ≤ 1048576 := by omega
  obtain ⟨left1, hleft1⟩ : ∃ l : Int, left0 - n1 - r1.size = l := ⟨_, rfl⟩
  rw [hleft1] at HZ1 neg1
  clear hleft1
  have cq1 : (arCode x0 x1 r1 != arCode x0 x1 r1) = false := by simp
  have hll := ar_rsum x0 x1 r1
  have HSP := fun a b c m d W h1 h2 => AddRule_spec a b n0 c m n1 d x0 x1 r1 W h1 h2 hr1
  have HIM := fun a c m d W h1 h2 => AddRule_impl a n0 c m n1 d x0 x1 r1 W h1 h2 hr1
  obtain ⟨lst, hlst⟩ : ∃ l, arList x0 x1 r1 = l := ⟨_, rfl⟩
  obtain ⟨code, hcode⟩ : ∃ l, arCode x0 x1 r1 = l := ⟨_, rfl⟩
  rw [hlst] at hll
  rw [hcode] at cq1
  simp only [hlst, hcode] at HSP HIM
  clear hlst hcode
  obtain ⟨ln, hln⟩ : ∃ l, lst.length = l := ⟨_, rfl⟩
  obtain ⟨rs, hrs⟩ : ∃ l, rsum lst = l := ⟨_, rfl⟩
  have HMR := fun base top v W h hk hm => markRules_full base top 1 ln v lst W h hk hm
  have HHR := fun c A W h hk hm => heldRules_any 1 ln c A lst W h hk hm
  rw [hln, hrs] at hll
  simp only [hln] at HSP HIM
  rw [hrs] at HMR HHR
  have hq0 : ¬ (((1 + (ln + rs) : Nat) : Int) < 0) := by omega
  have hq1 : (((1 + (ln + rs) : Nat) : Int) != ((1 + (ln + rs) : Nat) : Int)) = false := by simp
  clear hln hrs
  obtain ⟨rq, hrq⟩ : ∃ q, rsum x0 = q := ⟨_, rfl⟩
  have HMX := fun base top k v w h hk hm => markRules_any base top k n0 v x0 w h hk hm (.inr trivial)
  have hrl0 := rsum_le x0
  rw [hrq] at HMX hrl0
  clear hrq
  go_enter Tryd.func4, Tryd.ntmps4
  have B := hb0
  have E0 := e00
  have E1 := e01
  have W0s : w.heap.size + 1 = (w.alloc (.cells #[.slice A1 n1 c1, .string r1] 35)).heap.size := by simp
  clear e00 e01
  go_wp2_with fail
  refine (HZ0 _ (h0.below B)).mono ?_
  rintro e_ w1 ⟨rfl, hk1⟩
  have zk1 := hk1.size
  replace B := next B hk1
  replace E0 := cell_keep hk1 E0
  replace E1 := cell_keep hk1 E1
  go_wp2_with fail
  refine (HZ1 _).mono ?_
  rintro e_ w2 ⟨rfl, hk2⟩
  have zk2 := hk2.size
  replace B := next B hk2
  replace E0 := cell_keep hk2 E0
  replace E1 := cell_keep hk2 E1
  have dr2 := (Below.refl w2.heap.size w2).drew
  have zd2 := dr2.size
  replace B := next B dr2
  replace E0 := cell_keep dr2 E0
  replace E1 := cell_keep dr2 E1
  go_wp2_with fail
  (go_region_law (first
    | (go_simp; go_at_call 8; refine (toRules_any A0 n0 c0 x0 _ (h0.below B) le0 tt0).mono ?_; rintro e_ w3 ⟨rfl, os0, hk3⟩; have F0 := cell_keep hk3 E0; have F1 := cell_keep hk3 E1; have B_ := next B hk3)
    | (go_simp; go_at_call 17; refine (toRule_any A1 n1 c1 x1 r1 _ (h1.below B_) le1).mono ?_; rintro e_ w4 ⟨rfl, os1, hk4⟩; have ps0 := os0.below hk4)
    | (go_simp; go_at_call 16; refine (HSP _ _ _ _ _ _ (ps0.reads) (own_ints os1)).mono ?_; rintro e_ w5 ⟨vs, rfl, rs, hk5⟩)))
  all_goals
    have zk3 := hk3.size
    have zk4 := hk4.size
    have zk5 := hk5.size
    replace B := next B hk3
    replace E0 := cell_keep hk3 E0
    replace E1 := cell_keep hk3 E1
    replace B := next B hk4
    replace E0 := cell_keep hk4 E0
    replace E1 := cell_keep hk4 E1
    replace B := next B hk5
    replace E0 := cell_keep hk5 E0
    replace E1 := cell_keep hk5 E1
    obtain ⟨As, ccs, rfl⟩ := rs.form
    have rsx := rs.reads
    clear os0 os1 ps0 F0 F1 B_
    clear rs
    have D := Below.refl w5.heap.size w5
    go_wp2_with fail
    refine (toRules_any A0 n0 c0 x0 _ (h0.below B) le0 tt0).mono ?_
    rintro e_ w6 ⟨rfl, ox0, hk6⟩
    have zk6 := hk6.size
    replace B := next B hk6
    replace E0 := cell_keep hk6 E0
    replace E1 := cell_keep hk6 E1
    replace D := next D hk6
    go_wp2_with fail
    refine (toRule_any A1 n1 c1 x1 r1 _ (h1.below B) le1).mono ?_
    rintro e_ w7 ⟨rfl, ox1, hk7⟩
    have zk7 := hk7.size
    replace B := next B hk7
    replace E0 := cell_keep hk7 E0
    replace E1 := cell_keep hk7 E1
    replace D := next D hk7
    replace ox0 := ox0.below hk7
    have zox1 := (ox1.lt _ rfl).2
    have hb1 := one_box w7 (.cells #[.slice (some ⟨w6.heap.size + 3, 0, none⟩) n1 n1, .string r1] 39)
    replace B := next B hb1
    replace E0 := cell_keep hb1 E0
    replace E1 := cell_keep hb1 E1
    replace D := next D hb1
    replace ox0 := ox0.below hb1
    replace ox1 := own_below ox1 hb1
    have p0 : (w7.alloc (.cells #[.slice (some ⟨w6.heap.size + 3, 0, none⟩) n1 n1, .string r1] 39)).cell? ⟨w7.heap.size, 0, none⟩ = some (.slice (some ⟨w6.heap.size + 3, 0, none⟩) n1 n1) := by simp
    have p1 : (w7.alloc (.cells #[.slice (some ⟨w6.heap.size + 3, 0, none⟩) n1 n1, .string r1] 39)).cell? ⟨w7.heap.size, 1, none⟩ = some (.string r1) := by simp
    have zb : w7.heap.size + 1 ≤ (w7.alloc (.cells #[.slice (some ⟨w6.heap.size + 3, 0, none⟩) n1 n1, .string r1] 39)).heap.size := by simp
    go_wp2_with fail
    refine (HIM _ _ _ _ _ (ox0.reads) (own_ints ox1)).mono ?_
    rintro e_ w8 ⟨vg, rfl, rg, hk8⟩
    have zk8 := hk8.size
    replace B := next B hk8
    replace E0 := cell_keep hk8 E0
    replace E1 := cell_keep hk8 E1
    replace D := next D hk8
    replace ox0 := ox0.below hk8
    replace ox1 := own_below ox1 hk8
    replace p0 := cell_keep hk8 p0
    replace p1 := cell_keep hk8 p1
    obtain ⟨Ag, ccg, rfl⟩ := rg.form
    have base_g : w7.heap.size ≤ (w7.alloc (.cells #[.slice (some ⟨w6.heap.size + 3, 0, none⟩) n1 n1, .string r1] 39)).heap.size := by omega
    go_wp2_with fail
    refine (isb (eqRules_any Ag As _ ccg _ ccs lst lst _ (rg.reads) (rsx.below D)) (decide_eq_true rfl)).mono ?_
    rintro e_ w9 ⟨rfl, hk9⟩
    have zk9 := hk9.size
    replace B := next B hk9
    replace E0 := cell_keep hk9 E0
    replace E1 := cell_keep hk9 E1
    replace D := next D hk9
    replace ox0 := ox0.below hk9
    replace ox1 := own_below ox1 hk9
    replace p0 := cell_keep hk9 p0
    replace p1 := cell_keep hk9 p1
    replace rg := rg.below hk9
    go_wp2_with fail
    refine (toRules_any A0 n0 c0 x0 _ (h0.below B) le0 tt0).mono ?_
    rintro e_ w10 ⟨rfl, oy, hk10⟩
    have zk10 := hk10.size
    replace B := next B hk10
    replace E0 := cell_keep hk10 E0
    replace E1 := cell_keep hk10 E1
    replace D := next D hk10
    replace ox0 := ox0.below hk10
    replace ox1 := own_below ox1 hk10
    replace p0 := cell_keep hk10 p0
    replace p1 := cell_keep hk10 p1
    replace rg := rg.below hk10
    have ey := ox0.reads
    have ez := oy.reads
    go_wp2_with fail
    refine (isb (eqRules_any _ _ n0 n0 n0 n0 x0 x0 _ ey ez) (decide_eq_true rfl)).mono ?_
    rintro e_ w11 ⟨rfl, hk11⟩
    have zk11 := hk11.size
    replace B := next B hk11
    replace E0 := cell_keep hk11 E0
    replace E1 := cell_keep hk11 E1
    replace D := next D hk11
    replace ox0 := ox0.below hk11
    replace ox1 := own_below ox1 hk11
    replace p0 := cell_keep hk11 p0
    replace p1 := cell_keep hk11 p1
    replace rg := rg.below hk11
    clear oy ey ez
    have dr11 := (Below.refl w11.heap.size w11).drew
    have zd11 := dr11.size
    replace B := next B dr11
    replace E0 := cell_keep dr11 E0
    replace E1 := cell_keep dr11 E1
    replace D := next D dr11
    replace ox0 := ox0.below dr11
    replace ox1 := own_below ox1 dr11
    replace p0 := cell_keep dr11 p0
    replace p1 := cell_keep dr11 p1
    replace rg := rg.below dr11
    have ei := own_ints ox1
    go_wp2_with fail
    (go_region_law (first
      | (go_simp; go_at_call 17; refine (toRule_any A1 n1 c1 x1 r1 _ (h1.below B) le1).mono ?_; rintro e_ w12 ⟨rfl, oy, hk12⟩; have F0 := cell_keep hk12 p0; have F1 := cell_keep hk12 p1)
      | (go_simp; go_at_call 19; refine (isb (eqRule_any _ _ n1 n1 n1 n1 x1 x1 r1 r1 _ (ei.below hk12) (own_ints oy)) (decide_eq_true rfl)).mono ?_; rintro e_ w13 ⟨rfl, hk13⟩)))
    all_goals
      clear oy F0 F1 ei
      have zk12 := hk12.size
      have zk13 := hk13.size
      replace B := next B hk12
      replace E0 := cell_keep hk12 E0
      replace E1 := cell_keep hk12 E1
      replace D := next D hk12
      replace ox0 := ox0.below hk12
      replace ox1 := own_below ox1 hk12
      replace p0 := cell_keep hk12 p0
      replace p1 := cell_keep hk12 p1
      replace rg := rg.below hk12
      replace B := next B hk13
      replace E0 := cell_keep hk13 E0
      replace E1 := cell_keep hk13 E1
      replace D := next D hk13
      replace ox0 := ox0.below hk13
      replace ox1 := own_below ox1 hk13
      replace p0 := cell_keep hk13 p0
      replace p1 := cell_keep hk13 p1
      replace rg := rg.below hk13
      go_wp2_with fail
      refine (HMX _ _ 1 _ _ ox0 (by omega) (by omega)).mono ?_
      rintro e_ w14 ⟨rfl, hk14⟩
      have zk14 := hk14.size
      clear ox0
      replace B := below_zone B hk14 (by first | omega | (simp; done) | (simp; omega)) (by first | omega | (simp; done) | (simp; omega))
      replace E0 := zone_cell hk14 E0 (by omega)
      replace E1 := zone_cell hk14 E1 (by omega)
      replace D := below_zone D hk14 (by first | omega | (simp; done) | (simp; omega)) (by first | omega | (simp; done) | (simp; omega))
      replace ox1 := own_zone ox1 hk14 (fun k hk => by have e' := Option.some.inj hk; simp only at e'; omega)
      replace p0 := zone_cell hk14 p0 (by omega)
      replace p1 := zone_cell hk14 p1 (by omega)
      replace rg := OwnRules.zone rg hk14 (by omega)
      go_wp2_with fail
      refine (markRule_any _ (1 + (n0 + rq)) n1 _ x1 r1 _ ox1 (by omega) (by omega)).mono ?_
      rintro e_ w15 ⟨rfl, oz, hk15⟩
      have zk15 := hk15.size
      clear ox1 oz
      have hz15 := Zone.of_grown (lo := w6.heap.size + 3) (hi := w6.heap.size + 4) hk15 (by first | omega | (simp; done) | (simp; omega)) (by first | omega | (simp; done) | (simp; omega))
      replace B := below_zone B hz15 (by first | omega | (simp; done) | (simp; omega)) (by first | omega | (simp; done) | (simp; omega))
      replace E0 := zone_cell hz15 E0 (by omega)
      replace E1 := zone_cell hz15 E1 (by omega)
      replace D := below_zone D hz15 (by first | omega | (simp; done) | (simp; omega)) (by first | omega | (simp; done) | (simp; omega))
      replace p0 := zone_cell hz15 p0 (by omega)
      replace p1 := zone_cell hz15 p1 (by omega)
      replace rg := OwnRules.zone rg hz15 (by omega)
      go_wp2_with fail
      refine (isb (eqRules_any Ag As _ ccg _ ccs lst lst _ (rg.reads) (rsx.below D)) (decide_eq_true rfl)).mono ?_
      rintro e_ w16 ⟨rfl, hk16⟩
      have zk16 := hk16.size
      replace B := next B hk16
      replace E0 := cell_keep hk16 E0
      replace E1 := cell_keep hk16 E1
      replace D := next D hk16
      replace p0 := cell_keep hk16 p0
      replace p1 := cell_keep hk16 p1
      replace rg := rg.below hk16
      go_wp2_with fail
      refine (HMR _ _ _ _ rg (by omega) (by omega)).mono ?_
      rintro e_ w17 ⟨rfl, rm, hk17⟩
      have zk17 := hk17.size
      clear rg
      replace B := below_zone B hk17 (by first | omega | (simp; done) | (simp; omega)) (by first | omega | (simp; done) | (simp; omega))
      replace E0 := zone_cell hk17 E0 (by omega)
      replace E1 := zone_cell hk17 E1 (by omega)
      replace D := below_zone D hk17 (by first | omega | (simp; done) | (simp; omega)) (by first | omega | (simp; done) | (simp; omega))
      replace p0 := zone_cell hk17 p0 (by omega)
      replace p1 := zone_cell hk17 p1 (by omega)
      have rh := rm.reads
      clear rm
      go_wp2_with fail
      refine (HHR _ _ _ rh (by omega) (by omega)).mono ?_
      rintro e_ w18 ⟨rfl, hk18⟩
      have zk18 := hk18.size
      replace B := next B hk18
      replace E0 := cell_keep hk18 E0
      replace E1 := cell_keep hk18 E1
      replace D := next D hk18
      replace p0 := cell_keep hk18 p0
      replace p1 := cell_keep hk18 p1
      replace rh := rh.below hk18
      have dr18 := (Below.refl w18.heap.size w18).drew
      have zd18 := dr18.size
      replace B := next B dr18
      replace E0 := cell_keep dr18 E0
      replace E1 := cell_keep dr18 E1
      replace D := next D dr18
      replace p0 := cell_keep dr18 p0
      replace p1 := cell_keep dr18 p1
      replace rh := rh.below dr18
      go_wp2_with fail
      (go_region_law (first
        | (go_simp; go_at_call 8; refine (toRules_any A0 n0 c0 x0 _ (h0.below B) le0 tt0).mono ?_; rintro e_ w19 ⟨rfl, ot0, hk19⟩; have F0 := cell_keep hk19 E0; have F1 := cell_keep hk19 E1; have B_ := next B hk19)
        | (go_simp; go_at_call 17; refine (toRule_any A1 n1 c1 x1 r1 _ (h1.below B_) le1).mono ?_; rintro e_ w20 ⟨rfl, ot1, hk20⟩; have pt0 := ot0.below hk20)
        | (go_simp; go_at_call 18; refine (HIM _ _ _ _ _ (pt0.reads) (own_ints ot1)).mono ?_; rintro e_ w21 ⟨vt, rfl, rt, hk21⟩)))
      all_goals
        have zk19 := hk19.size
        have zk20 := hk20.size
        have zk21 := hk21.size
        replace B := next B hk19
        replace E0 := cell_keep hk19 E0
        replace E1 := cell_keep hk19 E1
        replace D := next D hk19
        replace p0 := cell_keep hk19 p0
        replace p1 := cell_keep hk19 p1
        replace rh := rh.below hk19
        replace B := next B hk20
        replace E0 := cell_keep hk20 E0
        replace E1 := cell_keep hk20 E1
        replace D := next D hk20
        replace p0 := cell_keep hk20 p0
        replace p1 := cell_keep hk20 p1
        replace rh := rh.below hk20
        replace B := next B hk21
        replace E0 := cell_keep hk21 E0
        replace E1 := cell_keep hk21 E1
        replace D := next D hk21
        replace p0 := cell_keep hk21 p0
        replace p1 := cell_keep hk21 p1
        replace rh := rh.below hk21
        obtain ⟨At, cct, rfl⟩ := rt.form
        have rtx := rt.reads
        clear rt ot0 ot1 pt0 F0 F1 B_
        go_wp2_with fail
        refine (isb (eqRules_any At As _ cct _ ccs lst lst _ (rtx) (rsx.below D)) (decide_eq_true rfl)).mono ?_
        rintro e_ w22 ⟨rfl, hk22⟩
        have zk22 := hk22.size
        replace B := next B hk22
        replace E0 := cell_keep hk22 E0
        replace E1 := cell_keep hk22 E1
        replace D := next D hk22
        replace p0 := cell_keep hk22 p0
        replace p1 := cell_keep hk22 p1
        replace rh := rh.below hk22
        replace rtx := rtx.below hk22
        go_wp2_with fail
        refine (HHR _ _ _ rh (by omega) (by omega)).mono ?_
        rintro e_ w23 ⟨rfl, hk23⟩
        have zk23 := hk23.size
        replace B := next B hk23
        replace E0 := cell_keep hk23 E0
        replace E1 := cell_keep hk23 E1
        replace D := next D hk23
        replace p0 := cell_keep hk23 p0
        replace p1 := cell_keep hk23 p1
        replace rh := rh.below hk23
        replace rtx := rtx.below hk23
        go_wp2
        go_ret
        exact ⟨rfl, B⟩
end Go.Proofs.YtjgcbnngjfchhaaDoor.fnExactAddRule
