/- The years of two sets: the program's merging loop, given what slices.SortedFunc answers. -/
import Derived.Test.YtldikfikcnkgcaaSrtP
import Derived.Test.YtldikfikcnkgcaaSpanLaw3
import Derived.Deep.RegionLaw
namespace Go.Proofs.Ytldikfikcnkgcaa
open Go.ChangeShapes Go.WideShapes Go.ChangeAt Go.RowKit
theorem valuesP_any (a : Option Addr) (len cap : Nat) (w : World) :
    Calls Try.prog 56 #[.slice a len cap] w fun e w' => e = .returned (.func (.func 69) #[] #[.pointer (some ⟨w.heap.size, 0, none⟩)]) ∧ w' = w.alloc (.cells #[.slice a len cap] 24) :=
  (callsIn_wide (n := 1)).1 (valuesP_in Fence.wide 1 trivial rfl a len cap w)
theorem mrg_snoc (ys : List Sp) (k : Nat) {s : Sp} (h : ys[k]? = some s) : mrg [] (ys.take (k + 1)) = mStep (mrg [] (ys.take k)) s := by
  unfold mrg
  rw [List.take_add_one, h, List.foldl_append]
  rfl
theorem own_lessP {w : World} {base base' : Nat} {e : TypeId} {size : Nat} {v : Value} {n : Nat} {xs : List Value} (h : w.ownsRow base e size v n xs) (hb : base' ≤ base) : w.ownsRow base' e size v n xs :=
  ⟨h.1, h.2.imp id fun ⟨g, cap, cur, a, b, r⟩ => ⟨g, cap, cur, a, Nat.le_trans hb b, r⟩⟩
set_option maxRecDepth 100000 in
set_option maxHeartbeats 4000000 in
theorem union_any (A : Option Addr) (n c : Nat) (xs : List Sp) (w : World) (hn : xs.length ≤ 24) (hbd : ∀ s ∈ xs, -3000 ≤ s.1 ∧ s.1 ≤ 3000 ∧ -3000 ≤ s.2 ∧ s.2 ≤ 3000)
    (HSF : ∀ Bs W, Bs < W.heap.size → Below w.heap.size w W → W.cell? ⟨Bs, 0, none⟩ = some (.slice A n c) → Calls Try.prog 55 #[.func (.func 69) #[] #[.pointer (some ⟨Bs, 0, none⟩)], .func (.func 57) #[] #[]] W fun e W' => ∃ v ys, e = .returned v ∧ ys.Perm xs ∧ ys.Pairwise (fun a b => a.1 ≤ b.1) ∧ W'.ownsRow W.heap.size 42 2 v ys.length (spanCells ys) ∧ Below W.heap.size W W') :
    Calls Try.prog 39 #[.slice A n c] w fun e w' => ∃ v ys, e = .returned v ∧ ys.Perm xs ∧ ys.Pairwise (fun a b => a.1 ≤ b.1) ∧ w'.ownsRow w.heap.size 42 2 v (mrg [] ys).length (spanCells (mrg [] ys)) ∧ Below w.heap.size w w' := by
  obtain ⟨i0, hi, hz0, hz1, hz2⟩ := info_parts infoSpan
  have hsf := HSF w.heap.size _ (by simp) (boxS w (.cells #[.slice A n c] 24)) (by simp)
  have b0 := boxS w (.cells #[.slice A n c] 24)
  have HBD := Lib.hid hbd
  clear HSF hbd
  go_enter Try.func39, Try.ntmps39
  go_wp2_with fail
  refine (valuesP_any A n c _).mono ?_
  rintro e_ w1 ⟨rfl, rfl⟩
  go_wp2_with fail
  refine hsf.mono ?_
  rintro e_ w2 ⟨v2, ys, rfl, hpm, hpw, o2, k2⟩
  clear hsf
  have hB := next b0 k2
  have hzB := hB.size
  have hyl : ys.length ≤ 24 := by rw [hpm.length_eq]; exact hn
  have HYB := Lib.hid (fun s hs => HBD.out s (hpm.subset hs))
  have HPM := Lib.hid hpm
  have HPW := Lib.hid hpw
  obtain ⟨q, hq⟩ : ∃ q, ys.length = q := ⟨_, rfl⟩
  rw [hq] at o2 hyl
  have HQ := Lib.hid hq
  obtain ⟨A2, c2, rfl⟩ : ∃ A2 c2, v2 = .slice A2 q c2 := by
    rcases o2.2 with ⟨h0, h1⟩ | ⟨g, cap, cur, h0, _⟩
    · exact ⟨none, 0, by rw [h0, ← h1]⟩
    · exact ⟨_, _, h0⟩
  have hy := own_spans o2 hq.symm
  have hcm := hy.2.cap
  have hnc := hy.2.le
  unfold maxLen at hcm
  clear hpm hpw o2 k2 b0 hq
  go_wp2
  go_loopw [4, 13] (fun v i wr => ∃ (k : Nat) (P : List Sp) (v1 : Value), k ≤ q ∧ i = .int .i64 k ∧ v1 = v ∧ Hid (mrg [] (ys.take k) = P) ∧ P.length ≤ k ∧ Hid (∀ x ∈ P, -3000 ≤ x.2 ∧ x.2 ≤ 3000) ∧ Hid (wr.ownsRow w2.heap.size 42 2 v1 P.length (spanCells P)) ∧ Hid (Below w2.heap.size w2 wr)) (fun _ i _ => q - (intOf i).toNat)
  case atStart => exact ⟨0, [], _, Nat.zero_le _, rfl, rfl, rfl, Nat.le_refl _, (fun x h => by cases h), World.ownsRow_nil _ _ _ _, Below.refl _ _⟩
  case round =>
    obtain ⟨k, P, v1, hk, rfl, rfl, hP, hPl, hPB, hO, hBo⟩ := hrel
    have hbo := hBo.out
    have hzo := hbo.size
    have ho := hO.out
    by_cases hlt : k < q
    · obtain ⟨b, off, rfl, hbl, _⟩ := hy.at_ k hlt
      obtain ⟨f, t, hft, c0, c1⟩ := hy.el hbo hbl k hlt
      have hsk : ys[k]? = some (f, t) := by
        have hkl : k < ys.length := by rw [HQ.out]; exact hlt
        have := hft.out
        rw [List.getD_eq_getElem?_getD, List.getElem?_eq_getElem hkl] at this
        rw [List.getElem?_eq_getElem hkl]
        exact congrArg some this
      obtain ⟨d1, d2, d3, d4⟩ := HYB.out (f, t) (List.mem_of_getElem? hsk)
      simp only at d1 d2 d3 d4
      have HM := Lib.hid (mrg_snoc ys k hsk)
      have hbs := boxS wr (.cells #[.int .i64 f, .int .i64 t] 42)
      have s0 : (wr.alloc (.cells #[.int .i64 f, .int .i64 t] 42)).cell? ⟨wr.heap.size, 0, none⟩ = some (.int .i64 f) := by simp
      have s1 : (wr.alloc (.cells #[.int .i64 f, .int .i64 t] 42)).cell? ⟨wr.heap.size, 1, none⟩ = some (.int .i64 t) := by simp
      have hbw : b < wr.heap.size := Nat.lt_of_lt_of_le hbl hzo
      clear hsk
      rcases List.eq_nil_or_concat P with hPn | ⟨Q, l, hPn⟩
      · subst hPn
        obtain ⟨A1, ca1, rfl⟩ : ∃ A1 ca1, v1 = .slice A1 0 ca1 := by
          rcases ho.2 with ⟨h0, _⟩ | ⟨g, cap, cur, h0, _⟩
          · exact ⟨none, 0, h0⟩
          · exact ⟨_, _, h0⟩
        go_wp2_with fail
        refine wp_region_later (by kernel_rfl) (by kernel_rfl) ?_
        repeat (go_big_quiet_step (fail))
        refine wpQuiet_nil ?_
        intro w4 hw2; have h4 := later_below hw2; clear hw2
        have e0 := cell_keep h4 s0
        have e1 := cell_keep h4 s1
        have o4 := own_below (own_below ho hbs) h4
        have hb4 := hbo.trans ((hbs.mono hzo).trans (h4.mono (Nat.le_trans hzo hbs.size)))
        have hz4 : wr.heap.size < w4.heap.size := World.block_lt_of_cell? w4 _ e0
        go_wp2_with (at_builtin; refine wpList_append_own _ rfl _ _ 24 rfl w2.heap.size 42 i0 (.agg #[.int .i64 0, .int .i64 0]) 2 16 Try.underlying24 hi hz0 hz1 hz2 rfl (by decide) _ _ _ rfl (o4.alloc _) ⟨w4.heap.size, 0, none⟩ 1 1 [.int .i64 f, .int .i64 t] rfl rfl ?c1 ?c2 ?c3 ?c4 ?c5 ?_)
        case c1 => exact cell_two_newS _ _ _ _
        case c2 => simp [Value.oneCell']
        case c3 => unfold maxLen; omega
        case c4 => omega
        case c5 => first | omega | (simp; omega)
        intro v5 w5 hown5 hgrow _
        have hb5 := (hb4.alloc hb4.size (.cells #[.int .i64 f, .int .i64 t] 42)).grown hgrow (by have := hb4.size; (first | omega | (simp; omega))) (fun q hq => (o4.lt q hq).1)
        have HO : Hid (w5.ownsRow w2.heap.size 42 2 v5 ([(f, t)]).length (spanCells ([(f, t)]))) := by
          unfold Hid
          simpa [spanCells] using hown5
        have HB5 := Lib.hid hb5
        clear hown5 hgrow hb5 o4 h4 s0 s1 hbs hbo ho c0 c1 e0 e1
        go_wp2
        go_roundw
        case rel => exact ⟨k + 1, _, _, by omega, by go_num, rfl, by unfold Hid; rw [HM.out, hP.out, mStep_nil], by simp, by intro x hx; rw [List.mem_singleton.1 hx]; exact ⟨d3, d4⟩, HO, HB5.out⟩
        case measure => simp [intOf]; omega
      · rw [List.concat_eq_append] at hPn
        subst hPn
        obtain ⟨l1, l2⟩ := l
        have hlb := hPB.out (l1, l2) (by simp)
        simp only at hlb
        have hPQ := Lib.hid (show ∀ x ∈ Q, -3000 ≤ x.2 ∧ x.2 ≤ 3000 from fun x h => hPB.out x (by simp [h]))
        obtain ⟨p, hp⟩ : ∃ p, Q.length = p := ⟨_, rfl⟩
        have HPQL := Lib.hid hp
        have hPl2 : p + 1 ≤ k := by simp at hPl; omega
        rw [show (Q ++ [(l1, l2)]).length = p + 1 by simp [hp]] at ho
        obtain ⟨g, cap, rfl⟩ := own_shapeS ho (by omega)
        have hgl := ho.lt g rfl
        have hg1 := ho.cellAt (p * 2 + 1) (by omega)
        rw [spanCells_append, List.getElem?_append_right (by rw [spanCells_len]; omega), spanCells_len, hp, show p * 2 + 1 - p * 2 = 1 by omega] at hg1
        replace hg1 : wr.cell? ⟨g, p * 2 + 1, none⟩ = some (.int .i64 l2) := hg1
        have f1 := ho.frozenAt (p * 2 + 1)
        have g1 := cell_keep hbs hg1
        have hgw : g < (wr.alloc (.cells #[.int .i64 f, .int .i64 t] 42)).heap.size := by simp; omega
        have m1 : IntKind.i64.wrap (((p + 1 : Nat) : Int) - 1) = (p : Int) := by rw [IntWalk.i64_in _ (by omega)]; omega
        have m2 : ((p + 1 : Nat) : Int) - 1 = (p : Int) := by omega
        have m3 : IntKind.i64.wrap (p : Int) = (p : Int) := IntWalk.i64_in _ (by omega)
        have m4 : (0 : Int) < ((p + 1 : Nat) : Int) := by omega
        have m5 : (0 : Int) < (p : Int) + 1 := by omega
        have m6 : (p : Int) < ((p + 1 : Nat) : Int) := by omega
        have m7 : IntKind.i64.wrap (l2 + 1) = l2 + 1 := IntWalk.i64_in _ (by omega)
        have m8 : p < p + 1 := by omega
        have m10 : (p : Int) < (p : Int) + 1 := by omega
        have m9 : (0 : Int) ≤ (p : Int) := by omega
        clear hp hPB hPl hO
        by_cases hj : f ≤ l2 + 1
        · go_wp2_with fail
          refine wp_region_later (by kernel_rfl) (by kernel_rfl) ?_
          repeat (go_big_quiet_step (fail))
          refine wpQuiet_nil ?_
          intro w4 hw2; have h4 := later_below hw2; clear hw2
          have e0 := cell_keep h4 s0
          have e1 := cell_keep h4 s1
          have e2 := cell_keep h4 g1
          have o4 := own_below (own_below ho hbs) h4
          have f4 := o4.frozenAt (p * 2 + 1)
          have hb4 := hbo.trans ((hbs.mono hzo).trans (h4.mono (Nat.le_trans hzo hbs.size)))
          have s4 := o4.stored (p * 2 + 1) (.int .i64 (max l2 t))
          have hgw4 : g < w4.heap.size := World.block_lt_of_cell? w4 _ e2
          have hww4 : wr.heap.size < w4.heap.size := World.block_lt_of_cell? w4 _ e0
          have HO4 := Lib.hid (own_below s4.1 (Below.refl _ _).drew)
          have HB4 := Lib.hid (show Below w2.heap.size w2 (w4.setCell ⟨g, p * 2 + 1, none⟩ (.int .i64 (max l2 t))).drew from (hb4.setCell hgl.1 _).drew)
          clear s4 o4 ho hbo h4 hb4
          go_wp2_with fail
          go_region_law (fail)
          all_goals
            go_wp2
            go_roundw
            case rel => exact ⟨k + 1, Q ++ [(l1, max l2 t)], _, by omega, by go_num, rfl, by unfold Hid; rw [HM.out, hP.out, mStep_join (show ((f, t) : Sp).1 ≤ ((l1, l2) : Sp).2 + 1 by simp only; omega)], by simp [HPQL.out]; omega, by intro x hx; rcases List.mem_append.1 hx with hx | hx; exact hPQ.out x hx; rw [List.mem_singleton.1 hx]; exact (by simp only; omega), by unfold Hid; rw [show (Q ++ [(l1, max l2 t)]).length = p + 1 by simp [HPQL.out], ← spanCells_setTo, HPQL.out]; exact HO4.out, HB4.out⟩
            case measure => simp [intOf]; omega
        · have hj' : decide (f ≤ l2 + 1) = false := decide_eq_false hj
          go_wp2_with fail
          refine wp_region_later (by kernel_rfl) (by kernel_rfl) ?_
          repeat (go_big_quiet_step (fail))
          refine wpQuiet_nil ?_
          intro w4 hw2; have h4 := later_below hw2; clear hw2
          have e0 := cell_keep h4 s0
          have e1 := cell_keep h4 s1
          have o4 := own_below (own_below ho hbs) h4
          have hb4 := hbo.trans ((hbs.mono hzo).trans (h4.mono (Nat.le_trans hzo hbs.size)))
          have hz4 : wr.heap.size < w4.heap.size := World.block_lt_of_cell? w4 _ e0
          go_wp2_with (at_builtin; refine wpList_append_own _ rfl _ _ 24 rfl w2.heap.size 42 i0 (.agg #[.int .i64 0, .int .i64 0]) 2 16 Try.underlying24 hi hz0 hz1 hz2 rfl (by decide) _ _ _ rfl (o4.alloc _) ⟨w4.heap.size, 0, none⟩ 1 1 [.int .i64 f, .int .i64 t] rfl rfl ?c1 ?c2 ?c3 ?c4 ?c5 ?_)
          case c1 => exact cell_two_newS _ _ _ _
          case c2 => simp [Value.oneCell']
          case c3 => unfold maxLen; omega
          case c4 => omega
          case c5 => first | omega | (simp; omega)
          intro v5 w5 hown5 hgrow _
          have hb5 := (hb4.alloc hb4.size (.cells #[.int .i64 f, .int .i64 t] 42)).grown hgrow (by have := hb4.size; (first | omega | (simp; omega))) (fun q hq => (o4.lt q hq).1)
          have HO : Hid (w5.ownsRow w2.heap.size 42 2 v5 (Q ++ [(l1, l2)] ++ [(f, t)]).length (spanCells (Q ++ [(l1, l2)] ++ [(f, t)]))) := by
            unfold Hid
            rw [show (Q ++ [(l1, l2)] ++ [(f, t)]).length = p + 1 + 1 by simp [HPQL.out], spanCells_append]; exact hown5
          have HB5 := Lib.hid hb5
          clear hown5 hgrow hb5 o4 h4 s0 s1 hbs hbo ho c0 c1 e0 e1
          go_wp2
          go_roundw
          case rel => exact ⟨k + 1, _, _, by omega, by go_num, rfl, by unfold Hid; rw [HM.out, hP.out, mStep_new (show ¬ ((f, t) : Sp).1 ≤ ((l1, l2) : Sp).2 + 1 by simp only; omega)], by simp [HPQL.out]; omega, by intro x hx; rcases List.mem_append.1 hx with hx | hx; exact (by rcases List.mem_append.1 hx with hx | hx; exact hPQ.out x hx; rw [List.mem_singleton.1 hx]; exact hlb); rw [List.mem_singleton.1 hx]; exact ⟨d3, d4⟩, HO, HB5.out⟩
          case measure => simp [intOf]; omega
    · obtain rfl : k = q := by omega
      have hT : ys.take k = ys := List.take_of_length_le (by rw [HQ.out]; exact Nat.le_refl _)
      have HE := Lib.hid (show mrg [] ys = P by rw [← hP.out, hT])
      clear hT
      go_wp2
      go_ret
      exact ⟨_, ys, rfl, HPM.out, HPW.out, by rw [HE.out]; exact own_lessP ho hzB, next hB hbo⟩
end Go.Proofs.Ytldikfikcnkgcaa
