/- UselessRules: the reference's. -/
import Derived.Test.YtjgcbnngjfchhaaDoorUseB
namespace Go.Proofs.YtjgcbnngjfchhaaDoor
open Go.ChangeShapes Go.WideShapes Go.ChangeAt Go.RowKit
theorem addr_add_ (g o j : Nat) : (⟨g, o, none⟩ : Addr).add j = ⟨g, o + j, none⟩ := by simp [Addr.add]
theorem Rules.row {w : World} {b off n c : Nat} {T : List Rl} (h : Rules w (some ⟨b, off, none⟩) n c T) (h0 : 0 < n) : ∃ cs : List Value, cs.length = n * 2 ∧ (∀ j u, cs[j]? = some u → w.cell? ⟨b, off + j, none⟩ = some u) ∧ (∀ u ∈ cs, u.oneCell' = true) ∧
    ∀ i, i < n → ∃ B m d xs r, T[i]? = some (xs, r) ∧ cs[i * 2]? = some (.slice B m d) ∧ cs[i * 2 + 1]? = some (.string r) ∧ Ints w B m d xs ∧ r.size ≤ maxLen := by
  obtain ⟨_, cs, hr, hcs⟩ := h
  obtain ⟨b', off', e, _, hc⟩ := hr.at_ h0
  injection e with e; injection e with e1 e2
  subst e1; subst e2
  refine ⟨cs, hr.len, hc, fun u hu => ?_, hcs⟩
  obtain ⟨j, hj, e⟩ := List.mem_iff_getElem.1 hu
  have hl := hr.len
  obtain ⟨B, m, d, xs, r, _, a2, a3, _⟩ := hcs (j / 2) (by omega)
  have hu' : cs[j]? = some u := by rw [List.getElem?_eq_getElem hj, e]
  rcases Nat.mod_two_eq_zero_or_one j with h | h
  · rw [show j / 2 * 2 = j by omega, hu'] at a2
    injection a2 with a2; subst a2; rfl
  · rw [show j / 2 * 2 + 1 = j by omega, hu'] at a3
    injection a3 with a3; subst a3; rfl
set_option maxRecDepth 100000 in
set_option maxHeartbeats 4000000 in
theorem UselessRules_spec (A : Option Addr) (n c : Nat) (T : List Rl) (w : World) (hx : Rules w A n c T) :
    Calls Tryd.prog 7 #[.slice A n c] w fun e w' => ∃ v, e = .returned (.tuple #[v, .int .i64 (scCode T)]) ∧ w'.ownsRow w.heap.size 2 1 v (urList T).length ((urList T).map (Value.int .i64)) ∧ Below w.heap.size w w' := by
  cases ha : isTab T
  · have HF := ur_no ha
    go_enter Tryd.func7, Tryd.ntmps7
    go_wp2_with fail
    refine (isb (IsTable_spec A n c T _ hx) ha).mono ?_
    rintro e_ w1 ⟨rfl, h1⟩
    have hc_w1 := bcell h1; have hf_w1 := bfree h1
    go_wp2
    go_ret2
    exact ⟨_, by rw [HF.out.2]; rfl, by rw [HF.out.1]; exact World.ownsRow_nil _ _ _ _, h1⟩
  · have HF := ur_ok ha
    have HX := Lib.hid hx.1
    have hn30 : n ≤ 30 := by have := isTab_len ha; have := hx.1; omega
    have HR := Lib.hid (tab_roman ha)
    have HS := Lib.hid (show ∀ (k : Nat) ys q, T[k]? = some (ys, q) → ys.length ≤ 1000000 from fun k ys q h => by have := rl_len ha h; omega)
    have hcm := hx.cap.2
    have hnc := hx.cap.1
    unfold maxLen at hcm
    obtain ⟨i0, hi, hz0, hz1, hz2⟩ := info_parts infoInt
    obtain ⟨i1, hi1, hy0, hy1, hy2⟩ := info_parts infoRule
    go_enter Tryd.func7, Tryd.ntmps7
    go_wp2_with fail
    refine (isb (IsTable_spec A n c T _ hx) ha).mono ?_
    rintro e_ w1 ⟨rfl, h1⟩
    have hc_w1 := bcell h1; have hf_w1 := bfree h1
    clear ha
    replace hx := hx.below h1
    have hz0' := h1.size
    clear hc_w1 hf_w1
    go_wp2
    go_loopw [4, 5] (fun rv i wr => ∃ (k : Nat) (P : List Int), k ≤ n ∧ i = .int .i64 k ∧ Hid (P = uslTo T k) ∧ P.length ≤ k ∧ Hid (wr.ownsRow w1.heap.size 2 1 rv P.length (P.map (Value.int .i64))) ∧ Below w1.heap.size w1 wr) (fun _ i _ => n - (intOf i).toNat)
    case atStart => exact ⟨0, [], Nat.zero_le _, rfl, rfl, Nat.le_refl _, World.ownsRow_lit w1 #[] 0 (Nat.le_refl _) (by unfold maxLen; omega) rfl, one_box _ _⟩
    case round =>
      obtain ⟨k, P, hk, rfl, hP, hPl, hown, hb⟩ := hrel
      have hz3 := hb.size
      by_cases hlt : k < n
      · obtain ⟨b, off, rfl, hbl⟩ := hx.at_ k hlt
        obtain ⟨cs, hcl, hcell, hone, hcs⟩ := (hx.below hb).row (by omega)
        obtain ⟨B', m', d', xs, r, hTk, c0, c1, hz, hrz⟩ := hx.el hb k hlt
        have hm' : m' ≤ 1000000 := by have := HS.out k xs r hTk.out; have := hz.1; omega
        have hcr : ∀ q ∈ cutR T k, q.2.size ≤ 4 := fun q hq => by
          rcases List.mem_append.1 hq with h | h
          · exact HR.out q (List.mem_of_mem_take h)
          · exact HR.out q (List.mem_of_mem_drop h)
        have HML := Lib.hid hz.1
        have hbw : b < wr.heap.size := Nat.lt_of_lt_of_le hbl hb.size
        obtain ⟨j, hj⟩ : ∃ j, k + 1 = j := ⟨_, rfl⟩
        have hcut := fun (w6 : World) (v6 : Value) (hb6 : Below wr.heap.size wr w6) (own6 : w6.ownsRow wr.heap.size 39 2 v6 (n - 1) (cs.take (k * 2) ++ cs.drop ((k + 1) * 2))) => rules_cut (w := wr) (w' := w6) (A := none) (c := 0) (T := T) HX.out hcl hcs hlt hb6 own6
        rw [hj] at hcut
        have ownA : (wr.drew.alloc (.cells #[] 39)).ownsRow wr.heap.size 39 2 (.slice (some ⟨wr.heap.size, 0, none⟩) 0 0) 0 [] := World.ownsRow_lit (base := wr.heap.size) (e := 39) (size := 2) wr.drew #[] 0 (Nat.le_refl _) (by unfold maxLen; omega) rfl
        have hbx := one_box wr.drew (.cells #[] 39)
        have newsA : ∀ j u, (cs.take (k * 2))[j]? = some u → (wr.drew.alloc (.cells #[] 39)).cell? ((⟨b, off, none⟩ : Addr).add j) = some u := fun j u hu => by
          rw [List.getElem?_take] at hu
          split at hu
          · rw [addr_add_]; exact cell_keep hbx (show wr.drew.cell? _ = some u from hcell _ _ hu)
          · cases hu
        have hla : (cs.take (k * 2)).length = k * 2 := by simp; omega
        have hlb : (cs.drop (j * 2)).length = (n - j) * 2 := by simp; omega
        have oneA : ∀ u ∈ cs.take (k * 2), u.oneCell' = true := fun u hu => hone u (List.mem_of_mem_take hu)
        have oneB : ∀ u ∈ cs.drop (j * 2), u.oneCell' = true := fun u hu => hone u (List.mem_of_mem_drop hu)
        have hgne : wr.heap.size ≠ b := by omega
        obtain ⟨AB, hAB, hsrcB⟩ : ∃ AB : Addr, (if c = j then (some ⟨b, off, none⟩ : Option Addr) else some ⟨b, off + j * 2, none⟩) = some AB ∧ ∀ W : World, W.heap[b]? = wr.heap[b]? → ∀ q u, (cs.drop (j * 2))[q]? = some u → W.cell? (AB.add q) = some u := by
          by_cases h : c = j
          · refine ⟨⟨b, off, none⟩, by simp [h], fun W _ q u hu => ?_⟩
            have := (List.getElem?_eq_some_iff.1 hu).1
            simp at this
            omega
          · refine ⟨⟨b, off + j * 2, none⟩, by simp [h], fun W hW q u hu => ?_⟩
            rw [List.getElem?_drop] at hu
            have := hcell _ _ hu
            rw [addr_add_, Nat.add_assoc]
            exact (World.cell?_of_block hW).trans this
        have w1e : IntKind.i64.wrap ((k : Int) + 1) = (j : Int) := by rw [IntWalk.i64_in _ (by omega)]; omega
        have w4e : (j : Int) ≤ (n : Int) := by omega
        have w5e : (k : Int) ≤ (c : Int) := by omega
        have w6e : (n : Int) ≤ (c : Int) := by omega
        have w7e : k < j := by omega
        have w8e : j ≤ n := by omega
        have wke : (k : Int) ≤ (j : Int) := by omega
        have wle : 0 + k + (n - j) = n - 1 := by omega
        have HLE := Lib.hid wle
        clear wle
        have hwb : (wr.drew.alloc (.cells #[] 39)).heap[b]? = wr.heap[b]? := hbx.block b hbw
        have hcon : ∀ (w5 : World), (wr.drew.alloc (.cells #[] 39)).grownBy w5 (some wr.heap.size) → ∀ q u, (cs.drop (j * 2))[q]? = some u → w5.cell? (AB.add q) = some u := fun w5 hg => hsrcB w5 ((hg.block b (by simp; omega) (fun e => hgne (Option.some.inj e.symm))).trans hwb)
        have HJ := Lib.hid hj
        have hcases : c = j ∨ ¬ c = j := Decidable.em _
        clear hj hcell hcs hsrcB hwb
        rcases hcases with hcj | hcj
        · rw [if_pos hcj] at hAB
          have hAB := (Option.some.inj hAB).symm
          subst hAB
          obtain rfl : n = c := by omega
          subst hcj
          go_wp2_with fail
          (go_region_law (first
            | (refine step_own_in rfl _ _ 27 rfl wr.heap.size 39 i1 (.agg #[.slice none 0 0, .string ⟨#[]⟩]) 2 40 Tryd.underlying27 hi1 hy0 hy1 hy2 rfl (by decide) _ _ _ rfl ownA _ _ _ (cs.take (k * 2)) rfl (by simp; omega) newsA oneA (by unfold maxLen; omega) (by omega) (by simp) ?_; intro v5 w5 own5 grow5 lie5; have newsB := hcon w5 grow5)
            | (refine step_own_in rfl _ _ 27 rfl wr.heap.size 39 i1 (.agg #[.slice none 0 0, .string ⟨#[]⟩]) 2 40 Tryd.underlying27 hi1 hy0 hy1 hy2 rfl (by decide) _ _ _ rfl own5 _ _ _ _ rfl (by simp; omega) newsB oneB (by unfold maxLen; omega) (by omega) (by have := grow5.size; simp at this; omega) ?_; intro v6 w6 own6 grow6 lie6)))
          have hb0 : Below wr.heap.size wr (wr.drew.alloc (.cells #[] 39)) := (Below.refl _ _).drew.alloc (Nat.le_refl _) _
          have hb5 := below_own hb0 grow5 (Nat.le_refl _) (fun q hq => by have e : wr.heap.size = q := Option.some.inj hq; omega)
          have hb6 := below_own hb5 grow6 (Nat.le_refl _) (fun q hq => (own5.lt q hq).1)
          have own7 : w6.ownsRow wr.heap.size 39 2 v6 (n - 1) (cs.take (k * 2) ++ cs.drop (n * 2)) := by rw [← HLE.out]; simpa using own6
          obtain ⟨A', c', rfl, hR⟩ := hcut w6 v6 hb6 own7
          have z0 := cell_keep hb6 c0
          have z1 := cell_keep hb6 c1
          have hro := l04Roman_any A' _ (n - 1) c' m' d' (cutR T k) xs w6 hR (hz.below hb6) hm' hcr
          have HB6 := Lib.hid (next' hb hb6 hz3)
          have HO6 := Lib.hid (own_below hown.out hb6)
          obtain ⟨ro, hro_⟩ : ∃ ro, roman (cutR T k) (usedList (cutR T k) xs) = ro := ⟨_, rfl⟩
          obtain ⟨ok, hok_⟩ : ∃ ok, usedOk (cutR T k) xs = ok := ⟨_, rfl⟩
          have HU : Hid (useless T k xs r = (decide (1 < m') && ok && decide (ro = r))) := by unfold Hid useless; rw [hok_, hro_, HML.out]
          rw [hro_, hok_] at hro
          have hbw6 : b < w6.heap.size := Nat.lt_of_lt_of_le hbw hb6.size
          clear hro_ hok_ own5 own6 own7 grow5 grow6 lie5 lie6 newsB hb0 hb5 hR hcut ownA hbx newsA hla hlb oneA oneB hcon hcr c0 c1 hz hown hb6 w1e w4e hgne
          go_wp2_with fail
          refine hro.mono ?_
          rintro e_ w7 ⟨rfl, h7⟩
          have y0 := cell_keep h7 z0
          have y1 := cell_keep h7 z1
          have hbw7 : b < w7.heap.size := Nat.lt_of_lt_of_le hbw6 h7.size
          have HB7 := Lib.hid (next' HB6.out h7 HB6.out.size)
          have HO7 := Lib.hid (own_below HO6.out h7)
          clear hro z0 z1 HB6 HO6 h7
          by_cases h1x : (1 : Int) < (m' : Int)
          · cases ok with
            | false =>
              have HC := Lib.hid (usl_no (T := T) (k := k) (by rw [uAt_is hTk.out, HU.out]; simp))
              clear HU
              go_wp2
              go_roundw
              case rel => exact ⟨k + 1, P, by omega, by go_num, by rw [HC.out, ← hP.out]; rfl, by omega, HO7.out, HB7.out⟩
              case measure => simp [intOf]; omega
            | true =>
              by_cases he : ro = r
              · have hte : (ro.toList == r.toList) = true := by rw [he]; simp
                have HC := Lib.hid (usl_yes (T := T) (k := k) (by rw [uAt_is hTk.out, HU.out]; rw [decide_eq_true (show 1 < m' by omega), decide_eq_true he]; rfl))
                clear HU he
                have hown2 := HO7.out
                have hb2 := HB7.out
                have hz4 := hb2.size
                go_wp2_with (at_builtin; refine wpList_append_own _ rfl _ _ 24 rfl w1.heap.size 2 i0 (.int .i64 0) 1 8 Tryd.underlying24 hi hz0 hz1 hz2 rfl (by decide) _ _ _ rfl (hown2.alloc _) ⟨w7.heap.size, 0, none⟩ 1 1 [.int .i64 k] rfl rfl ?c1 ?c2 ?c3 ?c4 ?c5 ?_)
                case c1 => exact cell_one_new _ _ _
                case c2 => simp [Value.oneCell']
                case c3 => unfold maxLen; omega
                case c4 => omega
                case c5 => (try simp); (try omega)
                intro v4 w4 hown4 hgrow hrest
                have HO : Hid (w4.ownsRow w1.heap.size 2 1 v4 (P ++ [(k : Int)]).length ((P ++ [(k : Int)]).map (Value.int .i64))) := by rw [List.length_append, List.map_append]; exact hown4
                have HB : Hid (Below w1.heap.size w1 w4) := (hb2.alloc hz4 _).grown hgrow (by simp; omega) (fun z hz => (hown2.lt z hz).1)
                clear hown4 hgrow hown2 hrest
                go_wp2
                go_roundw
                case rel => exact ⟨k + 1, P ++ [(k : Int)], by omega, by go_num, by rw [HC.out, ← hP.out]; rfl, by rw [List.length_append]; simp; omega, HO, HB.out⟩
                case measure => simp [intOf]; omega
              · have hte := text_ne he
                have HC := Lib.hid (usl_no (T := T) (k := k) (by rw [uAt_is hTk.out, HU.out]; rw [decide_eq_false he]; simp))
                clear HU he
                go_wp2
                go_roundw
                case rel => exact ⟨k + 1, P, by omega, by go_num, by rw [HC.out, ← hP.out]; rfl, by omega, HO7.out, HB7.out⟩
                case measure => simp [intOf]; omega
          · have hd1 : decide ((1 : Int) < (m' : Int)) = false := decide_eq_false h1x
            have HC := Lib.hid (usl_no (T := T) (k := k) (by rw [uAt_is hTk.out, HU.out]; rw [decide_eq_false (show ¬ 1 < m' by omega)]; simp))
            clear HU
            go_wp2
            go_roundw
            case rel => exact ⟨k + 1, P, by omega, by go_num, by rw [HC.out, ← hP.out]; rfl, by omega, HO7.out, HB7.out⟩
            case measure => simp [intOf]; omega
        · rw [if_neg hcj] at hAB
          have hAB := (Option.some.inj hAB).symm
          subst hAB
          go_wp2_with fail
          (go_region_law (first
            | (refine step_own_in rfl _ _ 27 rfl wr.heap.size 39 i1 (.agg #[.slice none 0 0, .string ⟨#[]⟩]) 2 40 Tryd.underlying27 hi1 hy0 hy1 hy2 rfl (by decide) _ _ _ rfl ownA _ _ _ (cs.take (k * 2)) rfl (by simp; omega) newsA oneA (by unfold maxLen; omega) (by omega) (by simp) ?_; intro v5 w5 own5 grow5 lie5; have newsB := hcon w5 grow5)
            | (refine step_own_in rfl _ _ 27 rfl wr.heap.size 39 i1 (.agg #[.slice none 0 0, .string ⟨#[]⟩]) 2 40 Tryd.underlying27 hi1 hy0 hy1 hy2 rfl (by decide) _ _ _ rfl own5 _ _ _ _ rfl (by simp; omega) newsB oneB (by unfold maxLen; omega) (by omega) (by have := grow5.size; simp at this; omega) ?_; intro v6 w6 own6 grow6 lie6)))
          have hb0 : Below wr.heap.size wr (wr.drew.alloc (.cells #[] 39)) := (Below.refl _ _).drew.alloc (Nat.le_refl _) _
          have hb5 := below_own hb0 grow5 (Nat.le_refl _) (fun q hq => by have e : wr.heap.size = q := Option.some.inj hq; omega)
          have hb6 := below_own hb5 grow6 (Nat.le_refl _) (fun q hq => (own5.lt q hq).1)
          have own7 : w6.ownsRow wr.heap.size 39 2 v6 (n - 1) (cs.take (k * 2) ++ cs.drop (j * 2)) := by rw [← HLE.out]; simpa using own6
          obtain ⟨A', c', rfl, hR⟩ := hcut w6 v6 hb6 own7
          have z0 := cell_keep hb6 c0
          have z1 := cell_keep hb6 c1
          have hro := l04Roman_any A' _ (n - 1) c' m' d' (cutR T k) xs w6 hR (hz.below hb6) hm' hcr
          have HB6 := Lib.hid (next' hb hb6 hz3)
          have HO6 := Lib.hid (own_below hown.out hb6)
          obtain ⟨ro, hro_⟩ : ∃ ro, roman (cutR T k) (usedList (cutR T k) xs) = ro := ⟨_, rfl⟩
          obtain ⟨ok, hok_⟩ : ∃ ok, usedOk (cutR T k) xs = ok := ⟨_, rfl⟩
          have HU : Hid (useless T k xs r = (decide (1 < m') && ok && decide (ro = r))) := by unfold Hid useless; rw [hok_, hro_, HML.out]
          rw [hro_, hok_] at hro
          have hbw6 : b < w6.heap.size := Nat.lt_of_lt_of_le hbw hb6.size
          clear hro_ hok_ own5 own6 own7 grow5 grow6 lie5 lie6 newsB hb0 hb5 hR hcut ownA hbx newsA hla hlb oneA oneB hcon hcr c0 c1 hz hown hb6 w1e w4e hgne
          go_wp2_with fail
          refine hro.mono ?_
          rintro e_ w7 ⟨rfl, h7⟩
          have y0 := cell_keep h7 z0
          have y1 := cell_keep h7 z1
          have hbw7 : b < w7.heap.size := Nat.lt_of_lt_of_le hbw6 h7.size
          have HB7 := Lib.hid (next' HB6.out h7 HB6.out.size)
          have HO7 := Lib.hid (own_below HO6.out h7)
          clear hro z0 z1 HB6 HO6 h7
          by_cases h1x : (1 : Int) < (m' : Int)
          · cases ok with
            | false =>
              have HC := Lib.hid (usl_no (T := T) (k := k) (by rw [uAt_is hTk.out, HU.out]; simp))
              clear HU
              go_wp2
              go_roundw
              case rel => exact ⟨k + 1, P, by omega, by go_num, by rw [HC.out, ← hP.out]; rfl, by omega, HO7.out, HB7.out⟩
              case measure => simp [intOf]; omega
            | true =>
              by_cases he : ro = r
              · have hte : (ro.toList == r.toList) = true := by rw [he]; simp
                have HC := Lib.hid (usl_yes (T := T) (k := k) (by rw [uAt_is hTk.out, HU.out]; rw [decide_eq_true (show 1 < m' by omega), decide_eq_true he]; rfl))
                clear HU he
                have hown2 := HO7.out
                have hb2 := HB7.out
                have hz4 := hb2.size
                go_wp2_with (at_builtin; refine wpList_append_own _ rfl _ _ 24 rfl w1.heap.size 2 i0 (.int .i64 0) 1 8 Tryd.underlying24 hi hz0 hz1 hz2 rfl (by decide) _ _ _ rfl (hown2.alloc _) ⟨w7.heap.size, 0, none⟩ 1 1 [.int .i64 k] rfl rfl ?c1 ?c2 ?c3 ?c4 ?c5 ?_)
                case c1 => exact cell_one_new _ _ _
                case c2 => simp [Value.oneCell']
                case c3 => unfold maxLen; omega
                case c4 => omega
                case c5 => (try simp); (try omega)
                intro v4 w4 hown4 hgrow hrest
                have HO : Hid (w4.ownsRow w1.heap.size 2 1 v4 (P ++ [(k : Int)]).length ((P ++ [(k : Int)]).map (Value.int .i64))) := by rw [List.length_append, List.map_append]; exact hown4
                have HB : Hid (Below w1.heap.size w1 w4) := (hb2.alloc hz4 _).grown hgrow (by simp; omega) (fun z hz => (hown2.lt z hz).1)
                clear hown4 hgrow hown2 hrest
                go_wp2
                go_roundw
                case rel => exact ⟨k + 1, P ++ [(k : Int)], by omega, by go_num, by rw [HC.out, ← hP.out]; rfl, by rw [List.length_append]; simp; omega, HO, HB.out⟩
                case measure => simp [intOf]; omega
              · have hte := text_ne he
                have HC := Lib.hid (usl_no (T := T) (k := k) (by rw [uAt_is hTk.out, HU.out]; rw [decide_eq_false he]; simp))
                clear HU he
                go_wp2
                go_roundw
                case rel => exact ⟨k + 1, P, by omega, by go_num, by rw [HC.out, ← hP.out]; rfl, by omega, HO7.out, HB7.out⟩
                case measure => simp [intOf]; omega
          · have hd1 : decide ((1 : Int) < (m' : Int)) = false := decide_eq_false h1x
            have HC := Lib.hid (usl_no (T := T) (k := k) (by rw [uAt_is hTk.out, HU.out]; rw [decide_eq_false (show ¬ 1 < m' by omega)]; simp))
            clear HU
            go_wp2
            go_roundw
            case rel => exact ⟨k + 1, P, by omega, by go_num, by rw [HC.out, ← hP.out]; rfl, by omega, HO7.out, HB7.out⟩
            case measure => simp [intOf]; omega
      · obtain rfl : k = n := by omega
        have HE := Lib.hid (show urList T = P by rw [HF.out.1, hP.out, ← HX.out])
        have HO := Lib.hid (own_mono_ hown.out hz0')
        clear hP hown
        go_wp2
        go_ret2
        exact ⟨_, by rw [HF.out.2]; rfl, by rw [HE.out]; exact HO.out, next h1 hb⟩
end Go.Proofs.YtjgcbnngjfchhaaDoor
