/- SortPhrases of the reference, where the program's is not reached. -/
import Derived.Test.YtpnbbhomkneflaaGreatDoorSortK
import Derived.Test.YtpnbbhomkneflaaGreatDoorInsLaw
import Derived.Maps.AppendAt
import Derived.RangeFuncBox
import Derived.Deep.RegionLaw
namespace Go.Proofs.YtpnbbhomkneflaaGreatDoor
open Go.ChangeShapes Go.WideShapes Go.ChangeAt Go.RowKit
theorem own_low {w : World} {base base' : Nat} {e : TypeId} {size : Nat} {v : Value} {n : Nat} {xs : List Value} (h : w.ownsRow base e size v n xs) (hb : base' ≤ base) : w.ownsRow base' e size v n xs :=
  ⟨h.1, h.2.imp id fun ⟨g, cap, cur, a, b, r⟩ => ⟨g, cap, cur, a, Nat.le_trans hb b, r⟩⟩
/-- what SortPhrases answers -/
def spVal (xs : List ByteArray) (ig : List Int) (ps : List ByteArray) : List ByteArray := if l6Code xs ig ps = 0 then srt xs ig ps ps.length else []
section
variable {P : Program} {w : World}
/-- an append onto a row of the call's own, where a region draws its order; with the block it lies in -/
theorem step_ownS_in {ops : Array Oper} {o : Oper} {a : Act} {K : Act → World → Prop} {Q : Exit → Act → World → Prop} {E : Prop} (hgd : o.guard = none) (s x : Operand) (t : TypeId)
    (ho : o.op = .call { callee := .builtin .append, args := #[s, x], argTypes := #[t, t] })
    (base : Nat) (e : TypeId) (i : TypeInfo) (z : Value) (size bytes : Nat) (ht : P.underlying t = some (.slice e)) (hi : P.info? e = some i) (hz : i.zero = some z)
    (hsize : i.size = size) (hby : i.bytes = bytes) (hzs : z.cells.size = size) (hsz : 0 < size)
    (v : Value) (n : Nat) (xs : List Value) (hs : a.eval s = v) (hown : w.ownsRow base e size v n xs)
    (ad : Addr) (m c : Nat) (news : List Value) (hx : a.eval x = .slice (some ad) m c) (hl : news.length = m * size) (hnews : ∀ j u, news[j]? = some u → w.cell? (ad.add j) = some u) (h1 : ∀ u ∈ news, u.oneCell' = true)
    (h63 : n + m ≤ maxLen) (hbytes : (n + m) * bytes ≤ 140737488355328) (hbase : base ≤ w.heap.size)
    (h : ∀ v' w', w'.ownsRow base e size v' (n + m) (xs ++ news) → w.grownBy w' v.ownBlock → (v'.ownBlock = v.ownBlock ∨ v'.ownBlock = some w.heap.size) → K (a.put o.dst v') w') :
    if Region.wanted o (yielded ops a.tmps) = true then Oper.wp P o a w K Q else E := by
  have hw : Region.wanted o (yielded ops a.tmps) = true := by unfold Region.wanted; rw [hgd]
  rw [if_pos hw]
  obtain ⟨v', w', hr, h2, h3, _, h5⟩ := run_append_own_at (P := P) w base t o.type e i z size bytes ht hi hz hsize hby hzs hsz v n xs hown ad m c news hl hnews h1 h63 hbytes hbase
  unfold Oper.wp execOp
  simp only [ho, resolve, invoke, builtin, Sem.run_bind, Sem.run_pure, Result.andThen_ok, List.map_toArray, List.map_cons, List.map_nil, hs, hx, hr]
  exact h v' w' h2 h3 h5
end
theorem cell_newS (w : World) (a : Value) (e : TypeId) : ∀ j u, [a][j]? = some u → (w.alloc (.cells #[a] e)).cell? ((⟨w.heap.size, 0, none⟩ : Addr).add j) = some u := fun j u hu => by
  match j, hu with
  | 0, hu => injection hu with hu; subst hu; simp [Addr.add]
theorem addr_addS (b off j : Nat) : (⟨b, off, none⟩ : Addr).add j = ⟨b, off + j, none⟩ := by simp [Addr.add]
theorem boxS (w : World) (o : Obj) : Below w.heap.size w (w.alloc o) := (Below.refl _ w).alloc (Nat.le_refl _) o
set_option maxRecDepth 100000 in
set_option maxHeartbeats 4000000 in
theorem SortPhrases_spec (A B : Option Addr) (n c m d b off q f : Nat) (xs : List ByteArray) (ig : List Int) (ps : List ByteArray) (w : World) (hx : Strs w A n c xs) (hy : Ints w B m d ig) (hp : Strs w (some ⟨b, off, none⟩) q f ps) (hs : ∀ s ∈ ps, s.size ≤ 1048576) (hbw : b < w.heap.size) :
    Calls Tryz.prog 30 #[.slice A n c, .slice (some ⟨b, off, none⟩) q f, .slice B m d] w fun e w' => ∃ v, e = .returned (.tuple #[v, .int .i64 (l6Code xs ig ps)]) ∧ w'.ownsRow w.heap.size 9 1 v (spVal xs ig ps).length ((spVal xs ig ps).map Value.string) ∧ (l6Code xs ig ps = 0 → ∃ g c, v = .slice (some ⟨g, 0, none⟩) (spVal xs ig ps).length c) ∧ Below w.heap.size w w' := by
  obtain ⟨k, hk⟩ : ∃ k, l6Code xs ig ps = k := ⟨_, rfl⟩
  have h1 := isn_ (l06Code_any A B (some ⟨b, off, none⟩) n c m d q f xs ig ps w hx hy hp hs) hk
  have HK := Lib.hid hk
  obtain ⟨i0, hi, hz0, hz1, hz2⟩ := info_parts infoStr
  by_cases h0 : k = 0
  · subst h0
    obtain ⟨ha, hph, hsp, hq⟩ := l6_zero hk
    have HF := Lib.hid (show spVal xs ig ps = srt xs ig ps ps.length by unfold spVal; rw [if_pos hk])
    have HL := Lib.hid hp.1
    have hqn : q ≤ 20 := by rw [hp.1]; exact hq
    have HS := Lib.hid hs
    have HPH := Lib.hid (List.all_eq_true.1 hph)
    have HC := Lib.hid (fun s t (W : World) h1 h2 e3 e4 e5 e6 => l06Compare_any A B n c m d xs ig s t W h1 h2 ha e3 e4 e5 e6)
    clear hk ha hph hsp hs hq
    go_enter Tryz.func30, Tryz.ntmps30
    go_wp2_with fail
    refine h1.mono ?_
    rintro e_ w1 ⟨rfl, k1⟩
    clear h1
    replace hx := hx.below k1
    replace hy := hy.below k1
    replace hp := hp.below k1
    have hz1' := k1.size
    replace hbw : b < w1.heap.size := by omega
    go_wp2
    go_loopw [9, 10] (fun rv i wr => ∃ (k g cap : Nat), k ≤ q ∧ i = .int .i64 k ∧ rv = .slice (some ⟨g, 0, none⟩) k cap ∧ Hid (wr.ownsRow w1.heap.size 9 1 (.slice (some ⟨g, 0, none⟩) k cap) k ((srt xs ig ps k).map Value.string)) ∧ Hid (Below w1.heap.size w1 wr)) (fun _ i _ => q - (intOf i).toNat)
    case atStart => exact ⟨0, w1.heap.size, 0, Nat.zero_le _, rfl, rfl, World.ownsRow_lit w1 #[] 0 (Nat.le_refl _) (by unfold maxLen; omega) rfl, boxS _ _⟩
    case round =>
      obtain ⟨k, g, cap, hk, rfl, rfl, hO, hB⟩ := hrel
      rename World => wo
      by_cases hlt : k < q
      · obtain ⟨x, hx1⟩ : ∃ x, ps[k]? = some x := ⟨_, List.getElem?_eq_getElem (by rw [← HL.out]; exact hlt)⟩
        have hsl := srt_len xs ig ps k
        have hSm := srt_mem (xs := xs) (ig := ig) (ps := ps) (k := k) (by rw [← HL.out]; exact hk)
        have HN := Lib.hid (srt_succ (xs := xs) (ig := ig) hx1)
        have hO2 := hO.out
        generalize srt xs ig ps k = S at *
        have HSL := Lib.hid hsl
        have HSM := Lib.hid hSm
        have HX1 := Lib.hid (List.mem_of_getElem? hx1)
        have HXA := Lib.hid hx1
        have HO2 := Lib.hid hO2
        have HBB := Lib.hid hB.out
        clear hsl hSm hx1 hO2 hO hB
        go_wp2
        go_loopw [11] (fun jv wr => ∃ j : Nat, j ≤ k ∧ jv = .int .i64 j ∧ Hid (posR (lssB xs ig x) S k = posR (lssB xs ig x) S j) ∧ Hid (wr.ownsRow w1.heap.size 9 1 (.slice (some ⟨g, 0, none⟩) k cap) k (S.map Value.string)) ∧ Hid (Below w1.heap.size w1 wr)) (fun jv _ => (intOf jv).toNat)
        case atStart => exact ⟨k, Nat.le_refl _, rfl, rfl, HO2.out, HBB.out⟩
        case round =>
          clear HO2 HBB
          obtain ⟨j, hj, rfl, hP, hO, hB⟩ := hrel
          have ho := hO.out
          have hbo := hB.out
          have hzo := hbo.size
          have xw := hx.below hbo
          have yw := hy.below hbo
          obtain ⟨x', hx', c0, hxz⟩ := hp.el (wr := wr) hbo hbw k hlt
          obtain rfl : x' = x := by have := hx'.out.symm.trans HXA.out; injection this
--BEGIN
          have hcap : k ≤ cap ∧ cap ≤ maxLen := by
            rcases ho.2 with ⟨h', _⟩ | ⟨g', cap', cur, h', _, _, hnc, hcm, _⟩
            · simp at h'
            · simp only [Value.slice.injEq, Option.some.injEq, Addr.mk.injEq, and_true, true_and] at h'
              obtain ⟨rfl, rfl⟩ := h'
              exact ⟨hnc, hcm⟩
          have hkc := hcap.1
          have hkm := hcap.2
          unfold maxLen at hkm
          clear hcap
          have hbw3 : b < wr.heap.size := Nat.lt_of_lt_of_le hbw hzo
          have hgw : g < wr.heap.size := (ho.lt g rfl).2
          have b1 : (0 : Int) ≤ (k : Int) := by omega
          have b2 : (k : Int) < (q : Int) := by omega
          by_cases hj0 : 0 < j
          · obtain ⟨i, hij⟩ : ∃ i, j = i + 1 := ⟨j - 1, by omega⟩
            obtain ⟨y, hy1⟩ : ∃ y, S[i]? = some y := ⟨_, List.getElem?_eq_getElem (by rw [HSL.out]; omega)⟩
            have c1 := ho.cellAt i (by omega)
            rw [List.getElem?_map, hy1] at c1
            replace c1 : wr.cell? ⟨g, i, none⟩ = some (.string y) := c1
            have hmx := HX1.out
            have hmy := HSM.out y (List.mem_of_getElem? hy1)
            have HCC := Lib.hid (fun W h1 h2 => HC.out x' y W h1 h2 (HS.out x' hmx) (HS.out y hmy) (HPH.out x' hmx) (HPH.out y hmy))
            have HLS := Lib.hid (show lssB xs ig x' (S.getD i ⟨#[]⟩) = decide (cmpP xs ig x' y < 0) by unfold lssB; rw [List.getD_eq_getElem?_getD, hy1]; rfl)
            obtain ⟨r, hr⟩ : ∃ r, cmpP xs ig x' y = r := ⟨_, rfl⟩
            simp only [hr] at HCC
            rw [hr] at HLS
            have e1 : IntKind.i64.wrap ((j : Int) - 1) = (i : Int) := by rw [IntWalk.i64_in _ (by omega)]; omega
            have e2 : (j : Int) - 1 = (i : Int) := by omega
            have e3 : IntKind.i64.wrap (i : Int) = (i : Int) := IntWalk.i64_in _ (by omega)
            have j1 : (0 : Int) < (j : Int) := by omega
            have j2 : (0 : Int) ≤ (i : Int) := by omega
            have j3 : (i : Int) < (k : Int) := by omega
            have j5 : i < k := by omega
            have HIJ := Lib.hid hij
            clear hr hy1 hmx hmy hij
            by_cases h0 : r < 0
            · have HP := Lib.hid (show posR (lssB xs ig x') S k = posR (lssB xs ig x') S i by rw [hP.out, HIJ.out]; exact posR_go (by rw [HLS.out]; exact decide_eq_true h0))
              clear hP hO hB
              go_wp2_with fail
              refine wp_region_later (by kernel_rfl) (by kernel_rfl) ?_
              repeat (go_big_quiet_step ((go_at_call 22; exact Calls.later (HCC.out _ (xw.below (after_below _)) (yw.below (after_below _))))))
              refine wpQuiet_nil ?_
              intro w2 hw2; have h2 := later_below hw2; clear hw2
              have HO3 := Lib.hid (own_below ho h2)
              have HB3 := Lib.hid (hbo.trans (h2.mono hzo))
              clear ho hbo h2 c0 c1
              go_wp2
              go_roundw
              case rel => exact ⟨i, by omega, by first | rfl | (congr 1; omega) | go_num, HP.out, HO3.out, HB3.out⟩
              case measure => first | (simp [intOf]; done) | (simp [intOf]; omega)
            · have HD := Lib.hid (show insR xs ig x' S = S.take j ++ [x'] ++ S.drop j by unfold insR; rw [HSL.out, hP.out, HIJ.out, posR_stay (by rw [HLS.out]; exact decide_eq_false h0)])
              clear hP hO hB
              go_wp2_with fail
              refine wp_region_later (by kernel_rfl) (by kernel_rfl) ?_
              repeat (go_big_quiet_step ((go_at_call 22; exact Calls.later (HCC.out _ (xw.below (after_below _)) (yw.below (after_below _))))))
              refine wpQuiet_nil ?_
              intro w2 hw2; have h2 := later_below hw2; clear hw2
              have c2 := cell_keep h2 c0
              have o2 := own_below ho h2
              have hbb2 := Lib.hid (hbo.trans (h2.mono hzo))
              clear ho hbo h2 c0 c1 HCC HLS e1 e2 e3 j1 j2 j3 j5 xw yw hzo
              have hgl := o2.lt g rfl
              have hz2' := hbb2.out.size
              have hbw2 : b < w2.heap.size := Nat.lt_of_lt_of_le hbw hz2'
              have hcells : ∀ a u, (S.map Value.string)[a]? = some u → w2.cell? ⟨g, a, none⟩ = some u := fun a u hu => by
                have hak := (List.getElem?_eq_some_iff.1 hu).1
                rw [List.length_map, HSL.out] at hak
                have := o2.cellAt a (by omega)
                rw [hu] at this
                exact this
              have hgw2 := hgl.2
              have hb0 : Below w2.heap.size w2 ((w2.alloc (.cells #[] 9)).drew) := (boxS w2 _).drew
              have hbb : Below w2.heap.size w2 ((w2.alloc (.cells #[] 9)).alloc (.cells #[.string x'] 9)).drew := ((boxS w2 _).alloc (boxS w2 _).size _).drew
              have hbc : Below w2.heap.size w2 ((w2.alloc (.cells #[.string x'] 9)).alloc (.cells #[] 9)).drew := ((boxS w2 _).alloc (boxS w2 _).size _).drew
              have ownA : ((w2.alloc (.cells #[] 9)).drew).ownsRow w2.heap.size 9 1 (.slice (some ⟨w2.heap.size, 0, none⟩) 0 0) 0 [] := World.ownsRow_lit (base := w2.heap.size) (e := 9) (size := 1) w2 #[] 0 (Nat.le_refl _) (by unfold maxLen; omega) rfl
              have ownB : (((w2.alloc (.cells #[] 9)).alloc (.cells #[.string x'] 9)).drew).ownsRow w2.heap.size 9 1 (.slice (some ⟨w2.heap.size, 0, none⟩) 0 0) 0 [] := (World.ownsRow.alloc (w := w2.alloc (.cells #[] 9)) ownA (.cells #[.string x'] 9)).drew
              have ownC : (((w2.alloc (.cells #[.string x'] 9)).alloc (.cells #[] 9)).drew).ownsRow w2.heap.size 9 1 (.slice (some ⟨w2.heap.size + 1, 0, none⟩) 0 0) 0 [] := by
                have h := own_low (World.ownsRow_lit (base := w2.heap.size) (e := 9) (size := 1) (w2.alloc (.cells #[.string x'] 9)) #[] 0 (by simp) (by unfold maxLen; omega) rfl) (Nat.le_refl _)
                rw [show (w2.alloc (.cells #[.string x'] 9)).heap.size = w2.heap.size + 1 by simp] at h
                exact h.drew
              have xB : (((w2.alloc (.cells #[] 9)).alloc (.cells #[.string x'] 9)).drew).cell? ⟨w2.heap.size + 1, 0, none⟩ = some (.string x') := by
                have h := cell_newS (w2.alloc (.cells #[] 9)) (.string x') 9 0 _ rfl
                rw [show (w2.alloc (.cells #[] 9)).heap.size = w2.heap.size + 1 by simp, addr_addS] at h
                exact h
              have xC : (((w2.alloc (.cells #[.string x'] 9)).alloc (.cells #[] 9)).drew).cell? ⟨w2.heap.size, 0, none⟩ = some (.string x') := by
                have h := cell_newS w2 (.string x') 9 0 _ rfl
                rw [addr_addS] at h
                exact cell_keep (boxS (w2.alloc (.cells #[.string x'] 9)) (.cells #[] 9)).drew h
              have one_ : ∀ (W : World) (t : Nat), W.cell? ⟨t, 0, none⟩ = some (.string x') → ∀ j u, [Value.string x'][j]? = some u → W.cell? ((⟨t, 0, none⟩ : Addr).add j) = some u := fun W t h j u hu => by
                match j, hu with
                | 0, hu => injection hu with hu; subst hu; rw [addr_addS]; exact h
              have hnA : ∀ W : World, W.heap[g]? = w2.heap[g]? → ∀ a u, ((S.take j).map Value.string)[a]? = some u → W.cell? ((⟨g, 0, none⟩ : Addr).add a) = some u := fun W hW a u hu => by
                rw [List.map_take, List.getElem?_take] at hu
                split at hu
                · rw [addr_addS, Nat.zero_add]; exact (World.cell?_of_block hW).trans (hcells _ _ hu)
                · cases hu
              have newsA := hnA _ (hb0.block g hgw2)
              have newsB := hnA _ (hbb.block g hgw2)
              have newsC := hnA _ (hbc.block g hgw2)
              have hla : ((S.take j).map Value.string).length = j * 1 := by rw [List.length_map, List.length_take, HSL.out]; omega
              have hlb : ((S.drop j).map Value.string).length = (k - j) * 1 := by rw [List.length_map, List.length_drop, HSL.out]; omega
              have oneA : ∀ u ∈ (S.take j).map Value.string, u.oneCell' = true := fun u hu => by obtain ⟨z, _, rfl⟩ := List.mem_map.1 hu; rfl
              have oneB : ∀ u ∈ (S.drop j).map Value.string, u.oneCell' = true := fun u hu => by obtain ⟨z, _, rfl⟩ := List.mem_map.1 hu; rfl
              have hrow : ∀ W : World, W.heap[g]? = w2.heap[g]? → ∀ a u, ((S.drop j).map Value.string)[a]? = some u → W.cell? ⟨g, j + a, none⟩ = some u := fun W hW a u hu => by
                rw [List.map_drop, List.getElem?_drop] at hu
                exact (World.cell?_of_block hW).trans (hcells _ _ hu)
              obtain ⟨AB, hAB, hsrcB⟩ : ∃ AB : Addr, (if cap = j then (some ⟨g, 0, none⟩ : Option Addr) else some ⟨g, j, none⟩) = some AB ∧ ∀ W : World, W.heap[g]? = w2.heap[g]? → ∀ a u, ((S.drop j).map Value.string)[a]? = some u → W.cell? (AB.add a) = some u := by
                by_cases h : cap = j
                · refine ⟨⟨g, 0, none⟩, by simp [h], fun W _ a u hu => ?_⟩
                  have := (List.getElem?_eq_some_iff.1 hu).1
                  omega
                · exact ⟨⟨g, j, none⟩, by simp [h], fun W hW a u hu => by rw [addr_addS]; exact hrow W hW a u hu⟩
              have hq1 : (0 : Int) ≤ (j : Int) := by omega
              have hq2 : (j : Int) ≤ (cap : Int) := by omega
              have hq3 : (j : Int) ≤ (k : Int) := by omega
              have hq4 : (k : Int) ≤ (cap : Int) := by omega
              have hq5 : (0 : Int) ≤ (k : Int) := by omega
              have hq6 : (k : Int) < (q : Int) := by omega
              have HLE := Lib.hid (show 0 + j + 1 + (k - j) = k + 1 by omega)
              have hcases : cap = j ∨ ¬ cap = j := Decidable.em _
              clear hrow hcells hnA HSM HX1 HXA HC HPH HS hp hx hy
              rcases hcases with hcj | hcj
              · rw [if_pos hcj] at hAB
                have hAB := (Option.some.inj hAB).symm
                subst hAB
                obtain rfl : k = j := by omega
                subst hcj
                go_wp2_with fail
                (go_region_law (first
                  | (refine step_ownS_in rfl _ _ 24 rfl w2.heap.size 9 i0 (.string ⟨#[]⟩) 1 16 Tryz.underlying24 hi hz0 hz1 hz2 rfl (by decide) _ _ _ rfl ownA _ _ _ _ rfl hla newsA oneA (by unfold maxLen; omega) (by omega) hb0.size ?_; intro v5 w5 own5 grow5 lie5; have hb5 := hb0.grown grow5 hb0.size (fun q hq => by have e : w2.heap.size = q := Option.some.inj hq; omega); have c5 := cell_keep hb5 c2; have hz5 := hb5.size)
                  | (refine step_ownS_in rfl _ _ 24 rfl w2.heap.size 9 i0 (.string ⟨#[]⟩) 1 16 Tryz.underlying24 hi hz0 hz1 hz2 rfl (by decide) _ _ _ rfl ownB _ _ _ _ rfl hla newsB oneA (by unfold maxLen; omega) (by omega) hbb.size ?_; intro v5 w5 own5 grow5 lie5; have hb5 := hbb.grown grow5 hbb.size (fun q hq => by have e : w2.heap.size = q := Option.some.inj hq; omega); have c5 := cell_keep hb5 c2; have hz5 := hb5.size; have x5 := one_ w5 _ ((World.cell?_of_block (grow5.block (w2.heap.size + 1) (by simp <;> omega) (fun e => by have e := Option.some.inj e; simp at e))).trans xB))
                  | (refine step_ownS_in rfl _ _ 24 rfl w2.heap.size 9 i0 (.string ⟨#[]⟩) 1 16 Tryz.underlying24 hi hz0 hz1 hz2 rfl (by decide) _ _ _ rfl ownC _ _ _ _ rfl hla newsC oneA (by unfold maxLen; omega) (by omega) hbc.size ?_; intro v5 w5 own5 grow5 lie5; have hb5 := hbc.grown grow5 hbc.size (fun q hq => by have e : w2.heap.size + 1 = q := Option.some.inj hq; omega); have c5 := cell_keep hb5 c2; have hz5 := hb5.size; have x5 := one_ w5 _ ((World.cell?_of_block (grow5.block w2.heap.size (by simp <;> omega) (fun e => by have e := Option.some.inj e; simp at e))).trans xC))
                  | (refine step_ownS_in rfl _ _ 24 rfl w2.heap.size 9 i0 (.string ⟨#[]⟩) 1 16 Tryz.underlying24 hi hz0 hz1 hz2 rfl (by decide) _ _ _ rfl (own5.alloc _) ⟨w5.heap.size, 0, none⟩ 1 1 [.string x'] rfl rfl (cell_newS _ _ _) (by simp [Value.oneCell']) (by unfold maxLen; omega) (by omega) (by simp; omega) ?_; intro v7 w7 own7 grow7 lie7; have hb6 := hb5.alloc hb5.size (.cells #[.string x'] 9); have hb7 := hb6.grown grow7 hb6.size (fun q hq => (own5.lt q hq).1); have news7 := hsrcB w7 (hb7.block g hgw2); have hz7 := hb7.size)
                  | (refine step_ownS_in rfl _ _ 24 rfl w2.heap.size 9 i0 (.string ⟨#[]⟩) 1 16 Tryz.underlying24 hi hz0 hz1 hz2 rfl (by decide) _ _ _ rfl own5 _ 1 1 [.string x'] rfl rfl x5 (by simp [Value.oneCell']) (by unfold maxLen; omega) (by omega) hb5.size ?_; intro v7 w7 own7 grow7 lie7; have hb7 := hb5.grown grow7 hb5.size (fun q hq => (own5.lt q hq).1); have news7 := hsrcB w7 (hb7.block g hgw2); have hz7 := hb7.size)
                  | (refine step_ownS_in rfl _ _ 24 rfl w2.heap.size 9 i0 (.string ⟨#[]⟩) 1 16 Tryz.underlying24 hi hz0 hz1 hz2 rfl (by decide) _ _ _ rfl own7 _ _ _ _ rfl (by first | exact hlb | (rw [hlb]; simp)) news7 oneB (by unfold maxLen; omega) (by omega) hz7 ?_; intro v8 w8 own8 grow8 lie8)))
                all_goals
                  have hb8 := hb7.grown grow8 hb7.size (fun q hq => (own7.lt q hq).1)
                  have own9 : w8.ownsRow w2.heap.size 9 1 v8 (S.length + 1) ((insR xs ig x' S).map Value.string) := by
                    rw [HSL.out, HD.out, ← HLE.out]; simpa [List.map_append, List.map_take, List.map_drop] using own8
                  rw [← HN.out, HSL.out] at own9
                  obtain ⟨g9, cap9, rfl⟩ := ownsRow_succ own9
                  have HO9 := Lib.hid (own_low own9 (hbb2.out.size))
                  have HB9 := Lib.hid (hbb2.out.trans (hb8.mono hbb2.out.size))
                  clear own9 hb8 own8 grow8 lie8 own7 grow7 lie7 hb7 news7 c2 o2
                  try clear hb6
                  try clear x5
                  clear own5 grow5 lie5 hb5 c5 ownA ownB ownC xB xC one_ newsA newsB newsC hb0 hbb hbc hla hlb oneA oneB hsrcB
                  go_wp2
                  go_roundw
                  case rel => exact ⟨_, g9, cap9, by omega, by go_num, rfl, HO9.out, HB9.out⟩
                  case measure => simp [intOf]; omega
              · rw [if_neg hcj] at hAB
                have hAB := (Option.some.inj hAB).symm
                subst hAB
                go_wp2_with fail
                (go_region_law (first
                  | (refine step_ownS_in rfl _ _ 24 rfl w2.heap.size 9 i0 (.string ⟨#[]⟩) 1 16 Tryz.underlying24 hi hz0 hz1 hz2 rfl (by decide) _ _ _ rfl ownA _ _ _ _ rfl hla newsA oneA (by unfold maxLen; omega) (by omega) hb0.size ?_; intro v5 w5 own5 grow5 lie5; have hb5 := hb0.grown grow5 hb0.size (fun q hq => by have e : w2.heap.size = q := Option.some.inj hq; omega); have c5 := cell_keep hb5 c2; have hz5 := hb5.size)
                  | (refine step_ownS_in rfl _ _ 24 rfl w2.heap.size 9 i0 (.string ⟨#[]⟩) 1 16 Tryz.underlying24 hi hz0 hz1 hz2 rfl (by decide) _ _ _ rfl ownB _ _ _ _ rfl hla newsB oneA (by unfold maxLen; omega) (by omega) hbb.size ?_; intro v5 w5 own5 grow5 lie5; have hb5 := hbb.grown grow5 hbb.size (fun q hq => by have e : w2.heap.size = q := Option.some.inj hq; omega); have c5 := cell_keep hb5 c2; have hz5 := hb5.size; have x5 := one_ w5 _ ((World.cell?_of_block (grow5.block (w2.heap.size + 1) (by simp <;> omega) (fun e => by have e := Option.some.inj e; simp at e))).trans xB))
                  | (refine step_ownS_in rfl _ _ 24 rfl w2.heap.size 9 i0 (.string ⟨#[]⟩) 1 16 Tryz.underlying24 hi hz0 hz1 hz2 rfl (by decide) _ _ _ rfl ownC _ _ _ _ rfl hla newsC oneA (by unfold maxLen; omega) (by omega) hbc.size ?_; intro v5 w5 own5 grow5 lie5; have hb5 := hbc.grown grow5 hbc.size (fun q hq => by have e : w2.heap.size + 1 = q := Option.some.inj hq; omega); have c5 := cell_keep hb5 c2; have hz5 := hb5.size; have x5 := one_ w5 _ ((World.cell?_of_block (grow5.block w2.heap.size (by simp <;> omega) (fun e => by have e := Option.some.inj e; simp at e))).trans xC))
                  | (refine step_ownS_in rfl _ _ 24 rfl w2.heap.size 9 i0 (.string ⟨#[]⟩) 1 16 Tryz.underlying24 hi hz0 hz1 hz2 rfl (by decide) _ _ _ rfl (own5.alloc _) ⟨w5.heap.size, 0, none⟩ 1 1 [.string x'] rfl rfl (cell_newS _ _ _) (by simp [Value.oneCell']) (by unfold maxLen; omega) (by omega) (by simp; omega) ?_; intro v7 w7 own7 grow7 lie7; have hb6 := hb5.alloc hb5.size (.cells #[.string x'] 9); have hb7 := hb6.grown grow7 hb6.size (fun q hq => (own5.lt q hq).1); have news7 := hsrcB w7 (hb7.block g hgw2); have hz7 := hb7.size)
                  | (refine step_ownS_in rfl _ _ 24 rfl w2.heap.size 9 i0 (.string ⟨#[]⟩) 1 16 Tryz.underlying24 hi hz0 hz1 hz2 rfl (by decide) _ _ _ rfl own5 _ 1 1 [.string x'] rfl rfl x5 (by simp [Value.oneCell']) (by unfold maxLen; omega) (by omega) hb5.size ?_; intro v7 w7 own7 grow7 lie7; have hb7 := hb5.grown grow7 hb5.size (fun q hq => (own5.lt q hq).1); have news7 := hsrcB w7 (hb7.block g hgw2); have hz7 := hb7.size)
                  | (refine step_ownS_in rfl _ _ 24 rfl w2.heap.size 9 i0 (.string ⟨#[]⟩) 1 16 Tryz.underlying24 hi hz0 hz1 hz2 rfl (by decide) _ _ _ rfl own7 _ _ _ _ rfl (by first | exact hlb | (rw [hlb]; simp)) news7 oneB (by unfold maxLen; omega) (by omega) hz7 ?_; intro v8 w8 own8 grow8 lie8)))
                all_goals
                  have hb8 := hb7.grown grow8 hb7.size (fun q hq => (own7.lt q hq).1)
                  have own9 : w8.ownsRow w2.heap.size 9 1 v8 (S.length + 1) ((insR xs ig x' S).map Value.string) := by
                    rw [HSL.out, HD.out, ← HLE.out]; simpa [List.map_append, List.map_take, List.map_drop] using own8
                  rw [← HN.out, HSL.out] at own9
                  obtain ⟨g9, cap9, rfl⟩ := ownsRow_succ own9
                  have HO9 := Lib.hid (own_low own9 (hbb2.out.size))
                  have HB9 := Lib.hid (hbb2.out.trans (hb8.mono hbb2.out.size))
                  clear own9 hb8 own8 grow8 lie8 own7 grow7 lie7 hb7 news7 c2 o2
                  try clear hb6
                  try clear x5
                  clear own5 grow5 lie5 hb5 c5 ownA ownB ownC xB xC one_ newsA newsB newsC hb0 hbb hbc hla hlb oneA oneB hsrcB
                  go_wp2
                  go_roundw
                  case rel => exact ⟨_, g9, cap9, by omega, by go_num, rfl, HO9.out, HB9.out⟩
                  case measure => simp [intOf]; omega
          · have hj9 : ¬ (0 : Int) < (j : Int) := by omega
            have HD := Lib.hid (show insR xs ig x' S = S.take j ++ [x'] ++ S.drop j by
              obtain rfl : j = 0 := by omega
              unfold insR; rw [HSL.out, hP.out]; rfl)
            clear hP hO hB
            go_wp2_with fail
            refine wp_region_later (by kernel_rfl) (by kernel_rfl) ?_
            repeat (go_big_quiet_step (fail))
            refine wpQuiet_nil ?_
            intro w2 hw2; have h2 := later_below hw2; clear hw2
            have c2 := cell_keep h2 c0
            have o2 := own_below ho h2
            have hbb2 := Lib.hid (hbo.trans (h2.mono hzo))
            clear ho hbo h2 c0 xw yw hzo
            have hgl := o2.lt g rfl
            have hz2' := hbb2.out.size
            have hbw2 : b < w2.heap.size := Nat.lt_of_lt_of_le hbw hz2'
            have hcells : ∀ a u, (S.map Value.string)[a]? = some u → w2.cell? ⟨g, a, none⟩ = some u := fun a u hu => by
              have hak := (List.getElem?_eq_some_iff.1 hu).1
              rw [List.length_map, HSL.out] at hak
              have := o2.cellAt a (by omega)
              rw [hu] at this
              exact this
            have hgw2 := hgl.2
            have hb0 : Below w2.heap.size w2 ((w2.alloc (.cells #[] 9)).drew) := (boxS w2 _).drew
            have hbb : Below w2.heap.size w2 ((w2.alloc (.cells #[] 9)).alloc (.cells #[.string x'] 9)).drew := ((boxS w2 _).alloc (boxS w2 _).size _).drew
            have hbc : Below w2.heap.size w2 ((w2.alloc (.cells #[.string x'] 9)).alloc (.cells #[] 9)).drew := ((boxS w2 _).alloc (boxS w2 _).size _).drew
            have ownA : ((w2.alloc (.cells #[] 9)).drew).ownsRow w2.heap.size 9 1 (.slice (some ⟨w2.heap.size, 0, none⟩) 0 0) 0 [] := World.ownsRow_lit (base := w2.heap.size) (e := 9) (size := 1) w2 #[] 0 (Nat.le_refl _) (by unfold maxLen; omega) rfl
            have ownB : (((w2.alloc (.cells #[] 9)).alloc (.cells #[.string x'] 9)).drew).ownsRow w2.heap.size 9 1 (.slice (some ⟨w2.heap.size, 0, none⟩) 0 0) 0 [] := (World.ownsRow.alloc (w := w2.alloc (.cells #[] 9)) ownA (.cells #[.string x'] 9)).drew
            have ownC : (((w2.alloc (.cells #[.string x'] 9)).alloc (.cells #[] 9)).drew).ownsRow w2.heap.size 9 1 (.slice (some ⟨w2.heap.size + 1, 0, none⟩) 0 0) 0 [] := by
              have h := own_low (World.ownsRow_lit (base := w2.heap.size) (e := 9) (size := 1) (w2.alloc (.cells #[.string x'] 9)) #[] 0 (by simp) (by unfold maxLen; omega) rfl) (Nat.le_refl _)
              rw [show (w2.alloc (.cells #[.string x'] 9)).heap.size = w2.heap.size + 1 by simp] at h
              exact h.drew
            have xB : (((w2.alloc (.cells #[] 9)).alloc (.cells #[.string x'] 9)).drew).cell? ⟨w2.heap.size + 1, 0, none⟩ = some (.string x') := by
              have h := cell_newS (w2.alloc (.cells #[] 9)) (.string x') 9 0 _ rfl
              rw [show (w2.alloc (.cells #[] 9)).heap.size = w2.heap.size + 1 by simp, addr_addS] at h
              exact h
            have xC : (((w2.alloc (.cells #[.string x'] 9)).alloc (.cells #[] 9)).drew).cell? ⟨w2.heap.size, 0, none⟩ = some (.string x') := by
              have h := cell_newS w2 (.string x') 9 0 _ rfl
              rw [addr_addS] at h
              exact cell_keep (boxS (w2.alloc (.cells #[.string x'] 9)) (.cells #[] 9)).drew h
            have one_ : ∀ (W : World) (t : Nat), W.cell? ⟨t, 0, none⟩ = some (.string x') → ∀ j u, [Value.string x'][j]? = some u → W.cell? ((⟨t, 0, none⟩ : Addr).add j) = some u := fun W t h j u hu => by
              match j, hu with
              | 0, hu => injection hu with hu; subst hu; rw [addr_addS]; exact h
            have hnA : ∀ W : World, W.heap[g]? = w2.heap[g]? → ∀ a u, ((S.take j).map Value.string)[a]? = some u → W.cell? ((⟨g, 0, none⟩ : Addr).add a) = some u := fun W hW a u hu => by
              rw [List.map_take, List.getElem?_take] at hu
              split at hu
              · rw [addr_addS, Nat.zero_add]; exact (World.cell?_of_block hW).trans (hcells _ _ hu)
              · cases hu
            have newsA := hnA _ (hb0.block g hgw2)
            have newsB := hnA _ (hbb.block g hgw2)
            have newsC := hnA _ (hbc.block g hgw2)
            have hla : ((S.take j).map Value.string).length = j * 1 := by rw [List.length_map, List.length_take, HSL.out]; omega
            have hlb : ((S.drop j).map Value.string).length = (k - j) * 1 := by rw [List.length_map, List.length_drop, HSL.out]; omega
            have oneA : ∀ u ∈ (S.take j).map Value.string, u.oneCell' = true := fun u hu => by obtain ⟨z, _, rfl⟩ := List.mem_map.1 hu; rfl
            have oneB : ∀ u ∈ (S.drop j).map Value.string, u.oneCell' = true := fun u hu => by obtain ⟨z, _, rfl⟩ := List.mem_map.1 hu; rfl
            have hrow : ∀ W : World, W.heap[g]? = w2.heap[g]? → ∀ a u, ((S.drop j).map Value.string)[a]? = some u → W.cell? ⟨g, j + a, none⟩ = some u := fun W hW a u hu => by
              rw [List.map_drop, List.getElem?_drop] at hu
              exact (World.cell?_of_block hW).trans (hcells _ _ hu)
            obtain ⟨AB, hAB, hsrcB⟩ : ∃ AB : Addr, (if cap = j then (some ⟨g, 0, none⟩ : Option Addr) else some ⟨g, j, none⟩) = some AB ∧ ∀ W : World, W.heap[g]? = w2.heap[g]? → ∀ a u, ((S.drop j).map Value.string)[a]? = some u → W.cell? (AB.add a) = some u := by
              by_cases h : cap = j
              · refine ⟨⟨g, 0, none⟩, by simp [h], fun W _ a u hu => ?_⟩
                have := (List.getElem?_eq_some_iff.1 hu).1
                omega
              · exact ⟨⟨g, j, none⟩, by simp [h], fun W hW a u hu => by rw [addr_addS]; exact hrow W hW a u hu⟩
            have hq1 : (0 : Int) ≤ (j : Int) := by omega
            have hq2 : (j : Int) ≤ (cap : Int) := by omega
            have hq3 : (j : Int) ≤ (k : Int) := by omega
            have hq4 : (k : Int) ≤ (cap : Int) := by omega
            have hq5 : (0 : Int) ≤ (k : Int) := by omega
            have hq6 : (k : Int) < (q : Int) := by omega
            have HLE := Lib.hid (show 0 + j + 1 + (k - j) = k + 1 by omega)
            have hcases : cap = j ∨ ¬ cap = j := Decidable.em _
            clear hrow hcells hnA HSM HX1 HXA HC HPH HS hp hx hy
            rcases hcases with hcj | hcj
            · rw [if_pos hcj] at hAB
              have hAB := (Option.some.inj hAB).symm
              subst hAB
              obtain rfl : k = j := by omega
              subst hcj
              go_wp2_with fail
              (go_region_law (first
                | (refine step_ownS_in rfl _ _ 24 rfl w2.heap.size 9 i0 (.string ⟨#[]⟩) 1 16 Tryz.underlying24 hi hz0 hz1 hz2 rfl (by decide) _ _ _ rfl ownA _ _ _ _ rfl hla newsA oneA (by unfold maxLen; omega) (by omega) hb0.size ?_; intro v5 w5 own5 grow5 lie5; have hb5 := hb0.grown grow5 hb0.size (fun q hq => by have e : w2.heap.size = q := Option.some.inj hq; omega); have c5 := cell_keep hb5 c2; have hz5 := hb5.size)
                | (refine step_ownS_in rfl _ _ 24 rfl w2.heap.size 9 i0 (.string ⟨#[]⟩) 1 16 Tryz.underlying24 hi hz0 hz1 hz2 rfl (by decide) _ _ _ rfl ownB _ _ _ _ rfl hla newsB oneA (by unfold maxLen; omega) (by omega) hbb.size ?_; intro v5 w5 own5 grow5 lie5; have hb5 := hbb.grown grow5 hbb.size (fun q hq => by have e : w2.heap.size = q := Option.some.inj hq; omega); have c5 := cell_keep hb5 c2; have hz5 := hb5.size; have x5 := one_ w5 _ ((World.cell?_of_block (grow5.block (w2.heap.size + 1) (by simp <;> omega) (fun e => by have e := Option.some.inj e; simp at e))).trans xB))
                | (refine step_ownS_in rfl _ _ 24 rfl w2.heap.size 9 i0 (.string ⟨#[]⟩) 1 16 Tryz.underlying24 hi hz0 hz1 hz2 rfl (by decide) _ _ _ rfl ownC _ _ _ _ rfl hla newsC oneA (by unfold maxLen; omega) (by omega) hbc.size ?_; intro v5 w5 own5 grow5 lie5; have hb5 := hbc.grown grow5 hbc.size (fun q hq => by have e : w2.heap.size + 1 = q := Option.some.inj hq; omega); have c5 := cell_keep hb5 c2; have hz5 := hb5.size; have x5 := one_ w5 _ ((World.cell?_of_block (grow5.block w2.heap.size (by simp <;> omega) (fun e => by have e := Option.some.inj e; simp at e))).trans xC))
                | (refine step_ownS_in rfl _ _ 24 rfl w2.heap.size 9 i0 (.string ⟨#[]⟩) 1 16 Tryz.underlying24 hi hz0 hz1 hz2 rfl (by decide) _ _ _ rfl (own5.alloc _) ⟨w5.heap.size, 0, none⟩ 1 1 [.string x'] rfl rfl (cell_newS _ _ _) (by simp [Value.oneCell']) (by unfold maxLen; omega) (by omega) (by simp; omega) ?_; intro v7 w7 own7 grow7 lie7; have hb6 := hb5.alloc hb5.size (.cells #[.string x'] 9); have hb7 := hb6.grown grow7 hb6.size (fun q hq => (own5.lt q hq).1); have news7 := hsrcB w7 (hb7.block g hgw2); have hz7 := hb7.size)
                | (refine step_ownS_in rfl _ _ 24 rfl w2.heap.size 9 i0 (.string ⟨#[]⟩) 1 16 Tryz.underlying24 hi hz0 hz1 hz2 rfl (by decide) _ _ _ rfl own5 _ 1 1 [.string x'] rfl rfl x5 (by simp [Value.oneCell']) (by unfold maxLen; omega) (by omega) hb5.size ?_; intro v7 w7 own7 grow7 lie7; have hb7 := hb5.grown grow7 hb5.size (fun q hq => (own5.lt q hq).1); have news7 := hsrcB w7 (hb7.block g hgw2); have hz7 := hb7.size)
                | (refine step_ownS_in rfl _ _ 24 rfl w2.heap.size 9 i0 (.string ⟨#[]⟩) 1 16 Tryz.underlying24 hi hz0 hz1 hz2 rfl (by decide) _ _ _ rfl own7 _ _ _ _ rfl (by first | exact hlb | (rw [hlb]; simp)) news7 oneB (by unfold maxLen; omega) (by omega) hz7 ?_; intro v8 w8 own8 grow8 lie8)))
              all_goals
                have hb8 := hb7.grown grow8 hb7.size (fun q hq => (own7.lt q hq).1)
                have own9 : w8.ownsRow w2.heap.size 9 1 v8 (S.length + 1) ((insR xs ig x' S).map Value.string) := by
                  rw [HSL.out, HD.out, ← HLE.out]; simpa [List.map_append, List.map_take, List.map_drop] using own8
                rw [← HN.out, HSL.out] at own9
                obtain ⟨g9, cap9, rfl⟩ := ownsRow_succ own9
                have HO9 := Lib.hid (own_low own9 (hbb2.out.size))
                have HB9 := Lib.hid (hbb2.out.trans (hb8.mono hbb2.out.size))
                clear own9 hb8 own8 grow8 lie8 own7 grow7 lie7 hb7 news7 c2 o2
                try clear hb6
                try clear x5
                clear own5 grow5 lie5 hb5 c5 ownA ownB ownC xB xC one_ newsA newsB newsC hb0 hbb hbc hla hlb oneA oneB hsrcB
                go_wp2
                go_roundw
                case rel => exact ⟨_, g9, cap9, by omega, by go_num, rfl, HO9.out, HB9.out⟩
                case measure => simp [intOf]; omega
            · rw [if_neg hcj] at hAB
              have hAB := (Option.some.inj hAB).symm
              subst hAB
              go_wp2_with fail
              (go_region_law (first
                | (refine step_ownS_in rfl _ _ 24 rfl w2.heap.size 9 i0 (.string ⟨#[]⟩) 1 16 Tryz.underlying24 hi hz0 hz1 hz2 rfl (by decide) _ _ _ rfl ownA _ _ _ _ rfl hla newsA oneA (by unfold maxLen; omega) (by omega) hb0.size ?_; intro v5 w5 own5 grow5 lie5; have hb5 := hb0.grown grow5 hb0.size (fun q hq => by have e : w2.heap.size = q := Option.some.inj hq; omega); have c5 := cell_keep hb5 c2; have hz5 := hb5.size)
                | (refine step_ownS_in rfl _ _ 24 rfl w2.heap.size 9 i0 (.string ⟨#[]⟩) 1 16 Tryz.underlying24 hi hz0 hz1 hz2 rfl (by decide) _ _ _ rfl ownB _ _ _ _ rfl hla newsB oneA (by unfold maxLen; omega) (by omega) hbb.size ?_; intro v5 w5 own5 grow5 lie5; have hb5 := hbb.grown grow5 hbb.size (fun q hq => by have e : w2.heap.size = q := Option.some.inj hq; omega); have c5 := cell_keep hb5 c2; have hz5 := hb5.size; have x5 := one_ w5 _ ((World.cell?_of_block (grow5.block (w2.heap.size + 1) (by simp <;> omega) (fun e => by have e := Option.some.inj e; simp at e))).trans xB))
                | (refine step_ownS_in rfl _ _ 24 rfl w2.heap.size 9 i0 (.string ⟨#[]⟩) 1 16 Tryz.underlying24 hi hz0 hz1 hz2 rfl (by decide) _ _ _ rfl ownC _ _ _ _ rfl hla newsC oneA (by unfold maxLen; omega) (by omega) hbc.size ?_; intro v5 w5 own5 grow5 lie5; have hb5 := hbc.grown grow5 hbc.size (fun q hq => by have e : w2.heap.size + 1 = q := Option.some.inj hq; omega); have c5 := cell_keep hb5 c2; have hz5 := hb5.size; have x5 := one_ w5 _ ((World.cell?_of_block (grow5.block w2.heap.size (by simp <;> omega) (fun e => by have e := Option.some.inj e; simp at e))).trans xC))
                | (refine step_ownS_in rfl _ _ 24 rfl w2.heap.size 9 i0 (.string ⟨#[]⟩) 1 16 Tryz.underlying24 hi hz0 hz1 hz2 rfl (by decide) _ _ _ rfl (own5.alloc _) ⟨w5.heap.size, 0, none⟩ 1 1 [.string x'] rfl rfl (cell_newS _ _ _) (by simp [Value.oneCell']) (by unfold maxLen; omega) (by omega) (by simp; omega) ?_; intro v7 w7 own7 grow7 lie7; have hb6 := hb5.alloc hb5.size (.cells #[.string x'] 9); have hb7 := hb6.grown grow7 hb6.size (fun q hq => (own5.lt q hq).1); have news7 := hsrcB w7 (hb7.block g hgw2); have hz7 := hb7.size)
                | (refine step_ownS_in rfl _ _ 24 rfl w2.heap.size 9 i0 (.string ⟨#[]⟩) 1 16 Tryz.underlying24 hi hz0 hz1 hz2 rfl (by decide) _ _ _ rfl own5 _ 1 1 [.string x'] rfl rfl x5 (by simp [Value.oneCell']) (by unfold maxLen; omega) (by omega) hb5.size ?_; intro v7 w7 own7 grow7 lie7; have hb7 := hb5.grown grow7 hb5.size (fun q hq => (own5.lt q hq).1); have news7 := hsrcB w7 (hb7.block g hgw2); have hz7 := hb7.size)
                | (refine step_ownS_in rfl _ _ 24 rfl w2.heap.size 9 i0 (.string ⟨#[]⟩) 1 16 Tryz.underlying24 hi hz0 hz1 hz2 rfl (by decide) _ _ _ rfl own7 _ _ _ _ rfl (by first | exact hlb | (rw [hlb]; simp)) news7 oneB (by unfold maxLen; omega) (by omega) hz7 ?_; intro v8 w8 own8 grow8 lie8)))
              all_goals
                have hb8 := hb7.grown grow8 hb7.size (fun q hq => (own7.lt q hq).1)
                have own9 : w8.ownsRow w2.heap.size 9 1 v8 (S.length + 1) ((insR xs ig x' S).map Value.string) := by
                  rw [HSL.out, HD.out, ← HLE.out]; simpa [List.map_append, List.map_take, List.map_drop] using own8
                rw [← HN.out, HSL.out] at own9
                obtain ⟨g9, cap9, rfl⟩ := ownsRow_succ own9
                have HO9 := Lib.hid (own_low own9 (hbb2.out.size))
                have HB9 := Lib.hid (hbb2.out.trans (hb8.mono hbb2.out.size))
                clear own9 hb8 own8 grow8 lie8 own7 grow7 lie7 hb7 news7 c2 o2
                try clear hb6
                try clear x5
                clear own5 grow5 lie5 hb5 c5 ownA ownB ownC xB xC one_ newsA newsB newsC hb0 hbb hbc hla hlb oneA oneB hsrcB
                go_wp2
                go_roundw
                case rel => exact ⟨_, g9, cap9, by omega, by go_num, rfl, HO9.out, HB9.out⟩
                case measure => simp [intOf]; omega
--END
      · obtain rfl : k = q := by omega
        have HE := Lib.hid (show spVal xs ig ps = srt xs ig ps k by rw [HF.out, HL.out])
        clear HF
        go_wp2
        go_ret2
        exact ⟨_, by rw [HK.out]; rfl, by rw [HE.out, srt_len]; exact own_low hO.out hz1', fun _ => ⟨g, cap, by rw [HE.out, srt_len]; rfl⟩, next k1 hB.out⟩
  · have HF := Lib.hid (show spVal xs ig ps = [] by unfold spVal; rw [hk, if_neg h0])
    have hne : (k != 0) = true := by rw [bne_iff_ne]; exact h0
    clear hk
    go_enter Tryz.func30, Tryz.ntmps30
    go_wp2_with fail
    refine h1.mono ?_
    rintro e_ w1 ⟨rfl, k1⟩
    clear h1
    go_wp2
    go_ret2
    exact ⟨_, by rw [HK.out]; rfl, by rw [HF.out]; exact World.ownsRow_nil _ _ _ _, fun h => absurd (HK.out.symm.trans h) h0, k1⟩
end Go.Proofs.YtpnbbhomkneflaaGreatDoor
