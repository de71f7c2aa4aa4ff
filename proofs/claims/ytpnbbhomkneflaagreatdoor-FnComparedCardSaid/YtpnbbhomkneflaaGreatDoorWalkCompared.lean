/- Walk of the law FnCompared. -/
import Derived.Test.YtpnbbhomkneflaaGreatDoorDrawK
import Derived.Test.YtpnbbhomkneflaaGreatDoorCpLaw
import Derived.Test.YtpnbbhomkneflaaGreatDoorSortK
import Derived.Test.YtpnbbhomkneflaaGreatDoorSortI
import Derived.Test.YtpnbbhomkneflaaGreatDoorBig
import Derived.Deep.CutRange
namespace Go.Proofs.YtpnbbhomkneflaaGreatDoor
open Go.ChangeShapes Go.WideShapes Go.ChangeAt Go.RowKit
theorem text_beq (a b : ByteArray) : (a.toList == b.toList) = decide (a = b) := by
  by_cases h : a = b
  · rw [decide_eq_true h, h]; simp
  · rw [decide_eq_false h]; exact text_ne h
theorem cp_rng (xs : List ByteArray) (ig : List Int) (a b : ByteArray) : -1 ≤ cpVal xs ig a b ∧ cpVal xs ig a b ≤ 1 := by
  unfold cpVal
  split
  · have := cmpP_rng xs ig a b; omega
  · omega
theorem cwr_rng (xs : List ByteArray) (a b : ByteArray) : -1 ≤ cwrVal xs a b ∧ cwrVal xs a b ≤ 1 := by
  unfold cwrVal
  split
  · have := isCmpI.rng (spellList xs a) (spellList xs b); omega
  · omega
theorem zero_beq {v : Int} {a b : ByteArray} (h : v = 0 ↔ a = b) : (v == 0) = decide (a = b) := by
  by_cases e : a = b
  · rw [decide_eq_true e, h.2 e]; rfl
  · rw [decide_eq_false e]
    simpa using fun h0 => e (h.1 h0)
theorem words_back {A : Option Addr} {n c : Nat} {xs : List ByteArray} {s t : ByteArray} (h : cwrCode xs s t = 0) (w : World) (hx : Strs w A n c xs) (hs : s.size ≤ 100) (ht : t.size ≤ 100) (hm : MaxCell w) :
    Calls Tryz.prog 9 #[.slice A n c, .string t, .string s] w fun e w' => e = .returned (.tuple #[.int .i64 (-cwrVal xs s t), .int .i64 0]) ∧ Below w.heap.size w w' := by
  have h1 := CompareWords_impl A n c xs t s w hx (by omega) (by omega) hm
  obtain ⟨e1, e2, _⟩ := cwr_back h
  rw [e1, e2] at h1
  exact h1
theorem phr_back {A B : Option Addr} {n c m d : Nat} {xs : List ByteArray} {ig : List Int} {s t : ByteArray} (h : nsCode xs ig [s, t] = 0) (w : World) (hx : Strs w A n c xs) (hy : Ints w B m d ig) (hs : s.size ≤ 100) (ht : t.size ≤ 100) (hm : MaxCell w) :
    Calls Tryz.prog 6 #[.slice A n c, .string t, .string s, .slice B m d] w fun e w' => e = .returned (.tuple #[.int .i64 (-cpVal xs ig s t), .int .i64 0]) ∧ Below w.heap.size w w' := by
  have h1 := ComparePhrases_impl A B n c m d xs ig t s w hx hy (by omega) (by omega) hm
  obtain ⟨e1, e2, _⟩ := cp_back h
  rw [e1, e2] at h1
  exact h1
theorem more_sorted {A B C : Option Addr} {n c m d q f : Nat} {xs ps : List ByteArray} {s : ByteArray} (h : fpCode xs ps s = 0) (hl : ps.length < 20) (w : World) (hx : Strs w A n c xs) (hy : Ints w B m d []) (hp : Strs w C q f (moreP xs ps s)) (hs : ∀ x ∈ moreP xs ps s, x.size ≤ 100) (hm : MaxCell w) :
    Calls Tryz.prog 14 #[.slice A n c, .slice C q f, .slice B m d] w fun e w' => e = .returned (.tuple #[.bool true, .int .i64 0]) ∧ Below w.heap.size w w' := by
  have h1 := AreSorted_impl A B C n c m d q f xs [] (moreP xs ps s) w hx hy hp (fun x hx => by have := hs x hx; omega) hm
  obtain ⟨_, e1, e2⟩ := fp_law h hl
  rw [e1, e2] at h1
  exact h1
end Go.Proofs.YtpnbbhomkneflaaGreatDoor
namespace Go.Proofs.YtpnbbhomkneflaaGreatDoor.fnCompared
open Go.ChangeShapes Go.WideShapes Go.ChangeAt Go.RowKit
set_option linter.unusedVariables false
set_option maxRecDepth 100000 in
set_option maxHeartbeats 80000000 in
theorem walk (A : Option Addr) (n c : Nat) (bs : List UInt8) (w : World) (hx : Bytes w A n c bs) (hm : MaxCell w) : Calls Tryz.prog 3 #[.slice A n c] w fun e w' => e = .returned (.bool true) ∧ Below w.heap.size w w' := by
  obtain ⟨i0, hi, hz0, hz1, hz2⟩ := info_parts infoStr
  go_enter Tryz.func3, Tryz.ntmps3
  go_wp2_with fail
  refine (big_any A n c w).mono ?_
  rintro e_ w0 ⟨rfl, h0⟩
  by_cases hbig : 4096 < n
  · have hb2 : (4096 : Int) < n := by omega
    go_wp2
    go_ret
    exact ⟨rfl, h0⟩
  · have hb2 : ¬ (4096 : Int) < n := by omega
    go_wp2_with fail
    refine (DrawComparePhrases_any A n c bs _ (hx.below h0)).mono ?_
    rintro e_ w1 ⟨A1, B1, c1, d1, xs, a, b, ig, rfl, haz, hbz, X1, J1, h1⟩
    have BB1 := Lib.hid (next h0 h1)
    clear h0 h1
    go_wp2_with fail
    refine (ComparePhrases_impl A1 B1 _ _ _ _ xs ig a b _ X1 J1 (by omega) (by omega) (hm.below BB1.out)).mono ?_
    rintro e_ w3 ⟨rfl, h3⟩
    go_wp2_with fail
    refine (ComparePhrases_spec A1 B1 _ _ _ _ xs ig a b _ (X1.below h3) (J1.below h3) (by omega) (by omega)).mono ?_
    rintro e_ w4 ⟨rfl, h4⟩
    have h34 := next h3 h4
    have BB4 := Lib.hid (next BB1.out h34)
    have X4 := X1.below h34
    have J4 := J1.below h34
    clear X1 J1 BB1 h3 h4 h34
    go_wp2_with fail
    refine (DrawCompareWords_any A n c bs _ (hx.below BB4.out)).mono ?_
    rintro e_ w5 ⟨A5, c5_, ys, y, z, rfl, hyz, hzz, Y5, h5⟩
    have BB5 := Lib.hid (next BB4.out h5)
    go_wp2_with fail
    refine (CompareWords_impl A5 _ _ ys y z _ Y5 (by omega) (by omega) (hm.below BB5.out)).mono ?_
    rintro e_ w6 ⟨rfl, h6⟩
    go_wp2_with fail
    refine (CompareWords_spec A5 _ _ ys y z _ (Y5.below h6) (by omega) (by omega)).mono ?_
    rintro e_ w7 ⟨rfl, h7⟩
    have h67 := next h6 h7
    have h57 := next h5 h67
    have BB7 := Lib.hid (next BB5.out h67)
    have X7 := X4.below h57
    have J7 := J4.below h57
    have Y7 := Y5.below h67
    clear X4 J4 BB4 BB5 Y5 h5 h6 h7 h67 h57
    go_wp2_with fail
    refine (DrawFindPhrase_any A n c bs _ (hx.below BB7.out)).mono ?_
    rintro e_ w8 ⟨A8, g, c8, cap, zs, ps, s, rfl, hsz, hpl, hpz, hgl, Z8, P8, h8⟩
    have BB8 := Lib.hid (next BB7.out h8)
    have hps1 : ∀ x ∈ ps, x.size ≤ 1048576 := fun x hx => by have := hpz x hx; omega
    go_wp2_with fail
    refine (FindPhrase_impl A8 _ _ _ _ _ zs ps s _ Z8 P8 (by omega) hps1 (by omega) (hm.below BB8.out)).mono ?_
    rintro e_ w9 ⟨rfl, h9⟩
    go_wp2_with fail
    refine (FindPhrase_spec A8 _ _ _ _ _ _ zs ps s _ (Z8.below h9) (P8.below h9) (by omega) hps1 (by omega)).mono ?_
    rintro e_ w10 ⟨rfl, h10⟩
    have h910 := next h9 h10
    have h810 := next h8 h910
    have BB := Lib.hid (next BB8.out h910)
    have XX := Lib.hid (X7.below h810)
    have JJ := Lib.hid (J7.below h810)
    have YY := Lib.hid (Y7.below h810)
    have ZZ := Lib.hid (Z8.below h910)
    have PP := Lib.hid (P8.below h910)
    have hg10 : g < w10.heap.size := Nat.lt_of_lt_of_le hgl h910.size
    have HM := Lib.hid (hm.below BB.out)
    clear X7 J7 Y7 Z8 P8 BB7 BB8 h8 h9 h10 h910 h810 hgl hps1 hx hm
    have k1 : (nsCode xs ig [a, b] != nsCode xs ig [a, b]) = false := by simp
    have k2 : (cpVal xs ig a b != cpVal xs ig a b) = false := by simp
    have k3 : (cwrCode ys y z != cwrCode ys y z) = false := by simp
    have k4 : (cwrVal ys y z != cwrVal ys y z) = false := by simp
    have k5 : (fpCode zs ps s != fpCode zs ps s) = false := by simp
    have k6 : (fpVal zs ps s != fpVal zs ps s) = false := by simp
    have HWB := Lib.hid (fun h W hx hm => words_back (A := A5) (n := ys.length) (c := c5_) (xs := ys) (s := y) (t := z) h W hx hyz hzz hm)
    have HWZ := Lib.hid (fun (h : cwrCode ys y z = 0) => zero_beq (cwr_back h).2.2)
    have HWR := Lib.hid (cwr_rng ys y z)
    have HPB := Lib.hid (fun h W hx hy hm => phr_back (A := A1) (B := B1) (n := xs.length) (c := c1) (m := ig.length) (d := d1) (xs := xs) (ig := ig) (s := a) (t := b) h W hx hy haz hbz hm)
    have HPZ := Lib.hid (fun (h : nsCode xs ig [a, b] = 0) => zero_beq (cp_back h).2.2)
    have HPR := Lib.hid (cp_rng xs ig a b)
    have HTW := Lib.hid (text_beq y z)
    have HTP := Lib.hid (text_beq a b)
    generalize nsCode xs ig [a, b] = q1 at *
    generalize cpVal xs ig a b = v1 at *
    generalize cwrCode ys y z = q2 at *
    generalize cwrVal ys y z = v2 at *
    generalize decide (y = z) = dw at *
    generalize decide (a = b) = dp at *
    have HMS := Lib.hid (fun h hl (A : Option Addr) (q f : Nat) W hx (B : Option Addr) (m d : Nat) hy hp hs hm => more_sorted (A := A8) (B := B) (C := A) (n := zs.length) (c := c8) (m := m) (d := d) (q := q) (f := f) (xs := zs) (ps := ps) (s := s) h hl W hx hy hp hs hm)
    have HFV := Lib.hid (fun (h : fpCode zs ps s = 0) (hl : ps.length < 20) => (fp_law h hl).1)
    have hjk := fp_le zs ps s
    have HMP := Lib.hid (show moreP zs ps s = ps.take (fpIdx zs ps s) ++ [s] ++ ps.drop (fpIdx zs ps s) from rfl)
    have HML := Lib.hid (moreP_len zs ps s)
    have HMZ := Lib.hid (show ∀ x ∈ moreP zs ps s, x.size ≤ 100 from fun x hx => by
      rcases moreP_mem hx with e | e
      · rw [e]; exact hsz
      · exact hpz x e)
    clear hpz hsz haz hbz hyz hzz
    generalize fpCode zs ps s = q3 at *
    generalize fpVal zs ps s = v3 at *
    generalize moreP zs ps s = mp at *
    generalize fpIdx zs ps s = j at *
    generalize hkl : ps.length = k at *
    have HSL := Lib.hid hkl
    clear hkl
    go_upto_if 126 with fail
    go_cut [15, 17] from 32 (fun _ _ wc_ => Below w10.heap.size w10 wc_)
    case first =>
      by_cases hq2 : q2 = 0
      · have HB := HWB.out hq2 _ YY.out HM.out
        have e1 := HWZ.out hq2
        have e2 := HTW.out
        have e3 := HWR.out
        subst hq2
        have e4 : IntKind.i64.wrap (-v2) = -v2 := IntWalk.i64_in _ (by omega)
        have e5 : (-v2 != -v2) = false := by simp
        go_wp2_with fail
        refine HB.mono ?_
        rintro e_ w11 ⟨rfl, h11⟩
        have H11 := Lib.hid h11
        clear HB h11 XX JJ ZZ PP HM BB hg10 HWB HWZ HWR HTW YY k1 k2 k3 k4 k5 k6
        go_wp2
        go_meet
        case rel => exact H11.out
      · have hq21 : (q2 == 0) = false := by simpa using hq2
        clear XX JJ ZZ PP HM BB hg10 HWB HWZ HWR HTW YY k1 k2 k3 k4 k5 k6
        go_wp2
        go_meet
        case rel => exact Below.refl _ _
    case rest =>
      have h11 := hcut
      have XA := Lib.hid (XX.out.below h11)
      have JA := Lib.hid (JJ.out.below h11)
      have ZA := Lib.hid (ZZ.out.below h11)
      have PA := Lib.hid (PP.out.below h11)
      have HMA := Lib.hid (HM.out.below h11)
      have BBA := Lib.hid (next BB.out h11)
      have hgA : g < wc.heap.size := Nat.lt_of_lt_of_le hg10 h11.size
      clear hcut h11 XX JJ ZZ PP HM BB hg10 HWB HWZ HWR HTW YY k1 k2 k3 k4 k5 k6
      by_cases hq3 : q3 = 0
      · by_cases hk20 : k < 20
        · as_aux_lemma =>
            have HFV1 := HFV.out hq3 hk20
            have HMS1 := Lib.hid (HMS.out hq3 hk20)
            subst hq3
            subst HFV1
            have hk20' : (k : Int) < 20 := by omega
            have hcells : ∀ a u, (ps.map Value.string)[a]? = some u → wc.cell? ⟨g, a, none⟩ = some u := fun a u hu => by
              have hak := (List.getElem?_eq_some_iff.1 hu).1
              rw [List.length_map, HSL.out] at hak
              obtain ⟨t, ht, c0, _⟩ := PA.out.el (Below.refl _ _) hgA a hak
              rw [Nat.zero_add] at c0
              rw [List.getElem?_map, ht.out] at hu
              injection hu with hu
              rw [← hu]
              exact c0
            have hcap := PA.out.2.1.le
            have hcm := PA.out.2.1.cap
            unfold maxLen at hcm
            have hgwc := hgA
            have hb0 : Below wc.heap.size wc ((wc.alloc (.cells #[] 9)).drew) := (boxS wc _).drew
            have hbb : Below wc.heap.size wc ((wc.alloc (.cells #[] 9)).alloc (.cells #[.string s] 9)).drew := ((boxS wc _).alloc (boxS wc _).size _).drew
            have hbc : Below wc.heap.size wc ((wc.alloc (.cells #[.string s] 9)).alloc (.cells #[] 9)).drew := ((boxS wc _).alloc (boxS wc _).size _).drew
            have ownA : ((wc.alloc (.cells #[] 9)).drew).ownsRow wc.heap.size 9 1 (.slice (some ⟨wc.heap.size, 0, none⟩) 0 0) 0 [] := World.ownsRow_lit (base := wc.heap.size) (e := 9) (size := 1) wc #[] 0 (Nat.le_refl _) (by unfold maxLen; omega) rfl
            have ownB : (((wc.alloc (.cells #[] 9)).alloc (.cells #[.string s] 9)).drew).ownsRow wc.heap.size 9 1 (.slice (some ⟨wc.heap.size, 0, none⟩) 0 0) 0 [] := (World.ownsRow.alloc (w := wc.alloc (.cells #[] 9)) ownA (.cells #[.string s] 9)).drew
            have ownC : (((wc.alloc (.cells #[.string s] 9)).alloc (.cells #[] 9)).drew).ownsRow wc.heap.size 9 1 (.slice (some ⟨wc.heap.size + 1, 0, none⟩) 0 0) 0 [] := by
              have h := own_low (World.ownsRow_lit (base := wc.heap.size) (e := 9) (size := 1) (wc.alloc (.cells #[.string s] 9)) #[] 0 (by simp) (by unfold maxLen; omega) rfl) (Nat.le_refl _)
              rw [show (wc.alloc (.cells #[.string s] 9)).heap.size = wc.heap.size + 1 by simp] at h
              exact h.drew
            have xB : (((wc.alloc (.cells #[] 9)).alloc (.cells #[.string s] 9)).drew).cell? ⟨wc.heap.size + 1, 0, none⟩ = some (.string s) := by
              have h := cell_newS (wc.alloc (.cells #[] 9)) (.string s) 9 0 _ rfl
              rw [show (wc.alloc (.cells #[] 9)).heap.size = wc.heap.size + 1 by simp, addr_addS] at h
              exact h
            have xC : (((wc.alloc (.cells #[.string s] 9)).alloc (.cells #[] 9)).drew).cell? ⟨wc.heap.size, 0, none⟩ = some (.string s) := by
              have h := cell_newS wc (.string s) 9 0 _ rfl
              rw [addr_addS] at h
              exact cell_keep (boxS (wc.alloc (.cells #[.string s] 9)) (.cells #[] 9)).drew h
            have one_ : ∀ (W : World) (t : Nat), W.cell? ⟨t, 0, none⟩ = some (.string s) → ∀ j u, [Value.string s][j]? = some u → W.cell? ((⟨t, 0, none⟩ : Addr).add j) = some u := fun W t h j u hu => by
              match j, hu with
              | 0, hu => injection hu with hu; subst hu; rw [addr_addS]; exact h
            have hnA : ∀ W : World, W.heap[g]? = wc.heap[g]? → ∀ a u, ((ps.take j).map Value.string)[a]? = some u → W.cell? ((⟨g, 0, none⟩ : Addr).add a) = some u := fun W hW a u hu => by
              rw [List.map_take, List.getElem?_take] at hu
              split at hu
              · rw [addr_addS, Nat.zero_add]; exact (World.cell?_of_block hW).trans (hcells _ _ hu)
              · cases hu
            have newsA := hnA _ (hb0.block g hgwc)
            have newsB := hnA _ (hbb.block g hgwc)
            have newsC := hnA _ (hbc.block g hgwc)
            have hla : ((ps.take j).map Value.string).length = j * 1 := by rw [List.length_map, List.length_take, HSL.out]; omega
            have hlb : ((ps.drop j).map Value.string).length = (k - j) * 1 := by rw [List.length_map, List.length_drop, HSL.out]; omega
            have oneA : ∀ u ∈ (ps.take j).map Value.string, u.oneCell' = true := fun u hu => by obtain ⟨z, _, rfl⟩ := List.mem_map.1 hu; rfl
            have oneB : ∀ u ∈ (ps.drop j).map Value.string, u.oneCell' = true := fun u hu => by obtain ⟨z, _, rfl⟩ := List.mem_map.1 hu; rfl
            have hrow : ∀ W : World, W.heap[g]? = wc.heap[g]? → ∀ a u, ((ps.drop j).map Value.string)[a]? = some u → W.cell? ⟨g, j + a, none⟩ = some u := fun W hW a u hu => by
              rw [List.map_drop, List.getElem?_drop] at hu
              exact (World.cell?_of_block hW).trans (hcells _ _ hu)
            obtain ⟨AB, hAB, hsrcB⟩ : ∃ AB : Addr, (if cap = j then (some ⟨g, 0, none⟩ : Option Addr) else some ⟨g, j, none⟩) = some AB ∧ ∀ W : World, W.heap[g]? = wc.heap[g]? → ∀ a u, ((ps.drop j).map Value.string)[a]? = some u → W.cell? (AB.add a) = some u := by
              by_cases h : cap = j
              · refine ⟨⟨g, 0, none⟩, by simp [h], fun W _ a u hu => ?_⟩
                have := (List.getElem?_eq_some_iff.1 hu).1
                omega
              · exact ⟨⟨g, j, none⟩, by simp [h], fun W hW a u hu => by rw [addr_addS]; exact hrow W hW a u hu⟩
            have hq1 : (0 : Int) ≤ (j : Int) := by omega
            have hq2 : (j : Int) ≤ (cap : Int) := by omega
            have hq3 : (j : Int) ≤ (k : Int) := by omega
            have hq4 : (k : Int) ≤ (cap : Int) := by omega
            have hq5 : (0 : Int) ≤ (k : Int) := by omega
            have HLE := Lib.hid (show 0 + j + 1 + (k - j) = k + 1 by omega)
            have hcases : cap = j ∨ ¬ cap = j := Decidable.em _
            clear hrow hcells hnA
            rcases hcases with hcj | hcj
            · rw [if_pos hcj] at hAB
              have hAB := (Option.some.inj hAB).symm
              subst hAB
              obtain rfl : k = j := by omega
              subst hcj
              go_wp2_with fail
              (go_region_law (first
                | (refine step_ownS_in rfl _ _ 24 rfl wc.heap.size 9 i0 (.string ⟨#[]⟩) 1 16 Tryz.underlying24 hi hz0 hz1 hz2 rfl (by decide) _ _ _ rfl ownA _ _ _ _ rfl hla newsA oneA (by unfold maxLen; omega) (by omega) hb0.size ?_; intro v5 w5 own5 grow5 lie5; have hb5 := hb0.grown grow5 hb0.size (fun q hq => by have e : wc.heap.size = q := Option.some.inj hq; omega); have hz5 := hb5.size)
                | (refine step_ownS_in rfl _ _ 24 rfl wc.heap.size 9 i0 (.string ⟨#[]⟩) 1 16 Tryz.underlying24 hi hz0 hz1 hz2 rfl (by decide) _ _ _ rfl ownB _ _ _ _ rfl hla newsB oneA (by unfold maxLen; omega) (by omega) hbb.size ?_; intro v5 w5 own5 grow5 lie5; have hb5 := hbb.grown grow5 hbb.size (fun q hq => by have e : wc.heap.size = q := Option.some.inj hq; omega); have hz5 := hb5.size; have x5 := one_ w5 _ ((World.cell?_of_block (grow5.block (wc.heap.size + 1) (by simp <;> omega) (fun e => by have e := Option.some.inj e; simp at e))).trans xB))
                | (refine step_ownS_in rfl _ _ 24 rfl wc.heap.size 9 i0 (.string ⟨#[]⟩) 1 16 Tryz.underlying24 hi hz0 hz1 hz2 rfl (by decide) _ _ _ rfl ownC _ _ _ _ rfl hla newsC oneA (by unfold maxLen; omega) (by omega) hbc.size ?_; intro v5 w5 own5 grow5 lie5; have hb5 := hbc.grown grow5 hbc.size (fun q hq => by have e : wc.heap.size + 1 = q := Option.some.inj hq; omega); have hz5 := hb5.size; have x5 := one_ w5 _ ((World.cell?_of_block (grow5.block wc.heap.size (by simp <;> omega) (fun e => by have e := Option.some.inj e; simp at e))).trans xC))
                | (refine step_ownS_in rfl _ _ 24 rfl wc.heap.size 9 i0 (.string ⟨#[]⟩) 1 16 Tryz.underlying24 hi hz0 hz1 hz2 rfl (by decide) _ _ _ rfl (own5.alloc _) ⟨w5.heap.size, 0, none⟩ 1 1 [.string s] rfl rfl (cell_newS _ _ _) (by simp [Value.oneCell']) (by unfold maxLen; omega) (by omega) (by simp; omega) ?_; intro v7 w7 own7 grow7 lie7; have hb6 := hb5.alloc hb5.size (.cells #[.string s] 9); have hb7 := hb6.grown grow7 hb6.size (fun q hq => (own5.lt q hq).1); have news7 := hsrcB w7 (hb7.block g hgwc); have hz7 := hb7.size)
                | (refine step_ownS_in rfl _ _ 24 rfl wc.heap.size 9 i0 (.string ⟨#[]⟩) 1 16 Tryz.underlying24 hi hz0 hz1 hz2 rfl (by decide) _ _ _ rfl own5 _ 1 1 [.string s] rfl rfl x5 (by simp [Value.oneCell']) (by unfold maxLen; omega) (by omega) hb5.size ?_; intro v7 w7 own7 grow7 lie7; have hb7 := hb5.grown grow7 hb5.size (fun q hq => (own5.lt q hq).1); have news7 := hsrcB w7 (hb7.block g hgwc); have hz7 := hb7.size)
                | (refine step_ownS_in rfl _ _ 24 rfl wc.heap.size 9 i0 (.string ⟨#[]⟩) 1 16 Tryz.underlying24 hi hz0 hz1 hz2 rfl (by decide) _ _ _ rfl own7 _ _ _ _ rfl (by first | exact hlb | (rw [hlb]; simp)) news7 oneB (by unfold maxLen; omega) (by omega) hz7 ?_; intro v8 w8 own8 grow8 lie8)))
              all_goals
                have hb8 := hb7.grown grow8 hb7.size (fun q hq => (own7.lt q hq).1)
                have own9 : w8.ownsRow wc.heap.size 9 1 v8 mp.length (mp.map Value.string) := by
                  rw [HML.out, HMP.out, ← HLE.out]; simpa [List.map_append, List.map_take, List.map_drop] using own8
                obtain ⟨g9, cap9, rfl⟩ := own_at own9 (by rw [HML.out]; omega)
                have hno := box1 w8 (.cells #[] 2)
                have hin : Ints (w8.alloc (.cells #[] 2)) (some ⟨w8.heap.size, 0, none⟩) 0 0 [] := ints_alloc w8 [] 2 (by unfold maxLen; simp)
                have HS9 := strs_own4 own9 rfl HMZ.out (by omega)
                have hb9 := next hb8 hno
                have HC9 := HMS1.out _ _ _ _ (ZA.out.below hb9) _ _ _ hin (HS9.below hno) HMZ.out (HMA.out.below hb9)
                have X9 := Lib.hid (XA.out.below hb9)
                have J9 := Lib.hid (JA.out.below hb9)
                have M9 := Lib.hid (HMA.out.below hb9)
                have B9 := Lib.hid (next BBA.out hb9)
                clear own9 hb8 own8 grow8 lie8 own7 grow7 lie7 hb7 news7 HS9 hno hin hb9
                try clear hb6
                try clear x5
                clear own5 grow5 lie5 hb5 ownA ownB ownC xB xC one_ newsA newsB newsC hb0 hbb hbc hla hlb oneA oneB hsrcB
                go_wp2_with fail
                refine HC9.mono ?_
                rintro e_ w30 ⟨rfl, h30⟩
                have X30 := X9.out.below h30
                have J30 := J9.out.below h30
                have HMX := Lib.hid (M9.out.below h30)
                have BB30 := next B9.out h30
                clear HC9 X9 J9 M9 B9 h30
                by_cases hq1 : q1 = 0
                · have HB := HPB.out hq1 _ X30 J30 (HMX.out)
                  have e1 := HPZ.out hq1
                  have e2 := HTP.out
                  have e3 := HPR.out
                  subst hq1
                  have e4 : IntKind.i64.wrap (-v1) = -v1 := IntWalk.i64_in _ (by omega)
                  have e5 : (-v1 == -v1) = true := by simp
                  have HE := Lib.hid BB30
                  clear BB30
                  go_wp2_with fail
                  refine HB.mono ?_
                  rintro e_ w40 ⟨rfl, h40⟩
                  have HE2 := Lib.hid (next HE.out h40)
                  clear HB h40 HE
                  go_wp2
                  go_ret
                  exact ⟨rfl, HE2.out⟩
                · have hq11 : (q1 != 0) = true := by simpa using hq1
                  have HE := Lib.hid BB30
                  clear BB30
                  go_wp2
                  go_ret
                  exact ⟨rfl, HE.out⟩
            · rw [if_neg hcj] at hAB
              have hAB := (Option.some.inj hAB).symm
              subst hAB
              go_wp2_with fail
              (go_region_law (first
                | (refine step_ownS_in rfl _ _ 24 rfl wc.heap.size 9 i0 (.string ⟨#[]⟩) 1 16 Tryz.underlying24 hi hz0 hz1 hz2 rfl (by decide) _ _ _ rfl ownA _ _ _ _ rfl hla newsA oneA (by unfold maxLen; omega) (by omega) hb0.size ?_; intro v5 w5 own5 grow5 lie5; have hb5 := hb0.grown grow5 hb0.size (fun q hq => by have e : wc.heap.size = q := Option.some.inj hq; omega); have hz5 := hb5.size)
                | (refine step_ownS_in rfl _ _ 24 rfl wc.heap.size 9 i0 (.string ⟨#[]⟩) 1 16 Tryz.underlying24 hi hz0 hz1 hz2 rfl (by decide) _ _ _ rfl ownB _ _ _ _ rfl hla newsB oneA (by unfold maxLen; omega) (by omega) hbb.size ?_; intro v5 w5 own5 grow5 lie5; have hb5 := hbb.grown grow5 hbb.size (fun q hq => by have e : wc.heap.size = q := Option.some.inj hq; omega); have hz5 := hb5.size; have x5 := one_ w5 _ ((World.cell?_of_block (grow5.block (wc.heap.size + 1) (by simp <;> omega) (fun e => by have e := Option.some.inj e; simp at e))).trans xB))
                | (refine step_ownS_in rfl _ _ 24 rfl wc.heap.size 9 i0 (.string ⟨#[]⟩) 1 16 Tryz.underlying24 hi hz0 hz1 hz2 rfl (by decide) _ _ _ rfl ownC _ _ _ _ rfl hla newsC oneA (by unfold maxLen; omega) (by omega) hbc.size ?_; intro v5 w5 own5 grow5 lie5; have hb5 := hbc.grown grow5 hbc.size (fun q hq => by have e : wc.heap.size + 1 = q := Option.some.inj hq; omega); have hz5 := hb5.size; have x5 := one_ w5 _ ((World.cell?_of_block (grow5.block wc.heap.size (by simp <;> omega) (fun e => by have e := Option.some.inj e; simp at e))).trans xC))
                | (refine step_ownS_in rfl _ _ 24 rfl wc.heap.size 9 i0 (.string ⟨#[]⟩) 1 16 Tryz.underlying24 hi hz0 hz1 hz2 rfl (by decide) _ _ _ rfl (own5.alloc _) ⟨w5.heap.size, 0, none⟩ 1 1 [.string s] rfl rfl (cell_newS _ _ _) (by simp [Value.oneCell']) (by unfold maxLen; omega) (by omega) (by simp; omega) ?_; intro v7 w7 own7 grow7 lie7; have hb6 := hb5.alloc hb5.size (.cells #[.string s] 9); have hb7 := hb6.grown grow7 hb6.size (fun q hq => (own5.lt q hq).1); have news7 := hsrcB w7 (hb7.block g hgwc); have hz7 := hb7.size)
                | (refine step_ownS_in rfl _ _ 24 rfl wc.heap.size 9 i0 (.string ⟨#[]⟩) 1 16 Tryz.underlying24 hi hz0 hz1 hz2 rfl (by decide) _ _ _ rfl own5 _ 1 1 [.string s] rfl rfl x5 (by simp [Value.oneCell']) (by unfold maxLen; omega) (by omega) hb5.size ?_; intro v7 w7 own7 grow7 lie7; have hb7 := hb5.grown grow7 hb5.size (fun q hq => (own5.lt q hq).1); have news7 := hsrcB w7 (hb7.block g hgwc); have hz7 := hb7.size)
                | (refine step_ownS_in rfl _ _ 24 rfl wc.heap.size 9 i0 (.string ⟨#[]⟩) 1 16 Tryz.underlying24 hi hz0 hz1 hz2 rfl (by decide) _ _ _ rfl own7 _ _ _ _ rfl (by first | exact hlb | (rw [hlb]; simp)) news7 oneB (by unfold maxLen; omega) (by omega) hz7 ?_; intro v8 w8 own8 grow8 lie8)))
              all_goals
                have hb8 := hb7.grown grow8 hb7.size (fun q hq => (own7.lt q hq).1)
                have own9 : w8.ownsRow wc.heap.size 9 1 v8 mp.length (mp.map Value.string) := by
                  rw [HML.out, HMP.out, ← HLE.out]; simpa [List.map_append, List.map_take, List.map_drop] using own8
                obtain ⟨g9, cap9, rfl⟩ := own_at own9 (by rw [HML.out]; omega)
                have hno := box1 w8 (.cells #[] 2)
                have hin : Ints (w8.alloc (.cells #[] 2)) (some ⟨w8.heap.size, 0, none⟩) 0 0 [] := ints_alloc w8 [] 2 (by unfold maxLen; simp)
                have HS9 := strs_own4 own9 rfl HMZ.out (by omega)
                have hb9 := next hb8 hno
                have HC9 := HMS1.out _ _ _ _ (ZA.out.below hb9) _ _ _ hin (HS9.below hno) HMZ.out (HMA.out.below hb9)
                have X9 := Lib.hid (XA.out.below hb9)
                have J9 := Lib.hid (JA.out.below hb9)
                have M9 := Lib.hid (HMA.out.below hb9)
                have B9 := Lib.hid (next BBA.out hb9)
                clear own9 hb8 own8 grow8 lie8 own7 grow7 lie7 hb7 news7 HS9 hno hin hb9
                try clear hb6
                try clear x5
                clear own5 grow5 lie5 hb5 ownA ownB ownC xB xC one_ newsA newsB newsC hb0 hbb hbc hla hlb oneA oneB hsrcB
                go_wp2_with fail
                refine HC9.mono ?_
                rintro e_ w30 ⟨rfl, h30⟩
                have X30 := X9.out.below h30
                have J30 := J9.out.below h30
                have HMX := Lib.hid (M9.out.below h30)
                have BB30 := next B9.out h30
                clear HC9 X9 J9 M9 B9 h30
                by_cases hq1 : q1 = 0
                · have HB := HPB.out hq1 _ X30 J30 (HMX.out)
                  have e1 := HPZ.out hq1
                  have e2 := HTP.out
                  have e3 := HPR.out
                  subst hq1
                  have e4 : IntKind.i64.wrap (-v1) = -v1 := IntWalk.i64_in _ (by omega)
                  have e5 : (-v1 == -v1) = true := by simp
                  have HE := Lib.hid BB30
                  clear BB30
                  go_wp2_with fail
                  refine HB.mono ?_
                  rintro e_ w40 ⟨rfl, h40⟩
                  have HE2 := Lib.hid (next HE.out h40)
                  clear HB h40 HE
                  go_wp2
                  go_ret
                  exact ⟨rfl, HE2.out⟩
                · have hq11 : (q1 != 0) = true := by simpa using hq1
                  have HE := Lib.hid BB30
                  clear BB30
                  go_wp2
                  go_ret
                  exact ⟨rfl, HE.out⟩
        · have hk20' : ¬ (k : Int) < 20 := by omega
          subst hq3
          have HMX := HMA
          have X50 := XA.out
          have J50 := JA.out
          have BB50 := BBA.out
          by_cases hq1 : q1 = 0
          · have HB := HPB.out hq1 _ X50 J50 (HMX.out)
            have e1 := HPZ.out hq1
            have e2 := HTP.out
            have e3 := HPR.out
            subst hq1
            have e4 : IntKind.i64.wrap (-v1) = -v1 := IntWalk.i64_in _ (by omega)
            have e5 : (-v1 == -v1) = true := by simp
            have HE := Lib.hid BB50
            clear BB50
            go_wp2_with fail
            refine HB.mono ?_
            rintro e_ w40 ⟨rfl, h40⟩
            have HE2 := Lib.hid (next HE.out h40)
            clear HB h40 HE
            go_wp2
            go_ret
            exact ⟨rfl, HE2.out⟩
          · have hq11 : (q1 != 0) = true := by simpa using hq1
            have HE := Lib.hid BB50
            clear BB50
            go_wp2
            go_ret
            exact ⟨rfl, HE.out⟩
      · have hq31 : (q3 == 0) = false := by simpa using hq3
        have HMX := HMA
        have X50 := XA.out
        have J50 := JA.out
        have BB50 := BBA.out
        by_cases hq1 : q1 = 0
        · have HB := HPB.out hq1 _ X50 J50 (HMX.out)
          have e1 := HPZ.out hq1
          have e2 := HTP.out
          have e3 := HPR.out
          subst hq1
          have e4 : IntKind.i64.wrap (-v1) = -v1 := IntWalk.i64_in _ (by omega)
          have e5 : (-v1 == -v1) = true := by simp
          have HE := Lib.hid BB50
          clear BB50
          go_wp2_with fail
          refine HB.mono ?_
          rintro e_ w40 ⟨rfl, h40⟩
          have HE2 := Lib.hid (next HE.out h40)
          clear HB h40 HE
          go_wp2
          go_ret
          exact ⟨rfl, HE2.out⟩
        · have hq11 : (q1 != 0) = true := by simpa using hq1
          have HE := Lib.hid BB50
          clear BB50
          go_wp2
          go_ret
          exact ⟨rfl, HE.out⟩
end Go.Proofs.YtpnbbhomkneflaaGreatDoor.fnCompared
