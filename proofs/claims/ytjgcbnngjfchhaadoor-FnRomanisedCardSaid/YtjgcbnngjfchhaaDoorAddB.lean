/- AddRule: the reference's. -/
import Derived.Test.YtjgcbnngjfchhaaDoorAddA
namespace Go.Proofs.YtjgcbnngjfchhaaDoor
open Go.ChangeShapes Go.WideShapes Go.ChangeAt Go.RowKit
theorem Rules.row_ {w : World} {b off n c : Nat} {T : List Rl} (h : Rules w (some ⟨b, off, none⟩) n c T) : ∃ cs : List Value, cs.length = n * 2 ∧ (∀ j u, cs[j]? = some u → w.cell? ((⟨b, off, none⟩ : Addr).add j) = some u) ∧ (∀ u ∈ cs, u.oneCell' = true) ∧
    ∀ i, i < n → ∃ B m d xs r, T[i]? = some (xs, r) ∧ cs[i * 2]? = some (.slice B m d) ∧ cs[i * 2 + 1]? = some (.string r) ∧ Ints w B m d xs ∧ r.size ≤ maxLen := by
  rcases Nat.eq_zero_or_pos n with h0 | h0
  · subst h0
    exact ⟨[], rfl, fun j u hu => by simp at hu, fun u hu => by simp at hu, fun i hi => absurd hi (Nat.not_lt_zero _)⟩
  · obtain ⟨cs, h1, h2, h3, h4⟩ := h.row h0
    exact ⟨cs, h1, fun j u hu => by rw [addr_add_]; exact h2 j u hu, h3, h4⟩
theorem rowr_set {w2 w7 : World} {base n q : Nat} {v : Value} {T : List Rl} {cs : List Value} {B' : Option Addr} {m' d' : Nat} {xs : List Int} {r : ByteArray} (hn : n = T.length) (hl : cs.length = n * 2)
    (hcs : ∀ i, i < n → ∃ B m d xs r, T[i]? = some (xs, r) ∧ cs[i * 2]? = some (.slice B m d) ∧ cs[i * 2 + 1]? = some (.string r) ∧ Ints w2 B m d xs ∧ r.size ≤ maxLen) (hd : Below w2.heap.size w2 w7)
    (hrow : w7.ownsRow base 39 2 v n ((cs.set (q * 2) (.slice B' m' d')).set (q * 2 + 1) (.string r))) (hq : q < n) (hz : Ints w2 B' m' d' xs) (hr : r.size ≤ maxLen) :
    RowR w7 base v n (T.set q (xs, r)) ((cs.set (q * 2) (.slice B' m' d')).set (q * 2 + 1) (.string r)) := by
  refine ⟨hrow, by rw [List.length_set]; exact hn, fun i hi => ?_⟩
  by_cases e : i = q
  · subst e
    refine ⟨B', m', d', xs, r, ?_, ?_, ?_, hz.below hd, hr⟩
    · rw [List.getElem?_set_self (by omega)]
    · rw [List.getElem?_set_ne (by omega), List.getElem?_set_self (by omega)]
    · rw [List.getElem?_set_self (by rw [List.length_set]; omega)]
  · obtain ⟨B, m, d, ys, t, a, b, c, f, g⟩ := hcs i hi
    refine ⟨B, m, d, ys, t, ?_, ?_, ?_, f.below hd, g⟩
    · rw [List.getElem?_set_ne (fun e' => e e'.symm)]; exact a
    · rw [List.getElem?_set_ne (by omega), List.getElem?_set_ne (by omega)]; exact b
    · rw [List.getElem?_set_ne (by omega), List.getElem?_set_ne (by omega)]; exact c
theorem rowr_snoc {w2 w7 : World} {base n : Nat} {v : Value} {T : List Rl} {cs : List Value} {A : Option Addr} {m d : Nat} {xs : List Int} {r : ByteArray} (hn : n = T.length) (hl : cs.length = n * 2)
    (hcs : ∀ i, i < n → ∃ B m d xs r, T[i]? = some (xs, r) ∧ cs[i * 2]? = some (.slice B m d) ∧ cs[i * 2 + 1]? = some (.string r) ∧ Ints w2 B m d xs ∧ r.size ≤ maxLen) (hd : Below w2.heap.size w2 w7)
    (hrow : w7.ownsRow base 39 2 v (n + 1) (cs ++ [.slice A m d, .string r])) (hz : Ints w7 A m d xs) (hr : r.size ≤ maxLen) :
    RowR w7 base v (n + 1) (T ++ [(xs, r)]) (cs ++ [.slice A m d, .string r]) := by
  refine ⟨hrow, by simp; omega, fun i hi => ?_⟩
  by_cases e : i < n
  · obtain ⟨B, m, d, ys, t, a, b, c, f, g⟩ := hcs i e
    refine ⟨B, m, d, ys, t, ?_, ?_, ?_, f.below hd, g⟩
    · rw [List.getElem?_append_left (by omega)]; exact a
    · rw [List.getElem?_append_left (by omega)]; exact b
    · rw [List.getElem?_append_left (by omega)]; exact c
  · obtain rfl : i = n := by omega
    refine ⟨A, m, d, xs, r, ?_, ?_, ?_, hz, hr⟩
    · rw [List.getElem?_append_right (by omega), hn]; simp
    · rw [List.getElem?_append_right (by omega), hl]; simp
    · rw [List.getElem?_append_right (by omega), hl, show i * 2 + 1 - i * 2 = 1 by omega]; rfl
set_option maxRecDepth 100000 in
set_option maxHeartbeats 4000000 in
theorem AddRule_spec (b off n c : Nat) (B : Option Addr) (m d : Nat) (T : List Rl) (xs : List Int) (r : ByteArray) (w : World) (hx : Rules w (some ⟨b, off, none⟩) n c T) (hy : Ints w B m d xs) (hr : r.size ≤ maxLen) :
    Calls Tryd.prog 16 #[.slice (some ⟨b, off, none⟩) n c, .agg #[.slice B m d, .string r]] w fun e w' => ∃ v, e = .returned (.tuple #[v, .int .i64 (arCode T xs r)]) ∧ OwnRules w' w.heap.size w'.heap.size v (arList T xs r).length (arList T xs r) ∧ Below w.heap.size w w' := by
  have hcm := hx.cap.2
  have hnc := hx.cap.1
  have HX := Lib.hid hx.1
  unfold maxLen at hcm
  have b0 := one_box w (.cells #[.slice B m d, .string r] 39)
  rcases ar_cases T xs r with ⟨ha, HF⟩ | ⟨ha, hl, HF⟩ | hrest
  · go_enter Tryd.func16, Tryd.ntmps16
    go_wp2_with fail
    refine (isb (IsTable_spec _ n c T _ (hx.below b0)) ha).mono ?_
    rintro e_ w1 ⟨rfl, h1⟩
    have hc_w1 := bcell h1; have hf_w1 := bfree h1
    go_wp2
    go_ret2
    exact ⟨_, by rw [HF.out.2]; rfl, by rw [HF.out.1]; exact ⟨[], OwnR.nil _ _⟩, next b0 h1⟩
  · go_enter Tryd.func16, Tryd.ntmps16
    go_wp2_with fail
    refine (isb (IsTable_spec _ n c T _ (hx.below b0)) ha).mono ?_
    rintro e_ w1 ⟨rfl, h1⟩
    have hc_w1 := bcell h1; have hf_w1 := bfree h1
    have hz_w1_0 : w.heap.size < w1.heap.size := by have hz_ := h1.size; (try simp at hz_); omega
    go_wp2_with fail
    refine (isb (IsRule_spec B m d xs r _ ((hy.below b0).below h1) hr) hl).mono ?_
    rintro e_ w2 ⟨rfl, h2⟩
    have hc_w2 := bcell h2; have hf_w2 := bfree h2
    go_wp2
    go_ret2
    exact ⟨_, by rw [HF.out.2]; rfl, by rw [HF.out.1]; exact ⟨[], OwnR.nil _ _⟩, next (next b0 h1) h2⟩
  · have hh : isTab T = true ∧ isRl (xs, r) = true := by rcases hrest with ⟨a, b, _⟩ | ⟨a, b, _⟩ | ⟨a, b, _⟩ <;> exact ⟨a, b⟩
    obtain ⟨ha, hl⟩ := hh
    have hn30 : n ≤ 30 := by have := isTab_len ha; have := hx.1; omega
    have hm3 : m ≤ 3 ∧ 1 ≤ m := by have := isRl_len hl; have := hy.1; omega
    have HREST := Lib.hid hrest
    clear hrest
    obtain ⟨b3, off3, rfl, _⟩ := hy.at_ 0 (by omega)
    obtain ⟨i1, hi1, hy0, hy1, hy2⟩ := info_parts infoRule
    go_enter Tryd.func16, Tryd.ntmps16
    go_wp2_with fail
    refine (isb (IsTable_spec _ n c T _ (hx.below b0)) ha).mono ?_
    rintro e_ w1 ⟨rfl, h1⟩
    have hc_w1 := bcell h1; have hf_w1 := bfree h1
    have hz_w1_0 : w.heap.size < w1.heap.size := by have hz_ := h1.size; (try simp at hz_); omega
    go_wp2_with fail
    refine (isb (IsRule_spec _ m d xs r _ ((hy.below b0).below h1) hr) hl).mono ?_
    rintro e_ w2 ⟨rfl, h2⟩
    have hc_w2 := bcell h2; have hf_w2 := bfree h2
    have hz_w2_0 : w.heap.size < w2.heap.size := by have hz_ := h2.size; (try simp at hz_); omega
    have bb2 := next (next b0 h1) h2
    have hx2 := hx.below bb2
    obtain ⟨cs, hcl, hcell, hone, hcs⟩ := hx2.row_
    have q0 := cell_keep h2 (cell_keep h1 (show (w.alloc (.cells #[.slice (some ⟨b3, off3, none⟩) m d, .string r] 39)).cell? ⟨w.heap.size, 0, none⟩ = some (.slice (some ⟨b3, off3, none⟩) m d) by simp))
    have q1 := cell_keep h2 (cell_keep h1 (show (w.alloc (.cells #[.slice (some ⟨b3, off3, none⟩) m d, .string r] 39)).cell? ⟨w.heap.size, 1, none⟩ = some (.string r) by simp))
    have hzw : w.heap.size < w2.heap.size := World.block_lt_of_cell? w2 _ q0
    have hyy := hy.below bb2
    clear hc_w1 hf_w1 hc_w2 hf_w2 ha hl h1 h2 hx hz_w1_0 hz_w2_0
    have hb3 := one_box w2 (.cells #[] 39)
    go_wp2_with (at_builtin; refine wpList_append_own _ rfl _ _ 27 rfl w2.heap.size 39 i1 (.agg #[.slice none 0 0, .string ⟨#[]⟩]) 2 40 Tryd.underlying27 hi1 hy0 hy1 hy2 rfl (by decide) _ _ _ rfl (World.ownsRow_lit (base := w2.heap.size) (e := 39) (size := 2) w2 #[] 0 (Nat.le_refl _) (by unfold maxLen; omega) rfl) ⟨b, off, none⟩ n c cs rfl hcl ?c1 hone ?c3 ?c4 ?c5 ?_)
    case c1 => exact fun j u hu => cell_keep hb3 (hcell j u hu)
    case c3 => unfold maxLen; omega
    case c4 => omega
    case c5 => simp
    intro v4 w4 own4 grow4 _
    have hb4 : Below w2.heap.size w2 w4 := hb3.grown grow4 (by simp) (fun k hk => by have e : w2.heap.size = k := Option.some.inj hk; omega)
    have R4 : RowR w4 w2.heap.size v4 n T cs := ⟨by simpa using own4, HX.out, fun i hi => by
      obtain ⟨B', m', d', xs', r', a, b, c, e, f⟩ := hcs i hi
      exact ⟨B', m', d', xs', r', a, b, c, e.below hb4, f⟩⟩
    have hx4 := hx2.below hb4
    have hy4 := hyy.below hb4
    have p0 := cell_keep hb4 q0
    have p1 := cell_keep hb4 q1
    have bb4 := next bb2 hb4
    have hz4 := hb4.size
    have HCS := Lib.hid hcs
    have HCELL := Lib.hid hcell
    have HCL := Lib.hid hcl
    clear own4 grow4 hb3 hcell hone hcs hx2 q0 q1 hcl b0
    obtain ⟨q, hq⟩ : ∃ q : Int, fndR T xs = q := ⟨_, rfl⟩
    have hfn := isn (l04Find_any (some ⟨b, off, none⟩) _ n c m d T xs w4 hx4 hy4) hq
    have HQ := Lib.hid hq
    clear hq
    go_wp2_with fail
    refine hfn.mono ?_
    rintro e_ w5 ⟨rfl, h5⟩
    have R5 := R4.below h5
    have d5 := next hb4 h5
    have hx5 := hx4.below h5
    have hy5 := hy4.below h5
    have z0 := cell_keep h5 p0
    have z1 := cell_keep h5 p1
    have bb5 := next bb4 h5
    have hz5 := h5.size
    clear hfn h5 p0 p1 hx4 hy4 R4 bb4 hb4
    rcases HREST.out with ⟨_, _, qn, r0, hf, hTq, HT, HF⟩ | ⟨_, _, hf, h30, HT, HF⟩ | ⟨_, _, hf, h30, HT, HF⟩
    · obtain rfl : q = (qn : Int) := by rw [← HQ.out, hf]
      have hqn : qn < n := by rw [HX.out]; exact (List.getElem?_eq_some_iff.1 hTq).1
      have HTq := Lib.hid hTq
      clear HREST HQ hf hTq
      obtain ⟨B', m', d', xs', r', hTk, hc0, hc1, hz, hrz⟩ := HCS.out qn hqn
      have c0 := cell_keep d5 (HCELL.out _ _ hc0)
      rw [addr_add_] at c0
      have hTe := hTk.symm.trans HTq.out
      injection hTe with hTe
      injection hTe with e1 e2
      subst e1; subst e2
      obtain ⟨g, cap, rfl⟩ := own_shape R5.row (by omega)
      have hgl := R5.row.lt g rfl
      have g0 := R5.row.cellAt (qn * 2) (by have := R5.row.1; omega)
      have g1 := R5.row.cellAt (qn * 2 + 1) (by have := R5.row.1; omega)
      have f0 := R5.row.frozenAt (qn * 2)
      have f1 := R5.row.frozenAt (qn * 2 + 1)
      rw [List.getElem?_eq_getElem (by have := R5.row.1; omega)] at g0 g1
      have s1 := R5.row.stored (qn * 2) (.slice B' m' d')
      have s2 := s1.1.stored (qn * 2 + 1) (.string r)
      have dd : Below w2.heap.size w2 ((w5.setCell ⟨g, qn * 2, none⟩ (.slice B' m' d')).setCell ⟨g, qn * 2 + 1, none⟩ (.string r)).drew := ((d5.setCell hgl.1 _).setCell hgl.1 _).drew
      have R7 := rowr_set HX.out HCL.out HCS.out dd (own_below s2.1 (Below.refl _ _).drew) hqn hz hr
      have bb7 : Below w.heap.size w ((w5.setCell ⟨g, qn * 2, none⟩ (.slice B' m' d')).setCell ⟨g, qn * 2 + 1, none⟩ (.string r)).drew := ((bb5.setCell (Nat.le_trans (Nat.le_of_lt hzw) hgl.1) _).setCell (Nat.le_trans (Nat.le_of_lt hzw) hgl.1) _).drew
      obtain ⟨A7, c7, hv7, hR7⟩ := R7.rules
      injection hv7 with e1 _ e3
      subst e1; subst e3
      have HS := Lib.hid (show ∀ (k : Nat) ys t, (T.set qn (xs', r))[k]? = some (ys, t) → 1 ≤ ys.length ∧ ys.length ≤ 1048576 from fun k ys t h => by have := isRl_len (isTab_at HT.out h).1; omega)
      have HR7 := Lib.hid hR7
      have HB7 := Lib.hid bb7
      clear s1 s2 dd R7 bb7 hR7 hgl hTk hc0 hc1 hz hrz
      go_wp2_with fail
      go_region_law (fail)
      all_goals
        go_wp2_with fail
        refine (isb (IsTable_spec _ n _ _ _ HR7.out) HT.out).mono ?_
        rintro e_ w8 ⟨rfl, h8⟩
        have HR8 := Lib.hid (HR7.out.below h8)
        have HB8 := Lib.hid (next HB7.out h8)
        clear h8
        go_wp2_with fail
        refine (l04Own_any _ n _ _ _ HR8.out (by omega) HS.out).mono ?_
        rintro e_ w9 ⟨v9, rfl, ho9, h9⟩
        have HO9 := Lib.hid (show OwnRules w9 w.heap.size w9.heap.size v9 (T.set qn (xs', r)).length (T.set qn (xs', r)) by rw [List.length_set, ← HX.out]; exact ho9.imp fun _ h => h.mono HB8.out.size)
        have HB9 := Lib.hid (next HB8.out h9)
        clear ho9 h9
        go_wp2
        go_ret2
        exact ⟨_, by rw [HF.out.2]; rfl, by rw [HF.out.1]; exact HO9.out, HB9.out⟩
    · obtain rfl : q = -1 := by rw [← HQ.out, hf]
      clear HREST HQ hf
      have d5' := d5.drew
      have NB := own_below R5.row (Below.refl w5.heap.size w5).drew
      have hcl := l01Own_any b3 off3 m d xs _ (hy5.below (Below.refl w5.heap.size w5).drew) (by omega)
      have zc0 : w5.drew.cell? ⟨w.heap.size, 0, none⟩ = some (.slice (some ⟨b3, off3, none⟩) m d) := z0
      have zc : w5.drew.cell? ⟨w.heap.size, 1, none⟩ = some (.string r) := z1
      have hz25 : w2.heap.size ≤ w5.drew.heap.size := d5'.size
      go_wp2_with fail
      (go_region_law (first
        | (refine step_own_in rfl _ _ 27 rfl w2.heap.size 39 i1 (.agg #[.slice none 0 0, .string ⟨#[]⟩]) 2 40 Tryd.underlying27 hi1 hy0 hy1 hy2 rfl (by decide) _ _ _ rfl (N6.alloc _) ⟨w6.heap.size, 0, none⟩ 1 1 [.slice Au m cu, .string r] rfl rfl (cell_two_new _ _ _ _) (by simp [Value.oneCell']) (by unfold maxLen; omega) (by omega) (by simp; omega) ?_; intro v7 w7 own7 grow7 hlie)
        | (go_simp; go_at_call 42; refine hcl.mono ?_; rintro e_ w6 ⟨u, rfl, hu, h6⟩; have hu' := own_ints_ hu; obtain ⟨Au, cu, rfl, xu⟩ := hu'; have N6 := own_below NB h6; have hz6 := (show w2.heap.size ≤ w6.heap.size from Nat.le_trans hz25 h6.size); have z2 := cell_keep h6 zc)))
      all_goals
        have D6 := (next d5' h6).alloc hz6 (.cells #[.slice Au m cu, .string r] 39)
        have D7 := D6.grown grow7 (by simp; omega) (fun k hk => (NB.lt k hk).1)
        have U7 := own_far (own_below hu (one_box w6 (.cells #[.slice Au m cu, .string r] 39))) grow7 (fun k hk e => by have := (hu.lt k hk).1; have := (NB.lt k e).2; omega)
        have R7 := rowr_snoc HX.out HCL.out HCS.out D7 own7 (own_ints U7) hr
        have bb7 : Below w.heap.size w w7 := bb2.trans (D7.mono (Nat.le_of_lt hzw))
        obtain ⟨A7, c7, hv7, hR7⟩ := R7.rules
        subst hv7
        have HR7 := Lib.hid hR7
        have HB7 := Lib.hid bb7
        clear D6 D7 U7 R7 bb7 hR7 own7 grow7 hlie hu N6 z2 h6 xu
        go_wp2_with fail
        refine (isb (IsTable_spec _ (n + 1) _ _ _ HR7.out) HT.out).mono ?_
        rintro e_ w8 ⟨rfl, h8⟩
        have HR8 := Lib.hid (HR7.out.below h8)
        have HB8 := Lib.hid (next HB7.out h8)
        clear h8
        go_wp2
        go_ret2
        exact ⟨_, by rw [HF.out.2]; rfl, by rw [HF.out.1]; exact ⟨[], OwnR.nil _ _⟩, HB8.out⟩
    · obtain rfl : q = -1 := by rw [← HQ.out, hf]
      clear HREST HQ hf
      have d5' := d5.drew
      have NB := own_below R5.row (Below.refl w5.heap.size w5).drew
      have hcl := l01Own_any b3 off3 m d xs _ (hy5.below (Below.refl w5.heap.size w5).drew) (by omega)
      have zc0 : w5.drew.cell? ⟨w.heap.size, 0, none⟩ = some (.slice (some ⟨b3, off3, none⟩) m d) := z0
      have zc : w5.drew.cell? ⟨w.heap.size, 1, none⟩ = some (.string r) := z1
      have hz25 : w2.heap.size ≤ w5.drew.heap.size := d5'.size
      go_wp2_with fail
      (go_region_law (first
        | (refine step_own_in rfl _ _ 27 rfl w2.heap.size 39 i1 (.agg #[.slice none 0 0, .string ⟨#[]⟩]) 2 40 Tryd.underlying27 hi1 hy0 hy1 hy2 rfl (by decide) _ _ _ rfl (N6.alloc _) ⟨w6.heap.size, 0, none⟩ 1 1 [.slice Au m cu, .string r] rfl rfl (cell_two_new _ _ _ _) (by simp [Value.oneCell']) (by unfold maxLen; omega) (by omega) (by simp; omega) ?_; intro v7 w7 own7 grow7 hlie)
        | (go_simp; go_at_call 42; refine hcl.mono ?_; rintro e_ w6 ⟨u, rfl, hu, h6⟩; have hu' := own_ints_ hu; obtain ⟨Au, cu, rfl, xu⟩ := hu'; have N6 := own_below NB h6; have hz6 := (show w2.heap.size ≤ w6.heap.size from Nat.le_trans hz25 h6.size); have z2 := cell_keep h6 zc)))
      all_goals
        have D6 := (next d5' h6).alloc hz6 (.cells #[.slice Au m cu, .string r] 39)
        have D7 := D6.grown grow7 (by simp; omega) (fun k hk => (NB.lt k hk).1)
        have U7 := own_far (own_below hu (one_box w6 (.cells #[.slice Au m cu, .string r] 39))) grow7 (fun k hk e => by have := (hu.lt k hk).1; have := (NB.lt k e).2; omega)
        have R7 := rowr_snoc HX.out HCL.out HCS.out D7 own7 (own_ints U7) hr
        have bb7 : Below w.heap.size w w7 := bb2.trans (D7.mono (Nat.le_of_lt hzw))
        obtain ⟨A7, c7, hv7, hR7⟩ := R7.rules
        subst hv7
        have HR7 := Lib.hid hR7
        have HB7 := Lib.hid bb7
        clear D6 D7 U7 R7 bb7 hR7 own7 grow7 hlie hu N6 z2 h6 xu
        go_wp2_with fail
        refine (isb (IsTable_spec _ (n + 1) _ _ _ HR7.out) HT.out).mono ?_
        rintro e_ w8 ⟨rfl, h8⟩
        have HR8 := Lib.hid (HR7.out.below h8)
        have HB8 := Lib.hid (next HB7.out h8)
        clear h8
        have HS := Lib.hid (show ∀ (k : Nat) ys t, (T ++ [(xs, r)])[k]? = some (ys, t) → 1 ≤ ys.length ∧ ys.length ≤ 1048576 from fun k ys t h => by have := isRl_len (isTab_at HT.out h).1; omega)
        go_wp2_with fail
        refine (l04Own_any _ (n + 1) _ _ _ HR8.out (by omega) HS.out).mono ?_
        rintro e_ w9 ⟨v9, rfl, ho9, h9⟩
        have HO9 := Lib.hid (show OwnRules w9 w.heap.size w9.heap.size v9 (T ++ [(xs, r)]).length (T ++ [(xs, r)]) by rw [List.length_append, ← HX.out]; exact ho9.imp fun _ h => h.mono HB8.out.size)
        have HB9 := Lib.hid (next HB8.out h9)
        clear ho9 h9
        go_wp2
        go_ret2
        exact ⟨_, by rw [HF.out.2]; rfl, by rw [HF.out.1]; exact HO9.out, HB9.out⟩
end Go.Proofs.YtjgcbnngjfchhaaDoor
