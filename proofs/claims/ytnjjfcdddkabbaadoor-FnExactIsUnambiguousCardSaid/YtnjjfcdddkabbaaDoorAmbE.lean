/- The reference's learning: two lists of the call's own. -/
import Derived.Test.YtnjjfcdddkabbaaDoorAmbC
import Derived.Maps.AppendAt
namespace Go.Proofs.YtnjjfcdddkabbaaDoor
open Go.ChangeShapes Go.WideShapes Go.ChangeAt Go.RowKit
theorem hasT_first : ∀ {xs : List ByteArray} {s : ByteArray}, hasT xs s = true → ∃ k, xs[k]? = some s ∧ hasT (xs.take k) s = false
  | [], s, h => by cases h
  | x :: xs, s, h => by
    rw [hasT_cons] at h
    by_cases e : x = s
    · exact ⟨0, by rw [e]; rfl, rfl⟩
    · rw [decide_eq_false e, Bool.false_or] at h
      obtain ⟨k, h1, h2⟩ := hasT_first h
      exact ⟨k + 1, by simpa using h1, by rw [List.take_succ_cons, hasT_cons, h2, decide_eq_false e]; rfl⟩
theorem two_small {R rs ts : List ByteArray} (hR : ∀ r ∈ R, r.size ≤ 4) (hl : R.length ≤ 30) (h : Two R rs ts) : (∀ s ∈ rs, s.size ≤ 4) ∧ (∀ s ∈ ts, s.size ≤ 604) ∧ rs.length ≤ 150 := by
  have hu := univ_len hR
  have h1 := h.short
  refine ⟨fun s hs => ?_, fun s hs => ?_, by omega⟩
  · obtain ⟨k, hk⟩ := List.getElem?_of_mem hs
    have hk1 := (List.getElem?_eq_some_iff.1 hk).1
    have e : ts[k]? = some (ts[k]'(by rw [← h.len]; exact hk1)) := List.getElem?_eq_getElem _
    exact univ_size hR (h.fit.dom _ _ (h.get hk e))
  · obtain ⟨k, hk⟩ := List.getElem?_of_mem hs
    have hk1 := (List.getElem?_eq_some_iff.1 hk).1
    have e : rs[k]? = some (rs[k]'(by rw [h.len]; exact hk1)) := List.getElem?_eq_getElem _
    have h2 := h.fit.size _ _ (h.get e hk)
    have h3 := cntB_le (univ R) (lookB rs ts)
    omega
theorem ask_small {R rs ts : List ByteArray} {t : ByteArray} (hR : ∀ r ∈ R, r.size ≤ 4) (hl : R.length ≤ 30) (ht : t.size ≤ 4 * (1 + cntB (univ R) (lookB rs ts)) + 4) : t.size ≤ 608 := by
  have hu := univ_len hR
  have h3 := cntB_le (univ R) (lookB rs ts)
  omega
/-- two lists of texts in blocks of their own -/
structure Own2 (w : World) (base : Nat) (v1 v2 : Value) (rs ts : List ByteArray) : Prop where
  one : w.ownsRow base 9 1 v1 rs.length (rs.map Value.string)
  two : w.ownsRow base 9 1 v2 ts.length (ts.map Value.string)
  apart : ∀ k, v1.ownBlock = some k → v2.ownBlock ≠ some k
theorem Own2.below {w w' : World} {base : Nat} {v1 v2 : Value} {rs ts : List ByteArray} (h : Own2 w base v1 v2 rs ts) (hb : Below w.heap.size w w') : Own2 w' base v1 v2 rs ts :=
  ⟨own_below h.one hb, own_below h.two hb, h.apart⟩
theorem own_other {w w' : World} {base : Nat} {e : TypeId} {size : Nat} {v : Value} {n : Nat} {xs : List Value} {row : Option Nat} (h : w.ownsRow base e size v n xs) (hg : w.grownBy w' row) (hne : ∀ k, v.ownBlock = some k → row ≠ some k) : w'.ownsRow base e size v n xs := by
  refine h.kept hg ?_
  cases hv : v.ownBlock with
  | none => exact .inl rfl
  | some k => exact .inr fun e => hne k hv e.symm
/-- what learning leaves -/
def Learned (R rs ts : List ByteArray) (x t : ByteArray) (base : Nat) (w : World) (e : Ending) (w' : World) : Prop :=
  ∃ v1 v2 rs' ts', e = .returned (.tuple #[v1, v2, .bool (isNewB (lookB rs ts) x t)]) ∧ Own2 w' base v1 v2 rs' ts' ∧ Two R rs' ts' ∧ lookB rs' ts' = learnB (lookB rs ts) x t ∧ (isNewB (lookB rs ts) x t = false → rs' = rs ∧ ts' = ts) ∧ rs.length ≤ rs'.length ∧ Below base w w'
set_option maxRecDepth 100000 in
set_option maxHeartbeats 2000000 in
theorem l05Learn_any (R rs ts : List ByteArray) (x t : ByteArray) (base : Nat) (v1 v2 : Value) (w : World) (hbase : base ≤ w.heap.size) (ho : Own2 w base v1 v2 rs ts) (hT : Two R rs ts) (hx : x ∈ univ R) (ht : t.size ≤ 4 * (1 + cntB (univ R) (lookB rs ts)) + 4) (hR : ∀ r ∈ R, r.size ≤ 4) (hl : R.length ≤ 30) :
    Calls Tryd.prog 26 #[v1, v2, .string x, .string t] w (Learned R rs ts x t base w) := by
  obtain ⟨i0, hi, hz0, hz1, hz2⟩ := info_parts infoStr
  obtain ⟨sm1, sm2, sm3⟩ := two_small hR hl hT
  have htl := ask_small hR hl ht
  have hlen := hT.len
  obtain ⟨A1, c1, rfl, hs1⟩ := own_strs ho.one (fun s hs => by have := sm1 s hs; unfold maxLen; omega)
  have hfi := l03Find_any A1 rs.length c1 rs x w hs1
  cases hh : hasT rs x with
  | false =>
    obtain ⟨a1, a2, a3⟩ := two_new hT hh hx ht
    rw [fnd_none hh] at hfi
    have HA := Lib.hid (And.intro a1 (And.intro a2 a3))
    have HFI := Lib.hid hfi
    have hO1 := ho.one
    have hO2 := ho.two
    have hap := ho.apart
    have hcm := hs1.2.1.cap
    have hnc := hs1.2.1.le
    unfold maxLen at hcm
    obtain ⟨n, hn⟩ : ∃ n, rs.length = n := ⟨_, rfl⟩
    rw [← hlen, hn] at hO2
    rw [hn] at HFI hO1 sm3 hnc hap ⊢
    have hap := Lib.hid hap
    have HN := Lib.hid hn
    have HL := Lib.hid hlen
    clear hn hlen a1 a2 a3 hfi hs1 ho hT hx ht hh sm1 sm2
    go_enter Tryd.func26, Tryd.ntmps26
    go_wp2_with fail
    refine HFI.out.mono ?_
    rintro e_ w1 ⟨rfl, h1⟩
    have hB1 : Below base w w1 := h1.mono hbase
    have hO1 := own_below hO1 h1
    have hO2 := own_below hO2 h1
    have hz1' := hB1.size
    have hzb : base ≤ w1.heap.size := Nat.le_trans hbase hz1'
    go_wp2_with (at_builtin; refine wpList_append_own_at _ rfl _ _ 45 rfl base 9 i0 (.string ⟨#[]⟩) 1 16 Tryd.underlying45 hi hz0 hz1 hz2 rfl (by decide) _ _ _ rfl (hO1.alloc _) ⟨w1.heap.size, 0, none⟩ 1 1 [.string x] rfl rfl ?c1 ?c2 ?c3 ?c4 ?c5 ?_)
    case c1 => exact cell_one_new _ _ _
    case c2 => simp [Value.oneCell']
    case c3 => unfold maxLen; omega
    case c4 => omega
    case c5 => simp; omega
    intro v4 w4 hown4 hgrow4 _ hloc4
    have hO2' := own_other (hO2.alloc (.cells #[.string x] 9)) hgrow4 (fun k hk e => hap.out k e hk)
    have hz4 := hgrow4.size
    have hap4 : ∀ k, v4.ownBlock = some k → v2.ownBlock ≠ some k := fun k hk e => by
      rcases hloc4 with h | h
      · exact hap.out k (h.symm.trans hk) e
      · have := (hO2.lt k e).2
        rw [hk] at h
        injection h with h
        (try simp at h)
        omega
    have hB4 := (hB1.alloc hzb (.cells #[.string x] 9)).grown hgrow4 (by simp; omega) (fun q hq => (hO1.lt q hq).1)
    have HB4 := Lib.hid hB4
    have hzb4 : base ≤ w4.heap.size := Nat.le_trans hbase hB4.size
    clear hloc4 hgrow4 hz4 hB4 hO1 hO2 hap
    have HAP := Lib.hid hap4
    clear hap4
    go_wp2_with (at_builtin; refine wpList_append_own_at _ rfl _ _ 45 rfl base 9 i0 (.string ⟨#[]⟩) 1 16 Tryd.underlying45 hi hz0 hz1 hz2 rfl (by decide) _ _ _ rfl (hO2'.alloc _) ⟨w4.heap.size, 0, none⟩ 1 1 [.string t] rfl rfl ?c1 ?c2 ?c3 ?c4 ?c5 ?_)
    case c1 => exact cell_one_new _ _ _
    case c2 => simp [Value.oneCell']
    case c3 => unfold maxLen; omega
    case c4 => omega
    case c5 => simp; omega
    intro v5 w5 hown5 hgrow5 _ hloc5
    have hO1' := own_other (hown4.alloc (.cells #[.string t] 9)) hgrow5 (fun k hk e => HAP.out k hk e)
    have hap5 : ∀ k, v4.ownBlock = some k → v5.ownBlock ≠ some k := fun k hk e => by
      rcases hloc5 with h | h
      · exact HAP.out k hk (h.symm.trans e)
      · have := (hown4.lt k hk).2
        rw [e] at h
        injection h with h
        (try simp at h)
        omega
    have HB5 := Lib.hid ((HB4.out.alloc hzb4 (.cells #[.string t] 9)).grown hgrow5 (by simp; omega) (fun q hq => (hO2'.lt q hq).1))
    have HO := Lib.hid (show Own2 w5 base v4 v5 (rs ++ [x]) (ts ++ [t]) from ⟨by rw [List.length_append, List.map_append, HN.out]; exact hO1', by rw [List.length_append, List.map_append, ← HL.out, HN.out]; exact hown5, hap5⟩)
    clear hloc5 hgrow5 hap5 hO1' hown5 hown4 hO2'
    go_wp2
    go_ret3
    exact ⟨_, _, _, _, by rw [HA.out.2.2]; rfl, HO.out, HA.out.1, HA.out.2.1, fun h => by (rw [HA.out.2.2] at h; cases h), by simp, HB5.out⟩
  | true =>
    obtain ⟨k, hk1, hk2⟩ := hasT_first hh
    rw [fnd_at hk1 hk2] at hfi
    have hkl := (List.getElem?_eq_some_iff.1 hk1).1
    have hkt : k < ts.length := by omega
    obtain ⟨u, hu⟩ : ∃ u, ts[k]? = some u := ⟨_, List.getElem?_eq_getElem hkt⟩
    have hus := sm2 u (List.mem_of_getElem? hu)
    have hO2 := ho.two
    have hu' : (ts.map Value.string)[k]? = some (.string u) := by rw [List.getElem?_map, hu]; rfl
    obtain ⟨g, c2, rfl⟩ : ∃ g c2, v2 = .slice (some ⟨g, 0, none⟩) ts.length c2 := by
      rcases hO2.2 with ⟨_, h0⟩ | ⟨g, cap, cur, h0, _⟩
      · omega
      · exact ⟨_, _, h0⟩
    have c0 := (hO2.cellAt k (by omega)).trans hu'
    have f0 := hO2.frozenAt k
    have hgl := hO2.lt g rfl
    have hg2 := hgl.1
    have hg3 := hgl.2
    have hlen2 := hlen.symm
    have hki : (k : Int) < (ts.length : Int) := by omega
    cases hb : betB t u with
    | false =>
      obtain ⟨a1, a2⟩ := two_same hT hk1 hu hb
      have HA := Lib.hid (And.intro a1 a2)
      have HO := Lib.hid ho
      have HT := Lib.hid hT
      have HFI := Lib.hid hfi
      obtain ⟨n, hn⟩ : ∃ n, ts.length = n := ⟨_, rfl⟩
      rw [hn] at hkt hki HO ⊢
      clear a1 a2 hfi ho hT hx ht hh hk1 hk2 hu hu' hO2 hs1 sm1 sm2 hn hlen hlen2 hkl hgl
      go_enter Tryd.func26, Tryd.ntmps26
      go_wp2_with fail
      refine HFI.out.mono ?_
      rintro e_ w1 ⟨rfl, h1⟩
      have c1 := cell_keep h1 c0
      have hgw : g < w1.heap.size := Nat.lt_of_lt_of_le hg3 h1.size
      go_wp2_with fail
      refine (isb (l05Better_any t u _ (by unfold maxLen; omega) (by unfold maxLen; omega)) hb).mono ?_
      rintro e_ w2 ⟨rfl, h2⟩
      have hc_w2 := bcell h2; have hf_w2 := bfree h2
      have HB2 := Lib.hid (show Below base w w2 from (next h1 h2).mono hbase)
      have HO2 := Lib.hid ((HO.out.below h1).below h2)
      go_wp2
      go_ret3
      exact ⟨_, _, _, _, by rw [HA.out.2]; rfl, HO2.out, HT.out, HA.out.1, fun _ => ⟨rfl, rfl⟩, Nat.le_refl _, HB2.out⟩
    | true =>
      obtain ⟨a1, a2, a3⟩ := two_better hT hk1 hu hb hx ht
      have HA := Lib.hid (And.intro a1 (And.intro a2 a3))
      have HO := Lib.hid ho
      have HFI := Lib.hid hfi
      obtain ⟨n, hn⟩ : ∃ n, ts.length = n := ⟨_, rfl⟩
      rw [hn] at hkt hki HO ⊢
      have HN := Lib.hid hn
      clear a1 a2 a3 hfi ho hT hx ht hh hk1 hk2 hu hu' hO2 hs1 sm1 sm2 hn hlen hlen2 hkl hgl
      go_enter Tryd.func26, Tryd.ntmps26
      go_wp2_with fail
      refine HFI.out.mono ?_
      rintro e_ w1 ⟨rfl, h1⟩
      have c1 := cell_keep h1 c0
      have hgw : g < w1.heap.size := Nat.lt_of_lt_of_le hg3 h1.size
      go_wp2_with fail
      refine (isb (l05Better_any t u _ (by unfold maxLen; omega) (by unfold maxLen; omega)) hb).mono ?_
      rintro e_ w2 ⟨rfl, h2⟩
      have hc_w2 := bcell h2; have hf_w2 := bfree h2
      have c2' := cell_keep h2 c1
      have hgw2 : g < w2.heap.size := Nat.lt_of_lt_of_le hgw h2.size
      have HB2 := Lib.hid (show Below base w (w2.setCell ⟨g, k, none⟩ (.string t)) from ((next h1 h2).mono hbase).setCell hg2 _)
      have hO2 := (HO.out.below h1).below h2
      have f1 : w1.frozen? ⟨g, k, none⟩ = false := (h1.frozen (p := ⟨g, k, none⟩) hg3).trans f0
      have f2 : w2.frozen? ⟨g, k, none⟩ = false := (h2.frozen (p := ⟨g, k, none⟩) hgw).trans f1
      have HO2 := Lib.hid (show Own2 (w2.setCell ⟨g, k, none⟩ (.string t)) base _ _ rs (ts.set k t) from ⟨own_other hO2.one (grown_set w2 g k (.string t)) (fun q hq e => hO2.apart q hq (by rw [← e]; rfl)), by
        have h := hO2.two
        rw [List.length_set, List.map_set]
        rw [HN.out] at h ⊢
        exact (h.stored k (.string t)).1, hO2.apart⟩)
      clear hO2
      go_wp2
      go_ret3
      exact ⟨_, _, _, _, by rw [HA.out.2.2]; rfl, HO2.out, HA.out.1, HA.out.2.1, fun h => by (rw [HA.out.2.2] at h; cases h), Nat.le_refl _, HB2.out⟩
theorem own_text {w : World} {base : Nat} {e : TypeId} {v : Value} {xs : List ByteArray} {k : Nat} {x : ByteArray} (h : w.ownsRow base e 1 v xs.length (xs.map Value.string)) (hk : xs[k]? = some x) :
    ∃ g c, v = .slice (some ⟨g, 0, none⟩) xs.length c ∧ g < w.heap.size ∧ xs.length ≤ c ∧ c ≤ maxLen ∧ w.cell? ⟨g, k, none⟩ = some (.string x) := by
  have hkl := (List.getElem?_eq_some_iff.1 hk).1
  have hu : (xs.map Value.string)[k]? = some (.string x) := by rw [List.getElem?_map, hk]; rfl
  have h' := h
  rcases h'.2 with ⟨_, h0⟩ | ⟨g, cap, cur, rfl, hb, hg, hnc, hcm, _⟩
  · omega
  · exact ⟨g, cap, rfl, (h.lt g rfl).2, hnc, hcm, (h.cellAt k (by omega)).trans hu⟩
theorem zip_at {rs ts : List ByteArray} {k : Nat} {x t : ByteArray} (h1 : rs[k]? = some x) (h2 : ts[k]? = some t) : (ts.zip rs)[k]? = some (t, x) := by
  rw [List.getElem?_zip_eq_some]
  exact ⟨h2, h1⟩
theorem zip_mem {rs ts : List ByteArray} {x t : ByteArray} (h : lookB rs ts x = some t) : (t, x) ∈ ts.zip rs := by
  obtain ⟨k, h1, _, h3⟩ := look_some h
  exact List.mem_of_getElem? (zip_at h1 h3)
/-- what a step of a row leaves -/
def RowPost (R : List ByteArray) (f0 : Best) (L : List (ByteArray × ByteArray)) (i : Nat) (x t : ByteArray) (k : Nat) (ch nb : Bool) (rs ts : List ByteArray) (base : Nat) (w : World) (e : Ending) (w' : World) : Prop :=
  ∃ v1 v2 rs' ts', e = .returned (.tuple #[v1, v2, .bool nb]) ∧ Own2 w' base v1 v2 rs' ts' ∧ Two R rs' ts' ∧ InRow R f0 L i x t (k + 1) (lookB rs' ts') (ch || nb) ∧ (nb = false → rs' = rs ∧ ts' = ts) ∧ rs.length ≤ rs'.length ∧ Below base w w'
theorem learn_row {R rs ts : List ByteArray} {f0 : Best} {L : List (ByteArray × ByteArray)} {i k : Nat} {x t r x' t' : ByteArray} {ch : Bool} (hR : ∀ r ∈ R, r.size ≤ 4) (hl : R.length ≤ 30) (hT : Two R rs ts) (h : InRow R f0 L i x t k (lookB rs ts) ch) (hr : R[k]? = some r) (h0 : x.size ≠ 0) (hs : stepB x t r = some (x', t')) :
    ∃ nb, ∀ (base : Nat) (v1 v2 : Value) (w : World), base ≤ w.heap.size → Own2 w base v1 v2 rs ts → Calls Tryd.prog 26 #[v1, v2, .string x', .string t'] w (RowPost R f0 L i x t k ch nb rs ts base w) := by
  obtain ⟨a1, a2⟩ := inRow_ask hR h hr hs
  refine ⟨isNewB (lookB rs ts) x' t', fun base v1 v2 w hb ho => ?_⟩
  refine (l05Learn_any R rs ts x' t' base v1 v2 w hb ho hT a1 a2 hR hl).mono ?_
  rintro e w' ⟨u1, u2, rs', ts', he, h1, h2, h3, h4, h5, h6⟩
  exact ⟨u1, u2, rs', ts', he, h1, h2, by rw [h3]; exact inRow_step hR h hr h0 hs, h4, h5, h6⟩
end Go.Proofs.YtnjjfcdddkabbaaDoor
