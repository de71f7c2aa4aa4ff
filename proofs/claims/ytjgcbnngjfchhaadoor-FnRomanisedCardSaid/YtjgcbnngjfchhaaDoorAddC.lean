/- AddRule: the program's. -/
import Derived.Test.YtjgcbnngjfchhaaDoorAddB
namespace Go.Proofs.YtjgcbnngjfchhaaDoor
open Go.ChangeShapes Go.WideShapes Go.ChangeAt Go.RowKit
set_option maxRecDepth 100000 in
set_option maxHeartbeats 4000000 in
theorem AddRule_impl (A : Option Addr) (n c : Nat) (B : Option Addr) (m d : Nat) (T : List Rl) (xs : List Int) (r : ByteArray) (w : World) (hx : Rules w A n c T) (hy : Ints w B m d xs) (hr : r.size ≤ maxLen) :
    Calls Tryd.prog 18 #[.slice A n c, .agg #[.slice B m d, .string r]] w fun e w' => ∃ v, e = .returned (.tuple #[v, .int .i64 (arCode T xs r)]) ∧ OwnRules w' w.heap.size w'.heap.size v (arList T xs r).length (arList T xs r) ∧ Below w.heap.size w w' := by
  have hcm := hx.cap.2
  have hnc := hx.cap.1
  have HX := Lib.hid hx.1
  unfold maxLen at hcm
  have b0 := one_box w (.cells #[.slice B m d, .string r] 39)
  rcases ar_cases T xs r with ⟨ha, HF⟩ | ⟨ha, hl, HF⟩ | hrest
  · go_enter Tryd.func18, Tryd.ntmps18
    go_wp2_with fail
    refine (isb (IsTable_impl _ n c T _ (hx.below b0)) ha).mono ?_
    rintro e_ w1 ⟨rfl, h1⟩
    have hc_w1 := bcell h1; have hf_w1 := bfree h1
    go_wp2
    go_ret2
    exact ⟨_, by rw [HF.out.2]; rfl, by rw [HF.out.1]; exact ⟨[], OwnR.nil _ _⟩, next b0 h1⟩
  · go_enter Tryd.func18, Tryd.ntmps18
    go_wp2_with fail
    refine (isb (IsTable_impl _ n c T _ (hx.below b0)) ha).mono ?_
    rintro e_ w1 ⟨rfl, h1⟩
    have hc_w1 := bcell h1; have hf_w1 := bfree h1
    have hz_w1_0 : w.heap.size < w1.heap.size := by have hz_ := h1.size; (try simp at hz_); omega
    go_wp2_with fail
    refine (isb (IsRule_impl B m d xs r _ ((hy.below b0).below h1) hr) hl).mono ?_
    rintro e_ w2 ⟨rfl, h2⟩
    have hc_w2 := bcell h2; have hf_w2 := bfree h2
    go_wp2
    go_ret2
    exact ⟨_, by rw [HF.out.2]; rfl, by rw [HF.out.1]; exact ⟨[], OwnR.nil _ _⟩, next (next b0 h1) h2⟩
  · have hh : isTab T = true ∧ isRl (xs, r) = true := by rcases hrest with ⟨a, b, _⟩ | ⟨a, b, _⟩ | ⟨a, b, _⟩ <;> exact ⟨a, b⟩
    obtain ⟨ha, hl⟩ := hh
    have hn30 : n ≤ 30 := by have := isTab_len ha; have := hx.1; omega
    have hm3 : m ≤ 3 ∧ 1 ≤ m := by have := isRl_len hl; have := hy.1; omega
    have HREST := Lib.hid hrest
    have HS := Lib.hid (show ∀ (k : Nat) ys t, T[k]? = some (ys, t) → ys.length ≤ 1048576 from fun k ys t h => by have := isRl_len (isTab_at ha h).1; omega)
    clear hrest
    obtain ⟨i1, hi1, hy0, hy1, hy2⟩ := info_parts infoRule
    go_enter Tryd.func18, Tryd.ntmps18
    go_wp2_with fail
    refine (isb (IsTable_impl _ n c T _ (hx.below b0)) ha).mono ?_
    rintro e_ w1 ⟨rfl, h1⟩
    have hc_w1 := bcell h1; have hf_w1 := bfree h1
    have hz_w1_0 : w.heap.size < w1.heap.size := by have hz_ := h1.size; (try simp at hz_); omega
    go_wp2_with fail
    refine (isb (IsRule_impl _ m d xs r _ ((hy.below b0).below h1) hr) hl).mono ?_
    rintro e_ w2 ⟨rfl, h2⟩
    have hc_w2 := bcell h2; have hf_w2 := bfree h2
    have hz_w2_0 : w.heap.size < w2.heap.size := by have hz_ := h2.size; (try simp at hz_); omega
    have bb2 := next (next b0 h1) h2
    have hx2 := hx.below bb2
    have q0 := cell_keep h2 (cell_keep h1 (show (w.alloc (.cells #[.slice B m d, .string r] 39)).cell? ⟨w.heap.size, 0, none⟩ = some (.slice B m d) by simp))
    have q1 := cell_keep h2 (cell_keep h1 (show (w.alloc (.cells #[.slice B m d, .string r] 39)).cell? ⟨w.heap.size, 1, none⟩ = some (.string r) by simp))
    have hzw : w.heap.size < w2.heap.size := World.block_lt_of_cell? w2 _ q0
    have hyy := hy.below bb2
    clear hc_w1 hf_w1 hc_w2 hf_w2 ha hl h1 h2 hx hz_w1_0 hz_w2_0 b0
    go_wp2_with fail
    refine (cloneTable_any A n c T w2 hx2 (by omega) HS.out).mono ?_
    rintro e_ w4 ⟨v4, rfl, ⟨vs, R4⟩, h4⟩
    have hy4 := hyy.below h4
    have p0 := cell_keep h4 q0
    have p1 := cell_keep h4 q1
    have bb4 := next bb2 h4
    have hz4 := h4.size
    obtain ⟨A4, c4, hv4, hR4⟩ : ∃ A4 c4, v4 = .slice A4 n c4 ∧ Rules w4 A4 n c4 T := by
      rcases R4.row.2 with ⟨hv, h0⟩ | ⟨g, cap, cur, hv, _⟩
      · exact ⟨none, 0, by rw [hv, h0], OwnRules.reads (base := w2.heap.size) (top := w4.heap.size) ⟨vs, by rw [hv] at R4; rw [h0] at R4 ⊢; exact R4⟩⟩
      · exact ⟨_, _, hv, OwnRules.reads (base := w2.heap.size) (top := w4.heap.size) ⟨vs, by rw [hv] at R4; exact R4⟩⟩
    subst hv4
    clear hyy q0 q1 hx2
    obtain ⟨q, hq⟩ : ∃ q : Int, fndR T xs = q := ⟨_, rfl⟩
    have hfn := isn (findRule_any A4 B n c4 m d T xs w4 hR4 hy4) hq
    have HQ := Lib.hid hq
    clear hq
    go_wp2_with fail
    refine hfn.mono ?_
    rintro e_ w5 ⟨rfl, h5⟩
    have R5 := R4.below h5
    have hy5 := hy4.below h5
    have z0 := cell_keep h5 p0
    have z1 := cell_keep h5 p1
    have bb5 := next bb4 h5
    have hz5 := h5.size
    have hc4 := hR4.cap.2
    have hc5 := hR4.cap.1
    have R5' : OwnR w5 w2.heap.size w5.heap.size (.slice A4 n c4) n T vs := ⟨R5.len, R5.vlen, R5.row, R5.sg, fun i u k h1 h2 => ⟨Nat.lt_of_lt_of_le (R5.lo i u k h1 h2).1 hz5, (R5.lo i u k h1 h2).2⟩, fun k hk => Nat.lt_of_lt_of_le (R5.vlo k hk) hz5, R5.apart⟩
    unfold maxLen at hc4
    clear hfn h5 p0 p1 hy4 R4 bb4 h4 hR4 R5
    rcases HREST.out with ⟨_, _, qn, r0, hf, hTq, HT, HF⟩ | ⟨_, _, hf, h30, HT, HF⟩ | ⟨_, _, hf, h30, HT, HF⟩
    · obtain rfl : q = (qn : Int) := by rw [← HQ.out, hf]
      have hqn : qn < n := by rw [HX.out]; exact (List.getElem?_eq_some_iff.1 hTq).1
      have HTq := Lib.hid hTq
      clear HREST HQ hf hTq
      obtain ⟨g, cap, hv⟩ := own_shape R5'.row (by omega)
      injection hv with e1 _ e3
      subst e1; subst e3
      have hgl := R5'.row.lt g rfl
      have g1 := R5'.row.cellAt (qn * 2 + 1) (by have := R5'.row.1; omega)
      have f1 := R5'.row.frozenAt (qn * 2 + 1)
      rw [List.getElem?_eq_getElem (by have := R5'.row.1; omega)] at g1
      obtain ⟨u1, hu1⟩ : ∃ u1, w5.cell? ⟨g, qn * 2 + 1, none⟩ = some u1 := ⟨_, g1⟩
      clear g1
      have T5 := (R5'.text HTq.out hr).mono (Nat.le_of_lt hzw)
      have bb7 : Below w.heap.size w (w5.setCell ⟨g, qn * 2 + 1, none⟩ (.string r)) := bb5.setCell (Nat.le_trans (Nat.le_of_lt hzw) hgl.1) _
      have HO := Lib.hid (show OwnRules (w5.setCell ⟨g, qn * 2 + 1, none⟩ (.string r)) w.heap.size (w5.setCell ⟨g, qn * 2 + 1, none⟩ (.string r)).heap.size (.slice (some ⟨g, 0, none⟩) n c4) (T.set qn (xs, r)).length (T.set qn (xs, r)) by
        rw [List.length_set, ← HX.out, World.size_setCell]; exact ⟨_, T5⟩)
      have HB := Lib.hid bb7
      clear T5 bb7 R5' hgl
      go_wp2
      go_ret2
      exact ⟨_, by rw [HF.out.2]; rfl, by rw [HF.out.1]; exact HO.out, HB.out⟩
    · obtain rfl : q = -1 := by rw [← HQ.out, hf]
      obtain rfl : n = 30 := by rw [HX.out, h30]
      clear HREST HQ hf h30 R5'
      go_wp2
      go_ret2
      exact ⟨_, by rw [HF.out.2]; rfl, by rw [HF.out.1]; exact ⟨[], OwnR.nil _ _⟩, bb5⟩
    · obtain rfl : q = -1 := by rw [← HQ.out, hf]
      have hn29 : ((n : Int) == 30) = false := by rw [beq_eq_false_iff_ne]; have := HX.out; omega
      have hn29' : ¬ n = 30 := by have := HX.out; omega
      clear HREST HQ hf h30
      have HD : Below w5.heap.size w5 w5.drew := (Below.refl _ _).drew
      have NB := own_below R5'.row HD
      have hcl := clone_any B m d xs _ (hy5.below HD) (by omega)
      have zc0 : w5.drew.cell? ⟨w.heap.size, 0, none⟩ = some (.slice B m d) := z0
      have zc : w5.drew.cell? ⟨w.heap.size, 1, none⟩ = some (.string r) := z1
      have hz25 : w2.heap.size ≤ w5.drew.heap.size := Nat.le_trans hz4 (Nat.le_trans hz5 HD.size)
      go_wp2_with fail
      (go_region_law (first
        | (refine step_own_in rfl _ _ 27 rfl w2.heap.size 39 i1 (.agg #[.slice none 0 0, .string ⟨#[]⟩]) 2 40 Tryd.underlying27 hi1 hy0 hy1 hy2 rfl (by decide) _ _ _ rfl (N6.alloc _) ⟨w6.heap.size, 0, none⟩ 1 1 [.slice Au m cu, .string r] rfl rfl (cell_two_new _ _ _ _) (by simp [Value.oneCell']) (by unfold maxLen; omega) (by omega) (by simp; omega) ?_; intro v7 w7 own7 grow7 hlie)
        | (go_simp; go_at_call 48; refine hcl.mono ?_; rintro e_ w6 ⟨u, rfl, hu, h6⟩; have hu' := own_ints_ hu; obtain ⟨Au, cu, rfl, xu⟩ := hu'; have N6 := own_below NB h6; have hz6 := (show w2.heap.size ≤ w6.heap.size from Nat.le_trans hz25 h6.size); have z2 := cell_keep h6 zc)))
      all_goals
        have HB6 := (next HD h6).alloc (Nat.le_trans HD.size h6.size) (.cells #[.slice Au m cu, .string r] 39)
        have F := R5'.snoc (u := .slice Au m cu) (r := (xs, r)) HB6 (own_mono' (own_below (by rw [← hy5.1]; exact hu) (box1C w6 _)) HD.size) hr grow7 hlie own7 (Nat.le_trans hz4 hz5)
        have F2 := F.mono (Nat.le_of_lt hzw)
        have HO := Lib.hid (show OwnRules w7 w.heap.size w7.heap.size v7 (T ++ [(xs, r)]).length (T ++ [(xs, r)]) by rw [List.length_append, ← HX.out]; exact ⟨_, F2⟩)
        have HB7 := Lib.hid ((next bb5 HB6).grown grow7 (Nat.le_trans bb5.size HB6.size) (fun k hk => Nat.le_trans (Nat.le_of_lt hzw) (NB.lt k hk).1))
        clear F F2 HB6 own7 grow7 hlie hu N6 z2 h6 xu
        go_wp2
        go_ret2
        exact ⟨_, by rw [HF.out.2]; rfl, by rw [HF.out.1]; exact HO.out, HB7.out⟩
end Go.Proofs.YtjgcbnngjfchhaaDoor
