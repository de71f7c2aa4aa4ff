/- The years of one set that are not in another one: the program's loops. -/
import Derived.Test.YtldikfikcnkgcaaYrA
import Derived.Test.YtldikfikcnkgcaaSpans2
namespace Go.Proofs.Ytldikfikcnkgcaa
open Go.ChangeShapes Go.WideShapes Go.ChangeAt Go.RowKit
theorem wIn_hit {e a b f : Int} {r out : List Sp} (h : spMeets f e a b = true) : wIn e ((a, b) :: r) f out = wIn e r (b + 1) (if f < a then out ++ [(f, a - 1)] else out) := by
  unfold spMeets at h
  have h := of_decide_eq_true h
  conv => lhs; unfold wIn
  rw [if_pos h]
theorem wIn_miss {e a b f : Int} {r out : List Sp} (h : spMeets f e a b = false) : wIn e ((a, b) :: r) f out = wIn e r f out := by
  unfold spMeets at h
  have h := of_decide_eq_false h
  conv => lhs; unfold wIn
  rw [if_neg h]
theorem drop_at {xs : List Sp} {k : Nat} {s : Sp} (hk : k < xs.length) (h : xs.getD k (0, 0) = s) : xs.drop k = s :: xs.drop (k + 1) := by
  rw [List.drop_eq_getElem_cons hk]
  congr 1
  rw [List.getD_eq_getElem?_getD, List.getElem?_eq_getElem hk] at h
  exact h
theorem own_setS {w : World} {base b j : Nat} {e : TypeId} {size : Nat} {v u : Value} {n : Nat} {xs : List Value} (h : w.ownsRow base e size v n xs) (hne : v.ownBlock ≠ some b) : (w.setCell ⟨b, j, none⟩ u).ownsRow base e size v n xs := by
  refine ⟨h.1, h.2.imp id fun ⟨g, cap, cur, h1, h2, h3, r⟩ => ⟨g, cap, cur, h1, h2, ?_, r⟩⟩
  rw [Below.heap_setCell _ _ _ g (fun e => hne (by rw [h1]; show some g = some b; rw [e]))]
  exact h3
set_option maxRecDepth 100000 in
set_option maxHeartbeats 4000000 in
theorem without_any (A B : Option Addr) (n c m d : Nat) (xs ys : List Sp) (w : World) (hx : Spans w A n c xs) (hy : Spans w B m d ys) (ha : areYears xs = true) (hb : areYears ys = true) :
    Calls Try.prog 37 #[.slice A n c, .slice B m d] w fun e w' => ∃ v, e = .returned v ∧ w'.ownsRow w.heap.size 42 2 v (wOut ys xs []).length (spanCells (wOut ys xs [])) ∧ Below w.heap.size w w' := by
  obtain ⟨i0, hi, hz0, hz1, hz2⟩ := info_parts infoSpan
  have hcm := hx.2.cap
  have hnc := hx.2.le
  have hdm := hy.2.cap
  have hmd := hy.2.le
  unfold maxLen at hcm hdm
  have HX := Lib.hid hx.1
  have HY := Lib.hid hy.1
  have HA := Lib.hid (areYears_at ha)
  have HB := Lib.hid (areYears_at hb)
  have hn12 : n ≤ 12 := by rw [HX.out]; exact HA.out.1
  have hm12 : m ≤ 12 := by rw [HY.out]; exact HB.out.1
  clear ha hb
  go_enter Try.func37, Try.ntmps37
  go_wp2
  go_loopw [5, 12] (fun v i wr => ∃ (k : Nat) (P : List Sp) (v1 : Value), k ≤ n ∧ i = .int .i64 k ∧ v1 = v ∧ Hid (wOut ys (xs.drop k) P = wOut ys xs []) ∧ P.length ≤ 13 * k ∧ Hid (wr.ownsRow w.heap.size 42 2 v1 P.length (spanCells P)) ∧ Below w.heap.size w wr) (fun _ i _ => n - (intOf i).toNat)
  case atStart => exact ⟨0, [], _, Nat.zero_le _, rfl, rfl, rfl, Nat.le_refl _, World.ownsRow_nil _ _ _ _, Below.refl _ _⟩
  case round =>
    obtain ⟨k, P, v1, hk, rfl, rfl, hP, hPl, hown, hb⟩ := hrel
    rename World => wo
    by_cases hlt : k < n
    · obtain ⟨b, off, rfl, hbl, _⟩ := hx.at_ k hlt
      obtain ⟨f, e, hft, c0, c1⟩ := hx.el hb hbl k hlt
      have hbd := yr_bounds hft (HA.out.2 k (by rw [← HX.out]; exact hlt))
      have HD := Lib.hid (drop_at (by rw [← HX.out]; exact hlt) hft.out)
      have hbs := boxS wo (.cells #[.int .i64 f, .int .i64 e] 42)
      have hzs : wo.heap.size < (wo.alloc (.cells #[.int .i64 f, .int .i64 e] 42)).heap.size := by simp
      have s0 : (wo.alloc (.cells #[.int .i64 f, .int .i64 e] 42)).cell? ⟨wo.heap.size, 0, none⟩ = some (.int .i64 f) := by simp
      have s1 : (wo.alloc (.cells #[.int .i64 f, .int .i64 e] 42)).cell? ⟨wo.heap.size, 1, none⟩ = some (.int .i64 e) := by simp
      have s2 : (wo.alloc (.cells #[.int .i64 f, .int .i64 e] 42)).frozen? ⟨wo.heap.size, 0, none⟩ = false := by simp
      have HS := Lib.hid (And.intro s0 (And.intro s1 s2))
      have HO := Lib.hid (And.intro (own_below hown.out hbs) (show v1.ownBlock ≠ some wo.heap.size from fun e => by have := (hown.out.lt _ e).2; omega))
      have HBS := Lib.hid (And.intro (hb.alloc hb.size (.cells #[.int .i64 f, .int .i64 e] 42)) hzs)
      clear s0 s1 s2 hbs hzs hown
      go_wp2
      go_loopw [5, 18] (fun v i wr => ∃ (j : Nat) (P2 : List Sp) (v2 : Value) (f2 : Int), j ≤ m ∧ i = .int .i64 j ∧ v2 = v ∧ Hid (wIn e (ys.drop j) f2 P2 = wIn e ys f P) ∧ P2.length ≤ 13 * k + j ∧ -3000 ≤ f2 ∧ f2 ≤ 3001 ∧
          Hid (wr.cell? ⟨wo.heap.size, 0, none⟩ = some (.int .i64 f2) ∧ wr.cell? ⟨wo.heap.size, 1, none⟩ = some (.int .i64 e) ∧ wr.frozen? ⟨wo.heap.size, 0, none⟩ = false) ∧
          Hid (wr.ownsRow w.heap.size 42 2 v2 P2.length (spanCells P2) ∧ v2.ownBlock ≠ some wo.heap.size) ∧ Hid (Below w.heap.size w wr ∧ wo.heap.size < wr.heap.size)) (fun _ i _ => m - (intOf i).toNat)
      case atStart => exact ⟨0, P, v1, f, Nat.zero_le _, rfl, rfl, rfl, by omega, by omega, by omega, HS, HO, HBS⟩
      case round =>
        clear HS HO HBS c0 c1
        obtain ⟨j, P2, v2, f2, hj, rfl, rfl, hW, hP2, hf1, hf2, hS, hO, hB2⟩ := hrel
        obtain ⟨s0, s1, s2⟩ := hS.out
        have hbw := hB2.out.1
        have hgz := hB2.out.2
        have hwz := hb.size
        by_cases hlt2 : j < m
        · obtain ⟨b2, off2, rfl, hbl2, _⟩ := hy.at_ j hlt2
          obtain ⟨a', t', hft2, c0, c1⟩ := hy.el hbw hbl2 j hlt2
          have hbd2 := yr_bounds hft2 (HB.out.2 j (by rw [← HY.out]; exact hlt2))
          have HD2 := Lib.hid (drop_at (by rw [← HY.out]; exact hlt2) hft2.out)
          have hbx := boxS wr (.cells #[.int .i64 a', .int .i64 t'] 42)
          have t0 : (wr.alloc (.cells #[.int .i64 a', .int .i64 t'] 42)).cell? ⟨wr.heap.size, 0, none⟩ = some (.int .i64 a') := by simp
          have t1 : (wr.alloc (.cells #[.int .i64 a', .int .i64 t'] 42)).cell? ⟨wr.heap.size, 1, none⟩ = some (.int .i64 t') := by simp
          have hmt := meets_any f2 e a' t' (wr.alloc (.cells #[.int .i64 a', .int .i64 t'] 42))
          cases hm_ : spMeets f2 e a' t' with
          | false =>
            rw [hm_] at hmt
            go_wp2_with fail
            refine hmt.mono ?_
            rintro e_ u1 ⟨rfl, h1⟩
            have hbu := next (next hbw hbx) h1
            have p0 := cell_keep h1 (cell_keep hbx s0)
            have p1 := cell_keep h1 (cell_keep hbx s1)
            have p2 : u1.frozen? ⟨wo.heap.size, 0, none⟩ = false := (bfree h1 _ _ (by simp; omega)).trans ((bfree hbx _ _ hgz).trans s2)
            have q0 := cell_keep h1 t0
            have q1 := cell_keep h1 t1
            have ho1 := own_below (own_below hO.out.1 hbx) h1
            have hne := hO.out.2
            have hgu : wo.heap.size < u1.heap.size := World.block_lt_of_cell? u1 _ p0
            have htu : wr.heap.size < u1.heap.size := World.block_lt_of_cell? u1 _ q0
            have hnt : v2.ownBlock ≠ some wr.heap.size := fun e => by have := (hO.out.1.lt _ e).2; omega
            clear hmt h1 hbx s0 s1 s2 t0 t1 hO hS hbw hB2
            have HW := Lib.hid ((wIn_miss hm_).symm.trans ((congrArg (fun l => wIn e l f2 P2) HD2.out).symm.trans hW.out))
            have HS := Lib.hid (And.intro p0 (And.intro p1 p2))
            have HO := Lib.hid (And.intro ho1 hne)
            have HBB := Lib.hid (And.intro hbu hgu)
            clear p0 p1 p2 ho1 hW hm_ q0 q1
            go_wp2
            go_roundw
            case rel => exact ⟨j + 1, P2, _, f2, by omega, by go_num, rfl, HW.out, by omega, hf1, hf2, HS.out, HO.out, HBB.out⟩
            case measure => simp [intOf]; omega
          | true =>
            rw [hm_] at hmt
            go_wp2_with fail
            refine hmt.mono ?_
            rintro e_ u1 ⟨rfl, h1⟩
            have hbu := next (next hbw hbx) h1
            have p0 := cell_keep h1 (cell_keep hbx s0)
            have p1 := cell_keep h1 (cell_keep hbx s1)
            have p2 : u1.frozen? ⟨wo.heap.size, 0, none⟩ = false := (bfree h1 _ _ (by simp; omega)).trans ((bfree hbx _ _ hgz).trans s2)
            have q0 := cell_keep h1 t0
            have q1 := cell_keep h1 t1
            have ho1 := own_below (own_below hO.out.1 hbx) h1
            have hne := hO.out.2
            have hgu : wo.heap.size < u1.heap.size := World.block_lt_of_cell? u1 _ p0
            have htu : wr.heap.size < u1.heap.size := World.block_lt_of_cell? u1 _ q0
            have hnt : v2.ownBlock ≠ some wr.heap.size := fun e => by have := (hO.out.1.lt _ e).2; omega
            clear hmt h1 hbx s0 s1 s2 t0 t1 hO hS hbw hB2
            by_cases hfa : f2 < a'
            · have HW := Lib.hid (((wIn_hit hm_).symm.trans ((congrArg (fun l => wIn e l f2 P2) HD2.out).symm.trans hW.out)))
              rw [if_pos hfa] at HW
              clear hW hm_
              go_wp2_with (at_builtin; refine wpList_append_own_at _ rfl _ _ 24 rfl w.heap.size 42 i0 (.agg #[.int .i64 0, .int .i64 0]) 2 16 Try.underlying24 hi hz0 hz1 hz2 rfl (by decide) _ _ _ rfl (ho1.alloc _) ⟨u1.heap.size, 0, none⟩ 1 1 [.int .i64 f2, .int .i64 (a' - 1)] rfl rfl ?c1 ?c2 ?c3 ?c4 ?c5 ?_)
              case c1 => exact cell_two_newS _ _ _ _
              case c2 => simp [Value.oneCell']
              case c3 => unfold maxLen; omega
              case c4 => omega
              case c5 => have hs_ := hbu.size; first | omega | (simp; omega)
              intro v4 u4 hown4 hgrow _ hlie
              have hbx4 := boxS u1 (.cells #[.int .i64 f2, .int .i64 (a' - 1)] 42)
              replace p0 := grown_cell hgrow (cell_keep hbx4 p0) hne
              replace p1 := grown_cell hgrow (cell_keep hbx4 p1) hne
              replace p2 : u4.frozen? ⟨wo.heap.size, 0, none⟩ = false := (World.frozen?_of_block (hgrow.block _ (by simp; omega) (fun e => hne e.symm))).trans ((bfree hbx4 _ _ hgu).trans p2)
              replace q1 := grown_cell hgrow (cell_keep hbx4 q1) hnt
              have hne4 : v4.ownBlock ≠ some wo.heap.size := by
                rcases hlie with e | e
                · rw [e]; exact hne
                · rw [e]; simp; omega
              have hbu4 : Below w.heap.size w u4 := (hbu.alloc hbu.size _).grown hgrow (by have := hbu.size; first | omega | (simp; omega)) (fun z hz => (ho1.lt z hz).1)
              have hgu4 : wo.heap.size < u4.heap.size := World.block_lt_of_cell? u4 _ p0
              have HO := Lib.hid (And.intro (show (u4.setCell ⟨wo.heap.size, 0, none⟩ (.int .i64 (t' + 1))).ownsRow w.heap.size 42 2 v4 (P2 ++ [(f2, a' - 1)]).length (spanCells (P2 ++ [(f2, a' - 1)])) from own_setS (by rw [List.length_append, spanCells_append]; exact hown4) hne4) hne4)
              have HS := Lib.hid (show (u4.setCell ⟨wo.heap.size, 0, none⟩ (.int .i64 (t' + 1))).cell? ⟨wo.heap.size, 0, none⟩ = some (.int .i64 (t' + 1)) ∧ (u4.setCell ⟨wo.heap.size, 0, none⟩ (.int .i64 (t' + 1))).cell? ⟨wo.heap.size, 1, none⟩ = some (.int .i64 e) ∧ (u4.setCell ⟨wo.heap.size, 0, none⟩ (.int .i64 (t' + 1))).frozen? ⟨wo.heap.size, 0, none⟩ = false from
                ⟨World.cell?_setCell_same (w := u4) (a := ⟨wo.heap.size, 0, none⟩) (v := .int .i64 (t' + 1)) p0, by rw [World.cell?_setCell_other (w := u4) (a := ⟨wo.heap.size, 0, none⟩) (b := ⟨wo.heap.size, 1, none⟩) (v := .int .i64 (t' + 1)) (by simp)]; exact p1, by rw [World.frozen?_setCell]; exact p2⟩)
              have HBB := Lib.hid (show Below w.heap.size w (u4.setCell ⟨wo.heap.size, 0, none⟩ (.int .i64 (t' + 1))) ∧ wo.heap.size < (u4.setCell ⟨wo.heap.size, 0, none⟩ (.int .i64 (t' + 1))).heap.size from ⟨hbu4.setCell hwz _, by rw [World.size_setCell]; exact hgu4⟩)
              clear hown4 hgrow hlie ho1 hbx4 q0 hbu4 hne4 hne hnt
              go_wp2
              go_roundw
              case rel => exact ⟨j + 1, P2 ++ [(f2, a' - 1)], _, t' + 1, by omega, by go_num, rfl, HW.out, by simp; omega, by omega, by omega, HS.out, HO.out, HBB.out⟩
              case measure => simp [intOf]; omega
            · have HW := Lib.hid (((wIn_hit hm_).symm.trans ((congrArg (fun l => wIn e l f2 P2) HD2.out).symm.trans hW.out)))
              rw [if_neg hfa] at HW
              clear hW hm_
              have HO := Lib.hid (And.intro (show (u1.setCell ⟨wo.heap.size, 0, none⟩ (.int .i64 (t' + 1))).ownsRow w.heap.size 42 2 v2 P2.length (spanCells P2) from own_setS ho1 hne) hne)
              have HS := Lib.hid (show (u1.setCell ⟨wo.heap.size, 0, none⟩ (.int .i64 (t' + 1))).cell? ⟨wo.heap.size, 0, none⟩ = some (.int .i64 (t' + 1)) ∧ (u1.setCell ⟨wo.heap.size, 0, none⟩ (.int .i64 (t' + 1))).cell? ⟨wo.heap.size, 1, none⟩ = some (.int .i64 e) ∧ (u1.setCell ⟨wo.heap.size, 0, none⟩ (.int .i64 (t' + 1))).frozen? ⟨wo.heap.size, 0, none⟩ = false from
                ⟨World.cell?_setCell_same (w := u1) (a := ⟨wo.heap.size, 0, none⟩) (v := .int .i64 (t' + 1)) p0, by rw [World.cell?_setCell_other (w := u1) (a := ⟨wo.heap.size, 0, none⟩) (b := ⟨wo.heap.size, 1, none⟩) (v := .int .i64 (t' + 1)) (by simp)]; exact p1, by rw [World.frozen?_setCell]; exact p2⟩)
              have HBB := Lib.hid (show Below w.heap.size w (u1.setCell ⟨wo.heap.size, 0, none⟩ (.int .i64 (t' + 1))) ∧ wo.heap.size < (u1.setCell ⟨wo.heap.size, 0, none⟩ (.int .i64 (t' + 1))).heap.size from ⟨hbu.setCell hwz _, by rw [World.size_setCell]; exact hgu⟩)
              clear ho1 hne hnt
              go_wp2
              go_roundw
              case rel => exact ⟨j + 1, P2, _, t' + 1, by omega, by go_num, rfl, HW.out, by omega, by omega, by omega, HS.out, HO.out, HBB.out⟩
              case measure => simp [intOf]; omega
        · obtain rfl : j = m := by omega
          have hW2 := hW.out
          rw [List.drop_eq_nil_of_le (by have := HY.out; omega)] at hW2
          have hN : wOut ys (xs.drop k) P = wOut ys (xs.drop (k + 1)) (wEnd e (wIn e ys f P)) := by rw [HD.out]; rfl
          rw [← hW2, hP.out] at hN
          have ho1 := hO.out.1
          by_cases hfe : f2 ≤ e
          · have HN := Lib.hid (show wOut ys (xs.drop (k + 1)) (P2 ++ [(f2, e)]) = wOut ys xs [] by rw [hN]; unfold wEnd wIn; rw [if_pos hfe])
            clear hW hW2 hN hO hS hB2
            go_wp2_with (at_builtin; refine wpList_append_own _ rfl _ _ 24 rfl w.heap.size 42 i0 (.agg #[.int .i64 0, .int .i64 0]) 2 16 Try.underlying24 hi hz0 hz1 hz2 rfl (by decide) _ _ _ rfl (ho1.alloc _) ⟨wr.heap.size, 0, none⟩ 1 1 [.int .i64 f2, .int .i64 e] rfl rfl ?c1 ?c2 ?c3 ?c4 ?c5 ?_)
            case c1 => exact cell_two_newS _ _ _ _
            case c2 => simp [Value.oneCell']
            case c3 => unfold maxLen; omega
            case c4 => omega
            case c5 => have hs_ := hbw.size; first | omega | (simp; omega)
            intro v4 u4 hown4 hgrow _
            have HO := Lib.hid (show u4.ownsRow w.heap.size 42 2 v4 (P2 ++ [(f2, e)]).length (spanCells (P2 ++ [(f2, e)])) by rw [List.length_append, spanCells_append]; exact hown4)
            have HBB := Lib.hid (show Below w.heap.size w u4 from (hbw.alloc hbw.size _).grown hgrow (by have := hbw.size; first | omega | (simp; omega)) (fun z hz => (ho1.lt z hz).1))
            clear hown4 hgrow ho1
            go_wp2
            go_roundw
            case rel => exact ⟨k + 1, P2 ++ [(f2, e)], _, by omega, by go_num, rfl, HN.out, by simp; omega, HO.out, HBB.out⟩
            case measure => simp [intOf]; omega
          · have HN := Lib.hid (show wOut ys (xs.drop (k + 1)) P2 = wOut ys xs [] by rw [hN]; unfold wEnd wIn; rw [if_neg hfe])
            have HO := Lib.hid ho1
            clear hW hW2 hN hO hS hB2 ho1
            go_wp2
            go_roundw
            case rel => exact ⟨k + 1, P2, _, by omega, by go_num, rfl, HN.out, by omega, HO.out, hbw⟩
            case measure => simp [intOf]; omega
    · obtain rfl : k = n := by omega
      have HE := Lib.hid (show wOut ys xs [] = P by rw [← hP.out, List.drop_eq_nil_of_le (by have := HX.out; omega)]; rfl)
      clear hP
      go_wp2
      go_ret
      exact ⟨_, rfl, by rw [HE.out]; exact hown.out, hb⟩
end Go.Proofs.Ytldikfikcnkgcaa
