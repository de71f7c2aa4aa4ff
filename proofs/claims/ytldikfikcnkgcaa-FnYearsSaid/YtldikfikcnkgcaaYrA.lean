/- Sets of years: the walks of l02Build, without, limited. -/
import Derived.Test.YtldikfikcnkgcaaYrLaw
import Derived.Maps.AppendAt
namespace Go.Proofs.Ytldikfikcnkgcaa
open Go.ChangeShapes Go.WideShapes Go.ChangeAt Go.RowKit
theorem grown_cell {w w' : World} {row : Option Nat} (h : w.grownBy w' row) {a : Addr} {v : Value} (hc : w.cell? a = some v) (hne : row ≠ some a.block) : w'.cell? a = some v :=
  (World.cell?_of_block (w := w) (h.block a.block (World.block_lt_of_cell? w _ hc) (fun e => hne e.symm))).trans hc
theorem isb_ {P : Program} {f : FuncId} {args : Array Value} {w : World} {p q : Bool} (h : Calls P f args w fun e w' => e = .returned (.bool p) ∧ Below w.heap.size w w') (e : p = q) :
    Calls P f args w fun e w' => e = .returned (.bool q) ∧ Below w.heap.size w w' := e ▸ h
theorem boxS (w : World) (x : Obj) : Below w.heap.size w (w.alloc x) := (Below.refl _ _).alloc (Nat.le_refl _) _
theorem spanCells_append (xs ys : List Sp) : spanCells (xs ++ ys) = spanCells xs ++ spanCells ys := by simp [spanCells]
theorem spanCells_one (s : Sp) : spanCells [s] = [.int .i64 s.1, .int .i64 s.2] := rfl
theorem spanCells_setTo (Q : List Sp) (f t y : Int) : (spanCells (Q ++ [(f, t)])).set (Q.length * 2 + 1) (.int .i64 y) = spanCells (Q ++ [(f, y)]) := by
  rw [spanCells_append, spanCells_append, List.set_append, if_neg (by rw [spanCells_len]; omega), spanCells_len, show Q.length * 2 + 1 - Q.length * 2 = 1 by omega]
  rfl
theorem cell_two_newS (w : World) (a b : Value) (e : TypeId) : ∀ j u, [a, b][j]? = some u → (w.alloc (.cells #[a, b] e)).cell? ((⟨w.heap.size, 0, none⟩ : Addr).add j) = some u := fun j u hu => by
  match j, hu with
  | 0, hu => injection hu with hu; subst hu; simp [Addr.add]
  | 1, hu => injection hu with hu; subst hu; simp [Addr.add]
theorem own_shapeS {w : World} {base n : Nat} {e : TypeId} {size : Nat} {v : Value} {xs : List Value} (h : w.ownsRow base e size v n xs) (h0 : 0 < n) : ∃ g cap, v = .slice (some ⟨g, 0, none⟩) n cap := by
  rcases h.2 with ⟨_, hn⟩ | ⟨g, cap, cur, hv, _⟩
  · omega
  · exact ⟨g, cap, hv⟩
theorem own_formS {w : World} {base n : Nat} {e : TypeId} {size : Nat} {v : Value} {xs : List Value} (h : w.ownsRow base e size v n xs) : ∃ A c, v = .slice A n c ∧ n ≤ c ∧ c ≤ maxLen := by
  rcases h.2 with ⟨hv, h0⟩ | ⟨g, cap, cur, hv, _, _, h1, h2, _⟩
  · exact ⟨none, 0, by rw [hv, h0], by omega, by unfold maxLen; omega⟩
  · exact ⟨_, _, hv, h1, h2⟩
theorem own_spans {w : World} {base : Nat} {e : TypeId} {A : Option Addr} {n c : Nat} {xs : List Sp} (h : w.ownsRow base e 2 (.slice A n c) n (spanCells xs)) (hn : n = xs.length) : Spans w A n c xs := ⟨hn, Reads.of_own h⟩
theorem own_monoS {w : World} {base base' : Nat} {e : TypeId} {size : Nat} {v : Value} {n : Nat} {xs : List Value} (h : w.ownsRow base e size v n xs) (hb : base' ≤ base) : w.ownsRow base' e size v n xs :=
  ⟨h.1, h.2.imp id fun ⟨g, cap, cur, a, b, r⟩ => ⟨g, cap, cur, a, Nat.le_trans hb b, r⟩⟩
set_option maxHeartbeats 400000 in
theorem limited_yes (A : Option Addr) (n c : Nat) (w : World) (hn : n ≤ 12) (hc : n ≤ c) (hm : c ≤ maxLen) : Calls Try.prog 36 #[.slice A n c] w fun e w' => e = .returned (.tuple #[.slice A n c, .int .i64 0]) ∧ Below w.heap.size w w' := by
  unfold maxLen at hm
  have h1 : ¬ 12 < n := by omega
  go_enter Try.func36, Try.ntmps36
  go_wp2
  go_ret2
  exact ⟨rfl, Below.refl _ _⟩
set_option maxHeartbeats 400000 in
theorem limited_no (A : Option Addr) (n c : Nat) (w : World) (hn : 12 < n) (hc : n ≤ c) (hm : c ≤ maxLen) : Calls Try.prog 36 #[.slice A n c] w fun e w' => e = .returned (.tuple #[.slice none 0 0, .int .i64 3]) ∧ Below w.heap.size w w' := by
  unfold maxLen at hm
  go_enter Try.func36, Try.ntmps36
  go_wp2
  go_ret2
  exact ⟨rfl, Below.refl _ _⟩
set_option maxRecDepth 100000 in
set_option maxHeartbeats 4000000 in
theorem l02Build_no (A B : Option Addr) (n c m d : Nat) (xs ys : List Sp) (w : World) (hx : Spans w A n c xs) (hy : Spans w B m d ys) :
    Calls Try.prog 54 #[.slice A n c, .slice B m d, .bool false] w fun e w' => ∃ v P, e = .returned v ∧ Build (bIn xs ys false) P 3001 ∧ w'.ownsRow w.heap.size 42 2 v P.length (spanCells P) ∧ Below w.heap.size w w' := by
  obtain ⟨i0, hi, hz0, hz1, hz2⟩ := info_parts infoSpan
  go_enter Try.func54, Try.ntmps54
  go_wp2
  go_loopw [7, 8] (fun v i wr => ∃ (y : Int) (P : List Sp), i = .int .i64 y ∧ -3000 ≤ y ∧ y ≤ 3001 ∧ Hid (Build (bIn xs ys false) P y) ∧ P.length ≤ 6001 ∧ Hid (wr.ownsRow w.heap.size 42 2 v P.length (spanCells P)) ∧ Below w.heap.size w wr) (fun _ i _ => (3001 - intOf i).toNat)
  case atStart => exact ⟨-3000, [], rfl, by omega, by omega, build_start _, by simp, World.ownsRow_lit w #[] 0 (Nat.le_refl _) (by unfold maxLen; omega) rfl, boxS _ _⟩
  case round =>
    obtain ⟨y, P, rfl, hy0, hy1, hB, hPl, hown, hb⟩ := hrel
    by_cases hlt : y ≤ 3000
    · cases ha_ : hasYear xs y with
      | false =>
        cases hb_ : hasYear ys y with
        | false =>
          have hc : bIn xs ys false y = false := by rw [bIn_no, ha_, hb_]; rfl
          go_wp2_with fail
          refine (isb_ (l02Has_any A n c xs y _ (hx.below hb)) ha_).mono ?_
          rintro e_ u1 ⟨rfl, k1⟩
          have hc_u1 := bcell k1; have hf_u1 := bfree k1
          have HN := Lib.hid (build_skip hB.out hc)
          have HO := Lib.hid (own_below hown.out k1)
          have HBB := Lib.hid (next hb k1)
          clear hB hown
          go_wp2
          go_roundw
          case rel => exact ⟨y + 1, P, by go_num, by omega, by omega, HN.out, hPl, HO.out, HBB.out⟩
          case measure => simp [intOf]; omega
        | true =>
          have hc : bIn xs ys false y = false := by rw [bIn_no, ha_, hb_]; rfl
          go_wp2_with fail
          refine (isb_ (l02Has_any A n c xs y _ (hx.below hb)) ha_).mono ?_
          rintro e_ u1 ⟨rfl, k1⟩
          have hc_u1 := bcell k1; have hf_u1 := bfree k1
          have HN := Lib.hid (build_skip hB.out hc)
          have HO := Lib.hid (own_below hown.out k1)
          have HBB := Lib.hid (next hb k1)
          clear hB hown
          go_wp2
          go_roundw
          case rel => exact ⟨y + 1, P, by go_num, by omega, by omega, HN.out, hPl, HO.out, HBB.out⟩
          case measure => simp [intOf]; omega
      | true =>
        cases hb_ : hasYear ys y with
        | false =>
          have hc : bIn xs ys false y = true := by rw [bIn_no, ha_, hb_]; rfl
          go_wp2_with fail
          refine (isb_ (l02Has_any A n c xs y _ (hx.below hb)) ha_).mono ?_
          rintro e_ u1 ⟨rfl, k1⟩
          have hc_u1 := bcell k1; have hf_u1 := bfree k1
          go_wp2_with fail
          refine (isb_ (l02Has_any B m d ys y _ (hy.below (next hb k1))) hb_).mono ?_
          rintro e_ u2 ⟨rfl, k2⟩
          have hc_u2 := bcell k2; have hf_u2 := bfree k2
          have hown2 := own_below hown.out (next k1 k2)
          have hb2 := next hb (next k1 k2)
          clear hown
          rcases List.eq_nil_or_concat P with hPe | ⟨Q, s, hPe⟩
          · subst hPe
            have HN := Lib.hid (build_new hB.out (fun Q s e => by simp at e) hy0 hc)
            obtain ⟨A2, c2, rfl, hl2, hm2⟩ := own_formS hown2
            unfold maxLen at hm2
            clear hB
            simp only [List.length_nil] at hown2 hPl hl2 ⊢
            go_wp2_with (at_builtin; refine wpList_append_own _ rfl _ _ 24 rfl w.heap.size 42 i0 (.agg #[.int .i64 0, .int .i64 0]) 2 16 Try.underlying24 hi hz0 hz1 hz2 rfl (by decide) _ _ _ rfl (hown2.alloc _) ⟨u2.heap.size, 0, none⟩ 1 1 [.int .i64 y, .int .i64 y] rfl rfl ?c1 ?c2 ?c3 ?c4 ?c5 ?_)
            case c1 => exact cell_two_newS _ _ _ _
            case c2 => simp [Value.oneCell']
            case c3 => unfold maxLen; omega
            case c4 => omega
            case c5 => have hs_ := hb2.size; first | omega | (simp; omega)
            intro v4 w4 hown4 hgrow hrest
            have HO : Hid (w4.ownsRow w.heap.size 42 2 v4 ([] ++ [(y, y)]).length (spanCells ([] ++ [(y, y)]))) := by rw [List.length_append, spanCells_append]; exact hown4
            have HBB : Hid (Below w.heap.size w w4) := (hb2.alloc hb2.size _).grown hgrow (by have := hb2.size; simp; omega) (fun z hz => (hown2.lt z hz).1)
            clear hown4 hgrow hrest hown2
            go_wp2
            go_roundw
            case rel => exact ⟨y + 1, [] ++ [(y, y)], by go_num, by omega, by omega, HN.out, by have := HN.out.len; omega, HO, HBB.out⟩
            case measure => simp [intOf]; omega
          · rw [List.concat_eq_append] at hPe
            obtain ⟨f, t⟩ := s
            subst hPe
            obtain ⟨q, hq⟩ : ∃ q, Q.length = q := ⟨_, rfl⟩
            have hlen : (Q ++ [(f, t)]).length = q + 1 := by rw [List.length_append, hq]; rfl
            rw [hlen] at hown2 hPl
            obtain ⟨g, cap, rfl⟩ := own_shapeS hown2 (by omega)
            have hgl := hown2.lt g rfl
            obtain ⟨_, _, hv_, hl2, hm2⟩ := own_formS hown2
            injection hv_ with e1 _ e3
            subst e1; subst e3
            unfold maxLen at hm2
            have ct := hown2.cellAt (q * 2 + 1) (by omega)
            have ff := hown2.frozenAt (q * 2 + 1)
            rw [(spanCells_at (Q ++ [(f, t)]) q (by rw [hlen]; omega)).2, show (Q ++ [(f, t)]).getD q (0, 0) = (f, t) by rw [List.getD_eq_getElem?_getD, List.getElem?_append_right (by omega), hq, Nat.sub_self]; rfl] at ct
            simp only [] at ct
            have hq1 : ((q + 1 : Nat) : Int) - 1 = (q : Int) := by omega
            have tb := build_last hB.out (f, t) (by simp)
            by_cases ht : t = y - 1
            · have HN := Lib.hid (build_ext hB.out ht hy0 hc)
              have hst := hown2.stored (q * 2 + 1) (.int .i64 y)
              have e := spanCells_setTo Q f t y
              rw [hq] at e
              rw [e] at hst
              have HO : Hid ((u2.setCell ⟨g, q * 2 + 1, none⟩ (.int .i64 y)).ownsRow w.heap.size 42 2 (.slice (some ⟨g, 0, none⟩) (q + 1) cap) (Q ++ [(f, y)]).length (spanCells (Q ++ [(f, y)]))) := by rw [List.length_append, hq]; exact hst.1
              have HBB : Hid (Below w.heap.size w (u2.setCell ⟨g, q * 2 + 1, none⟩ (.int .i64 y))) := hb2.setCell hgl.1 _
              subst ht
              clear hst e hB hown2 hq hlen hq1
              go_wp2
              go_roundw
              case rel => exact ⟨y + 1, Q ++ [(f, y)], by go_num, by omega, by omega, HN.out, by have := HN.out.len; omega, HO.out, HBB.out⟩
              case measure => simp [intOf]; omega
            · have HN := Lib.hid (build_new hB.out (fun Q' s' e => by
                have e2 := List.append_inj' e rfl
                have e3 := (List.cons.inj e2.2).1
                rw [← e3]; exact ht) hy0 hc)
              have ht2 : (t == y - 1) = false := by rw [beq_eq_false_iff_ne]; exact ht
              clear hB hq1
              go_wp2_with (at_builtin; refine wpList_append_own _ rfl _ _ 24 rfl w.heap.size 42 i0 (.agg #[.int .i64 0, .int .i64 0]) 2 16 Try.underlying24 hi hz0 hz1 hz2 rfl (by decide) _ _ _ rfl (hown2.alloc _) ⟨u2.heap.size, 0, none⟩ 1 1 [.int .i64 y, .int .i64 y] rfl rfl ?c1 ?c2 ?c3 ?c4 ?c5 ?_)
              case c1 => exact cell_two_newS _ _ _ _
              case c2 => simp [Value.oneCell']
              case c3 => unfold maxLen; omega
              case c4 => omega
              case c5 => have hs_ := hb2.size; first | omega | (simp; omega)
              intro v4 w4 hown4 hgrow hrest
              have HO : Hid (w4.ownsRow w.heap.size 42 2 v4 (Q ++ [(f, t)] ++ [(y, y)]).length (spanCells (Q ++ [(f, t)] ++ [(y, y)]))) := by rw [List.length_append, hlen, spanCells_append]; exact hown4
              have HBB : Hid (Below w.heap.size w w4) := (hb2.alloc hb2.size _).grown hgrow (by have := hb2.size; simp; omega) (fun z hz => (hown2.lt z hz).1)
              clear hown4 hgrow hrest hown2
              go_wp2
              go_roundw
              case rel => exact ⟨y + 1, Q ++ [(f, t)] ++ [(y, y)], by go_num, by omega, by omega, HN.out, by have := HN.out.len; omega, HO, HBB.out⟩
              case measure => simp [intOf]; omega
        | true =>
          have hc : bIn xs ys false y = false := by rw [bIn_no, ha_, hb_]; rfl
          go_wp2_with fail
          refine (isb_ (l02Has_any A n c xs y _ (hx.below hb)) ha_).mono ?_
          rintro e_ u1 ⟨rfl, k1⟩
          have hc_u1 := bcell k1; have hf_u1 := bfree k1
          go_wp2_with fail
          refine (isb_ (l02Has_any B m d ys y _ (hy.below (next hb k1))) hb_).mono ?_
          rintro e_ u2 ⟨rfl, k2⟩
          have hc_u2 := bcell k2; have hf_u2 := bfree k2
          have HN := Lib.hid (build_skip hB.out hc)
          have HO := Lib.hid (own_below hown.out (next k1 k2))
          have HBB := Lib.hid (next hb (next k1 k2))
          clear hB hown
          go_wp2
          go_roundw
          case rel => exact ⟨y + 1, P, by go_num, by omega, by omega, HN.out, hPl, HO.out, HBB.out⟩
          case measure => simp [intOf]; omega
    · obtain rfl : y = 3001 := by omega
      go_wp2
      go_ret
      exact ⟨_, rfl, P, hB.out, hown.out, hb⟩
set_option maxRecDepth 100000 in
set_option maxHeartbeats 4000000 in
theorem l02Build_both (A B : Option Addr) (n c m d : Nat) (xs ys : List Sp) (w : World) (hx : Spans w A n c xs) (hy : Spans w B m d ys) :
    Calls Try.prog 54 #[.slice A n c, .slice B m d, .bool true] w fun e w' => ∃ v P, e = .returned v ∧ Build (bIn xs ys true) P 3001 ∧ w'.ownsRow w.heap.size 42 2 v P.length (spanCells P) ∧ Below w.heap.size w w' := by
  obtain ⟨i0, hi, hz0, hz1, hz2⟩ := info_parts infoSpan
  go_enter Try.func54, Try.ntmps54
  go_wp2
  go_loopw [7, 8] (fun v i wr => ∃ (y : Int) (P : List Sp), i = .int .i64 y ∧ -3000 ≤ y ∧ y ≤ 3001 ∧ Hid (Build (bIn xs ys true) P y) ∧ P.length ≤ 6001 ∧ Hid (wr.ownsRow w.heap.size 42 2 v P.length (spanCells P)) ∧ Below w.heap.size w wr) (fun _ i _ => (3001 - intOf i).toNat)
  case atStart => exact ⟨-3000, [], rfl, by omega, by omega, build_start _, by simp, World.ownsRow_lit w #[] 0 (Nat.le_refl _) (by unfold maxLen; omega) rfl, boxS _ _⟩
  case round =>
    obtain ⟨y, P, rfl, hy0, hy1, hB, hPl, hown, hb⟩ := hrel
    by_cases hlt : y ≤ 3000
    · cases ha_ : hasYear xs y with
      | false =>
        cases hb_ : hasYear ys y with
        | false =>
          have hc : bIn xs ys true y = false := by rw [bIn_both, ha_, hb_]; rfl
          go_wp2_with fail
          refine (isb_ (l02Has_any A n c xs y _ (hx.below hb)) ha_).mono ?_
          rintro e_ u1 ⟨rfl, k1⟩
          have hc_u1 := bcell k1; have hf_u1 := bfree k1
          go_wp2_with fail
          refine (isb_ (l02Has_any A n c xs y _ (hx.below (next hb k1))) ha_).mono ?_
          rintro e_ u2 ⟨rfl, k2⟩
          have hc_u2 := bcell k2; have hf_u2 := bfree k2
          go_wp2_with fail
          refine (isb_ (l02Has_any B m d ys y _ (hy.below (next hb (next k1 k2)))) hb_).mono ?_
          rintro e_ u3 ⟨rfl, k3⟩
          have hc_u3 := bcell k3; have hf_u3 := bfree k3
          have HN := Lib.hid (build_skip hB.out hc)
          have HO := Lib.hid (own_below hown.out (next (next k1 k2) k3))
          have HBB := Lib.hid (next hb (next (next k1 k2) k3))
          clear hB hown
          go_wp2
          go_roundw
          case rel => exact ⟨y + 1, P, by go_num, by omega, by omega, HN.out, hPl, HO.out, HBB.out⟩
          case measure => simp [intOf]; omega
        | true =>
          have hc : bIn xs ys true y = true := by rw [bIn_both, ha_, hb_]; rfl
          go_wp2_with fail
          refine (isb_ (l02Has_any A n c xs y _ (hx.below hb)) ha_).mono ?_
          rintro e_ u1 ⟨rfl, k1⟩
          have hc_u1 := bcell k1; have hf_u1 := bfree k1
          go_wp2_with fail
          refine (isb_ (l02Has_any A n c xs y _ (hx.below (next hb k1))) ha_).mono ?_
          rintro e_ u2 ⟨rfl, k2⟩
          have hc_u2 := bcell k2; have hf_u2 := bfree k2
          go_wp2_with fail
          refine (isb_ (l02Has_any B m d ys y _ (hy.below (next hb (next k1 k2)))) hb_).mono ?_
          rintro e_ u3 ⟨rfl, k3⟩
          have hc_u3 := bcell k3; have hf_u3 := bfree k3
          have hown2 := own_below hown.out (next (next k1 k2) k3)
          have hb2 := next hb (next (next k1 k2) k3)
          clear hown
          rcases List.eq_nil_or_concat P with hPe | ⟨Q, s, hPe⟩
          · subst hPe
            have HN := Lib.hid (build_new hB.out (fun Q s e => by simp at e) hy0 hc)
            obtain ⟨A2, c2, rfl, hl2, hm2⟩ := own_formS hown2
            unfold maxLen at hm2
            clear hB
            simp only [List.length_nil] at hown2 hPl hl2 ⊢
            go_wp2_with (at_builtin; refine wpList_append_own _ rfl _ _ 24 rfl w.heap.size 42 i0 (.agg #[.int .i64 0, .int .i64 0]) 2 16 Try.underlying24 hi hz0 hz1 hz2 rfl (by decide) _ _ _ rfl (hown2.alloc _) ⟨u3.heap.size, 0, none⟩ 1 1 [.int .i64 y, .int .i64 y] rfl rfl ?c1 ?c2 ?c3 ?c4 ?c5 ?_)
            case c1 => exact cell_two_newS _ _ _ _
            case c2 => simp [Value.oneCell']
            case c3 => unfold maxLen; omega
            case c4 => omega
            case c5 => have hs_ := hb2.size; first | omega | (simp; omega)
            intro v4 w4 hown4 hgrow hrest
            have HO : Hid (w4.ownsRow w.heap.size 42 2 v4 ([] ++ [(y, y)]).length (spanCells ([] ++ [(y, y)]))) := by rw [List.length_append, spanCells_append]; exact hown4
            have HBB : Hid (Below w.heap.size w w4) := (hb2.alloc hb2.size _).grown hgrow (by have := hb2.size; simp; omega) (fun z hz => (hown2.lt z hz).1)
            clear hown4 hgrow hrest hown2
            go_wp2
            go_roundw
            case rel => exact ⟨y + 1, [] ++ [(y, y)], by go_num, by omega, by omega, HN.out, by have := HN.out.len; omega, HO, HBB.out⟩
            case measure => simp [intOf]; omega
          · rw [List.concat_eq_append] at hPe
            obtain ⟨f, t⟩ := s
            subst hPe
            obtain ⟨q, hq⟩ : ∃ q, Q.length = q := ⟨_, rfl⟩
            have hlen : (Q ++ [(f, t)]).length = q + 1 := by rw [List.length_append, hq]; rfl
            rw [hlen] at hown2 hPl
            obtain ⟨g, cap, rfl⟩ := own_shapeS hown2 (by omega)
            have hgl := hown2.lt g rfl
            obtain ⟨_, _, hv_, hl2, hm2⟩ := own_formS hown2
            injection hv_ with e1 _ e3
            subst e1; subst e3
            unfold maxLen at hm2
            have ct := hown2.cellAt (q * 2 + 1) (by omega)
            have ff := hown2.frozenAt (q * 2 + 1)
            rw [(spanCells_at (Q ++ [(f, t)]) q (by rw [hlen]; omega)).2, show (Q ++ [(f, t)]).getD q (0, 0) = (f, t) by rw [List.getD_eq_getElem?_getD, List.getElem?_append_right (by omega), hq, Nat.sub_self]; rfl] at ct
            simp only [] at ct
            have hq1 : ((q + 1 : Nat) : Int) - 1 = (q : Int) := by omega
            have tb := build_last hB.out (f, t) (by simp)
            by_cases ht : t = y - 1
            · have HN := Lib.hid (build_ext hB.out ht hy0 hc)
              have hst := hown2.stored (q * 2 + 1) (.int .i64 y)
              have e := spanCells_setTo Q f t y
              rw [hq] at e
              rw [e] at hst
              have HO : Hid ((u3.setCell ⟨g, q * 2 + 1, none⟩ (.int .i64 y)).ownsRow w.heap.size 42 2 (.slice (some ⟨g, 0, none⟩) (q + 1) cap) (Q ++ [(f, y)]).length (spanCells (Q ++ [(f, y)]))) := by rw [List.length_append, hq]; exact hst.1
              have HBB : Hid (Below w.heap.size w (u3.setCell ⟨g, q * 2 + 1, none⟩ (.int .i64 y))) := hb2.setCell hgl.1 _
              subst ht
              clear hst e hB hown2 hq hlen hq1
              go_wp2
              go_roundw
              case rel => exact ⟨y + 1, Q ++ [(f, y)], by go_num, by omega, by omega, HN.out, by have := HN.out.len; omega, HO.out, HBB.out⟩
              case measure => simp [intOf]; omega
            · have HN := Lib.hid (build_new hB.out (fun Q' s' e => by
                have e2 := List.append_inj' e rfl
                have e3 := (List.cons.inj e2.2).1
                rw [← e3]; exact ht) hy0 hc)
              have ht2 : (t == y - 1) = false := by rw [beq_eq_false_iff_ne]; exact ht
              clear hB hq1
              go_wp2_with (at_builtin; refine wpList_append_own _ rfl _ _ 24 rfl w.heap.size 42 i0 (.agg #[.int .i64 0, .int .i64 0]) 2 16 Try.underlying24 hi hz0 hz1 hz2 rfl (by decide) _ _ _ rfl (hown2.alloc _) ⟨u3.heap.size, 0, none⟩ 1 1 [.int .i64 y, .int .i64 y] rfl rfl ?c1 ?c2 ?c3 ?c4 ?c5 ?_)
              case c1 => exact cell_two_newS _ _ _ _
              case c2 => simp [Value.oneCell']
              case c3 => unfold maxLen; omega
              case c4 => omega
              case c5 => have hs_ := hb2.size; first | omega | (simp; omega)
              intro v4 w4 hown4 hgrow hrest
              have HO : Hid (w4.ownsRow w.heap.size 42 2 v4 (Q ++ [(f, t)] ++ [(y, y)]).length (spanCells (Q ++ [(f, t)] ++ [(y, y)]))) := by rw [List.length_append, hlen, spanCells_append]; exact hown4
              have HBB : Hid (Below w.heap.size w w4) := (hb2.alloc hb2.size _).grown hgrow (by have := hb2.size; simp; omega) (fun z hz => (hown2.lt z hz).1)
              clear hown4 hgrow hrest hown2
              go_wp2
              go_roundw
              case rel => exact ⟨y + 1, Q ++ [(f, t)] ++ [(y, y)], by go_num, by omega, by omega, HN.out, by have := HN.out.len; omega, HO, HBB.out⟩
              case measure => simp [intOf]; omega
      | true =>
        cases hb_ : hasYear ys y with
        | false =>
          have hc : bIn xs ys true y = true := by rw [bIn_both, ha_, hb_]; rfl
          go_wp2_with fail
          refine (isb_ (l02Has_any A n c xs y _ (hx.below hb)) ha_).mono ?_
          rintro e_ u1 ⟨rfl, k1⟩
          have hc_u1 := bcell k1; have hf_u1 := bfree k1
          go_wp2_with fail
          refine (isb_ (l02Has_any B m d ys y _ (hy.below (next hb k1))) hb_).mono ?_
          rintro e_ u2 ⟨rfl, k2⟩
          have hc_u2 := bcell k2; have hf_u2 := bfree k2
          go_wp2_with fail
          refine (isb_ (l02Has_any A n c xs y _ (hx.below (next hb (next k1 k2)))) ha_).mono ?_
          rintro e_ u3 ⟨rfl, k3⟩
          have hc_u3 := bcell k3; have hf_u3 := bfree k3
          have hown2 := own_below hown.out (next (next k1 k2) k3)
          have hb2 := next hb (next (next k1 k2) k3)
          clear hown
          rcases List.eq_nil_or_concat P with hPe | ⟨Q, s, hPe⟩
          · subst hPe
            have HN := Lib.hid (build_new hB.out (fun Q s e => by simp at e) hy0 hc)
            obtain ⟨A2, c2, rfl, hl2, hm2⟩ := own_formS hown2
            unfold maxLen at hm2
            clear hB
            simp only [List.length_nil] at hown2 hPl hl2 ⊢
            go_wp2_with (at_builtin; refine wpList_append_own _ rfl _ _ 24 rfl w.heap.size 42 i0 (.agg #[.int .i64 0, .int .i64 0]) 2 16 Try.underlying24 hi hz0 hz1 hz2 rfl (by decide) _ _ _ rfl (hown2.alloc _) ⟨u3.heap.size, 0, none⟩ 1 1 [.int .i64 y, .int .i64 y] rfl rfl ?c1 ?c2 ?c3 ?c4 ?c5 ?_)
            case c1 => exact cell_two_newS _ _ _ _
            case c2 => simp [Value.oneCell']
            case c3 => unfold maxLen; omega
            case c4 => omega
            case c5 => have hs_ := hb2.size; first | omega | (simp; omega)
            intro v4 w4 hown4 hgrow hrest
            have HO : Hid (w4.ownsRow w.heap.size 42 2 v4 ([] ++ [(y, y)]).length (spanCells ([] ++ [(y, y)]))) := by rw [List.length_append, spanCells_append]; exact hown4
            have HBB : Hid (Below w.heap.size w w4) := (hb2.alloc hb2.size _).grown hgrow (by have := hb2.size; simp; omega) (fun z hz => (hown2.lt z hz).1)
            clear hown4 hgrow hrest hown2
            go_wp2
            go_roundw
            case rel => exact ⟨y + 1, [] ++ [(y, y)], by go_num, by omega, by omega, HN.out, by have := HN.out.len; omega, HO, HBB.out⟩
            case measure => simp [intOf]; omega
          · rw [List.concat_eq_append] at hPe
            obtain ⟨f, t⟩ := s
            subst hPe
            obtain ⟨q, hq⟩ : ∃ q, Q.length = q := ⟨_, rfl⟩
            have hlen : (Q ++ [(f, t)]).length = q + 1 := by rw [List.length_append, hq]; rfl
            rw [hlen] at hown2 hPl
            obtain ⟨g, cap, rfl⟩ := own_shapeS hown2 (by omega)
            have hgl := hown2.lt g rfl
            obtain ⟨_, _, hv_, hl2, hm2⟩ := own_formS hown2
            injection hv_ with e1 _ e3
            subst e1; subst e3
            unfold maxLen at hm2
            have ct := hown2.cellAt (q * 2 + 1) (by omega)
            have ff := hown2.frozenAt (q * 2 + 1)
            rw [(spanCells_at (Q ++ [(f, t)]) q (by rw [hlen]; omega)).2, show (Q ++ [(f, t)]).getD q (0, 0) = (f, t) by rw [List.getD_eq_getElem?_getD, List.getElem?_append_right (by omega), hq, Nat.sub_self]; rfl] at ct
            simp only [] at ct
            have hq1 : ((q + 1 : Nat) : Int) - 1 = (q : Int) := by omega
            have tb := build_last hB.out (f, t) (by simp)
            by_cases ht : t = y - 1
            · have HN := Lib.hid (build_ext hB.out ht hy0 hc)
              have hst := hown2.stored (q * 2 + 1) (.int .i64 y)
              have e := spanCells_setTo Q f t y
              rw [hq] at e
              rw [e] at hst
              have HO : Hid ((u3.setCell ⟨g, q * 2 + 1, none⟩ (.int .i64 y)).ownsRow w.heap.size 42 2 (.slice (some ⟨g, 0, none⟩) (q + 1) cap) (Q ++ [(f, y)]).length (spanCells (Q ++ [(f, y)]))) := by rw [List.length_append, hq]; exact hst.1
              have HBB : Hid (Below w.heap.size w (u3.setCell ⟨g, q * 2 + 1, none⟩ (.int .i64 y))) := hb2.setCell hgl.1 _
              subst ht
              clear hst e hB hown2 hq hlen hq1
              go_wp2
              go_roundw
              case rel => exact ⟨y + 1, Q ++ [(f, y)], by go_num, by omega, by omega, HN.out, by have := HN.out.len; omega, HO.out, HBB.out⟩
              case measure => simp [intOf]; omega
            · have HN := Lib.hid (build_new hB.out (fun Q' s' e => by
                have e2 := List.append_inj' e rfl
                have e3 := (List.cons.inj e2.2).1
                rw [← e3]; exact ht) hy0 hc)
              have ht2 : (t == y - 1) = false := by rw [beq_eq_false_iff_ne]; exact ht
              clear hB hq1
              go_wp2_with (at_builtin; refine wpList_append_own _ rfl _ _ 24 rfl w.heap.size 42 i0 (.agg #[.int .i64 0, .int .i64 0]) 2 16 Try.underlying24 hi hz0 hz1 hz2 rfl (by decide) _ _ _ rfl (hown2.alloc _) ⟨u3.heap.size, 0, none⟩ 1 1 [.int .i64 y, .int .i64 y] rfl rfl ?c1 ?c2 ?c3 ?c4 ?c5 ?_)
              case c1 => exact cell_two_newS _ _ _ _
              case c2 => simp [Value.oneCell']
              case c3 => unfold maxLen; omega
              case c4 => omega
              case c5 => have hs_ := hb2.size; first | omega | (simp; omega)
              intro v4 w4 hown4 hgrow hrest
              have HO : Hid (w4.ownsRow w.heap.size 42 2 v4 (Q ++ [(f, t)] ++ [(y, y)]).length (spanCells (Q ++ [(f, t)] ++ [(y, y)]))) := by rw [List.length_append, hlen, spanCells_append]; exact hown4
              have HBB : Hid (Below w.heap.size w w4) := (hb2.alloc hb2.size _).grown hgrow (by have := hb2.size; simp; omega) (fun z hz => (hown2.lt z hz).1)
              clear hown4 hgrow hrest hown2
              go_wp2
              go_roundw
              case rel => exact ⟨y + 1, Q ++ [(f, t)] ++ [(y, y)], by go_num, by omega, by omega, HN.out, by have := HN.out.len; omega, HO, HBB.out⟩
              case measure => simp [intOf]; omega
        | true =>
          have hc : bIn xs ys true y = true := by rw [bIn_both, ha_, hb_]; rfl
          go_wp2_with fail
          refine (isb_ (l02Has_any A n c xs y _ (hx.below hb)) ha_).mono ?_
          rintro e_ u1 ⟨rfl, k1⟩
          have hc_u1 := bcell k1; have hf_u1 := bfree k1
          go_wp2_with fail
          refine (isb_ (l02Has_any B m d ys y _ (hy.below (next hb k1))) hb_).mono ?_
          rintro e_ u2 ⟨rfl, k2⟩
          have hc_u2 := bcell k2; have hf_u2 := bfree k2
          go_wp2_with fail
          refine (isb_ (l02Has_any A n c xs y _ (hx.below (next hb (next k1 k2)))) ha_).mono ?_
          rintro e_ u3 ⟨rfl, k3⟩
          have hc_u3 := bcell k3; have hf_u3 := bfree k3
          have hown2 := own_below hown.out (next (next k1 k2) k3)
          have hb2 := next hb (next (next k1 k2) k3)
          clear hown
          rcases List.eq_nil_or_concat P with hPe | ⟨Q, s, hPe⟩
          · subst hPe
            have HN := Lib.hid (build_new hB.out (fun Q s e => by simp at e) hy0 hc)
            obtain ⟨A2, c2, rfl, hl2, hm2⟩ := own_formS hown2
            unfold maxLen at hm2
            clear hB
            simp only [List.length_nil] at hown2 hPl hl2 ⊢
            go_wp2_with (at_builtin; refine wpList_append_own _ rfl _ _ 24 rfl w.heap.size 42 i0 (.agg #[.int .i64 0, .int .i64 0]) 2 16 Try.underlying24 hi hz0 hz1 hz2 rfl (by decide) _ _ _ rfl (hown2.alloc _) ⟨u3.heap.size, 0, none⟩ 1 1 [.int .i64 y, .int .i64 y] rfl rfl ?c1 ?c2 ?c3 ?c4 ?c5 ?_)
            case c1 => exact cell_two_newS _ _ _ _
            case c2 => simp [Value.oneCell']
            case c3 => unfold maxLen; omega
            case c4 => omega
            case c5 => have hs_ := hb2.size; first | omega | (simp; omega)
            intro v4 w4 hown4 hgrow hrest
            have HO : Hid (w4.ownsRow w.heap.size 42 2 v4 ([] ++ [(y, y)]).length (spanCells ([] ++ [(y, y)]))) := by rw [List.length_append, spanCells_append]; exact hown4
            have HBB : Hid (Below w.heap.size w w4) := (hb2.alloc hb2.size _).grown hgrow (by have := hb2.size; simp; omega) (fun z hz => (hown2.lt z hz).1)
            clear hown4 hgrow hrest hown2
            go_wp2
            go_roundw
            case rel => exact ⟨y + 1, [] ++ [(y, y)], by go_num, by omega, by omega, HN.out, by have := HN.out.len; omega, HO, HBB.out⟩
            case measure => simp [intOf]; omega
          · rw [List.concat_eq_append] at hPe
            obtain ⟨f, t⟩ := s
            subst hPe
            obtain ⟨q, hq⟩ : ∃ q, Q.length = q := ⟨_, rfl⟩
            have hlen : (Q ++ [(f, t)]).length = q + 1 := by rw [List.length_append, hq]; rfl
            rw [hlen] at hown2 hPl
            obtain ⟨g, cap, rfl⟩ := own_shapeS hown2 (by omega)
            have hgl := hown2.lt g rfl
            obtain ⟨_, _, hv_, hl2, hm2⟩ := own_formS hown2
            injection hv_ with e1 _ e3
            subst e1; subst e3
            unfold maxLen at hm2
            have ct := hown2.cellAt (q * 2 + 1) (by omega)
            have ff := hown2.frozenAt (q * 2 + 1)
            rw [(spanCells_at (Q ++ [(f, t)]) q (by rw [hlen]; omega)).2, show (Q ++ [(f, t)]).getD q (0, 0) = (f, t) by rw [List.getD_eq_getElem?_getD, List.getElem?_append_right (by omega), hq, Nat.sub_self]; rfl] at ct
            simp only [] at ct
            have hq1 : ((q + 1 : Nat) : Int) - 1 = (q : Int) := by omega
            have tb := build_last hB.out (f, t) (by simp)
            by_cases ht : t = y - 1
            · have HN := Lib.hid (build_ext hB.out ht hy0 hc)
              have hst := hown2.stored (q * 2 + 1) (.int .i64 y)
              have e := spanCells_setTo Q f t y
              rw [hq] at e
              rw [e] at hst
              have HO : Hid ((u3.setCell ⟨g, q * 2 + 1, none⟩ (.int .i64 y)).ownsRow w.heap.size 42 2 (.slice (some ⟨g, 0, none⟩) (q + 1) cap) (Q ++ [(f, y)]).length (spanCells (Q ++ [(f, y)]))) := by rw [List.length_append, hq]; exact hst.1
              have HBB : Hid (Below w.heap.size w (u3.setCell ⟨g, q * 2 + 1, none⟩ (.int .i64 y))) := hb2.setCell hgl.1 _
              subst ht
              clear hst e hB hown2 hq hlen hq1
              go_wp2
              go_roundw
              case rel => exact ⟨y + 1, Q ++ [(f, y)], by go_num, by omega, by omega, HN.out, by have := HN.out.len; omega, HO.out, HBB.out⟩
              case measure => simp [intOf]; omega
            · have HN := Lib.hid (build_new hB.out (fun Q' s' e => by
                have e2 := List.append_inj' e rfl
                have e3 := (List.cons.inj e2.2).1
                rw [← e3]; exact ht) hy0 hc)
              have ht2 : (t == y - 1) = false := by rw [beq_eq_false_iff_ne]; exact ht
              clear hB hq1
              go_wp2_with (at_builtin; refine wpList_append_own _ rfl _ _ 24 rfl w.heap.size 42 i0 (.agg #[.int .i64 0, .int .i64 0]) 2 16 Try.underlying24 hi hz0 hz1 hz2 rfl (by decide) _ _ _ rfl (hown2.alloc _) ⟨u3.heap.size, 0, none⟩ 1 1 [.int .i64 y, .int .i64 y] rfl rfl ?c1 ?c2 ?c3 ?c4 ?c5 ?_)
              case c1 => exact cell_two_newS _ _ _ _
              case c2 => simp [Value.oneCell']
              case c3 => unfold maxLen; omega
              case c4 => omega
              case c5 => have hs_ := hb2.size; first | omega | (simp; omega)
              intro v4 w4 hown4 hgrow hrest
              have HO : Hid (w4.ownsRow w.heap.size 42 2 v4 (Q ++ [(f, t)] ++ [(y, y)]).length (spanCells (Q ++ [(f, t)] ++ [(y, y)]))) := by rw [List.length_append, hlen, spanCells_append]; exact hown4
              have HBB : Hid (Below w.heap.size w w4) := (hb2.alloc hb2.size _).grown hgrow (by have := hb2.size; simp; omega) (fun z hz => (hown2.lt z hz).1)
              clear hown4 hgrow hrest hown2
              go_wp2
              go_roundw
              case rel => exact ⟨y + 1, Q ++ [(f, t)] ++ [(y, y)], by go_num, by omega, by omega, HN.out, by have := HN.out.len; omega, HO, HBB.out⟩
              case measure => simp [intOf]; omega
    · obtain rfl : y = 3001 := by omega
      go_wp2
      go_ret
      exact ⟨_, rfl, P, hB.out, hown.out, hb⟩
end Go.Proofs.Ytldikfikcnkgcaa
