/- Draws of rules and of their texts. -/
import Derived.Test.YtfacbdliegemgaaGreatDoorDrawC
import Derived.Test.YtfacbdliegemgaaGreatDoorSrcP
import Derived.Test.YtfacbdliegemgaaGreatDoorRuleT
import Derived.Deep.RegionLaw
import Derived.Maps.AppendAt
import Derived.Test.YtfacbdliegemgaaGreatDoorReadLaw
namespace Go.Proofs.YtfacbdliegemgaaGreatDoor
open Go.ChangeShapes Go.WideShapes Go.ChangeAt Go.RowKit

section
variable {P : Program} {w : World}
/-- an append onto a row of the call's own, where a region draws its order; it tells where the new row lies -/
theorem step_own_lie {ops : Array Oper} {o : Oper} {a : Act} {K : Act → World → Prop} {Q : Exit → Act → World → Prop} {E : Prop} (hgd : o.guard = none) (s x : Operand) (t : TypeId)
    (ho : o.op = .call { callee := .builtin .append, args := #[s, x], argTypes := #[t, t] })
    (base : Nat) (e : TypeId) (i : TypeInfo) (z : Value) (size bytes : Nat) (ht : P.underlying t = some (.slice e)) (hi : P.info? e = some i) (hz : i.zero = some z)
    (hsize : i.size = size) (hby : i.bytes = bytes) (hzs : z.cells.size = size) (hsz : 0 < size)
    (v : Value) (n : Nat) (xs : List Value) (hs : a.eval s = v) (hown : w.ownsRow base e size v n xs)
    (ad : Addr) (m c : Nat) (news : List Value) (hx : a.eval x = .slice (some ad) m c) (hl : news.length = m * size) (hnews : ∀ j u, news[j]? = some u → w.cell? (ad.add j) = some u) (h1 : ∀ u ∈ news, u.oneCell' = true)
    (h63 : n + m ≤ maxLen) (hbytes : (n + m) * bytes ≤ 140737488355328) (hbase : base ≤ w.heap.size)
    (h : ∀ v' w', w'.ownsRow base e size v' (n + m) (xs ++ news) → w.grownBy w' v.ownBlock → (v'.ownBlock = v.ownBlock ∨ v'.ownBlock = some w.heap.size) → K (a.put o.dst v') w') :
    if Region.wanted o (yielded ops a.tmps) = true then Oper.wp P o a w K Q else E := by
  have hw : Region.wanted o (yielded ops a.tmps) = true := by unfold Region.wanted; rw [hgd]
  rw [if_pos hw]
  obtain ⟨v', w', hr, h2, h3, _, h5⟩ := run_append_own_at (P := P) w base t o.type e i z size bytes ht hi hz hsize hby hzs hsz v n xs hown ad m c news hl hnews h1 h63 hbytes hbase
  unfold Oper.wp execOp
  simp only [ho, resolve, invoke, builtin, Sem.run_bind, Sem.run_pure, Result.andThen_ok, List.map_toArray, List.map_cons, List.map_nil, hs, hx, hr]
  exact h v' w' h2 h3 h5
end
theorem Box2.far {w w' : World} {g : Nat} {row : Option Nat} {u v : Value} (h : Box2 w g u v) (hg : w.grownBy w' row) (hne : row ≠ some g) : Box2 w' g u v :=
  have hb := hg.block g h.lt (fun e => hne e.symm)
  ⟨grown_cell hg h.c0 hne, grown_cell hg h.c1 hne, (World.frozen?_of_block hb).trans h.f0, (World.frozen?_of_block hb).trans h.f1, Nat.lt_of_lt_of_le h.lt hg.size⟩
theorem Box2.set0 {w : World} {g : Nat} {u u' v : Value} (h : Box2 w g u v) : Box2 (w.setCell ⟨g, 0, none⟩ u') g u' v :=
  ⟨World.cell?_setCell_same (w := w) (a := ⟨g, 0, none⟩) (v := u') h.c0, by rw [World.cell?_setCell_other (w := w) (a := ⟨g, 0, none⟩) (b := ⟨g, 1, none⟩) (v := u') (by simp)]; exact h.c1, by rw [World.frozen?_setCell]; exact h.f0, by rw [World.frozen?_setCell]; exact h.f1, Nat.lt_of_lt_of_le h.lt (grown_set w g 0 u').size⟩
theorem Box2.set1 {w : World} {g : Nat} {u v v' : Value} (h : Box2 w g u v) : Box2 (w.setCell ⟨g, 1, none⟩ v') g u v' :=
  ⟨by rw [World.cell?_setCell_other (w := w) (a := ⟨g, 1, none⟩) (b := ⟨g, 0, none⟩) (v := v') (by simp)]; exact h.c0, World.cell?_setCell_same (w := w) (a := ⟨g, 1, none⟩) (v := v') h.c1, by rw [World.frozen?_setCell]; exact h.f0, by rw [World.frozen?_setCell]; exact h.f1, Nat.lt_of_lt_of_le h.lt (grown_set w g 1 v').size⟩
theorem own_head {w : World} {base : Nat} {e : TypeId} {g c n k : Nat} {xs : List Value} (h : w.ownsRow base e 1 (.slice (some ⟨g, 0, none⟩) n c) n xs) (hk : k ≤ n) : w.ownsRow base e 1 (.slice (some ⟨g, 0, none⟩) k c) k (xs.take k) := by
  have hl := h.1
  rcases h.2 with ⟨hv, _⟩ | ⟨g', cap, cur, hv, hb, hh, hn, hm, hs, ht⟩
  · cases hv
  · injection hv with e1 _ e3
    injection e1 with e1
    injection e1 with e1 _
    subst e1; subst e3
    refine ⟨by rw [List.length_take, hl]; omega, .inr ⟨g, c, cur, rfl, hb, hh, by omega, hm, hs, ?_⟩⟩
    rw [← ht, List.take_take]
    congr 1
    omega
/-- what a draw of a rule returns -/
def RulePost (p : Nat) (w : World) (e : Ending) (w' : World) : Prop := ∃ (v : Value) (xs : List Int) (t : ByteArray), e = .returned (.agg #[v, .string t]) ∧ t.size ≤ 10 ∧ w'.ownsRow w.heap.size 2 1 v xs.length (xs.map (Value.int .i64)) ∧ Src w' p ∧ w.grownBy w' (some p)
set_option maxRecDepth 100000 in
set_option maxHeartbeats 4000000 in
theorem l04DrawRule_any (p : Nat) (w : World) (h : Src w p) : Calls Tryz.prog 13 #[.pointer (some ⟨p, 0, none⟩)] w (RulePost p w) := by
  have hp := h.lt
  obtain ⟨i0, hi, hz0, hz1, hz2⟩ := info_parts infoInt
  go_enter Tryz.func13, Tryz.ntmps13
  go_wp2_with fail
  have b0 := box1 w (.cells #[.slice none 0 0, .string ⟨#[]⟩] 26)
  have R0 := box2_new w (.slice none 0 0) (.string ⟨#[]⟩) 26
  generalize hW0 : w.alloc (.cells #[.slice none 0 0, .string ⟨#[]⟩] 26) = W0 at *
  have hs0 : W0.heap.size = w.heap.size + 1 := by rw [← hW0]; simp
  have b1 := box1 W0 (.cells #[] 2)
  have N1 := World.ownsRow_lit (base := w.heap.size + 1) (e := 2) (size := 1) W0 #[] 0 (by omega) (by unfold maxLen; omega) rfl
  have R1 := R0.below b1
  have hs1 : (W0.alloc (.cells #[] 2)).heap.size = w.heap.size + 2 := by simp; omega
  generalize hW1 : W0.alloc (.cells #[] 2) = W1 at *
  have b2 := box1 W1 (.cells ([⟨#[97]⟩, ⟨#[98]⟩, ⟨#[97, 98]⟩, ⟨#[98, 97]⟩, ⟨#[]⟩, ⟨#[115, 104]⟩, ⟨#[115]⟩, ⟨#[104]⟩, ⟨#[97, 98, 97]⟩].map Value.string).toArray 9)
  have P2 := parts_alloc W1 [⟨#[97]⟩, ⟨#[98]⟩, ⟨#[97, 98]⟩, ⟨#[98, 97]⟩, ⟨#[]⟩, ⟨#[115, 104]⟩, ⟨#[115]⟩, ⟨#[104]⟩, ⟨#[97, 98, 97]⟩] 9 3 (by decide)
  have S2 := ((h.below b0).below b1).below b2
  have R2 := R1.below b2
  have N2 := own_below N1 b2
  have G2 := grown_trans (grown_trans (grown_below b0 (row := some p)) (grown_below b1)) (grown_below b2)
  replace P2 : Parts (W1.alloc (.cells ([⟨#[97]⟩, ⟨#[98]⟩, ⟨#[97, 98]⟩, ⟨#[98, 97]⟩, ⟨#[]⟩, ⟨#[115, 104]⟩, ⟨#[115]⟩, ⟨#[104]⟩, ⟨#[97, 98, 97]⟩].map Value.string).toArray 9)) W1.heap.size 9 3 := P2
  refine (l01Next_any p 9 _ S2 (by omega)).mono ?_
  rintro e_ w1 ⟨r, rfl, r0, r1, S3, g3⟩
  have P3 := P2.grown g3 (by omega)
  have R3 := R2.grown g3 (by omega)
  have N3 := own_srcP N2 g3 (by omega)
  have G3 := grown_trans G2 g3
  obtain ⟨j, rfl⟩ : ∃ j : Nat, r = j := ⟨r.toNat, by omega⟩
  obtain ⟨x, hx, hx4⟩ := P3 j (by omega)
  have j1 : (j : Int) < 9 := by omega
  rw [hs0] at N3
  rw [hs1] at hx
  have hzw : w.heap.size + 2 < w1.heap.size := by have := g3.size; simp at this; omega
  clear P3 P2 N2 N1 R2 R1 R0 S2 G2 g3 b0 b1 b2
  clear hW0 hW1 h
  have X3 := box2_new w1 (.slice (some ⟨w.heap.size + 1, 0, none⟩) 0 0) (.string x) 26
  have bb := box1 w1 (.cells #[.slice (some ⟨w.heap.size + 1, 0, none⟩) 0 0, .string x] 26)
  have hp1 := S3.lt
  go_wp2_with fail
  refine (l01Next_any p 2 _ (S3.below bb) (by omega)).mono ?_
  rintro e_ w2 ⟨r, rfl, q0, q1, S4, g4⟩
  have X4 := X3.grown g4 (by omega)
  have R4 := (R3.below bb).grown g4 (by omega)
  have N4 := own_srcP (own_below N3 bb) g4 (by omega)
  have G4 := grown_trans (grown_trans G3 (grown_below bb)) g4
  have e1 : IntKind.i64.wrap (1 + r) = 1 + r := IntWalk.i64_in _ (by omega)
  obtain ⟨q, hq⟩ : ∃ q : Nat, 1 + r = q := ⟨(1 + r).toNat, by omega⟩
  have hq2 : q ≤ 2 := by omega
  rw [hq] at e1
  have HX := Lib.hid X4
  have HS := Lib.hid (And.intro S4 R4)
  have HN := Lib.hid (And.intro N4 (show (Value.slice (some ⟨w.heap.size + 1, 0, none⟩) 0 0).ownBlock ≠ some w1.heap.size from fun e => by have e : w.heap.size + 1 = w1.heap.size := Option.some.inj e; omega))
  have HG := Lib.hid G4
  clear X3 bb R3 N3 G3 g4 S3 S4 R4 X4 N4 G4 hx
  go_wp2
  clear e1 hq q0 q1 r0 r1
  go_loopw [4] (fun i wr => ∃ (k : Nat) (v : Value) (sp : List Int), k ≤ 2 ∧ i = .int .i64 k ∧ Hid (sp.length + k ≤ 2) ∧ Hid (Src wr p ∧ Box2 wr w.heap.size (.slice none 0 0) (.string ⟨#[]⟩)) ∧ Hid (Box2 wr w1.heap.size v (.string x)) ∧ Hid (wr.ownsRow (w.heap.size + 1) 2 1 v sp.length (sp.map (Value.int .i64)) ∧ v.ownBlock ≠ some w1.heap.size) ∧ Hid (w.grownBy wr (some p))) (fun i _ => (intOf i).toNat)
  case atStart => exact ⟨q, _, [], hq2, by first | rfl | simp [*], Lib.hid (by simp; omega), HS, HX, HN, HG⟩
  case round =>
    clear HS HX HN HG
    obtain ⟨k, v, sp, hk, rfl, hlen, hS, hX, hN, hG⟩ := hrel
    obtain ⟨A, c, rfl, hxi⟩ := own_ints_ hN.out.1
    have hle := hlen.out
    by_cases hlt : 0 < k
    · have hj0 : (0 : Int) < (k : Int) := by omega
      obtain ⟨x0, x1, xf0, xf1, xl⟩ := hX.out
      go_wp2_with fail
      (go_region_law (first
        | (refine step_own_lie rfl _ _ 24 rfl (w.heap.size + 1) 2 i0 (.int .i64 0) 1 8 Tryz.underlying24 hi hz0 hz1 hz2 rfl (by decide) _ _ _ rfl (N5.alloc _) ⟨w5.heap.size, 0, none⟩ 1 1 [.int .i64 y] rfl rfl (cell_one_new _ _ _) (by simp [Value.oneCell']) (by unfold maxLen; omega) (by omega) (by simp; omega) ?_; intro v6 w6 own6 grow6 hlie; have o6 : w6.ownsRow (w.heap.size + 1) 2 1 v6 (sp.length + 1) ((sp ++ [y]).map (Value.int .i64)) := (by simpa using own6); have hv6 := own_ints_ o6; obtain ⟨A6, c6, rfl, x6⟩ := hv6; have X6 := (X5.below (box1 w5 (.cells #[.int .i64 y] 2))).far grow6 hN.out.2; have y0 := X6.c0; have y1 := X6.c1; have yf0 := X6.f0; have yf1 := X6.f1)
        | (go_simp; go_at_call 18; refine (l01Next_any p 5 _ (by first | exact hS.out.1.below (Below.refl _ _).drew) (by omega)).mono ?_; rintro e_ w5 ⟨y, rfl, ya, yb, S5, g5⟩; have X5 := (hX.out.below (Below.refl _ _).drew).grown g5 (by omega); have N5 := own_srcP (own_below hN.out.1 (Below.refl _ _).drew) g5 (by omega); have hz5 := X5.lt; have z0 := X5.c0; have z1 := X5.c1)))
      all_goals
        have S6 := (S5.below (box1 w5 (.cells #[.int .i64 y] 2))).grownP grow6 (fun z hz => by have := (N5.lt z hz).1; omega)
        have G6 := grown_own (grown_trans (grown_trans (grown_trans hG.out (grown_below (Below.refl _ _).drew)) g5) (grown_below (box1 w5 (.cells #[.int .i64 y] 2)))) grow6 (fun z hz => by have := (N5.lt z hz).1; omega)
        have R6 := (((hS.out.2.below (Below.refl _ _).drew).grown g5 (by omega)).below (box1 w5 (.cells #[.int .i64 y] 2))).far grow6 (fun e => by have := (N5.lt _ e).1; omega)
        have hne6 : (Value.slice A6 (sp.length + 1) c6).ownBlock ≠ some w1.heap.size := by
          rcases hlie with e | e
          · rw [e]; exact hN.out.2
          · rw [e]; simp; omega
        have HX := Lib.hid (X6.set0 (u' := .slice A6 (sp.length + 1) c6))
        have HS := Lib.hid (And.intro (S6.grownP (grown_set w6 w1.heap.size 0 (.slice A6 (sp.length + 1) c6)) (fun k hk => by have e : w1.heap.size = k := Option.some.inj hk; omega)) (R6.far (grown_set w6 w1.heap.size 0 (.slice A6 (sp.length + 1) c6)) (fun e => by have e : w1.heap.size = w.heap.size := Option.some.inj e; omega)))
        have el : (sp ++ [y]).length = sp.length + 1 := by simp
        have HN := Lib.hid (And.intro (show (w6.setCell ⟨w1.heap.size, 0, none⟩ (.slice A6 (sp.length + 1) c6)).ownsRow (w.heap.size + 1) 2 1 (.slice A6 (sp.length + 1) c6) (sp ++ [y]).length ((sp ++ [y]).map (Value.int .i64)) from by rw [el]; exact own_setC (j := 0) (u := .slice A6 (sp.length + 1) c6) o6 hne6) hne6)
        have HG := Lib.hid (grown_own G6 (grown_set w6 w1.heap.size 0 (.slice A6 (sp.length + 1) c6)) (fun k hk => by have e : w1.heap.size = k := Option.some.inj hk; omega))
        have HL := Lib.hid (show (sp ++ [y]).length + (k - 1) ≤ 2 by simp; omega)
        have e2 : IntKind.i64.wrap ((k : Int) - 1) = ((k - 1 : Nat) : Int) := by rw [IntWalk.i64_in _ (by omega)]; omega
        clear S6 G6 R6 own6 grow6 hlie o6 x6 X6 y0 y1 yf0 yf1 S5 g5 X5 N5 z0 z1
        go_wp2
        go_roundw
        case rel => exact ⟨k - 1, _, sp ++ [y], by omega, rfl, HL, HS, HX, HN, HG⟩
        case measure => simp [intOf]; omega
    · obtain rfl : k = 0 := by omega
      go_wp2_with fail
      refine (l01Next_any p 24 _ hS.out.1 (by omega)).mono ?_
      rintro e_ w2 ⟨r, rfl, r0, r1, S2, g2⟩
      have R2 := hS.out.2.grown g2 (by omega)
      have X2 := hX.out.grown g2 (by omega)
      have N2 := own_srcP hN.out.1 g2 (by omega)
      have G2 := grown_trans hG.out g2
      have hob := hN.out.2
      have hne : w1.heap.size ≠ w.heap.size := by omega
      have hne2 : w.heap.size ≠ w1.heap.size := by omega
      have hRne : (Value.slice A sp.length c).ownBlock ≠ some w.heap.size := fun e => by have := (N2.lt _ e).1; omega
      clear hS hX hN hG g2
      have fin : ∀ (W : World) (v : Value) (ys : List Int) (t : ByteArray), t.size ≤ 10 → Src W p → w.grownBy W (some p) → W.ownsRow (w.heap.size + 1) 2 1 v ys.length (ys.map (Value.int .i64)) → v.ownBlock ≠ some w.heap.size → RulePost p w (.returned (.agg #[v, .string t])) ((W.setCell ⟨w.heap.size, 0, none⟩ v).setCell ⟨w.heap.size, 1, none⟩ (.string t)) := fun W v ys t h1 h2 h3 h4 h5 =>
        ⟨v, ys, t, rfl, h1, own_base (own_setC (own_setC h4 h5) h5) (by omega), (h2.grownP (grown_set W w.heap.size 0 v) (fun k hk => by have e : w.heap.size = k := Option.some.inj hk; omega)).grownP (grown_set _ w.heap.size 1 (.string t)) (fun k hk => by have e : w.heap.size = k := Option.some.inj hk; omega), grown_own (grown_own h3 (grown_set W w.heap.size 0 v) (fun k hk => by have e : w.heap.size = k := Option.some.inj hk; omega)) (grown_set _ w.heap.size 1 (.string t)) (fun k hk => by have e : w.heap.size = k := Option.some.inj hk; omega)⟩
      obtain ⟨a0, a1, af0, af1, al⟩ := R2
      by_cases hr0 : r = 0
      · subst hr0
        obtain ⟨x0, x1, xf0, xf1, xl⟩ := X2
        have HX2 := Lib.hid (show Box2 w2 w1.heap.size (.slice A sp.length c) (.string x) from ⟨x0, x1, xf0, xf1, xl⟩)
        have HR2 := Lib.hid (show Box2 w2 w.heap.size (.slice none 0 0) (.string ⟨#[]⟩) from ⟨a0, a1, af0, af1, al⟩)
        have hlt2 := S2.lt
        have hx3 := ints_alloc w2.drew [19, 20, -1] 2 (by decide)
        have HB := box1 w2.drew (.cells ([19, 20, -1].map (Value.int .i64)).toArray 2)
        have SB := (S2.below (Below.refl _ _).drew).below HB
        have GB := grown_trans (grown_trans G2 (grown_below (Below.refl _ _).drew)) (grown_below HB)
        have NB := own_below (own_below N2 (Below.refl _ _).drew) HB
        have XB := (HX2.out.below (Below.refl _ _).drew).below HB
        have RB := (HR2.out.below (Below.refl _ _).drew).below HB
        go_wp2_with fail
        (go_region_law (first
          | (refine step_own_lie rfl _ _ 24 rfl (w.heap.size + 1) 2 i0 (.int .i64 0) 1 8 Tryz.underlying24 hi hz0 hz1 hz2 rfl (by decide) _ _ _ rfl (N5.alloc _) ⟨w5.heap.size, 0, none⟩ 1 1 [.int .i64 y] rfl rfl (cell_one_new _ _ _) (by simp [Value.oneCell']) (by unfold maxLen; omega) (by omega) (by simp; omega) ?_; intro v6 w6 own6 grow6 hlie; have o6 : w6.ownsRow (w.heap.size + 1) 2 1 v6 (sp.length + 1) ((sp ++ [y]).map (Value.int .i64)) := (by simpa using own6); have hv6 := own_ints_ o6; obtain ⟨A6, c6, rfl, x6⟩ := hv6; have X6 := (X5.below (box1 w5 (.cells #[.int .i64 y] 2))).far grow6 hob; have y0 := X6.c0; have y1 := X6.c1; have yf0 := X6.f0; have yf1 := X6.f1; have R6 := (R5.below (box1 w5 (.cells #[.int .i64 y] 2))).far grow6 (fun e => by have := (N5.lt _ e).1; omega); have b0 := R6.c0; have b1 := R6.c1; have bf0 := R6.f0; have bf1 := R6.f1)
          | (go_simp; go_at_call 27; refine (l01Pick_any p _ 3 3 _ _ SB hx3 (by omega) (by omega) (by have : w2.drew.heap.size = w2.heap.size := rfl; omega)).mono ?_; rintro e_ w5 ⟨y, rfl, _, S5, g5⟩; have X5 := XB.grown g5 (by omega); have R5 := RB.grown g5 (by omega); have N5 := own_srcP NB g5 (by omega); have hz5 := X5.lt; have z0 := X5.c0; have z1 := X5.c1)))
        all_goals
          have S6 := (S5.below (box1 w5 (.cells #[.int .i64 y] 2))).grownP grow6 (fun z hz => by have := (N5.lt z hz).1; omega)
          have G6 := grown_own (grown_trans (grown_trans GB g5) (grown_below (box1 w5 (.cells #[.int .i64 y] 2)))) grow6 (fun z hz => by have := (N5.lt z hz).1; omega)
          have hne6 : (Value.slice A6 (sp.length + 1) c6).ownBlock ≠ some w1.heap.size := by
            rcases hlie with e | e
            · rw [e]; exact hob
            · rw [e]; simp; omega
          have hR6 : (Value.slice A6 (sp.length + 1) c6).ownBlock ≠ some w.heap.size := fun e => by have := (o6.lt _ e).1; omega
          have el : (sp ++ [y]).length = sp.length + 1 := by simp
          have F := fin (w6.setCell ⟨w1.heap.size, 0, none⟩ (.slice A6 (sp.length + 1) c6)) (.slice A6 (sp.length + 1) c6) (sp ++ [y]) x (by omega) (S6.grownP (grown_set w6 w1.heap.size 0 (.slice A6 (sp.length + 1) c6)) (fun k hk => by have e : w1.heap.size = k := Option.some.inj hk; omega)) (grown_own G6 (grown_set w6 w1.heap.size 0 (.slice A6 (sp.length + 1) c6)) (fun k hk => by have e : w1.heap.size = k := Option.some.inj hk; omega)) (by rw [el]; exact own_setC (j := 0) (u := .slice A6 (sp.length + 1) c6) o6 hne6) hR6
          clear fin
          go_wp2
          refine bodyPost_ret (v := .agg #[.slice A6 (sp.length + 1) c6, .string x]) ?_ rfl F
          simp [results, Tryz.results13, go_sem, b0, b1, hne, hne2]
      · have d0 : (r == 0) = false := by simpa using hr0
        by_cases hr1 : r = 1
        · subst hr1
          have HX2 := Lib.hid X2
          have HR2 := Lib.hid (show Box2 w2 w.heap.size (.slice none 0 0) (.string ⟨#[]⟩) from ⟨a0, a1, af0, af1, al⟩)
          have hlt2 := S2.lt
          have P0 := parts_alloc w2 [⟨#[97, 98, 99, 100]⟩, ⟨#[97, 98, 99, 100, 101]⟩, ⟨#[65]⟩] 9 5 (by decide)
          replace P0 : Parts _ w2.heap.size 3 5 := P0
          have HB := box1 w2 (.cells ([⟨#[97, 98, 99, 100]⟩, ⟨#[97, 98, 99, 100, 101]⟩, ⟨#[65]⟩].map Value.string).toArray 9)
          clear a0 a1 af0 af1 X2
          go_wp2_with fail
          refine (l01Next_any p 3 _ (S2.below HB) (by omega)).mono ?_
          rintro e_ w5 ⟨k, rfl, k0, k1, S5, g5⟩
          have P5 := P0.grown g5 (by omega)
          obtain ⟨j2, rfl⟩ : ∃ j : Nat, k = j := ⟨k.toNat, by omega⟩
          obtain ⟨y, hy, hy4⟩ := P5 j2 (by omega)
          have j3 : (j2 : Int) < 3 := by omega
          have X5 := (HX2.out.below HB).grown g5 (by omega)
          have R5 := (HR2.out.below HB).grown g5 (by omega)
          have N5 := own_srcP (own_below N2 HB) g5 (by omega)
          have G5 := grown_trans (grown_trans G2 (grown_below HB)) g5
          have F := fin (w5.setCell ⟨w1.heap.size, 1, none⟩ (.string y)) (.slice A sp.length c) sp y (by omega) (S5.grownP (grown_set w5 w1.heap.size 1 (.string y)) (fun k hk => by have e : w1.heap.size = k := Option.some.inj hk; omega)) (grown_own G5 (grown_set w5 w1.heap.size 1 (.string y)) (fun k hk => by have e : w1.heap.size = k := Option.some.inj hk; omega)) (own_setC (j := 1) (u := .string y) N5 hob) hRne
          obtain ⟨x0, x1, xf0, xf1, xl⟩ := X5
          obtain ⟨b0, b1, bf0, bf1, bl⟩ := R5
          clear fin P5 P0 HB g5
          go_wp2
          refine bodyPost_ret (v := .agg #[.slice A sp.length c, .string y]) ?_ rfl F
          simp [results, Tryz.results13, go_sem, b0, b1, hne, hne2]
        · have d1 : (r == 1) = false := by simpa using hr1
          by_cases hr2 : r = 2
          · subst hr2
            have HX2 := Lib.hid X2
            have HR2 := Lib.hid (show Box2 w2 w.heap.size (.slice none 0 0) (.string ⟨#[]⟩) from ⟨a0, a1, af0, af1, al⟩)
            have hlt2 := S2.lt
            have hxl := X2.lt
            have M0 := World.ownsRow_lit (base := w.heap.size + 1) (e := 2) (size := 1) w2 #[.int .i64 0, .int .i64 0, .int .i64 0, .int .i64 0] 4 (by omega) (by unfold maxLen; omega) rfl
            have HB := box1 w2 (.cells #[.int .i64 0, .int .i64 0, .int .i64 0, .int .i64 0] 2)
            clear a0 a1 af0 af1 X2
            go_wp2_with fail
            refine (l01Next_any p 5 _ (S2.below HB) (by omega)).mono ?_
            rintro e_ w5 ⟨k, rfl, k0, k1, S5, g5⟩
            obtain ⟨j2, rfl⟩ : ∃ j : Nat, k = j := ⟨k.toNat, by omega⟩
            have j4 : j2 ≤ 4 := by omega
            have j3 : (j2 : Int) ≤ 4 := by omega
            have X5 := (HX2.out.below HB).grown g5 (by omega)
            have R5 := (HR2.out.below HB).grown g5 (by omega)
            have M5 := own_head (own_srcP M0 g5 (by omega)) j4
            have G5 := grown_trans (grown_trans G2 (grown_below HB)) g5
            have hM1 : (Value.slice (some ⟨w2.heap.size, 0, none⟩) j2 4).ownBlock ≠ some w1.heap.size := fun e => by have e : w2.heap.size = w1.heap.size := Option.some.inj e; omega
            have hM2 : (Value.slice (some ⟨w2.heap.size, 0, none⟩) j2 4).ownBlock ≠ some w.heap.size := fun e => by have e : w2.heap.size = w.heap.size := Option.some.inj e; omega
            have hMM : w5.ownsRow (w.heap.size + 1) 2 1 (.slice (some ⟨w2.heap.size, 0, none⟩) j2 4) ([0, 0, 0, 0].take j2 : List Int).length (([0, 0, 0, 0].take j2 : List Int).map (Value.int .i64)) := by
              rw [List.map_take]
              have el : ([0, 0, 0, 0].take j2 : List Int).length = j2 := by simp; omega
              rw [el]
              exact M5
            have F := fin (w5.setCell ⟨w1.heap.size, 0, none⟩ (.slice (some ⟨w2.heap.size, 0, none⟩) j2 4)) (.slice (some ⟨w2.heap.size, 0, none⟩) j2 4) ([0, 0, 0, 0].take j2) x (by omega) (S5.grownP (grown_set w5 w1.heap.size 0 (.slice (some ⟨w2.heap.size, 0, none⟩) j2 4)) (fun k hk => by have e : w1.heap.size = k := Option.some.inj hk; omega)) (grown_own G5 (grown_set w5 w1.heap.size 0 (.slice (some ⟨w2.heap.size, 0, none⟩) j2 4)) (fun k hk => by have e : w1.heap.size = k := Option.some.inj hk; omega)) (own_setC (j := 0) (u := .slice (some ⟨w2.heap.size, 0, none⟩) j2 4) hMM hM1) hM2
            obtain ⟨x0, x1, xf0, xf1, xl⟩ := X5
            obtain ⟨b0, b1, bf0, bf1, bl⟩ := R5
            clear fin HB g5
            go_wp2
            refine bodyPost_ret (v := .agg #[.slice (some ⟨w2.heap.size, 0, none⟩) j2 4, .string x]) ?_ rfl F
            simp [results, Tryz.results13, go_sem, b0, b1, hne, hne2]
          · have d2 : (r == 2) = false := by simpa using hr2
            obtain ⟨x0, x1, xf0, xf1, xl⟩ := X2
            go_wp2
            refine bodyPost_ret (v := .agg #[.slice A sp.length c, .string x]) ?_ rfl (fin w2 _ sp x (by omega) S2 G2 N2 hRne)
            simp [results, Tryz.results13, go_sem, a0, a1]
set_option maxHeartbeats 1000000 in
theorem DrawRuleText_any (A : Option Addr) (n c : Nat) (bs : List UInt8) (w : World) (hx : Bytes w A n c bs) : Calls Tryz.prog 5 #[.slice A n c] w fun e w' => ∃ (v : Value) (xs : List Int) (t : ByteArray), e = .returned (.agg #[v, .string t]) ∧ t.size ≤ 10 ∧ w'.ownsRow w.heap.size 2 1 v xs.length (xs.map (Value.int .i64)) ∧ Below w.heap.size w w' := by
  go_enter Tryz.func5, Tryz.ntmps5
  go_wp2_with fail
  have HB := box1 w (.cells #[.slice none 0 0, .string ⟨#[]⟩] 26)
  have X0 := box2_new w (.slice none 0 0) (.string ⟨#[]⟩) 26
  refine (l01From_any A n c bs _ (hx.below HB)).mono ?_
  rintro e_ w1 ⟨rfl, S1, b1⟩
  have X1 := X0.below b1
  have hp : w.heap.size < (w.alloc (.cells #[.slice none 0 0, .string ⟨#[]⟩] 26)).heap.size := X0.lt
  have B1 := (HB.trans (b1.mono (Nat.le_of_lt hp)))
  have hz1 : w.heap.size < w1.heap.size := X1.lt
  generalize (w.alloc (.cells #[.slice none 0 0, .string ⟨#[]⟩] 26)).heap.size = p at *
  go_wp2_with fail
  refine (l04DrawRule_any p _ S1).mono ?_
  rintro e_ w2 ⟨v, xs, t, rfl, ht, O2, S2, g2⟩
  obtain ⟨A2, c2, rfl, _⟩ := own_ints_ O2
  have B2 := Lib.hid (below_own B1 g2 (Nat.le_refl _) (fun k hk => by injection hk with hk; omega))
  have hne : (Value.slice A2 xs.length c2).ownBlock ≠ some w.heap.size := fun e => by have := (O2.lt _ e).1; omega
  have HO := Lib.hid (own_setC (j := 1) (u := .string t) (own_setC (j := 0) (u := .slice A2 xs.length c2) O2 hne) hne)
  obtain ⟨c0, c1, f0, f1, _⟩ := X1.grown g2 (by omega)
  clear X0 X1 b1 g2 HB B1 hx S1 O2
  go_wp2
  refine bodyPost_ret (v := .agg #[.slice A2 xs.length c2, .string t]) ?_ rfl ⟨_, xs, t, rfl, ht, own_base HO.out (by omega), ?_⟩
  · simp [results, Tryz.results5, go_sem, c0, c1]
  · exact (B2.out.setCell (Nat.le_refl _) _).setCell (Nat.le_refl _) _
end Go.Proofs.YtfacbdliegemgaaGreatDoor
