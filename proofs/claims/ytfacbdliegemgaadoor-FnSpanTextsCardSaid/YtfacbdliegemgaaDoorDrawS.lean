/- Draws of spans, and of their texts. -/
import Derived.Test.YtfacbdliegemgaaDoorDrawC
import Derived.Test.YtfacbdliegemgaaDoorSpanT
namespace Go.Proofs.YtfacbdliegemgaaDoor
open Go.ChangeShapes Go.WideShapes Go.ChangeAt Go.RowKit

/-- two cells of a block that may be written -/
structure Box2 (w : World) (g : Nat) (u v : Value) : Prop where
  c0 : w.cell? ⟨g, 0, none⟩ = some u
  c1 : w.cell? ⟨g, 1, none⟩ = some v
  f0 : w.frozen? ⟨g, 0, none⟩ = false
  f1 : w.frozen? ⟨g, 1, none⟩ = false
  lt : g < w.heap.size
theorem box2_new (w : World) (u v : Value) (t : TypeId) : Box2 (w.alloc (.cells #[u, v] t)) w.heap.size u v := ⟨by simp, by simp, by simp, by simp, by simp⟩
theorem Box2.below {w w' : World} {g : Nat} {u v : Value} (h : Box2 w g u v) (hb : Below w.heap.size w w') : Box2 w' g u v :=
  ⟨cell_keep hb h.c0, cell_keep hb h.c1, (bfree hb g 0 h.lt).trans h.f0, (bfree hb g 1 h.lt).trans h.f1, Nat.lt_of_lt_of_le h.lt hb.size⟩
theorem Box2.grown {w w' : World} {g p : Nat} {u v : Value} (h : Box2 w g u v) (hg : w.grownBy w' (some p)) (hne : p ≠ g) : Box2 w' g u v :=
  have hb := hg.block g h.lt (fun e => hne (by injection e with e; exact e.symm))
  ⟨grown_cell hg h.c0 (by simpa using hne), grown_cell hg h.c1 (by simpa using hne), (World.frozen?_of_block hb).trans h.f0, (World.frozen?_of_block hb).trans h.f1, Nat.lt_of_lt_of_le h.lt hg.size⟩
theorem Src.grownS {w w' : World} {p : Nat} {row : Option Nat} (h : Src w p) (hg : w.grownBy w' row) (hne : ∀ k, row = some k → p < k) : Src w' p := by
  obtain ⟨A, n, c, bs, a, s, S⟩ := h
  have hp : row ≠ some p := fun e => by have := hne p e; omega
  refine ⟨A, n, c, bs, a, s, Nat.lt_of_lt_of_le S.lt hg.size, grown_cell hg S.c0 hp, grown_cell hg S.c1 hp, grown_cell hg S.c2 hp, fun j => ?_, S.s0, S.s1, S.a0, S.a1, S.by_.block hg.size fun hn b off e => ?_, S.bl⟩
  · exact (World.frozen?_of_block (hg.block p S.lt (fun e => hp e.symm))).trans (S.f0 j)
  · have := S.bl hn b off e
    exact hg.block b (by have := S.lt; omega) (fun e2 => by have := hne b e2.symm; omega)
theorem src_set {w : World} {p g j : Nat} {u : Value} (h : Src w p) (hg : p < g) : Src (w.setCell ⟨g, j, none⟩ u) p := h.grownS (grown_set w g j u) (fun k hk => by injection hk with hk; omega)
theorem grown_new {w w' : World} {row : Option Nat} {g j : Nat} {u : Value} (h : w.grownBy w' row) (hg : w.heap.size ≤ g) : w.grownBy (w'.setCell ⟨g, j, none⟩ u) row := by
  have h2 := (Below.refl g w').setCell (p := ⟨g, j, none⟩) (Nat.le_refl _) u
  exact ⟨h2.os.trans h.os, h2.tape.trans h.tape, h2.output.trans h.output, Nat.le_trans h.size h2.size, fun k hk hne => (h2.block k (by omega)).trans (h.block k hk hne)⟩
set_option maxRecDepth 100000 in
set_option maxHeartbeats 4000000 in
theorem l02Good_any (p : Nat) (w : World) (h : Src w p) : Calls Tryd.prog 54 #[.pointer (some ⟨p, 0, none⟩)] w fun e w' => ∃ a b : Int, e = .returned (.agg #[.int .i64 a, .int .i64 b]) ∧ isSpn a b = true ∧ 1000 ≤ a ∧ a ≤ 1999 ∧ Src w' p ∧ w.grownBy w' (some p) := by
  have hp := h.lt
  go_enter Tryd.func54, Tryd.ntmps54
  go_wp2_with fail
  have S0 := h.below (box1 w (.cells #[.int .i64 0, .int .i64 0] 35))
  have X0 := box2_new w (.int .i64 0) (.int .i64 0) 35
  refine (l01Next_any p 1000 _ S0 (by omega)).mono ?_
  rintro e_ w1 ⟨r, rfl, r0, r1, S1, g1⟩
  have G1 := grown_trans (grown_below (box1 w (.cells #[.int .i64 0, .int .i64 0] 35)) (row := some p)) g1
  have X1 := X0.grown g1 (by omega)
  have e1 : IntKind.i64.wrap (1000 + r) = 1000 + r := IntWalk.i64_in _ (by omega)
  go_wp2_with fail
  refine (l01Next_any p 20 _ S1 (by omega)).mono ?_
  rintro e_ w2 ⟨a, rfl, a0, a1, S2, g2⟩
  have G2 := grown_trans G1 g2
  have X2 := X1.grown g2 (by omega)
  go_wp2_with fail
  refine (l01Next_any p 300 _ S2 (by omega)).mono ?_
  rintro e_ w3 ⟨b, rfl, b0, b1, S3, g3⟩
  have G3 := grown_trans G2 g3
  have X3 := X2.grown g3 (by omega)
  go_wp2_with fail
  have hx := ints_alloc w3 [0, a, b, 2000] 2 (by simp [maxLen])
  have HB := box1 w3 (.cells ([0, a, b, 2000].map (Value.int .i64)).toArray 2)
  refine (l01Pick_any p _ 4 4 _ _ (S3.below HB) hx (by omega) (by omega) (by have := S3.lt; omega)).mono ?_
  rintro e_ w4 ⟨q, rfl, hq, S4, g4⟩
  have G4 := Lib.hid (grown_trans (grown_trans G3 (grown_below HB)) g4)
  have X4 := (X3.below HB).grown g4 (by omega)
  have hq2 : 0 ≤ q ∧ q ≤ 2000 := by
    simp only [List.mem_cons, List.not_mem_nil, or_false] at hq
    omega
  have e2 : IntKind.i64.wrap (1000 + r + q) = 1000 + r + q := IntWalk.i64_in _ (by omega)
  obtain ⟨c0, c1, f0, f1, _⟩ := X4
  clear X3 X2 X1 X0 G3 G2 G1 g1 g2 g3 g4 HB hx S3 S2 S1 S0 hq h
  go_wp2
  refine bodyPost_ret (v := .agg #[.int .i64 (1000 + r), .int .i64 (min 3000 (1000 + r + q))]) ?_ rfl ⟨_, _, rfl, decide_eq_true (by omega), by omega, by omega, ?_, ?_⟩
  · simp [results, Tryd.results54, go_sem, c0, c1]
  · exact src_set (src_set S4 hp) hp
  · exact grown_new (grown_new G4.out (Nat.le_refl _)) (Nat.le_refl _)
set_option maxRecDepth 100000 in
set_option maxHeartbeats 4000000 in
theorem l02Draw_any (p : Nat) (w : World) (h : Src w p) : Calls Tryd.prog 52 #[.pointer (some ⟨p, 0, none⟩)] w fun e w' => ∃ a b : Int, e = .returned (.agg #[.int .i64 a, .int .i64 b]) ∧ Src w' p ∧ w.grownBy w' (some p) := by
  have hp := h.lt
  go_enter Tryd.func52, Tryd.ntmps52
  go_wp2_with fail
  have X0 := box2_new w (.int .i64 0) (.int .i64 0) 35
  refine (l02Good_any p _ (h.below (box1 w (.cells #[.int .i64 0, .int .i64 0] 35)))).mono ?_
  rintro e_ w1 ⟨a, b, rfl, hab, a0, a1, S1, g1⟩
  have hb := spn_bd hab
  have G1 := grown_trans (grown_below (box1 w (.cells #[.int .i64 0, .int .i64 0] 35)) (row := some p)) g1
  have X1 := X0.grown g1 (by omega)
  have hp1 := S1.lt
  have BB := box1 w1 (.cells #[.int .i64 a, .int .i64 b] 35)
  have Y1 := box2_new w1 (.int .i64 a) (.int .i64 b) 35
  go_wp2_with fail
  refine (l01Next_any p 20 _ (S1.below BB) (by omega)).mono ?_
  rintro e_ w2 ⟨r, rfl, r0, r1, S2, g2⟩
  have G2 := Lib.hid (grown_trans (grown_trans G1 (grown_below BB)) g2)
  have X2 := (X1.below BB).grown g2 (by omega)
  have Y2 := Y1.grown g2 (by omega)
  have hx1 : w.heap.size < w1.heap.size := X1.lt
  have hne : w.heap.size ≠ w1.heap.size := by omega
  have hne2 : w1.heap.size ≠ w.heap.size := by omega
  clear X1 Y1 G1 g1 g2 BB X0 h S1
  by_cases hr0 : r = 0
  · subst hr0
    have e1 : IntKind.i64.wrap (a - 1) = a - 1 := IntWalk.i64_in _ (by omega)
    obtain ⟨c0, c1, f0, f1, _⟩ := X2
    obtain ⟨d0, d1, k0, k1, _⟩ := Y2
    go_wp2
    refine bodyPost_ret (v := .agg #[.int .i64 (a), .int .i64 (a - 1)]) ?_ rfl ⟨_, _, rfl, ?_, ?_⟩
    · simp [results, Tryd.results52, go_sem, c0, c1, d0, d1, hne, hne2]
    · exact src_set (src_set (src_set S2 hp1) hp) hp
    · exact grown_new (grown_new (grown_new G2.out (Nat.le_of_lt hx1)) (Nat.le_refl _)) (Nat.le_refl _)
  · have j0 : (r == 0) = false := by simpa using hr0
    have j0' : ((0 : Int) == r) = false := by simpa using fun e => hr0 e.symm
    by_cases hr1 : r = 1
    · subst hr1
      go_wp2_with fail
      have hx := ints_alloc w2 [-3000, -3001, 3001] 2 (by decide)
      have HB := box1 w2 (.cells ([-3000, -3001, 3001].map (Value.int .i64)).toArray 2)
      refine (l01Pick_any p _ 3 3 _ _ (S2.below HB) hx (by omega) (by omega) (by have := S2.lt; omega)).mono ?_
      rintro e_ w3 ⟨q, rfl, _, S3, g3⟩
      have G3 := Lib.hid (grown_trans (grown_trans G2.out (grown_below HB)) g3)
      obtain ⟨c0, c1, f0, f1, _⟩ := (X2.below HB).grown g3 (by omega)
      obtain ⟨d0, d1, k0, k1, _⟩ := (Y2.below HB).grown g3 (by omega)
      clear X2 Y2 G2 g3 HB hx S2
      go_wp2
      refine bodyPost_ret (v := .agg #[.int .i64 (q), .int .i64 (b)]) ?_ rfl ⟨_, _, rfl, ?_, ?_⟩
      · simp [results, Tryd.results52, go_sem, c0, c1, d0, d1, hne, hne2]
      · exact src_set (src_set (src_set S3 hp1) hp) hp
      · exact grown_new (grown_new (grown_new G3.out (Nat.le_of_lt hx1)) (Nat.le_refl _)) (Nat.le_refl _)
    · have j1 : (r == 1) = false := by simpa using hr1
      have j1' : ((1 : Int) == r) = false := by simpa using fun e => hr1 e.symm
      by_cases hr2 : r = 2
      · subst hr2
        go_wp2_with fail
        have hx := ints_alloc w2 [3000, 3001] 2 (by decide)
        have HB := box1 w2 (.cells ([3000, 3001].map (Value.int .i64)).toArray 2)
        refine (l01Pick_any p _ 2 2 _ _ (S2.below HB) hx (by omega) (by omega) (by have := S2.lt; omega)).mono ?_
        rintro e_ w3 ⟨q, rfl, _, S3, g3⟩
        have G3 := Lib.hid (grown_trans (grown_trans G2.out (grown_below HB)) g3)
        obtain ⟨c0, c1, f0, f1, _⟩ := (X2.below HB).grown g3 (by omega)
        obtain ⟨d0, d1, k0, k1, _⟩ := (Y2.below HB).grown g3 (by omega)
        clear X2 Y2 G2 g3 HB hx S2
        go_wp2
        refine bodyPost_ret (v := .agg #[.int .i64 (a), .int .i64 (q)]) ?_ rfl ⟨_, _, rfl, ?_, ?_⟩
        · simp [results, Tryd.results52, go_sem, c0, c1, d0, d1, hne, hne2]
        · exact src_set (src_set (src_set S3 hp1) hp) hp
        · exact grown_new (grown_new (grown_new G3.out (Nat.le_of_lt hx1)) (Nat.le_refl _)) (Nat.le_refl _)
      · have d2 : (r == 2) = false := by simpa using hr2
        have d2' : ((2 : Int) == r) = false := by simpa using fun e => hr2 e.symm
        obtain ⟨c0, c1, f0, f1, _⟩ := X2
        obtain ⟨d0, d1, k0, k1, _⟩ := Y2
        go_wp2
        refine bodyPost_ret (v := .agg #[.int .i64 (a), .int .i64 (b)]) ?_ rfl ⟨_, _, rfl, ?_, ?_⟩
        · simp [results, Tryd.results52, go_sem, c0, c1, d0, d1, hne, hne2]
        · exact src_set (src_set S2 hp) hp
        · exact grown_new (grown_new G2.out (Nat.le_refl _)) (Nat.le_refl _)
set_option maxHeartbeats 1000000 in
theorem DrawSpanText_any (A : Option Addr) (n c : Nat) (bs : List UInt8) (w : World) (hx : Bytes w A n c bs) : Calls Tryd.prog 27 #[.slice A n c] w fun e w' => ∃ a b : Int, e = .returned (.agg #[.int .i64 a, .int .i64 b]) ∧ Below w.heap.size w w' := by
  go_enter Tryd.func27, Tryd.ntmps27
  go_wp2_with fail
  have HB := box1 w (.cells #[.int .i64 0, .int .i64 0] 35)
  have X0 := box2_new w (.int .i64 0) (.int .i64 0) 35
  refine (l01From_any A n c bs _ (hx.below HB)).mono ?_
  rintro e_ w1 ⟨rfl, S1, b1⟩
  have X1 := X0.below b1
  have hp : w.heap.size < (w.alloc (.cells #[.int .i64 0, .int .i64 0] 35)).heap.size := X0.lt
  have B1 := (HB.trans (b1.mono (Nat.le_of_lt hp)))
  generalize (w.alloc (.cells #[.int .i64 0, .int .i64 0] 35)).heap.size = p at *
  go_wp2_with fail
  refine (l02Draw_any p _ S1).mono ?_
  rintro e_ w2 ⟨a, b, rfl, S2, g2⟩
  have B2 := Lib.hid (below_own B1 g2 (Nat.le_refl _) (fun k hk => by injection hk with hk; omega))
  obtain ⟨c0, c1, f0, f1, _⟩ := X1.grown g2 (by omega)
  clear X0 X1 b1 g2 HB B1 hx S1
  go_wp2
  refine bodyPost_ret (v := .agg #[.int .i64 a, .int .i64 b]) ?_ rfl ⟨a, b, rfl, ?_⟩
  · simp [results, Tryd.results27, go_sem, c0, c1]
  · exact (B2.out.setCell (Nat.le_refl _) _).setCell (Nat.le_refl _) _
/-- what a draw of a text returns -/
def StrPostS (w : World) (e : Ending) (w' : World) : Prop := ∃ t : ByteArray, e = .returned (.string t) ∧ t.size ≤ 10000 ∧ Below w.heap.size w w'
set_option maxRecDepth 100000 in
set_option maxHeartbeats 4000000 in
theorem DrawReadSpan_any (A : Option Addr) (n c : Nat) (bs : List UInt8) (w : World) (hx : Bytes w A n c bs) : Calls Tryd.prog 30 #[.slice A n c] w (StrPostS w) := by
  go_enter Tryd.func30, Tryd.ntmps30
  go_wp2_with fail
  refine (l01From_any A n c bs w hx).mono ?_
  rintro e_ w1 ⟨rfl, S1, b1⟩
  generalize hp : w.heap.size = p at *
  go_wp2_with fail
  refine (l02Good_any p _ S1).mono ?_
  rintro e_ w2 ⟨a, b, rfl, hab, a0, a1, S2, g2⟩
  have hb := spn_bd hab
  have hle : a ≤ b := by have := of_decide_eq_true hab; omega
  have B2 := Lib.hid (below_own b1 g2 (Nat.le_of_eq hp.symm) (fun k hk => by injection hk with hk; omega))
  have hp2 := S2.lt
  have BB := box1 w2 (.cells #[.int .i64 a, .int .i64 b] 35)
  have Y2 := box2_new w2 (.int .i64 a) (.int .i64 b) 35
  clear b1 g2 hx S1
  go_wp2_with fail
  refine (l01Next_any p 4 _ (S2.below BB) (by omega)).mono ?_
  rintro e_ w3 ⟨r, rfl, r0, r1, S3, g3⟩
  have B3 := Lib.hid (below_own (B2.out.alloc (Nat.le_of_lt hp2) (.cells #[.int .i64 a, .int .i64 b] 35)) g3 (Nat.le_of_eq hp.symm) (fun k hk => by injection hk with hk; omega))
  obtain ⟨c0, c1, f0, f1, hlt3⟩ := Y2.grown g3 (by omega)
  clear Y2 BB B2 g3 S2
  have step : ∀ (a b : Int) (t : ByteArray), isSpn a b = true → spnT a b = t → t.size ≤ 100 := fun a b t h e => by
    have h2 := spn_bd h
    have z1 := numT_size (n := a) (decide_eq_true (by omega))
    have z2 := numT_size (n := b) (decide_eq_true (by omega))
    rw [← e]
    unfold spnT
    rw [ByteArray.size_append, ByteArray.size_append]
    have : (⟨#[46, 46]⟩ : ByteArray).size = 2 := rfl
    omega
  by_cases hr : r = 0
  · subst hr
    have hab2 : isSpn (-a) b = true := decide_eq_true (by omega)
    have e1 : IntKind.i64.wrap (-a) = -a := IntWalk.i64_in _ (by omega)
    have hli := fun W => l02Text_any (-a) b W hab2
    obtain ⟨t, htt⟩ : ∃ t, spnT (-a) b = t := ⟨_, rfl⟩
    have hz := step _ _ t hab2 htt
    rw [htt] at hli
    have S4 := src_set (g := w2.heap.size) (j := 0) (u := .int .i64 (-a)) S3 hp2
    have B4 := Lib.hid (B3.out.setCell (p := ⟨w2.heap.size, 0, none⟩) (Nat.le_of_lt hp2) (.int .i64 (-a)))
    clear htt
    go_wp2_with fail
    refine (hli _).mono ?_
    rintro e_ w4 ⟨rfl, h4⟩
    have B5 := Lib.hid (B4.out.trans (h4.mono (Nat.le_of_lt S4.lt)))
    have S5 := S4.below h4
    clear B4 S4 h4 hli B3 S3
    go_wp2_with fail
    refine (l01Next_any p 3 _ S5 (by omega)).mono ?_
    rintro e_ w5 ⟨k, rfl, k0, k1, S6, g6⟩
    have B6 := Lib.hid (below_own B5.out g6 (Nat.le_of_eq hp.symm) (fun k hk => by injection hk with hk; omega))
    by_cases hk : k = 0
    · subst hk
      go_wp2_with fail
      refine (l01Damage_any p t _ S6 (by omega)).mono ?_
      rintro e_ w6 ⟨u, rfl, hu, S7, g7⟩
      go_wp2
      go_ret
      exact ⟨u, rfl, by omega, by rw [hp]; exact below_own B6.out g7 (Nat.le_of_eq hp.symm) (fun k hk => by injection hk with hk; omega)⟩
    · have hk2 : (k == 0) = false := by simpa using hk
      go_wp2
      go_ret
      exact ⟨t, rfl, by omega, by rw [hp]; exact B6.out⟩
  · have hr2 : (r == 0) = false := by simpa using hr
    have hli := fun W => l02Text_any a b W hab
    obtain ⟨t, htt⟩ : ∃ t, spnT a b = t := ⟨_, rfl⟩
    have hz := step _ _ t hab htt
    rw [htt] at hli
    clear htt
    go_wp2_with fail
    refine (hli _).mono ?_
    rintro e_ w4 ⟨rfl, h4⟩
    have B5 := Lib.hid (B3.out.trans (h4.mono (Nat.le_of_lt S3.lt)))
    have S5 := S3.below h4
    clear h4 hli B3 S3
    go_wp2_with fail
    refine (l01Next_any p 3 _ S5 (by omega)).mono ?_
    rintro e_ w5 ⟨k, rfl, k0, k1, S6, g6⟩
    have B6 := Lib.hid (below_own B5.out g6 (Nat.le_of_eq hp.symm) (fun k hk => by injection hk with hk; omega))
    by_cases hk : k = 0
    · subst hk
      go_wp2_with fail
      refine (l01Damage_any p t _ S6 (by omega)).mono ?_
      rintro e_ w6 ⟨u, rfl, hu, S7, g7⟩
      go_wp2
      go_ret
      exact ⟨u, rfl, by omega, by rw [hp]; exact below_own B6.out g7 (Nat.le_of_eq hp.symm) (fun k hk => by injection hk with hk; omega)⟩
    · have hk2 : (k == 0) = false := by simpa using hk
      go_wp2
      go_ret
      exact ⟨t, rfl, by omega, by rw [hp]; exact B6.out⟩
end Go.Proofs.YtfacbdliegemgaaDoor
