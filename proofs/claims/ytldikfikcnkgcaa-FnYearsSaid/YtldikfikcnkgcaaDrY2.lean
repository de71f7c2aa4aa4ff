/- Draws of spans in this seat. -/
import Derived.Test.YtldikfikcnkgcaaDrY
namespace Go.Proofs.Ytldikfikcnkgcaa
open Go.ChangeShapes Go.WideShapes Go.ChangeAt Go.RowKit Go.Deep Go.Joins

theorem Src.grownP {w w' : World} {p : Nat} {row : Option Nat} (h : Src w p) (hg : w.grownBy w' row) (hne : ∀ k, row = some k → p < k) : Src w' p := by
  obtain ⟨A, n, c, bs, a, s, S⟩ := h
  have hp : row ≠ some p := fun e => by have := hne p e; omega
  refine ⟨A, n, c, bs, a, s, Nat.lt_of_lt_of_le S.lt hg.size, grown_cell hg S.c0 hp, grown_cell hg S.c1 hp, grown_cell hg S.c2 hp, fun j => ?_, S.s0, S.s1, S.a0, S.a1, S.by_.block hg.size fun hn b off e => ?_, S.bl⟩
  · exact (World.frozen?_of_block (hg.block p S.lt (fun e => hp e.symm))).trans (S.f0 j)
  · have := S.bl hn b off e
    exact hg.block b (by have := S.lt; omega) (fun e2 => by have := hne b e2.symm; omega)
theorem own_srcP {w w' : World} {p base : Nat} {e : TypeId} {size : Nat} {v : Value} {n : Nat} {xs : List Value} (h : w.ownsRow base e size v n xs) (hg : w.grownBy w' (some p)) (hb : p < base) : w'.ownsRow base e size v n xs :=
  own_far h hg fun k hk e => by have := (h.lt k hk).1; injection e with e; omega
theorem grown_own {w W W' : World} {p : Nat} {row : Option Nat} (h : w.grownBy W (some p)) (hg : W.grownBy W' row) (hne : ∀ k, row = some k → w.heap.size ≤ k) : w.grownBy W' (some p) :=
  ⟨hg.os.trans h.os, hg.tape.trans h.tape, hg.output.trans h.output, Nat.le_trans h.size hg.size, fun k hk hkp => (hg.block k (Nat.lt_of_lt_of_le hk h.size) (fun e => by have := hne k e.symm; omega)).trans (h.block k hk hkp)⟩
theorem below_srcP {a w w' : World} {p : Nat} (h : Below p a w) (hg : w.grownBy w' (some p)) (hp : a.heap.size = p) : Below p a w' :=
  below_own h hg (Nat.le_of_eq hp.symm) (fun k hk => by injection hk with hk; omega)
/-- two cells of a block that may be written -/
structure Box2 (w : World) (g : Nat) (u v : Value) : Prop where
  c0 : w.cell? ⟨g, 0, none⟩ = some u
  c1 : w.cell? ⟨g, 1, none⟩ = some v
  f0 : w.frozen? ⟨g, 0, none⟩ = false
  f1 : w.frozen? ⟨g, 1, none⟩ = false
  lt : g < w.heap.size
theorem box2_new (w : World) (u v : Value) (t : TypeId) : Box2 (w.alloc (.cells #[u, v] t)) w.heap.size u v := ⟨by simp, by simp, by simp, by simp, by simp⟩
theorem Box2.below {w w' : World} {g : Nat} {u v : Value} (h : Box2 w g u v) (hb : Below w.heap.size w w') : Box2 w' g u v :=
  ⟨cell_keep hb h.c0, cell_keep hb h.c1, (bfree hb g 0 h.lt).trans h.f0, (bfree hb g 1 h.lt).trans h.f1, Nat.lt_of_lt_of_le h.lt hb.size⟩
theorem Box2.grown {w w' : World} {g p : Nat} {u v : Value} (h : Box2 w g u v) (hg : w.grownBy w' (some p)) (hne : p ≠ g) : Box2 w' g u v :=
  have hb := hg.block g h.lt (fun e => hne (by injection e with e; exact e.symm))
  ⟨grown_cell hg h.c0 (by simpa using hne), grown_cell hg h.c1 (by simpa using hne), (World.frozen?_of_block hb).trans h.f0, (World.frozen?_of_block hb).trans h.f1, Nat.lt_of_lt_of_le h.lt hg.size⟩
theorem Src.grownS {w w' : World} {p : Nat} {row : Option Nat} (h : Src w p) (hg : w.grownBy w' row) (hne : ∀ k, row = some k → p < k) : Src w' p := by
  obtain ⟨A, n, c, bs, a, s, S⟩ := h
  have hp : row ≠ some p := fun e => by have := hne p e; omega
  refine ⟨A, n, c, bs, a, s, Nat.lt_of_lt_of_le S.lt hg.size, grown_cell hg S.c0 hp, grown_cell hg S.c1 hp, grown_cell hg S.c2 hp, fun j => ?_, S.s0, S.s1, S.a0, S.a1, S.by_.block hg.size fun hn b off e => ?_, S.bl⟩
  · exact (World.frozen?_of_block (hg.block p S.lt (fun e => hp e.symm))).trans (S.f0 j)
  · have := S.bl hn b off e
    exact hg.block b (by have := S.lt; omega) (fun e2 => by have := hne b e2.symm; omega)
theorem src_set {w : World} {p g j : Nat} {u : Value} (h : Src w p) (hg : p < g) : Src (w.setCell ⟨g, j, none⟩ u) p := h.grownS (grown_set w g j u) (fun k hk => by injection hk with hk; omega)
theorem grown_new {w w' : World} {row : Option Nat} {g j : Nat} {u : Value} (h : w.grownBy w' row) (hg : w.heap.size ≤ g) : w.grownBy (w'.setCell ⟨g, j, none⟩ u) row := by
  have h2 := (Below.refl g w').setCell (p := ⟨g, j, none⟩) (Nat.le_refl _) u
  exact ⟨h2.os.trans h.os, h2.tape.trans h.tape, h2.output.trans h.output, Nat.le_trans h.size h2.size, fun k hk hne => (h2.block k (by omega)).trans (h.block k hk hne)⟩
set_option maxRecDepth 100000 in
set_option maxHeartbeats 4000000 in
theorem l02Good_any (p : Nat) (w : World) (h : Src w p) : Calls Try.prog 71 #[.pointer (some ⟨p, 0, none⟩)] w fun e w' => ∃ a b : Int, e = .returned (.agg #[.int .i64 a, .int .i64 b]) ∧ isSpan (a, b) = true ∧ 1000 ≤ a ∧ a ≤ 1999 ∧ Src w' p ∧ w.grownBy w' (some p) := by
  have hp := h.lt
  go_enter Try.func71, Try.ntmps71
  go_wp2_with fail
  have S0 := h.below (box1 w (.cells #[.int .i64 0, .int .i64 0] 42))
  have X0 := box2_new w (.int .i64 0) (.int .i64 0) 42
  refine (l01Next_any p 1000 _ S0 (by omega)).mono ?_
  rintro e_ w1 ⟨r, rfl, r0, r1, S1, g1⟩
  have G1 := grown_trans (grown_below (box1 w (.cells #[.int .i64 0, .int .i64 0] 42)) (row := some p)) g1
  have X1 := X0.grown g1 (by omega)
  have e1 : IntKind.i64.wrap (1000 + r) = 1000 + r := IntWalk.i64_in _ (by omega)
  go_wp2_with fail
  refine (l01Next_any p 20 _ S1 (by omega)).mono ?_
  rintro e_ w2 ⟨a, rfl, a0, a1, S2, g2⟩
  have G2 := grown_trans G1 g2
  have X2 := X1.grown g2 (by omega)
  go_wp2_with fail
  refine (l01Next_any p 300 _ S2 (by omega)).mono ?_
  rintro e_ w3 ⟨b, rfl, b0, b1, S3, g3⟩
  have G3 := grown_trans G2 g3
  have X3 := X2.grown g3 (by omega)
  go_wp2_with fail
  have hx := ints_alloc w3 [0, a, b, 2000] 2 (by simp [maxLen])
  have HB := box1 w3 (.cells ([0, a, b, 2000].map (Value.int .i64)).toArray 2)
  refine (l01Pick_any p _ 4 4 _ _ (S3.below HB) hx (by omega) (by omega) (by have := S3.lt; omega)).mono ?_
  rintro e_ w4 ⟨q, rfl, hq, S4, g4⟩
  have G4 := Lib.hid (grown_trans (grown_trans G3 (grown_below HB)) g4)
  have X4 := (X3.below HB).grown g4 (by omega)
  have hq2 : 0 ≤ q ∧ q ≤ 2000 := by
    simp only [List.mem_cons, List.not_mem_nil, or_false] at hq
    omega
  have e2 : IntKind.i64.wrap (1000 + r + q) = 1000 + r + q := IntWalk.i64_in _ (by omega)
  obtain ⟨c0, c1, f0, f1, _⟩ := X4
  clear X3 X2 X1 X0 G3 G2 G1 g1 g2 g3 g4 HB hx S3 S2 S1 S0 hq h
  go_wp2
  all_goals
    refine bodyPost_ret (v := .agg #[.int .i64 (1000 + r), .int .i64 (min 3000 (1000 + r + q))]) ?_ rfl ⟨_, _, rfl, by simp [isSpan]; omega, by omega, by omega, ?_, ?_⟩
    · simp [results, Try.results71, go_sem, c0, c1] <;> omega
    · exact src_set (src_set S4 hp) hp
    · exact grown_new (grown_new G4.out (Nat.le_refl _)) (Nat.le_refl _)
set_option maxRecDepth 100000 in
set_option maxHeartbeats 4000000 in
theorem l02Draw_any (p : Nat) (w : World) (h : Src w p) : Calls Try.prog 60 #[.pointer (some ⟨p, 0, none⟩)] w fun e w' => ∃ a b : Int, e = .returned (.agg #[.int .i64 a, .int .i64 b]) ∧ Src w' p ∧ w.grownBy w' (some p) := by
  have hp := h.lt
  go_enter Try.func60, Try.ntmps60
  go_wp2_with fail
  have X0 := box2_new w (.int .i64 0) (.int .i64 0) 42
  refine (l02Good_any p _ (h.below (box1 w (.cells #[.int .i64 0, .int .i64 0] 42)))).mono ?_
  rintro e_ w1 ⟨a, b, rfl, hab, a0, a1, S1, g1⟩
  have hb := isSpan_bounds hab
  have G1 := grown_trans (grown_below (box1 w (.cells #[.int .i64 0, .int .i64 0] 42)) (row := some p)) g1
  have X1 := X0.grown g1 (by omega)
  have hp1 := S1.lt
  have BB := box1 w1 (.cells #[.int .i64 a, .int .i64 b] 42)
  have Y1 := box2_new w1 (.int .i64 a) (.int .i64 b) 42
  go_wp2_with fail
  refine (l01Next_any p 20 _ (S1.below BB) (by omega)).mono ?_
  rintro e_ w2 ⟨r, rfl, r0, r1, S2, g2⟩
  have G2 := Lib.hid (grown_trans (grown_trans G1 (grown_below BB)) g2)
  have X2 := (X1.below BB).grown g2 (by omega)
  have Y2 := Y1.grown g2 (by omega)
  have hx1 : w.heap.size < w1.heap.size := X1.lt
  have hne : w.heap.size ≠ w1.heap.size := by omega
  have hne2 : w1.heap.size ≠ w.heap.size := by omega
  clear X1 Y1 G1 g1 g2 BB X0 h S1
  by_cases hr0 : r = 0
  · subst hr0
    have e1 : IntKind.i64.wrap (a - 1) = a - 1 := IntWalk.i64_in _ (by omega)
    obtain ⟨c0, c1, f0, f1, _⟩ := X2
    obtain ⟨d0, d1, k0, k1, _⟩ := Y2
    go_wp2
    refine bodyPost_ret (v := .agg #[.int .i64 (a), .int .i64 (a - 1)]) ?_ rfl ⟨_, _, rfl, ?_, ?_⟩
    · simp [results, Try.results60, go_sem, c0, c1, d0, d1, hne, hne2]
    · exact src_set (src_set (src_set S2 hp1) hp) hp
    · exact grown_new (grown_new (grown_new G2.out (Nat.le_of_lt hx1)) (Nat.le_refl _)) (Nat.le_refl _)
  · have j0 : (r == 0) = false := by simpa using hr0
    have j0' : ((0 : Int) == r) = false := by simpa using fun e => hr0 e.symm
    by_cases hr1 : r = 1
    · subst hr1
      go_wp2_with fail
      have hx := ints_alloc w2 [-3000, -3001, 3001] 2 (by decide)
      have HB := box1 w2 (.cells ([-3000, -3001, 3001].map (Value.int .i64)).toArray 2)
      refine (l01Pick_any p _ 3 3 _ _ (S2.below HB) hx (by omega) (by omega) (by have := S2.lt; omega)).mono ?_
      rintro e_ w3 ⟨q, rfl, _, S3, g3⟩
      have G3 := Lib.hid (grown_trans (grown_trans G2.out (grown_below HB)) g3)
      obtain ⟨c0, c1, f0, f1, _⟩ := (X2.below HB).grown g3 (by omega)
      obtain ⟨d0, d1, k0, k1, _⟩ := (Y2.below HB).grown g3 (by omega)
      clear X2 Y2 G2 g3 HB hx S2
      go_wp2
      refine bodyPost_ret (v := .agg #[.int .i64 (q), .int .i64 (b)]) ?_ rfl ⟨_, _, rfl, ?_, ?_⟩
      · simp [results, Try.results60, go_sem, c0, c1, d0, d1, hne, hne2]
      · exact src_set (src_set (src_set S3 hp1) hp) hp
      · exact grown_new (grown_new (grown_new G3.out (Nat.le_of_lt hx1)) (Nat.le_refl _)) (Nat.le_refl _)
    · have j1 : (r == 1) = false := by simpa using hr1
      have j1' : ((1 : Int) == r) = false := by simpa using fun e => hr1 e.symm
      by_cases hr2 : r = 2
      · subst hr2
        go_wp2_with fail
        have hx := ints_alloc w2 [3000, 3001] 2 (by decide)
        have HB := box1 w2 (.cells ([3000, 3001].map (Value.int .i64)).toArray 2)
        refine (l01Pick_any p _ 2 2 _ _ (S2.below HB) hx (by omega) (by omega) (by have := S2.lt; omega)).mono ?_
        rintro e_ w3 ⟨q, rfl, _, S3, g3⟩
        have G3 := Lib.hid (grown_trans (grown_trans G2.out (grown_below HB)) g3)
        obtain ⟨c0, c1, f0, f1, _⟩ := (X2.below HB).grown g3 (by omega)
        obtain ⟨d0, d1, k0, k1, _⟩ := (Y2.below HB).grown g3 (by omega)
        clear X2 Y2 G2 g3 HB hx S2
        go_wp2
        refine bodyPost_ret (v := .agg #[.int .i64 (a), .int .i64 (q)]) ?_ rfl ⟨_, _, rfl, ?_, ?_⟩
        · simp [results, Try.results60, go_sem, c0, c1, d0, d1, hne, hne2]
        · exact src_set (src_set (src_set S3 hp1) hp) hp
        · exact grown_new (grown_new (grown_new G3.out (Nat.le_of_lt hx1)) (Nat.le_refl _)) (Nat.le_refl _)
      · have d2 : (r == 2) = false := by simpa using hr2
        have d2' : ((2 : Int) == r) = false := by simpa using fun e => hr2 e.symm
        obtain ⟨c0, c1, f0, f1, _⟩ := X2
        obtain ⟨d0, d1, k0, k1, _⟩ := Y2
        go_wp2
        refine bodyPost_ret (v := .agg #[.int .i64 (a), .int .i64 (b)]) ?_ rfl ⟨_, _, rfl, ?_, ?_⟩
        · simp [results, Try.results60, go_sem, c0, c1, d0, d1, hne, hne2]
        · exact src_set (src_set S2 hp) hp
        · exact grown_new (grown_new G2.out (Nat.le_refl _)) (Nat.le_refl _)
end Go.Proofs.Ytldikfikcnkgcaa
