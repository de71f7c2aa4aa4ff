/- Draws of sets of years for the laws in this seat. -/
import Derived.Test.YtldikfikcnkgcaaDrY3
import Derived.Test.YtldikfikcnkgcaaYrV
namespace Go.Proofs.Ytldikfikcnkgcaa
open Go.ChangeShapes Go.WideShapes Go.ChangeAt Go.RowKit Go.Deep Go.Joins

theorem own_adr {w : World} {base g n c : Nat} {e : TypeId} {size : Nat} {xs : List Value} (h : w.ownsRow base e size (.slice (some ⟨g, 0, none⟩) n c) n xs) : Adr w (some ⟨g, 0, none⟩) := ⟨g, 0, rfl, (h.lt g rfl).2⟩
theorem Adr.below {w w' : World} {A : Option Addr} (h : Adr w A) (hb : Below w.heap.size w w') : Adr w' A := by
  obtain ⟨b, off, e, hl⟩ := h
  exact ⟨b, off, e, Nat.lt_of_lt_of_le hl hb.size⟩
/-- a set of years that can be read -/
structure Yrs (w : World) (g c : Nat) (xs : List Sp) : Prop where
  sp : Spans w (some ⟨g, 0, none⟩) xs.length c xs
  ad : Adr w (some ⟨g, 0, none⟩)
  len : xs.length ≤ 13
theorem Yrs.below {w w' : World} {g c : Nat} {xs : List Sp} (h : Yrs w g c xs) (hb : Below w.heap.size w w') : Yrs w' g c xs := ⟨h.sp.below hb, h.ad.below hb, h.len⟩
theorem yrs_own {w : World} {base g c : Nat} {xs : List Sp} (h : w.ownsRow base 42 2 (.slice (some ⟨g, 0, none⟩) xs.length c) xs.length (spanCells xs)) (hl : xs.length ≤ 13) : Yrs w g c xs := ⟨own_spans h rfl, own_adr h, hl⟩
set_option maxHeartbeats 1000000 in
theorem DrawCountYears_any (A : Option Addr) (n c : Nat) (bs : List UInt8) (w : World) (hx : Bytes w A n c bs) : Calls Try.prog 17 #[.slice A n c] w fun e w' => ∃ (g d : Nat) (xs : List Sp), e = .returned (.slice (some ⟨g, 0, none⟩) xs.length d) ∧ Yrs w' g d xs ∧ Below w.heap.size w w' := by
  go_enter Try.func17, Try.ntmps17
  go_wp2_with fail
  refine (l01From_any A n c bs w hx).mono ?_
  rintro e_ w1 ⟨rfl, S1, b1⟩
  go_wp2_with fail
  refine (l02DrawYears_any _ _ S1).mono ?_
  rintro e_ w2 ⟨g, d, xs, rfl, hl, O2, S2, g2⟩
  have HY := Lib.hid (yrs_own O2 hl)
  clear O2
  go_wp2
  go_ret
  exact ⟨g, d, xs, rfl, HY.out, below_srcP b1 g2 rfl⟩
set_option maxHeartbeats 1000000 in
theorem DrawHasYear_any (A : Option Addr) (n c : Nat) (bs : List UInt8) (w : World) (hx : Bytes w A n c bs) : Calls Try.prog 20 #[.slice A n c] w fun e w' => ∃ (g d : Nat) (xs : List Sp) (y : Int), e = .returned (.tuple #[.slice (some ⟨g, 0, none⟩) xs.length d, .int .i64 y]) ∧ Yrs w' g d xs ∧ Below w.heap.size w w' := by
  go_enter Try.func20, Try.ntmps20
  go_wp2_with fail
  refine (l01From_any A n c bs w hx).mono ?_
  rintro e_ w1 ⟨rfl, S1, b1⟩
  have hp := S1.lt
  go_wp2_with fail
  refine (l02DrawYears_any _ _ S1).mono ?_
  rintro e_ w2 ⟨g, d, xs, rfl, hl, O2, S2, g2⟩
  go_wp2_with fail
  refine (l01Next_any _ 600 _ S2 (by omega)).mono ?_
  rintro e_ w3 ⟨r, rfl, r0, r1, S3, g3⟩
  have HY := Lib.hid (yrs_own (own_srcP O2 g3 hp) hl)
  have HB := Lib.hid (below_srcP (below_srcP b1 g2 rfl) g3 rfl)
  have e1 : IntKind.i64.wrap (950 + r) = 950 + r := IntWalk.i64_in _ (by omega)
  clear O2 g2 g3
  go_wp2
  go_ret2
  exact ⟨g, d, xs, _, rfl, HY.out, HB.out⟩
set_option maxHeartbeats 1000000 in
theorem DrawUnionOf_any (A : Option Addr) (n c : Nat) (bs : List UInt8) (w : World) (hx : Bytes w A n c bs) : Calls Try.prog 24 #[.slice A n c] w fun e w' => ∃ (g d : Nat) (xs : List Sp) (h f : Nat) (ys : List Sp), e = .returned (.tuple #[.slice (some ⟨g, 0, none⟩) xs.length d, .slice (some ⟨h, 0, none⟩) ys.length f]) ∧ Yrs w' g d xs ∧ Yrs w' h f ys ∧ Below w.heap.size w w' := by
  go_enter Try.func24, Try.ntmps24
  go_wp2_with fail
  refine (l01From_any A n c bs w hx).mono ?_
  rintro e_ w1 ⟨rfl, S1, b1⟩
  have hp := S1.lt
  go_wp2_with fail
  refine (l02DrawYears_any _ _ S1).mono ?_
  rintro e_ w2 ⟨g, d, xs, rfl, hl, O2, S2, g2⟩
  go_wp2_with fail
  refine (l02DrawYears_any _ _ S2).mono ?_
  rintro e_ w3 ⟨h, f, ys, rfl, hl2, O3, S3, g3⟩
  have HY := Lib.hid (yrs_own (own_srcP O2 g3 hp) hl)
  have HZ := Lib.hid (yrs_own O3 hl2)
  have HB := Lib.hid (below_srcP (below_srcP b1 g2 rfl) g3 rfl)
  clear O2 O3 g2 g3
  go_wp2
  go_ret2
  exact ⟨g, d, xs, h, f, ys, rfl, HY.out, HZ.out, HB.out⟩
theorem below_set2 {B : Nat} {w W : World} {g : Nat} {u v : Value} (h : Below B w W) (hg : B ≤ g) : Below B w ((W.setCell ⟨g, 0, none⟩ u).setCell ⟨g, 1, none⟩ v) := (h.setCell hg _).setCell hg _
set_option maxRecDepth 100000 in
set_option maxHeartbeats 4000000 in
theorem DrawDoMeet_any (A : Option Addr) (n c : Nat) (bs : List UInt8) (w : World) (hx : Bytes w A n c bs) : Calls Try.prog 47 #[.slice A n c] w fun e w' => ∃ (a b a' b' : Int), e = .returned (.tuple #[.agg #[.int .i64 a, .int .i64 b], .agg #[.int .i64 a', .int .i64 b']]) ∧ Below w.heap.size w w' := by
  go_enter Try.func47, Try.ntmps47
  go_wp2_with fail
  have b0 := box1 w (.cells #[.int .i64 0, .int .i64 0] 42)
  have X0 := box2_new w (.int .i64 0) (.int .i64 0) 42
  generalize hW0 : w.alloc (.cells #[.int .i64 0, .int .i64 0] 42) = W0 at *
  have hs0 : W0.heap.size = w.heap.size + 1 := by rw [← hW0]; simp
  have b1 := box1 W0 (.cells #[.int .i64 0, .int .i64 0] 42)
  have Y0 := box2_new W0 (.int .i64 0) (.int .i64 0) 42
  have X1 := X0.below b1
  generalize hW1 : W0.alloc (.cells #[.int .i64 0, .int .i64 0] 42) = W1 at *
  have hs1 : W1.heap.size = w.heap.size + 2 := by rw [← hW1]; simp; omega
  refine (l01From_any A n c bs _ ((hx.below b0).below b1)).mono ?_
  rintro e_ w1 ⟨rfl, S1, b2⟩
  have X2 := X1.below b2
  have Y2 := Y0.below b2
  have B1 := next (next b0 b1) b2
  rw [hs1] at S1
  rw [hs0] at Y2
  clear hW0 hW1 X0 X1 Y0 b0 b1 b2 hx
  go_wp2_with fail
  refine (l02Draw_any _ _ S1).mono ?_
  rintro e_ w2 ⟨a, b, rfl, S2, g2⟩
  have X3 := X2.grown g2 (by omega)
  have Y3 := Y2.grown g2 (by omega)
  have B2 := below_own B1 g2 (Nat.le_refl _) (fun k hk => by injection hk with hk; omega)
  have hz2 := S2.lt
  have bb := box1 w2 (.cells #[.int .i64 a, .int .i64 b] 42)
  have Z4 := box2_new w2 (.int .i64 a) (.int .i64 b) 42
  have X4 := X3.below bb
  have Y4 := Y3.below bb
  have S4 := S2.below bb
  have B4 := B2.trans (bb.mono (by omega))
  clear S1 S2 X2 Y2 X3 Y3 B1 B2 g2 bb
  go_wp2_with fail
  generalize hW4 : w2.alloc (.cells #[.int .i64 a, .int .i64 b] 42) = W4 at *
  have hd := (Below.refl W4.heap.size W4).drew
  have Xd := X4.below hd
  have Yd := Y4.below hd
  have Zd := Z4.below hd
  have Sd := S4.below hd
  have Bd := B4.drew
  have hz4 : w2.heap.size < W4.heap.size := by rw [← hW4]; simp
  have zd0 := Zd.c0
  have zd1 := Zd.c1
  have zd4 := Zd.lt
  clear hW4 hd X4 Y4 Z4 S4 B4
  first
    | (go_region_with (first
        | (go_at_call 60; refine (l02Draw_any (w.heap.size + 2) _ Sd).mono ?_; rintro e_ w5 ⟨a', b', rfl, S5, g5⟩; have B5 := below_own Bd g5 (Nat.le_refl _) (fun k hk => by injection hk with hk; omega); have X5 := Xd.grown g5 (by omega); have Y5 := Yd.grown g5 (by omega); have Z5 := Zd.grown g5 (by omega); have x0 := X5.c0; have x1 := X5.c1; have x2 := X5.f0; have x3 := X5.f1; have x4 := X5.lt; have y0 := Y5.c0; have y1 := Y5.c1; have y2 := Y5.f0; have y3 := Y5.f1; have y4 := Y5.lt; have z0 := Z5.c0; have z1 := Z5.c1; have z4 := Z5.lt)))
    | fail
  all_goals
    go_wp2
    refine bodyPost_ret (v := .tuple #[.agg #[.int .i64 a, .int .i64 b], .agg #[.int .i64 a', .int .i64 b']]) ?_ rfl ⟨a, b, a', b', rfl, ?_⟩
    · simp [results, Try.results47, go_sem, x0, x1, y0, y1]
    · repeat first | exact B5 | refine Below.setCell ?_ (by simp) _
set_option maxHeartbeats 1000000 in
theorem DrawMeetOf_any (A : Option Addr) (n c : Nat) (bs : List UInt8) (w : World) (hx : Bytes w A n c bs) : Calls Try.prog 25 #[.slice A n c] w fun e w' => ∃ (a b a' b' : Int), e = .returned (.tuple #[.agg #[.int .i64 a, .int .i64 b], .agg #[.int .i64 a', .int .i64 b']]) ∧ Below w.heap.size w w' := by
  go_enter Try.func25, Try.ntmps25
  go_wp2_with fail
  have b0 := box1 w (.cells #[.int .i64 0, .int .i64 0] 42)
  have X0 := box2_new w (.int .i64 0) (.int .i64 0) 42
  generalize hW0 : w.alloc (.cells #[.int .i64 0, .int .i64 0] 42) = W0 at *
  have hs0 : W0.heap.size = w.heap.size + 1 := by rw [← hW0]; simp
  have b1 := box1 W0 (.cells #[.int .i64 0, .int .i64 0] 42)
  have Y0 := box2_new W0 (.int .i64 0) (.int .i64 0) 42
  have X1 := X0.below b1
  generalize hW1 : W0.alloc (.cells #[.int .i64 0, .int .i64 0] 42) = W1 at *
  refine (DrawDoMeet_any A n c bs _ ((hx.below b0).below b1)).mono ?_
  rintro e_ w1 ⟨a, b, a', b', rfl, b2⟩
  have X2 := X1.below b2
  have Y2 := Y0.below b2
  have B1 := next (next b0 b1) b2
  rw [hs0] at Y2
  clear hW0 hW1 X0 X1 Y0 b0 b1 b2 hx
  obtain ⟨x0, x1, x2, x3, x4⟩ := X2
  obtain ⟨y0, y1, y2, y3, y4⟩ := Y2
  go_wp2
  refine bodyPost_ret (v := .tuple #[.agg #[.int .i64 a, .int .i64 b], .agg #[.int .i64 a', .int .i64 b']]) ?_ rfl ⟨a, b, a', b', rfl, ?_⟩
  · simp [results, Try.results25, go_sem, x0, x1, y0, y1]
  · repeat first | exact B1 | refine Below.setCell ?_ (by simp) _
end Go.Proofs.Ytldikfikcnkgcaa
