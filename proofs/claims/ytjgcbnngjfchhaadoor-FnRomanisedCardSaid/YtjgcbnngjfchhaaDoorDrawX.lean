/- Draws of signs; what the law on romanisation draws. -/
import Derived.Test.YtjgcbnngjfchhaaDoorDrawW
namespace Go.Proofs.YtjgcbnngjfchhaaDoor
open Go.ChangeShapes Go.WideShapes Go.ChangeAt Go.RowKit

/-- what a draw of signs returns -/
def SignsPost (p : Nat) (w : World) (e : Ending) (w' : World) : Prop := ∃ (v : Value) (ss : List Int), e = .returned v ∧ ss.length ≤ 20 ∧ w'.ownsRow w.heap.size 2 1 v ss.length (ss.map (Value.int .i64)) ∧ Src w' p ∧ w.grownBy w' (some p)
set_option maxRecDepth 100000 in
set_option maxHeartbeats 4000000 in
theorem l04DrawSigns_any (p : Nat) (w : World) (h : Src w p) : Calls Tryd.prog 51 #[.pointer (some ⟨p, 0, none⟩)] w (SignsPost p w) := by
  have hp := h.lt
  obtain ⟨i0, hi, hz0, hz1, hz2⟩ := info_parts infoInt
  go_enter Tryd.func51, Tryd.ntmps51
  go_wp2_with fail
  have HB := box1 w (.cells #[] 2)
  have O0 := World.ownsRow_lit (base := w.heap.size) (e := 2) (size := 1) w #[] 0 (Nat.le_refl _) (by unfold maxLen; omega) rfl
  refine (l01Next_any p 6 _ (h.below HB) (by omega)).mono ?_
  rintro e_ w1 ⟨r, rfl, r0, r1, S1, g1⟩
  have HO := Lib.hid (own_srcP O0 g1 hp)
  have HG := Lib.hid (grown_trans (grown_below HB (row := some p)) g1)
  have HS := Lib.hid S1
  have e1 : IntKind.i64.wrap (1 + r) = 1 + r := IntWalk.i64_in _ (by omega)
  obtain ⟨q, hq⟩ : ∃ q : Nat, 1 + r = q := ⟨(1 + r).toNat, by omega⟩
  have hq6 : q ≤ 6 := by omega
  rw [hq] at e1
  clear O0 g1 S1 HB h
  go_wp2
  clear e1 hq r0 r1
  go_loopw [3, 4] (fun rv i wr => ∃ (k : Nat) (ys : List Int), k ≤ 6 ∧ i = .int .i64 k ∧ Hid (ys.length + k ≤ 6) ∧ Hid (Src wr p) ∧ Hid (wr.ownsRow w.heap.size 2 1 rv ys.length (ys.map (Value.int .i64))) ∧ Hid (w.grownBy wr (some p))) (fun _ i _ => (intOf i).toNat)
  case atStart => exact ⟨q, [], hq6, by first | rfl | simp [*], Lib.hid (by simp; omega), HS, HO, HG⟩
  case round =>
    clear HO HG HS
    obtain ⟨k, ys, hk, rfl, hlen, hS, hO, hG⟩ := hrel
    have hle := hlen.out
    obtain ⟨Ay, cy, rfl, hyi⟩ := own_ints_ hO.out
    clear hyi
    by_cases hlt : 0 < k
    · have hj0 : (0 : Int) < (k : Int) := by omega
      have ek : IntKind.i64.wrap ((k : Int) - 1) = ((k - 1 : Nat) : Int) := by rw [IntWalk.i64_in _ (by omega)]; omega
      go_wp2_with fail
      refine (l01Next_any p 5 _ hS.out (by omega)).mono ?_
      rintro e_ w3 ⟨y, rfl, _, _, S3, g3⟩
      have O3 := own_srcP hO.out g3 hp
      have G3 := Lib.hid (grown_trans hG.out g3)
      have hpp3 := G3.out.size
      have hly : ys.length ≤ 6 := by omega
      clear hO hG hS g3
      go_wp2_with (at_builtin; refine wpList_append_own _ rfl _ _ 24 rfl w.heap.size 2 i0 (.int .i64 0) 1 8 Tryd.underlying24 hi hz0 hz1 hz2 rfl (by decide) _ _ _ rfl (O3.alloc _) ⟨w3.heap.size, 0, none⟩ 1 1 [.int .i64 y] rfl rfl ?c1 ?c2 ?c3 ?c4 ?c5 ?_)
      case c1 => exact cell_one_new _ _ _
      case c2 => simp [Value.oneCell']
      case c3 => unfold maxLen; omega
      case c4 => omega
      case c5 => simp; omega
      intro v4 w4 own4 grow4 _
      have HO : Hid (w4.ownsRow w.heap.size 2 1 v4 (ys ++ [y]).length ((ys ++ [y]).map (Value.int .i64))) := Lib.hid (by simpa using own4)
      have HS := Lib.hid ((S3.below (box1 w3 (.cells #[.int .i64 y] 2))).grownP grow4 (fun z hz => by have := (O3.lt z hz).1; omega))
      have HG := Lib.hid (grown_own (grown_trans G3.out (grown_below (box1 w3 (.cells #[.int .i64 y] 2)))) grow4 (fun z hz => (O3.lt z hz).1))
      have HL := Lib.hid (show (ys ++ [y]).length + (k - 1) ≤ 6 by simp; omega)
      clear own4 grow4 O3 G3 S3
      go_wp2
      go_roundw
      case rel => exact ⟨k - 1, ys ++ [y], by omega, by first | rfl | exact congrArg _ ek | go_num, HL, HS, HO, HG⟩
      case measure => simp [intOf]; omega
    · obtain rfl : k = 0 := by omega
      have hly : ys.length ≤ 6 := by omega
      go_wp2_with fail
      refine (l01Next_any p 24 _ hS.out (by omega)).mono ?_
      rintro e_ w3 ⟨t, rfl, t0, t1, S3, g3⟩
      have O3 := own_srcP hO.out g3 hp
      have G3 := grown_trans hG.out g3
      clear hO hG hS g3
      by_cases ht0 : t = 0
      · subst ht0
        go_wp2_with fail
        have hx := ints_alloc w3 [6, 20, -1] 2 (by decide)
        have HB := box1 w3 (.cells ([6, 20, -1].map (Value.int .i64)).toArray 2)
        refine (l01Pick_any p _ 3 3 _ _ (S3.below HB) hx (by omega) (by omega) (by have := S3.lt; omega)).mono ?_
        rintro e_ w4 ⟨y, rfl, hy, S4, g4⟩
        have O4 := own_srcP (own_below O3 HB) g4 hp
        have G4 := Lib.hid (grown_trans (grown_trans G3 (grown_below HB)) g4)
        have hpp4 := G4.out.size
        clear O3 G3 S3 g4 HB hx
        go_wp2_with (at_builtin; refine wpList_append_own _ rfl _ _ 24 rfl w.heap.size 2 i0 (.int .i64 0) 1 8 Tryd.underlying24 hi hz0 hz1 hz2 rfl (by decide) _ _ _ rfl (O4.alloc _) ⟨w4.heap.size, 0, none⟩ 1 1 [.int .i64 y] rfl rfl ?c1 ?c2 ?c3 ?c4 ?c5 ?_)
        case c1 => exact cell_one_new _ _ _
        case c2 => simp [Value.oneCell']
        case c3 => unfold maxLen; omega
        case c4 => omega
        case c5 => simp; omega
        intro v5 w5 own5 grow5 _
        have HO : Hid (w5.ownsRow w.heap.size 2 1 v5 (ys ++ [y]).length ((ys ++ [y]).map (Value.int .i64))) := Lib.hid (by simpa using own5)
        have S5 := (S4.below (box1 w4 (.cells #[.int .i64 y] 2))).grownP grow5 (fun z hz => by have := (O4.lt z hz).1; omega)
        have G5 := Lib.hid (grown_own (grown_trans G4.out (grown_below (box1 w4 (.cells #[.int .i64 y] 2)))) grow5 (fun z hz => (O4.lt z hz).1))
        clear own5 grow5 O4 G4 S4
        go_wp2
        go_ret
        exact ⟨v5, ys ++ [y], rfl, by simp; omega, HO.out, S5, G5.out⟩
      · have d0 : (t == 0) = false := by simpa using ht0
        by_cases ht1 : t = 1
        · subst ht1
          go_wp2_with fail
          refine (l01Next_any p 2 _ S3 (by omega)).mono ?_
          rintro e_ w4 ⟨b, rfl, b0, b1, S4, g4⟩
          have G4 := Lib.hid (grown_trans G3 g4)
          have hww4 := G4.out.size
          have HS4 := Lib.hid S4
          clear S3 g4 O3 G3 S4
          have hm : ∃ m : Nat, IntKind.i64.wrap (12 + b) = m ∧ m ≤ 13 := ⟨(12 + b).toNat, by rw [IntWalk.i64_in _ (by omega)]; omega, by omega⟩
          obtain ⟨m, em, hm⟩ := hm
          have hmk := fun W => run_make_rowN (P := Tryd.prog) 24 2 i0 _ Tryd.underlying24 hi hz0 .i64 .i64 m m (Nat.le_refl _) (by rw [hz2]; omega) (by omega) W
          go_wp2
          go_ret
          refine ⟨_, List.replicate m 0, rfl, by simp; omega, ?_, HS4.out.below (box1 _ _), grown_trans G4.out (grown_below (box1 _ _))⟩
          rw [List.length_replicate]
          have h := World.ownsRow_lit (base := w.heap.size) (e := 2) (size := 1) w4 (madeCells #[.int .i64 0] m) m hww4 (by unfold maxLen; omega) (by rw [size_madeCells]; omega)
          rw [toList_madeCells_one] at h
          simpa using h
        · have d1 : (t == 1) = false := by simpa using ht1
          by_cases ht2 : t = 2
          · subst ht2
            have G4 := Lib.hid G3
            have hww4 := G4.out.size
            have HS4 := Lib.hid S3
            clear S3 O3 G3
            go_wp2
            go_ret
            exact ⟨_, [], rfl, by simp, own_base (World.ownsRow_lit (base := w3.heap.size) (e := 2) (size := 1) w3 #[] 0 (Nat.le_refl _) (by unfold maxLen; omega) rfl) hww4, HS4.out.below (box1 _ _), grown_trans G4.out (grown_below (box1 _ _))⟩
          · have d2 : (t == 2) = false := by simpa using ht2
            go_wp2
            go_ret
            exact ⟨_, ys, rfl, by omega, O3, S3, G3⟩
/-- a table that can be read -/
structure Tab (w : World) (b off n c : Nat) (T : List Rl) : Prop where
  rl : Rules w (some ⟨b, off, none⟩) n c T
  len : n ≤ 40
  sh : ShortR T
theorem Tab.below {w w' : World} {b off n c : Nat} {T : List Rl} (h : Tab w b off n c T) (hb : Below w.heap.size w w') : Tab w' b off n c T := ⟨h.rl.below hb, h.len, h.sh⟩
set_option maxHeartbeats 1000000 in
theorem DrawSignsCovered_any (A : Option Addr) (n c : Nat) (bs : List UInt8) (w : World) (hx : Bytes w A n c bs) : Calls Tryd.prog 28 #[.slice A n c] w fun e w' => ∃ (b off m d : Nat) (T : List Rl), e = .returned (.slice (some ⟨b, off, none⟩) m d) ∧ Tab w' b off m d T ∧ Below w.heap.size w w' := by
  go_enter Tryd.func28, Tryd.ntmps28
  go_wp2_with fail
  refine (l01From_any A n c bs w hx).mono ?_
  rintro e_ w1 ⟨rfl, S1, b1⟩
  go_wp2_with fail
  refine (l04Draw_any _ _ S1).mono ?_
  rintro e_ w2 ⟨b, off, m, d, T, rfl, hl, hs, hR, S2, g2⟩
  have HT := Lib.hid (Tab.mk (hR w2 (Zone.refl _ _ _)) hl hs)
  clear hR
  go_wp2
  go_ret
  exact ⟨b, off, m, d, T, rfl, HT.out, below_srcP b1 g2 rfl⟩
set_option maxHeartbeats 1000000 in
theorem DrawRomanise_any (A : Option Addr) (n c : Nat) (bs : List UInt8) (w : World) (hx : Bytes w A n c bs) : Calls Tryd.prog 23 #[.slice A n c] w fun e w' => ∃ (b off m d : Nat) (T : List Rl) (B : Option Addr) (f : Nat) (ss : List Int), e = .returned (.tuple #[.slice (some ⟨b, off, none⟩) m d, .slice B ss.length f]) ∧ ss.length ≤ 20 ∧ Tab w' b off m d T ∧ Ints w' B ss.length f ss ∧ Below w.heap.size w w' := by
  go_enter Tryd.func23, Tryd.ntmps23
  go_wp2_with fail
  refine (l01From_any A n c bs w hx).mono ?_
  rintro e_ w1 ⟨rfl, S1, b1⟩
  go_wp2_with fail
  refine (l04Draw_any _ _ S1).mono ?_
  rintro e_ w2 ⟨b, off, m, d, T, rfl, hl, hs, hR, S2, g2⟩
  go_wp2_with fail
  have hp1 := S1.lt
  refine (l04DrawSigns_any _ _ S2).mono ?_
  rintro e_ w3 ⟨v, ss, rfl, hsl, O3, S3, g3⟩
  obtain ⟨B, f, rfl, X3⟩ := own_ints_ O3
  have HX := Lib.hid X3
  have HT := Lib.hid (Tab.mk (hR w3 (Zone.of_grown g3 (Nat.zero_le _) hp1)) hl hs)
  have HB := Lib.hid (below_srcP (below_srcP b1 g2 rfl) g3 rfl)
  clear hR X3 O3 g2 g3 b1
  go_wp2
  go_ret2
  exact ⟨b, off, m, d, T, B, f, ss, rfl, hsl, HT.out, HX.out, HB.out⟩
set_option maxRecDepth 100000 in
set_option maxHeartbeats 2000000 in
theorem DrawAddRule_any (A : Option Addr) (n c : Nat) (bs : List UInt8) (w : World) (hx : Bytes w A n c bs) : Calls Tryd.prog 31 #[.slice A n c] w fun e w' => ∃ (b off m d : Nat) (T : List Rl) (B : Option Addr) (f : Nat) (rs : List Int) (x : ByteArray), e = .returned (.tuple #[.slice (some ⟨b, off, none⟩) m d, .agg #[.slice B rs.length f, .string x]]) ∧ x.size ≤ 10 ∧ Tab w' b off m d T ∧ Ints w' B rs.length f rs ∧ Below w.heap.size w w' := by
  go_enter Tryd.func31, Tryd.ntmps31
  go_wp2_with fail
  have b0 := box1 w (.cells #[.slice none 0 0, .string ⟨#[]⟩] 39)
  have R0 := box2_new w (.slice none 0 0) (.string ⟨#[]⟩) 39
  have hs0 : (w.alloc (.cells #[.slice none 0 0, .string ⟨#[]⟩] 39)).heap.size = w.heap.size + 1 := by simp
  generalize w.alloc (.cells #[.slice none 0 0, .string ⟨#[]⟩] 39) = W0 at *
  refine (l01From_any A n c bs _ (hx.below b0)).mono ?_
  rintro e_ w1 ⟨rfl, S1, b1⟩
  have R1 := R0.below b1
  have B1 := next b0 b1
  rw [hs0] at S1
  clear b0 b1 R0 hx
  go_wp2_with fail
  try rw [hs0]
  refine (l04Draw_any _ _ S1).mono ?_
  rintro e_ w2 ⟨b, off, m, d, T, rfl, hl, hs, hR, S2, g2⟩
  have R2 := R1.grown g2 (by omega)
  have B2 := below_own B1 g2 (Nat.le_refl _) (fun k hk => by injection hk with hk; omega)
  go_wp2_with fail
  try rw [hs0]
  have hp1 := S1.lt
  have hp2 := g2.size
  refine (l04DrawRule_any _ _ S2).mono ?_
  rintro e_ w3 ⟨u, rs, x, rfl, hx, U3, S3, g3⟩
  have R3 := R2.grown g3 (by omega)
  have HB := Lib.hid (below_own B2 g3 (Nat.le_refl _) (fun k hk => by injection hk with hk; omega))
  have hZ := Zone.of_grown (lo := 0) (hi := w1.heap.size) g3 (Nat.zero_le _) hp1
  have HZ : ∀ u v : Value, Zone 0 w1.heap.size w2 ((w3.setCell ⟨w.heap.size, 0, none⟩ u).setCell ⟨w.heap.size, 1, none⟩ v) := fun u v => (hZ.trans (Zone.set w3 _ _ _ (Nat.zero_le _) (by omega))).trans (Zone.set _ _ _ _ (Nat.zero_le _) (by omega))
  have HU : ∀ a b : Value, ((w3.setCell ⟨w.heap.size, 0, none⟩ a).setCell ⟨w.heap.size, 1, none⟩ b).ownsRow w2.heap.size 2 1 u rs.length (rs.map (Value.int .i64)) := fun a b => own_above (own_above U3 (Zone.set (lo := 0) (hi := w2.heap.size) w3 _ _ _ (Nat.zero_le _) (by omega)) (Nat.le_refl _)) (Zone.set (lo := 0) (hi := w2.heap.size) _ _ _ _ (Nat.zero_le _) (by omega)) (Nat.le_refl _)
  obtain ⟨B, f, rfl, X3⟩ := own_ints_ U3
  have HXX := Lib.hid (own_ints (HU (.slice B rs.length f) (.string x)))
  have HT := Lib.hid (Tab.mk (hR _ (HZ (.slice B rs.length f) (.string x))) hl hs)
  obtain ⟨x0, x1, x2, x3, x4⟩ := R3
  clear hR X3 U3 g2 g3 B1 B2 S1 S2 S3 R1 R2 HZ HU hZ
  go_wp2
  refine bodyPost_ret (v := .tuple #[.slice (some ⟨b, off, none⟩) m d, .agg #[.slice B rs.length f, .string x]]) (by simp [results, Tryd.results31, go_sem, x0, x1]) rfl ⟨b, off, m, d, T, B, f, rs, x, rfl, hx, HT.out, HXX.out, ?_⟩
  exact (HB.out.setCell (Nat.le_refl _) _).setCell (Nat.le_refl _) _
end Go.Proofs.YtjgcbnngjfchhaaDoor
