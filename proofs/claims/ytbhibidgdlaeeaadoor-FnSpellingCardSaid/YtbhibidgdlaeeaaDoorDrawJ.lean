/- Draws of spellings. -/
import Derived.Test.YtbhibidgdlaeeaaDoorDrawH
import Derived.Test.YtbhibidgdlaeeaaDoorSpellE
import Derived.Deep.RegionWith
namespace Go.Proofs.YtbhibidgdlaeeaaDoor
open Go.ChangeShapes Go.WideShapes Go.ChangeAt Go.RowKit

set_option maxHeartbeats 1000000 in
theorem DrawSpellWord_any (A : Option Addr) (n c : Nat) (bs : List UInt8) (w : World) (hx : Bytes w A n c bs) : Calls Tryd.prog 64 #[.slice A n c] w fun e w' => ∃ (v : Value) (xs : List ByteArray) (t : ByteArray), e = .returned (.tuple #[v, .string t]) ∧ xs.length ≤ 60 ∧ (∀ x ∈ xs, x.size ≤ 4) ∧ t.size ≤ 20 ∧ w'.ownsRow w.heap.size 9 1 v xs.length (xs.map Value.string) ∧ Below w.heap.size w w' := by
  go_enter Tryd.func64, Tryd.ntmps64
  go_wp2_with fail
  refine (l01From_any A n c bs w hx).mono ?_
  rintro e_ w1 ⟨rfl, S1, b1⟩
  go_wp2_with fail
  refine (l03Draw_any _ _ S1).mono ?_
  rintro e_ w2 ⟨v, xs, rfl, hl, hz, O2, S2, g2⟩
  have hp := S1.lt
  go_wp2_with fail
  refine (l01DrawWord_any _ _ S2).mono ?_
  rintro e_ w3 ⟨t, rfl, ht, S3, g3⟩
  have HO := Lib.hid (own_base (own_srcP O2 g3 hp) b1.size)
  clear O2
  go_wp2
  go_ret2
  exact ⟨v, xs, t, rfl, hl, hz, by omega, HO.out, below_srcP (below_srcP b1 g2 rfl) g3 rfl⟩
/-- what a draw of letters and a spelling returns -/
def SpPost (w : World) (e : Ending) (w' : World) : Prop := ∃ (v u : Value) (xs : List ByteArray) (sp : List Int), e = .returned (.tuple #[v, u]) ∧ xs.length ≤ 60 ∧ (∀ x ∈ xs, x.size ≤ 4) ∧ sp.length ≤ 2000000 ∧ w'.ownsRow w.heap.size 9 1 v xs.length (xs.map Value.string) ∧ w'.ownsRow w.heap.size 2 1 u sp.length (sp.map (Value.int .i64)) ∧ Below w.heap.size w w'
set_option maxRecDepth 100000 in
set_option maxHeartbeats 4000000 in
theorem DrawJoinLetters_any (A : Option Addr) (n c : Nat) (bs : List UInt8) (w : World) (hx : Bytes w A n c bs) : Calls Tryd.prog 71 #[.slice A n c] w (SpPost w) := by
  obtain ⟨i0, hi, hz0, hz1, hz2⟩ := info_parts infoInt
  go_enter Tryd.func71, Tryd.ntmps71
  go_wp2_with fail
  refine (l01From_any A n c bs w hx).mono ?_
  rintro e_ w1 ⟨rfl, S1, b1⟩
  generalize hp : w.heap.size = p at *
  have hz1p := S1.lt
  go_wp2_with fail
  refine (l03Draw_any _ _ S1).mono ?_
  rintro e_ w2 ⟨v, xs, rfl, hl, hz, O2, S2, g2⟩
  have hzx : ∀ x ∈ xs, x.size ≤ maxLen := fun x hx => by have := hz x hx; unfold maxLen; omega
  obtain ⟨A2, c2, rfl, x2⟩ := own_strs O2 hzx
  have hcm := x2.2.1.cap
  have hnc := x2.2.1.le
  unfold maxLen at hcm
  have hlt2 := fun k hk => O2.lt k hk
  have B2 := Lib.hid (below_srcP b1 g2 hp)
  have hz12 := g2.size
  have hz2p := S2.lt
  clear x2 b1 g2 hx S1
  have HB := box1 w2 (.cells #[] 2)
  go_wp2_with fail
  refine (l01Next_any p 7 _ (S2.below HB) (by omega)).mono ?_
  rintro e_ w3 ⟨r, rfl, r0, r1, S3, g3⟩
  have O3 := Lib.hid (own_srcP (own_below O2 HB) g3 hz1p)
  have N3 := Lib.hid (own_srcP (World.ownsRow_lit (base := w2.heap.size) (e := 2) (size := 1) w2 #[] 0 (Nat.le_refl _) (by unfold maxLen; omega) rfl) g3 hz2p)
  have B3 := Lib.hid (below_srcP (B2.out.alloc (Nat.le_of_lt hz2p) (.cells #[] 2)) g3 hp)
  have hz23 : w2.heap.size ≤ w3.heap.size := by have := g3.size; simp at this; omega
  obtain ⟨q, rfl⟩ : ∃ q : Nat, r = q := ⟨r.toNat, by omega⟩
  have hq : q ≤ 6 := by omega
  have HS := Lib.hid S3
  clear O2 HB S2 S3 g3 B2 r0 r1
  go_wp2
  go_loopw [6, 7] (fun rv i wr => ∃ (k : Nat) (sp : List Int), k ≤ 6 ∧ i = .int .i64 k ∧ Hid (sp.length + k ≤ 6) ∧ Hid (Src wr p) ∧ Hid (wr.ownsRow w1.heap.size 9 1 (.slice A2 xs.length c2) xs.length (xs.map Value.string)) ∧ Hid (wr.ownsRow w2.heap.size 2 1 rv sp.length (sp.map (Value.int .i64))) ∧ Hid (Below p w wr ∧ w2.heap.size ≤ wr.heap.size)) (fun _ i _ => (intOf i).toNat)
  case atStart => exact ⟨q, [], hq, rfl, Lib.hid (by simp; omega), HS, O3, N3, Lib.hid ⟨B3.out, hz23⟩⟩
  case round =>
    clear HS O3 N3 B3
    obtain ⟨k, sp, hk, rfl, hlen, hS, hO, hN, hB⟩ := hrel
    have hzr := hB.out.2
    replace hB := Lib.hid hB.out.1
    have hle := hlen.out
    by_cases hlt : 0 < k
    · have hj0 : (0 : Int) < (k : Int) := by omega
      go_wp2_with fail
      refine (l01Next_any p (max 1 (xs.length : Int)) _ hS.out (by omega)).mono ?_
      rintro e_ w4 ⟨x, rfl, a0, a1, S4, g4⟩
      have O4 := own_srcP hO.out g4 hz1p
      have N4 := own_srcP hN.out g4 hz2p
      have B4 := Lib.hid (below_srcP hB.out g4 hp)
      have hz4 := g4.size
      have hlt4 := S4.lt
      clear hO hN hB hS g4
      go_wp2_with (at_builtin; refine wpList_append_own _ rfl _ _ 22 rfl w2.heap.size 2 i0 (.int .i64 0) 1 8 Tryd.underlying22 hi hz0 hz1 hz2 rfl (by decide) _ _ _ rfl (N4.alloc _) ⟨w4.heap.size, 0, none⟩ 1 1 [.int .i64 x] rfl rfl ?c1 ?c2 ?c3 ?c4 ?c5 ?_)
      case c1 => exact cell_one_new _ _ _
      case c2 => simp [Value.oneCell']
      case c3 => unfold maxLen; omega
      case c4 => omega
      case c5 => simp; omega
      intro v6 w6 own6 grow6 _
      have HN := Lib.hid (show w6.ownsRow w2.heap.size 2 1 v6 (sp ++ [x]).length ((sp ++ [x]).map (Value.int .i64)) by simpa using own6)
      have HB := Lib.hid (And.intro ((B4.out.alloc (Nat.le_of_lt hlt4) _).grown grow6 (by simp; omega) (fun z hz => by have := (N4.lt z hz).1; omega)) (show w2.heap.size ≤ w6.heap.size by have := grow6.size; simp at this; omega))
      have HO := Lib.hid (own_far (own_below O4 (box1 w4 (.cells #[.int .i64 x] 2))) grow6 (fun k hk e => by have a := (hlt2 k hk).2; have b := (N4.lt _ e).1; omega))
      have HS := Lib.hid ((S4.below (box1 w4 (.cells #[.int .i64 x] 2))).grownP grow6 (fun z hz => by have := (N4.lt z hz).1; omega))
      have HL := Lib.hid (show (sp ++ [x]).length + (k - 1) ≤ 6 by simp; omega)
      have e2 : IntKind.i64.wrap ((k : Int) - 1) = ((k - 1 : Nat) : Int) := by rw [IntWalk.i64_in _ (by omega)]; omega
      clear own6 grow6 N4 O4 B4 S4
      go_wp2
      go_roundw
      case rel => exact ⟨k - 1, sp ++ [x], by omega, rfl, HL, HS, HO, HN, HB⟩
      case measure => simp [intOf]; omega
    · obtain rfl : k = 0 := by omega
      go_wp2_with fail
      refine (l01Next_any p 24 _ hS.out (by omega)).mono ?_
      rintro e_ w4 ⟨r, rfl, r0, r1, S4, g4⟩
      have O4 := own_srcP hO.out g4 hz1p
      have N4 := own_srcP hN.out g4 hz2p
      have B4 := Lib.hid (below_srcP hB.out g4 hp)
      have hz4 := g4.size
      have hlt4 := S4.lt
      clear hO hN hB hS g4
      have hw1 : p ≤ w1.heap.size := Nat.le_of_lt hz1p
      have hw2 : p ≤ w2.heap.size := Nat.le_of_lt hz2p
      by_cases hr0 : r = 0
      · subst hr0
        go_wp2_with fail
        have hx5 := ints_alloc w4 [-1, (xs.length : Int)] 2 (by simp [maxLen])
        have HB := box1 w4 (.cells ([-1, (xs.length : Int)].map (Value.int .i64)).toArray 2)
        refine (l01Pick_any p _ 2 2 _ _ (S4.below HB) hx5 (by omega) (by omega) (by omega)).mono ?_
        rintro e_ w5 ⟨x, rfl, _, S5, g5⟩
        have O5 := own_srcP (own_below O4 HB) g5 hz1p
        have N5 := own_srcP (own_below N4 HB) g5 hz2p
        have B5 := Lib.hid (below_srcP (B4.out.alloc (Nat.le_of_lt hlt4) (.cells ([-1, (xs.length : Int)].map (Value.int .i64)).toArray 2)) g5 hp)
        have hz5 : w2.heap.size ≤ w5.heap.size := by have := g5.size; simp at this; omega
        replace hlt4 := S5.lt
        clear O4 N4 B4 S4 g5 HB hx5
        go_wp2_with (at_builtin; refine wpList_append_own _ rfl _ _ 22 rfl w2.heap.size 2 i0 (.int .i64 0) 1 8 Tryd.underlying22 hi hz0 hz1 hz2 rfl (by decide) _ _ _ rfl (N5.alloc _) ⟨w5.heap.size, 0, none⟩ 1 1 [.int .i64 x] rfl rfl ?c1 ?c2 ?c3 ?c4 ?c5 ?_)
        case c1 => exact cell_one_new _ _ _
        case c2 => simp [Value.oneCell']
        case c3 => unfold maxLen; omega
        case c4 => omega
        case c5 => simp; omega
        intro v6 w6 own6 grow6 _
        have HN := Lib.hid (show w6.ownsRow w2.heap.size 2 1 v6 (sp ++ [x]).length ((sp ++ [x]).map (Value.int .i64)) by simpa using own6)
        have HB := Lib.hid (And.intro ((B5.out.alloc (Nat.le_of_lt hlt4) _).grown grow6 (by simp; omega) (fun z hz => by have := (N5.lt z hz).1; omega)) (show w2.heap.size ≤ w6.heap.size by have := grow6.size; simp at this; omega))
        have HO := Lib.hid (own_far (own_below O5 (box1 w5 (.cells #[.int .i64 x] 2))) grow6 (fun k hk e => by have a := (hlt2 k hk).2; have b := (N5.lt _ e).1; omega))
        have HS := Lib.hid ((S5.below (box1 w5 (.cells #[.int .i64 x] 2))).grownP grow6 (fun z hz => by have := (N5.lt z hz).1; omega))
        clear own6 grow6 N5 O5 B5 S5
        go_wp2
        go_ret2
        exact ⟨_, _, xs, sp ++ [x], rfl, hl, hz, by simp; omega, by rw [hp]; exact own_base HO.out hw1, by rw [hp]; exact own_base HN.out hw2, by rw [hp]; exact HB.out.1⟩
      · have d0 : (r == 0) = false := by simpa using hr0
        by_cases hr1 : r = 1
        · subst hr1
          go_wp2_with fail
          (go_region_with (first
            | (go_at_call 119; refine (l01Next_any p 2 _ (by first | exact S4.below (Below.refl _ _).drew) (by omega)).mono ?_; rintro e_ w5 ⟨b, rfl, b0, b1, S5, g5⟩; have hm : ∃ m : Nat, IntKind.i64.wrap (16 + b) = m ∧ m ≤ 17 := ⟨(16 + b).toNat, by rw [IntWalk.i64_in _ (by omega)]; omega, by omega⟩; obtain ⟨m, em, hm⟩ := hm; have hmk := fun W => run_make_rowN (P := Tryd.prog) 22 2 i0 _ Tryd.underlying22 hi hz0 .i64 .i64 m m (Nat.le_refl _) (by rw [hz2]; omega) (by omega) W)))
          all_goals
            have O5 := own_srcP (own_below O4 (Below.refl _ _).drew) g5 hz1p
            have B5 := Lib.hid (below_srcP B4.out.drew g5 hp)
            have hlt5 := S5.lt
            have HO := Lib.hid (own_below O5 (box1 w5 (.cells (madeCells #[.int .i64 0] m) 2)))
            have HM := Lib.hid (show (w5.alloc (.cells (madeCells #[.int .i64 0] m) 2)).ownsRow p 2 1 (.slice (some ⟨w5.heap.size, 0, none⟩) m m) (List.replicate m (0 : Int)).length ((List.replicate m (0 : Int)).map (Value.int .i64)) from by
              rw [List.length_replicate]
              have h := World.ownsRow_lit (base := p) (e := 2) (size := 1) w5 (madeCells #[.int .i64 0] m) m (Nat.le_of_lt hlt5) (by unfold maxLen; omega) (by rw [size_madeCells]; omega)
              rw [toList_madeCells_one] at h
              simpa using h)
            have HB := Lib.hid (B5.out.alloc (Nat.le_of_lt hlt5) (.cells (madeCells #[.int .i64 0] m) 2))
            clear O4 N4 B4 S4 O5
            go_wp2
            go_ret2
            exact ⟨_, _, xs, List.replicate m 0, rfl, hl, hz, by simp; omega, by rw [hp]; exact own_base HO.out hw1, by rw [hp]; exact HM.out, by rw [hp]; exact HB.out⟩
        · have d1 : (r == 1) = false := by simpa using hr1
          have HO := Lib.hid O4
          have HN := Lib.hid N4
          clear O4 N4
          go_wp2
          go_ret2
          exact ⟨_, _, xs, sp, rfl, hl, hz, by omega, by rw [hp]; exact own_base HO.out hw1, by rw [hp]; exact own_base HN.out hw2, by rw [hp]; exact B4.out⟩
set_option maxRecDepth 100000 in
set_option maxHeartbeats 4000000 in
theorem DrawIsSpelling_any (A : Option Addr) (n c : Nat) (bs : List UInt8) (w : World) (hx : Bytes w A n c bs) : Calls Tryd.prog 74 #[.slice A n c] w (SpPost w) := by
  go_enter Tryd.func74, Tryd.ntmps74
  go_wp2_with fail
  refine (l01From_any A n c bs w hx).mono ?_
  rintro e_ w1 ⟨rfl, S1, b1⟩
  generalize hp : w.heap.size = p at *
  have hz1p := S1.lt
  go_wp2_with fail
  refine (DrawJoinLetters_any A n c bs _ (hx.below (by rw [hp]; exact b1))).mono ?_
  rintro e_ w2 ⟨v, u, xs, sp, rfl, hl, hz, hsp, O2, N2, h2⟩
  have S2 := S1.below h2
  have B2 := Lib.hid (b1.trans (h2.mono (Nat.le_of_lt hz1p)))
  have hz2 := h2.size
  have hzx : ∀ x ∈ xs, x.size ≤ maxLen := fun x hx => by have := hz x hx; unfold maxLen; omega
  clear h2 b1 S1 hx
  go_wp2_with fail
  refine (l01Good_any p _ S2).mono ?_
  rintro e_ w3 ⟨t, rfl, ht, S3, g3⟩
  have O3 := own_srcP O2 g3 hz1p
  have N3 := own_srcP N2 g3 hz1p
  have B3 := Lib.hid (below_srcP B2.out g3 hp)
  have hz3 := g3.size
  have htm : t.size ≤ maxLen := by unfold maxLen; omega
  have hsl := sw_len xs t htm
  obtain ⟨A3, c3, hv3, x3⟩ := own_strs O3 hzx
  subst hv3
  clear O2 N2 B2 g3 S2
  go_wp2_with fail
  refine (SpellWord_spec A3 xs.length c3 xs t _ x3 htm).mono ?_
  rintro e_ w4 ⟨u4, rfl, N4, h4⟩
  have S4 := S3.below h4
  have hlt3 := S3.lt
  have O4 := own_below O3 h4
  have M4 := own_below N3 h4
  have B4 := Lib.hid (B3.out.trans (h4.mono (Nat.le_of_lt hlt3)))
  have hw1 : p ≤ w1.heap.size := Nat.le_of_lt hz1p
  have hw3 : p ≤ w3.heap.size := by omega
  clear O3 N3 B3 S3 h4 x3
  generalize swList xs t = own at *
  by_cases hc : swCode xs t = 0
  · have hc2 : (swCode xs t == 0) = true := by rw [hc]; rfl
    go_wp2_with fail
    refine (l01Next_any p 2 _ S4 (by omega)).mono ?_
    rintro e_ w5 ⟨r, rfl, r0, r1, S5, g5⟩
    have O5 := Lib.hid (own_srcP O4 g5 hz1p)
    have M5 := Lib.hid (own_srcP M4 g5 hz1p)
    have N5 := Lib.hid (own_srcP N4 g5 hlt3)
    have B5 := Lib.hid (below_srcP B4.out g5 hp)
    clear O4 M4 N4 B4 S4 g5
    by_cases hr : r = 0
    · subst hr
      go_wp2
      go_ret2
      exact ⟨_, _, xs, own, rfl, hl, hz, by omega, by rw [hp]; exact own_base O5.out hw1, by rw [hp]; exact own_base N5.out hw3, by rw [hp]; exact B5.out⟩
    · have hr2 : (r == 0) = false := by simpa using hr
      go_wp2
      go_ret2
      exact ⟨_, _, xs, sp, rfl, hl, hz, by omega, by rw [hp]; exact own_base O5.out hw1, by rw [hp]; exact own_base M5.out hw1, by rw [hp]; exact B5.out⟩
  · have hc2 : (swCode xs t == 0) = false := by simpa using hc
    have O5 := Lib.hid O4
    have M5 := Lib.hid M4
    clear O4 M4 N4
    go_wp2
    go_ret2
    exact ⟨_, _, xs, sp, rfl, hl, hz, by omega, by rw [hp]; exact own_base O5.out hw1, by rw [hp]; exact own_base M5.out hw1, by rw [hp]; exact B4.out⟩
end Go.Proofs.YtbhibidgdlaeeaaDoor
