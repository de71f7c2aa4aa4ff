/- Draws of lists of numbers, and of their texts. -/
import Derived.Test.YtfacbdliegemgaaDoorDrawC
import Derived.Test.YtfacbdliegemgaaDoorListT
namespace Go.Proofs.YtfacbdliegemgaaDoor
open Go.ChangeShapes Go.WideShapes Go.ChangeAt Go.RowKit

theorem Src.grown {w w' : World} {p : Nat} {row : Option Nat} (h : Src w p) (hg : w.grownBy w' row) (hne : ∀ k, row = some k → p < k) : Src w' p := by
  obtain ⟨A, n, c, bs, a, s, S⟩ := h
  have hp : row ≠ some p := fun e => by have := hne p e; omega
  refine ⟨A, n, c, bs, a, s, Nat.lt_of_lt_of_le S.lt hg.size, grown_cell hg S.c0 hp, grown_cell hg S.c1 hp, grown_cell hg S.c2 hp, fun j => ?_, S.s0, S.s1, S.a0, S.a1, S.by_.block hg.size fun hn b off e => ?_, S.bl⟩
  · exact (World.frozen?_of_block (hg.block p S.lt (fun e => hp e.symm))).trans (S.f0 j)
  · have := S.bl hn b off e
    exact hg.block b (by have := S.lt; omega) (fun e2 => by have := hne b e2.symm; omega)
theorem own_src {w w' : World} {p base : Nat} {e : TypeId} {size : Nat} {v : Value} {n : Nat} {xs : List Value} (h : w.ownsRow base e size v n xs) (hg : w.grownBy w' (some p)) (hb : p < base) : w'.ownsRow base e size v n xs :=
  own_far h hg fun k hk e => by have := (h.lt k hk).1; injection e with e; omega
theorem below_src {a w w' : World} {p : Nat} (h : Below p a w) (hg : w.grownBy w' (some p)) (hp : a.heap.size = p) : Below p a w' :=
  below_own h hg (Nat.le_of_eq hp.symm) (fun k hk => by injection hk with hk; omega)
/-- what a draw of a list returns -/
def ListPost (B : Nat) (w : World) (e : Ending) (w' : World) : Prop := ∃ (v : Value) (xs : List Int), e = .returned v ∧ xs.length ≤ B ∧ w'.ownsRow w.heap.size 2 1 v xs.length (xs.map (Value.int .i64)) ∧ Below w.heap.size w w'
set_option maxRecDepth 100000 in
set_option maxHeartbeats 4000000 in
theorem DrawListText_any (A : Option Addr) (n c : Nat) (bs : List UInt8) (w : World) (hx : Bytes w A n c bs) : Calls Tryd.prog 22 #[.slice A n c] w (ListPost 61 w) := by
  obtain ⟨i0, hi, hz0, hz1, hz2⟩ := info_parts infoInt
  go_enter Tryd.func22, Tryd.ntmps22
  go_wp2_with fail
  refine (l01From_any A n c bs w hx).mono ?_
  rintro e_ w1 ⟨rfl, S1, b1⟩
  generalize hp : w.heap.size = p at *
  have hz1p := S1.lt
  go_wp2_with fail
  refine (l01Next_any p 6 _ (S1.below (box1 _ _)) (by omega)).mono ?_
  rintro e_ w2 ⟨r, rfl, r0, r1, S2, g2⟩
  have O2 := Lib.hid (own_src (World.ownsRow_lit (base := w1.heap.size) (e := 2) (size := 1) w1 #[] 0 (Nat.le_refl _) (by unfold maxLen; omega) rfl) g2 hz1p)
  have B2 := Lib.hid (below_src (b1.alloc (Nat.le_of_lt hz1p) _) g2 hp)
  have hz12 : w1.heap.size ≤ w2.heap.size := by have := g2.size; simp at this; omega
  obtain ⟨q, rfl⟩ : ∃ q : Nat, r = q := ⟨r.toNat, by omega⟩
  have hq : q ≤ 5 := by omega
  have HS2 := Lib.hid S2
  clear S1 g2 b1 hx S2 r0 r1
  go_wp2
  go_loopw [4, 5] (fun rv i wr => ∃ (k : Nat) (xs : List Int), k ≤ 5 ∧ i = .int .i64 k ∧ Hid (xs.length + k ≤ 5) ∧ Hid (Src wr p) ∧ Hid (wr.ownsRow w1.heap.size 2 1 rv xs.length (xs.map (Value.int .i64))) ∧ Hid (Below p w wr ∧ w1.heap.size ≤ wr.heap.size)) (fun _ i _ => (intOf i).toNat)
  case atStart => exact ⟨q, [], hq, rfl, Lib.hid (by simp; omega), HS2, O2, Lib.hid ⟨B2.out, hz12⟩⟩
  case round =>
    clear HS2 O2 B2
    obtain ⟨k, xs, hk, rfl, hlen, hS, hO, hB⟩ := hrel
    have hzr := hB.out.2
    replace hB := Lib.hid hB.out.1
    by_cases hlt : 0 < k
    · have hj0 : (0 : Int) < (k : Int) := by omega
      go_wp2_with fail
      refine (l01Next_any p 200 _ hS.out (by omega)).mono ?_
      rintro e_ w3 ⟨a, rfl, a0, a1, S3, g3⟩
      have O3 := Lib.hid (own_src hO.out g3 hz1p)
      have B3 := Lib.hid (below_src hB.out g3 hp)
      have hz3 := g3.size
      have e1 : IntKind.i64.wrap (a - 100) = a - 100 := IntWalk.i64_in _ (by omega)
      clear hO hB hS g3
      go_wp2_with fail
      refine (l01DrawValue_any p _ S3).mono ?_
      rintro e_ w4 ⟨v, rfl, S4, g4⟩
      have O4 := Lib.hid (own_src O3.out g4 hz1p)
      have B4 := Lib.hid (below_src B3.out g4 hp)
      have hz4 := S4.lt
      have hz4' := g4.size
      clear O3 B3 S3 g4
      go_wp2_with fail
      have hx5 := ints_alloc w4 [a - 100, v] 2 (by simp [maxLen])
      have HB := box1 w4 (.cells ([a - 100, v].map (Value.int .i64)).toArray 2)
      refine (l01Pick_any p _ 2 2 _ _ (S4.below HB) hx5 (by omega) (by omega) (by omega)).mono ?_
      rintro e_ w5 ⟨x, rfl, _, S5, g5⟩
      have O5 := own_src (own_below O4.out HB) g5 hz1p
      have B5 := Lib.hid (below_src (B4.out.alloc (Nat.le_of_lt hz4) _) g5 hp)
      have hz5 := S5.lt
      have hle5 := hlen.out
      have hzz : w1.heap.size ≤ w5.heap.size := by have := g5.size; simp at this; omega
      clear O4 B4 S4 g5 HB hx5
      go_wp2_with (at_builtin; refine wpList_append_own _ rfl _ _ 22 rfl w1.heap.size 2 i0 (.int .i64 0) 1 8 Tryd.underlying22 hi hz0 hz1 hz2 rfl (by decide) _ _ _ rfl (O5.alloc _) ⟨w5.heap.size, 0, none⟩ 1 1 [.int .i64 x] rfl rfl ?c1 ?c2 ?c3 ?c4 ?c5 ?_)
      case c1 => exact cell_one_new _ _ _
      case c2 => simp [Value.oneCell']
      case c3 => unfold maxLen; omega
      case c4 => omega
      case c5 => simp; omega
      intro v6 w6 own6 grow6 hrest
      have HO : Hid (w6.ownsRow w1.heap.size 2 1 v6 (xs ++ [x]).length ((xs ++ [x]).map (Value.int .i64))) := Lib.hid (by simpa using own6)
      have HB := Lib.hid ((B5.out.alloc (Nat.le_of_lt hz5) _).grown grow6 (by simp; omega) (fun z hz => by have := (O5.lt z hz).1; omega))
      have HB2 := Lib.hid (And.intro HB.out (show w1.heap.size ≤ w6.heap.size by have := grow6.size; simp at this; omega))
      have HS := Lib.hid ((S5.below (box1 _ _)).grown grow6 (fun z hz => by have := (O5.lt z hz).1; omega))
      have HL := Lib.hid (show (xs ++ [x]).length + (k - 1) ≤ 5 by simp; omega)
      have e2 : IntKind.i64.wrap ((k : Int) - 1) = ((k - 1 : Nat) : Int) := by rw [IntWalk.i64_in _ (by omega)]; omega
      clear own6 grow6 O5 B5 S5 hrest
      go_wp2
      go_roundw
      case rel => exact ⟨k - 1, xs ++ [x], by omega, rfl, HL, HS, HO, HB2⟩
      case measure => simp [intOf]; omega
    · obtain rfl : k = 0 := by omega
      go_wp2_with fail
      refine (l01Next_any p 24 _ hS.out (by omega)).mono ?_
      rintro e_ w3 ⟨a, rfl, a0, a1, S3, g3⟩
      have O3 := Lib.hid (own_src hO.out g3 hz1p)
      have B3 := Lib.hid (below_src hB.out g3 hp)
      clear hO hB hS g3
      by_cases ha : a = 0
      · subst ha
        go_wp2_with fail
        refine (l01Next_any p 2 _ S3 (by omega)).mono ?_
        rintro e_ w4 ⟨b, rfl, b0, b1, S4, g4⟩
        have B4 := Lib.hid (below_src B3.out g4 hp)
        have hz4 := S4.lt
        clear S3 g4 B3
        have hm : ∃ m : Nat, IntKind.i64.wrap (60 + b) = m ∧ m ≤ 61 := ⟨(60 + b).toNat, by rw [IntWalk.i64_in _ (by omega)]; omega, by omega⟩
        obtain ⟨m, em, hm⟩ := hm
        have hmk := fun W => run_make_rowN (P := Tryd.prog) 22 2 i0 _ Tryd.underlying22 hi hz0 .i64 .i64 m m (Nat.le_refl _) (by rw [hz2]; omega) (by omega) W
        go_wp2
        go_ret
        refine ⟨_, List.replicate m 0, rfl, by simp; omega, ?_, by rw [hp]; exact B4.out.alloc (Nat.le_of_lt hz4) _⟩
        rw [hp, List.length_replicate]
        have h := World.ownsRow_lit (base := p) (e := 2) (size := 1) w4 (madeCells #[.int .i64 0] m) m (Nat.le_of_lt hz4) (by unfold maxLen; omega) (by rw [size_madeCells]; omega)
        rw [toList_madeCells_one] at h
        simpa using h
      · have ha2 : (a == 0) = false := by simpa using ha
        go_wp2
        go_ret
        exact ⟨_, xs, rfl, by have := hlen.out; omega, by rw [hp]; exact own_base O3.out (Nat.le_of_lt hz1p), by rw [hp]; exact B3.out⟩
/-- what a draw of a text returns -/
def StrPost (w : World) (e : Ending) (w' : World) : Prop := ∃ t : ByteArray, e = .returned (.string t) ∧ t.size ≤ 10000 ∧ Below w.heap.size w w'
theorem lst_size {ns : List Int} {k : Nat} (h : ns.all numB = true) (hl : ns.length + k ≤ 5) : (lstT ns).size ≤ 1000 := by
  unfold lstT
  split
  · decide
  · have h1 := jn_size 44 (ns.map numT)
    have h2 := nums_total h
    rw [List.length_map] at h1
    omega
set_option maxRecDepth 100000 in
set_option maxHeartbeats 4000000 in
theorem DrawReadList_any (A : Option Addr) (n c : Nat) (bs : List UInt8) (w : World) (hx : Bytes w A n c bs) : Calls Tryd.prog 25 #[.slice A n c] w (StrPost w) := by
  obtain ⟨i0, hi, hz0, hz1, hz2⟩ := info_parts infoInt
  go_enter Tryd.func25, Tryd.ntmps25
  go_wp2_with fail
  refine (l01From_any A n c bs w hx).mono ?_
  rintro e_ w1 ⟨rfl, S1, b1⟩
  generalize hp : w.heap.size = p at *
  have hz1p := S1.lt
  go_wp2_with fail
  refine (l01Next_any p 6 _ (S1.below (box1 _ _)) (by omega)).mono ?_
  rintro e_ w2 ⟨r, rfl, r0, r1, S2, g2⟩
  have O2 := Lib.hid (own_src (World.ownsRow_lit (base := w1.heap.size) (e := 2) (size := 1) w1 #[] 0 (Nat.le_refl _) (by unfold maxLen; omega) rfl) g2 hz1p)
  have B2 := Lib.hid (below_src (b1.alloc (Nat.le_of_lt hz1p) _) g2 hp)
  have hz12 : w1.heap.size ≤ w2.heap.size := by have := g2.size; simp at this; omega
  obtain ⟨q, rfl⟩ : ∃ q : Nat, r = q := ⟨r.toNat, by omega⟩
  have hq : q ≤ 5 := by omega
  have HS2 := Lib.hid S2
  clear S1 g2 b1 hx S2 r0 r1
  go_wp2
  go_loopw [4, 5] (fun rv i wr => ∃ (k : Nat) (xs : List Int), k ≤ 5 ∧ i = .int .i64 k ∧ Hid (xs.length + k ≤ 5) ∧ Hid (xs.all numB = true) ∧ Hid (Src wr p) ∧ Hid (wr.ownsRow w1.heap.size 2 1 rv xs.length (xs.map (Value.int .i64))) ∧ Hid (Below p w wr ∧ w1.heap.size ≤ wr.heap.size)) (fun _ i _ => (intOf i).toNat)
  case atStart => exact ⟨q, [], hq, rfl, Lib.hid (by simp; omega), rfl, HS2, O2, Lib.hid ⟨B2.out, hz12⟩⟩
  case round =>
    clear HS2 O2 B2
    obtain ⟨k, xs, hk, rfl, hlen, hN, hS, hO, hB⟩ := hrel
    have hzr := hB.out.2
    replace hB := Lib.hid hB.out.1
    by_cases hlt : 0 < k
    · have hj0 : (0 : Int) < (k : Int) := by omega
      go_wp2_with fail
      refine (l01Next_any p 200 _ hS.out (by omega)).mono ?_
      rintro e_ w3 ⟨a, rfl, a0, a1, S3, g3⟩
      have O3 := Lib.hid (own_src hO.out g3 hz1p)
      have B3 := Lib.hid (below_src hB.out g3 hp)
      have hz3 := g3.size
      have e1 : IntKind.i64.wrap (a - 100) = a - 100 := IntWalk.i64_in _ (by omega)
      have O5 := O3.out
      have B5 := B3
      have hz5 := S3.lt
      have hle5 := hlen.out
      have hzz : w1.heap.size ≤ w3.heap.size := by omega
      have hnb := hN.out
      have S5 := S3
      obtain ⟨x, hx⟩ : ∃ x, a - 100 = x := ⟨_, rfl⟩
      rw [hx] at e1
      have hx2 : -1000 ≤ x ∧ x ≤ 1000 := by omega
      clear hO hB hS g3 O3 B3 S3 hN
      go_wp2_with (at_builtin; refine wpList_append_own _ rfl _ _ 22 rfl w1.heap.size 2 i0 (.int .i64 0) 1 8 Tryd.underlying22 hi hz0 hz1 hz2 rfl (by decide) _ _ _ rfl (O5.alloc _) ⟨w3.heap.size, 0, none⟩ 1 1 [.int .i64 x] rfl rfl ?c1 ?c2 ?c3 ?c4 ?c5 ?_)
      case c1 => exact cell_one_new _ _ _
      case c2 => simp [Value.oneCell']
      case c3 => unfold maxLen; omega
      case c4 => omega
      case c5 => simp; omega
      intro v6 w6 own6 grow6 hrest
      have HO : Hid (w6.ownsRow w1.heap.size 2 1 v6 (xs ++ [x]).length ((xs ++ [x]).map (Value.int .i64))) := Lib.hid (by simpa using own6)
      have HB := Lib.hid ((B5.out.alloc (Nat.le_of_lt hz5) _).grown grow6 (by simp; omega) (fun z hz => by have := (O5.lt z hz).1; omega))
      have HB2 := Lib.hid (And.intro HB.out (show w1.heap.size ≤ w6.heap.size by have := grow6.size; simp at this; omega))
      have HS := Lib.hid ((S5.below (box1 _ _)).grown grow6 (fun z hz => by have := (O5.lt z hz).1; omega))
      have HN := Lib.hid (show (xs ++ [x]).all numB = true by rw [List.all_append, hnb]; simp [numB]; omega)
      have HL := Lib.hid (show (xs ++ [x]).length + (k - 1) ≤ 5 by simp; omega)
      have e2 : IntKind.i64.wrap ((k : Int) - 1) = ((k - 1 : Nat) : Int) := by rw [IntWalk.i64_in _ (by omega)]; omega
      clear own6 grow6 O5 B5 S5 hrest
      go_wp2
      go_roundw
      case rel => exact ⟨k - 1, xs ++ [x], by omega, rfl, HL, HN, HS, HO, HB2⟩
      case measure => simp [intOf]; omega
    · obtain rfl : k = 0 := by omega
      obtain ⟨A3, c3, rfl, x3⟩ := own_ints_ hO.out
      have hlen2 := hlen.out
      have hz := lst_size hN.out hlen2
      have hli := fun W h => l01List_any A3 xs.length c3 xs W h hN.out (by omega)
      obtain ⟨t, htt⟩ : ∃ t, lstT xs = t := ⟨_, rfl⟩
      rw [htt] at hli hz
      clear htt
      go_wp2_with fail
      refine (hli _ x3).mono ?_
      rintro e_ w3 ⟨rfl, b3⟩
      have B3 := Lib.hid (hB.out.trans (b3.mono (by have := hS.out.lt; omega)))
      have S3 := hS.out.below b3
      clear hO hB hS b3 x3 hli
      go_wp2_with fail
      refine (l01Next_any p 3 _ S3 (by omega)).mono ?_
      rintro e_ w4 ⟨a, rfl, a0, a1, S4, g4⟩
      have B4 := Lib.hid (below_src B3.out g4 hp)
      clear S3 g4 B3
      by_cases ha : a = 0
      · subst ha
        go_wp2_with fail
        refine (l01Damage_any p t _ S4 (by omega)).mono ?_
        rintro e_ w5 ⟨u, rfl, hu, S5, g5⟩
        have B5 := Lib.hid (below_src B4.out g5 hp)
        go_wp2
        go_ret
        exact ⟨u, rfl, by omega, by rw [hp]; exact B5.out⟩
      · have ha2 : (a == 0) = false := by simpa using ha
        go_wp2
        go_ret
        exact ⟨t, rfl, by omega, by rw [hp]; exact B4.out⟩
end Go.Proofs.YtfacbdliegemgaaDoor
