/- Walk of the law ReadRule. -/
import Derived.Test.YtfacbdliegemgaaDoorReadR2
import Derived.Test.YtfacbdliegemgaaDoorMarkT
import Derived.Test.YtfacbdliegemgaaDoorGrown
namespace Go.Proofs.YtfacbdliegemgaaDoor
open Go.ChangeShapes Go.WideShapes Go.ChangeAt Go.RowKit
set_option maxHeartbeats 800000 in
theorem markRule_any (base k n : Nat) (v : Value) (xs : List Int) (r : ByteArray) (w : World) (hown : w.ownsRow base 2 1 v n (xs.map (Value.int .i64))) (hk : 0 < k) (hm : k + n ≤ 1000000000000) :
    Calls Tryd.prog 11 #[.agg #[v, .string r], .int .i64 k] w fun e w' => e = .returned (.int .i64 (k + n : Nat)) ∧ w'.ownsRow base 2 1 v n ((imarks k n).map (Value.int .i64)) ∧ w.grownBy w' v.ownBlock := by
  obtain ⟨A, c, rfl, hx⟩ := own_ints_ hown
  have o1 := own_below hown (one_box w (.cells #[.slice A n c, .string r] 24))
  go_enter Tryd.func11, Tryd.ntmps11
  go_wp2_with fail
  refine (markInts_gen base k n _ xs _ o1 hk hm).mono ?_
  rintro e_ w1 ⟨rfl, o2, hg⟩
  go_wp2
  go_ret
  exact ⟨rfl, o2, grown_trans (grown_below (one_box _ _)) hg⟩
set_option maxHeartbeats 800000 in
theorem heldRule_any (k n c : Nat) (A : Option Addr) (r : ByteArray) (w : World) (hx : Ints w A n c (imarks k n)) (hk : 0 < k) (hm : k + n ≤ 1000000000000) :
    Calls Tryd.prog 12 #[.agg #[.slice A n c, .string r], .int .i64 k] w fun e w' => e = .returned (.int .i64 (k + n : Nat)) ∧ Below w.heap.size w w' := by
  have h0 : ¬ (((k + n : Nat) : Int) < 0) := by omega
  go_enter Tryd.func12, Tryd.ntmps12
  go_wp2_with fail
  refine (heldInts_any k n c A _ (hx.below (one_box _ _)) hk hm).mono ?_
  rintro e_ w1 ⟨rfl, h1⟩
  go_wp2
  go_ret
  exact ⟨rfl, next (one_box _ _) h1⟩
theorem rr_len (s : ByteArray) : (rrRule s).1.length ≤ 3 := by
  unfold rrRule
  rcases h : rrVal s with _ | x
  · simp
  · obtain ⟨xs, r⟩ := x
    exact (isRl_len (rr_rule h).1).2.1
end Go.Proofs.YtfacbdliegemgaaDoor
namespace Go.Proofs.YtfacbdliegemgaaDoor.fnExactReadRule
open Go.ChangeShapes Go.WideShapes Go.ChangeAt Go.RowKit
set_option linter.unusedVariables false
set_option maxRecDepth 100000 in
set_option maxHeartbeats 4000000 in
theorem walk (s0 : ByteArray) (hs0 : s0.size ≤ maxLen) (w : World) (hm : MaxCell w) (he : ErrCells w) (ht : PowTab w) : Calls Tryd.prog 3 #[.string s0] w fun e w' => e = .returned (.bool true) ∧ Below w.heap.size w w' := by
  have hs2 := hs0
  unfold maxLen at hs2
  by_cases hbig : 1048576 < s0.size
  · go_enter Tryd.func3, Tryd.ntmps3
    go_wp2
    go_ret
    exact ⟨rfl, Below.refl _ _⟩
  · have e1 : (s0.size : Int) ≤ 1048576 := by omega
    have hs1 : s0.size ≤ 1048576 := by omega
    have hlen := rr_len s0
    have HSP := fun W => ReadRule_spec s0 W hs1
    have HIM := fun W h1 h2 h3 => ReadRule_impl s0 W hs1 h1 h2 h3
    generalize (rrRule s0).1 = xs at *
    generalize (rrRule s0).2 = r at *
    generalize rrCode s0 = code at *
    have cq : (code != code) = false := by simp
    obtain ⟨n, hn⟩ : ∃ n, xs.length = n := ⟨_, rfl⟩
    rw [hn] at HSP HIM hlen
    clear hn
    have hq0 : ¬ (((1 + n : Nat) : Int) < 0) := by omega
    have hq1 : (((1 + n : Nat) : Int) != ((1 + n : Nat) : Int)) = false := by simp
    go_enter Tryd.func3, Tryd.ntmps3
    go_wp2_with fail
    refine (HSP _).mono ?_
    rintro e_ w1 ⟨v1, rfl, o1, k1⟩
    obtain ⟨A1, c1, rfl, x1⟩ := own_ints_ o1
    have B1 := Lib.hid (next k1 (one_box w1 (.cells #[.slice A1 n c1, .string r] 24)))
    go_wp2_with fail
    refine (HIM _ (hm.below B1.out) (he.below B1.out) (ht.below B1.out)).mono ?_
    rintro e_ w2 ⟨v2, rfl, o2, k2⟩
    obtain ⟨A2, c2, rfl, x2⟩ := own_ints_ o2
    obtain ⟨p0, p1, _, _, p4⟩ := res_cells k2
    have B2 := Lib.hid (next B1.out k2)
    have D2 := next (one_box w1 (.cells #[.slice A1 n c1, .string r] 24)) k2
    have O1 := Lib.hid (own_below o1 D2)
    have hlt1 := fun k hk => o1.lt k hk
    clear o1 x1 k2
    have q1 := x2.below (one_box w2 (.cells #[.slice A2 n c2, .string r] 24))
    have q2 := (own_ints O1.out).below (one_box w2 (.cells #[.slice A2 n c2, .string r] 24))
    go_wp2_with fail
    refine (isb (eqRule_any A2 A1 n c2 n c1 xs xs r r _ q1 q2) (decide_eq_true rfl)).mono ?_
    rintro e_ w3 ⟨rfl, k3⟩
    obtain ⟨g0, g1, _, _, g4⟩ := res_cells k3
    have D3 := next (one_box w2 (.cells #[.slice A2 n c2, .string r] 24)) k3
    have B3 := Lib.hid (next B2.out D3)
    have O3 := Lib.hid (own_below O1.out D3)
    have P3 := Lib.hid (own_below o2 D3)
    have p0' := cell_keep D3 p0
    have p1' := cell_keep D3 p1
    have hlt2 := fun k hk => o2.lt k hk
    have z1 : w1.heap.size < w2.heap.size := p4
    have hzb : w1.heap.size < (w1.alloc (.cells #[.slice A1 n c1, .string r] 24)).heap.size := by simp
    clear k3 D3 q1 q2 O1 o2 p0 p1 x2
    go_wp2_with fail
    refine (markRule_any _ 1 n _ xs r _ P3.out (by omega) (by omega)).mono ?_
    rintro e_ w4 ⟨rfl, o4, k4⟩
    have hwz := k1.size
    have B4 := Lib.hid (below_own B3.out k4 (Nat.le_refl _) (fun k hk => by have := (hlt2 k hk).1; omega))
    have p0 := grown_cell k4 p0' (fun e => by have := (hlt2 _ e).1; simp only at this; omega)
    have p1 := grown_cell k4 p1' (fun e => by have := (hlt2 _ e).1; simp only at this; omega)
    have h0 := grown_cell k4 g0 (fun e => by have := (hlt2 _ e).2; simp only at this; omega)
    have h1 := grown_cell k4 g1 (fun e => by have := (hlt2 _ e).2; simp only at this; omega)
    have O4 := Lib.hid (own_far O3.out k4 (fun k hk e => by have a := (hlt1 k hk).2; have b := (hlt2 _ e).1; omega))
    have x4 := own_ints o4
    clear k4 o4 P3 O3 B3 p0' p1' g0 g1 hlt1 hlt2
    go_wp2_with fail
    refine (heldRule_any 1 n c2 A2 r _ x4 (by omega) (by omega)).mono ?_
    rintro e_ w5 ⟨rfl, k5⟩
    have B5 := Lib.hid (next B4.out k5)
    have p0' := cell_keep k5 p0
    have p1' := cell_keep k5 p1
    have h0' := cell_keep k5 h0
    have h1' := cell_keep k5 h1
    have x5 := x4.below k5
    have O5 := Lib.hid (own_below O4.out k5)
    clear p0 p1 h0 h1 x4 O4 k5 B4
    go_wp2_with fail
    refine (HIM _ (hm.below B5.out) (he.below B5.out) (ht.below B5.out)).mono ?_
    rintro e_ w6 ⟨v3, rfl, o6, k6⟩
    obtain ⟨A3, c3, rfl, x6⟩ := own_ints_ o6
    have B6 := Lib.hid (next B5.out k6)
    have p0 := cell_keep k6 p0'
    have p1 := cell_keep k6 p1'
    have h0 := cell_keep k6 h0'
    have h1 := cell_keep k6 h1'
    have y6 := x5.below k6
    have O6 := own_below O5.out k6
    have z6 : w1.heap.size < w6.heap.size := World.block_lt_of_cell? w6 _ p0
    have z7 : w2.heap.size < w6.heap.size := World.block_lt_of_cell? w6 _ h0
    have q1 := x6.below (one_box w6 (.cells #[.slice A3 n c3, .string r] 24))
    have q2 := (own_ints O6).below (one_box w6 (.cells #[.slice A3 n c3, .string r] 24))
    clear p0' p1' h0' h1' x5 O5 O6 k6 B5 x6 o6
    go_wp2_with fail
    refine (isb (eqRule_any A3 A1 n c3 n c1 xs xs r r _ q1 q2) (decide_eq_true rfl)).mono ?_
    rintro e_ w7 ⟨rfl, k7⟩
    have D7 := next (one_box w6 (.cells #[.slice A3 n c3, .string r] 24)) k7
    have B7 := Lib.hid (next B6.out D7)
    have h0' := cell_keep D7 h0
    have h1' := cell_keep D7 h1
    have x7 := y6.below D7
    clear p0 p1 h0 h1 y6 D7 k7 B6 q1 q2
    go_wp2_with fail
    refine (heldRule_any 1 n c2 A2 r _ x7 (by omega) (by omega)).mono ?_
    rintro e_ w8 ⟨rfl, k8⟩
    have B8 := Lib.hid (next B7.out k8)
    clear h0' h1' x7 k8 B7
    go_wp2
    go_ret
    exact ⟨rfl, B8.out⟩
end Go.Proofs.YtfacbdliegemgaaDoor.fnExactReadRule
