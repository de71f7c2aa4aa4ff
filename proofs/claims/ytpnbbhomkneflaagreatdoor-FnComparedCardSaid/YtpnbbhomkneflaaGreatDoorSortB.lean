/- Comparing lists: slices.Compare, slices.CompareFunc, cmp.Or, and the program's compareSpellings. -/
import Derived.Test.YtpnbbhomkneflaaGreatDoorSortA
namespace Go.Proofs.YtpnbbhomkneflaaGreatDoor
open Go.ChangeShapes Go.WideShapes Go.ChangeAt Go.RowKit
theorem isn_ {P : Program} {f : FuncId} {args : Array Value} {w : World} {p q : Int} (h : Calls P f args w fun e w' => e = .returned (.int .i64 p) ∧ Below w.heap.size w w') (e : p = q) :
    Calls P f args w fun e w' => e = .returned (.int .i64 q) ∧ Below w.heap.size w w' := e ▸ h
set_option maxHeartbeats 800000 in
theorem cmpCompare_any (a b : Int) (w : World) : Calls Tryz.prog 79 #[.int .i64 a, .int .i64 b] w fun e w' => e = .returned (.int .i64 (cmp2 a b)) ∧ Below w.heap.size w w' := by
  have hnan : ∀ (x : Int) (W : World), Calls Tryz.prog 92 #[.int .i64 x] W fun e W' => e = .returned (.bool false) ∧ Below W.heap.size W W' := fun x W => by
    go_enter Tryz.func92, Tryz.ntmps92
    go_wp2
    go_ret
    exact ⟨rfl, Below.refl _ _⟩
  by_cases h1 : a < b
  · have HF := Lib.hid (show cmp2 a b = -1 by unfold cmp2; rw [if_pos h1])
    go_enter Tryz.func79, Tryz.ntmps79
    go_wp2_with fail
    refine (hnan a _).mono ?_
    rintro e_ w1 ⟨rfl, k1⟩
    have hc_w1 := bcell k1; have hf_w1 := bfree k1
    go_wp2_with fail
    refine (hnan b _).mono ?_
    rintro e_ w2 ⟨rfl, k2⟩
    have hc_w2 := bcell k2; have hf_w2 := bfree k2
    go_wp2
    go_ret
    exact ⟨by rw [HF.out]; rfl, next k1 k2⟩
  · by_cases h2 : b < a
    · have HF := Lib.hid (show cmp2 a b = 1 by unfold cmp2; rw [if_neg h1, if_pos h2])
      go_enter Tryz.func79, Tryz.ntmps79
      go_wp2_with fail
      refine (hnan a _).mono ?_
      rintro e_ w1 ⟨rfl, k1⟩
      have hc_w1 := bcell k1; have hf_w1 := bfree k1
      go_wp2_with fail
      refine (hnan b _).mono ?_
      rintro e_ w2 ⟨rfl, k2⟩
      have hc_w2 := bcell k2; have hf_w2 := bfree k2
      go_wp2
      go_ret
      exact ⟨by rw [HF.out]; rfl, next k1 k2⟩
    · have HF := Lib.hid (show cmp2 a b = 0 by unfold cmp2; rw [if_neg h1, if_neg h2])
      go_enter Tryz.func79, Tryz.ntmps79
      go_wp2_with fail
      refine (hnan a _).mono ?_
      rintro e_ w1 ⟨rfl, k1⟩
      have hc_w1 := bcell k1; have hf_w1 := bfree k1
      go_wp2_with fail
      refine (hnan b _).mono ?_
      rintro e_ w2 ⟨rfl, k2⟩
      have hc_w2 := bcell k2; have hf_w2 := bfree k2
      go_wp2
      go_ret
      exact ⟨by rw [HF.out]; rfl, next k1 k2⟩
set_option maxRecDepth 100000 in
set_option maxHeartbeats 2000000 in
theorem slCompare_any (A B : Option Addr) (n c m d : Nat) (xs ys : List Int) (w : World) (hx : Ints w A n c xs) (hy : Ints w B m d ys) :
    Calls Tryz.prog 67 #[.slice A n c, .slice B m d] w fun e w' => e = .returned (.int .i64 (cmpI xs ys)) ∧ Below w.heap.size w w' := by
  have hcm := hx.2.cap
  have hnc := hx.2.le
  have hdm := hy.2.cap
  have hmd := hy.2.le
  unfold maxLen at hcm hdm
  have HX := Lib.hid hx.1
  have HY := Lib.hid hy.1
  go_enter Tryz.func67, Tryz.ntmps67
  go_wp2
  go_loopw [11] (fun i wr => ∃ k : Nat, k ≤ n ∧ k ≤ m ∧ i = .int .i64 k ∧ Hid (cmpI xs ys = cmpG cmp2 (xs.drop k) (ys.drop k)) ∧ Below w.heap.size w wr) (fun i _ => n - (intOf i).toNat)
  case atStart => exact ⟨0, Nat.zero_le _, Nat.zero_le _, rfl, rfl, Below.refl _ _⟩
  case round =>
    obtain ⟨k, hk, hkm, rfl, hE, hb⟩ := hrel
    by_cases hlt : k < n
    · obtain ⟨b, off, rfl, hbl⟩ := hx.at_ k hlt
      obtain ⟨x, hx1, c0⟩ := hx.el hb hbl k hlt
      by_cases hlt2 : k < m
      · obtain ⟨b2, off2, rfl, hbl2⟩ := hy.at_ k hlt2
        obtain ⟨y, hy1, d0⟩ := hy.el hb hbl2 k hlt2
        obtain ⟨r, hr⟩ : ∃ r, cmp2 x y = r := ⟨_, rfl⟩
        have hcc := isn_ (cmpCompare_any x y wr) hr
        by_cases h0 : r = 0
        · subst h0
          have HE := Lib.hid (hE.out.trans (cmpG_eq hx1.out hy1.out hr))
          clear hE hr
          go_wp2_with fail
          refine hcc.mono ?_
          rintro e_ w1 ⟨rfl, h1⟩
          clear hcc
          go_wp2
          go_roundw
          case rel => exact ⟨k + 1, by omega, by omega, by go_num, HE.out, next hb h1⟩
          case measure => simp [intOf]; omega
        · have HE := Lib.hid (hE.out.trans ((cmpG_ne hx1.out hy1.out (by rw [hr]; exact h0)).trans hr))
          have hne : (r != 0) = true := by rw [bne_iff_ne]; exact h0
          clear hE hr
          go_wp2_with fail
          refine hcc.mono ?_
          rintro e_ w1 ⟨rfl, h1⟩
          clear hcc
          go_wp2
          go_ret
          exact ⟨by rw [HE.out]; rfl, next hb h1⟩
      · have HE := Lib.hid (hE.out.trans (cmpG_gtr (by rw [← HX.out]; exact hlt) (by rw [← HY.out]; omega)))
        clear hE
        go_wp2
        go_ret
        exact ⟨by rw [HE.out]; rfl, hb⟩
    · obtain rfl : k = n := by omega
      by_cases hlt2 : k < m
      · have HE := Lib.hid (hE.out.trans (cmpG_lss (by rw [← HX.out]; exact Nat.le_refl _) (by rw [← HY.out]; exact hlt2)))
        clear hE
        go_wp2
        go_ret
        exact ⟨by rw [HE.out]; rfl, hb⟩
      · have HE := Lib.hid (hE.out.trans (cmpG_end (by rw [← HX.out]; exact Nat.le_refl _) (by rw [← HY.out]; omega)))
        clear hE
        go_wp2
        go_ret
        exact ⟨by rw [HE.out]; rfl, hb⟩
set_option maxRecDepth 100000 in
set_option maxHeartbeats 2000000 in
theorem CompareFunc_any (A B : Option Addr) (n c m d : Nat) (xs ys : List (List Int)) (w : World) (hx : Lists w A n c xs) (hy : Lists w B m d ys) :
    Calls Tryz.prog 66 #[.slice A n c, .slice B m d, .func (.func 67) #[] #[]] w fun e w' => e = .returned (.int .i64 (cmpL xs ys)) ∧ Below w.heap.size w w' := by
  have hcm := hx.cap.2
  have hnc := hx.cap.1
  have hdm := hy.cap.2
  have hmd := hy.cap.1
  unfold maxLen at hcm hdm
  have HX := Lib.hid hx.1
  have HY := Lib.hid hy.1
  go_enter Tryz.func66, Tryz.ntmps66
  go_wp2
  go_loopw [13] (fun i wr => ∃ k : Nat, k ≤ n ∧ k ≤ m ∧ i = .int .i64 k ∧ Hid (cmpL xs ys = cmpG cmpI (xs.drop k) (ys.drop k)) ∧ Below w.heap.size w wr) (fun i _ => n - (intOf i).toNat)
  case atStart => exact ⟨0, Nat.zero_le _, Nat.zero_le _, rfl, rfl, Below.refl _ _⟩
  case round =>
    obtain ⟨k, hk, hkm, rfl, hE, hb⟩ := hrel
    by_cases hlt : k < n
    · obtain ⟨b, off, rfl, hbl⟩ := hx.at_ k hlt
      obtain ⟨Bx, mx, dx, x, hx1, c0, zx⟩ := hx.el hb k hlt
      by_cases hlt2 : k < m
      · obtain ⟨b2, off2, rfl, hbl2⟩ := hy.at_ k hlt2
        obtain ⟨By, my, dy, y, hy1, d0, zy⟩ := hy.el hb k hlt2
        obtain ⟨r, hr⟩ : ∃ r, cmpI x y = r := ⟨_, rfl⟩
        have hcc := isn_ (slCompare_any Bx By mx dx my dy x y wr zx zy) hr
        by_cases h0 : r = 0
        · subst h0
          have HE := Lib.hid (hE.out.trans (cmpG_eq hx1.out hy1.out hr))
          clear hE hr
          go_wp2_with fail
          refine hcc.mono ?_
          rintro e_ w1 ⟨rfl, h1⟩
          clear hcc
          go_wp2
          go_roundw
          case rel => exact ⟨k + 1, by omega, by omega, by go_num, HE.out, next hb h1⟩
          case measure => simp [intOf]; omega
        · have HE := Lib.hid (hE.out.trans ((cmpG_ne hx1.out hy1.out (by rw [hr]; exact h0)).trans hr))
          have hne : (r != 0) = true := by rw [bne_iff_ne]; exact h0
          clear hE hr
          go_wp2_with fail
          refine hcc.mono ?_
          rintro e_ w1 ⟨rfl, h1⟩
          clear hcc
          go_wp2
          go_ret
          exact ⟨by rw [HE.out]; rfl, next hb h1⟩
      · have HE := Lib.hid (hE.out.trans (cmpG_gtr (by rw [← HX.out]; exact hlt) (by rw [← HY.out]; omega)))
        clear hE
        go_wp2
        go_ret
        exact ⟨by rw [HE.out]; rfl, hb⟩
    · obtain rfl : k = n := by omega
      by_cases hlt2 : k < m
      · have HE := Lib.hid (hE.out.trans (cmpG_lss (by rw [← HX.out]; exact Nat.le_refl _) (by rw [← HY.out]; exact hlt2)))
        clear hE
        go_wp2
        go_ret
        exact ⟨by rw [HE.out]; rfl, hb⟩
      · have HE := Lib.hid (hE.out.trans (cmpG_end (by rw [← HX.out]; exact Nat.le_refl _) (by rw [← HY.out]; omega)))
        clear hE
        go_wp2
        go_ret
        exact ⟨by rw [HE.out]; rfl, hb⟩
set_option maxHeartbeats 800000 in
theorem compareSpellings_any (A B : Option Addr) (n c m d : Nat) (xs ys : List (List Int)) (w : World) (hx : Lists w A n c xs) (hy : Lists w B m d ys) :
    Calls Tryz.prog 46 #[.slice A n c, .slice B m d] w fun e w' => e = .returned (.int .i64 (cmpL xs ys)) ∧ Below w.heap.size w w' := by
  go_enter Tryz.func46, Tryz.ntmps46
  go_wp2_with fail
  refine (CompareFunc_any A B n c m d xs ys _ hx hy).mono ?_
  rintro e_ w1 ⟨rfl, h1⟩
  have hc_w1 := bcell h1; have hf_w1 := bfree h1
  go_wp2
  go_ret
  exact ⟨rfl, h1⟩
/-- the first that is not zero -/
def orI : List Int → Int
  | [] => 0
  | x :: r => if x = 0 then orI r else x
theorem orI_step {xs : List Int} {k : Nat} (h : xs[k]? = some 0) : orI (xs.drop k) = orI (xs.drop (k + 1)) := by
  rw [drop_cons h]
  conv => lhs; unfold orI
  rw [if_pos rfl]
theorem orI_hit {xs : List Int} {k : Nat} {x : Int} (h : xs[k]? = some x) (h0 : x ≠ 0) : orI (xs.drop k) = x := by
  rw [drop_cons h]
  conv => lhs; unfold orI
  rw [if_neg h0]
set_option maxRecDepth 100000 in
set_option maxHeartbeats 2000000 in
theorem cmpOr_any (A : Option Addr) (n c : Nat) (xs : List Int) (w : World) (hx : Ints w A n c xs) :
    Calls Tryz.prog 45 #[.slice A n c] w fun e w' => e = .returned (.int .i64 (orI xs)) ∧ Below w.heap.size w w' := by
  have hcm := hx.2.cap
  have hnc := hx.2.le
  unfold maxLen at hcm
  have HX := Lib.hid hx.1
  go_enter Tryz.func45, Tryz.ntmps45
  go_wp2
  go_loopw [8] (fun i wr => ∃ k : Nat, k ≤ n ∧ i = .int .i64 k ∧ Hid (orI xs = orI (xs.drop k)) ∧ Below w.heap.size w wr) (fun i _ => n - (intOf i).toNat)
  case atStart => exact ⟨0, Nat.zero_le _, rfl, rfl, Below.refl _ _⟩
  case round =>
    obtain ⟨k, hk, rfl, hE, hb⟩ := hrel
    by_cases hlt : k < n
    · obtain ⟨b, off, rfl, hbl⟩ := hx.at_ k hlt
      obtain ⟨x, hx1, c0⟩ := hx.el hb hbl k hlt
      by_cases h0 : x = 0
      · subst h0
        have HE := Lib.hid (hE.out.trans (orI_step hx1.out))
        clear hE
        go_wp2
        go_roundw
        case rel => exact ⟨k + 1, by omega, by go_num, HE.out, hb⟩
        case measure => simp [intOf]; omega
      · have HE := Lib.hid (hE.out.trans (orI_hit hx1.out h0))
        have hne : (x != 0) = true := by rw [bne_iff_ne]; exact h0
        clear hE
        go_wp2
        go_ret
        exact ⟨by rw [HE.out]; rfl, hb⟩
    · have HE := Lib.hid (show orI xs = 0 by rw [hE.out, List.drop_eq_nil_of_le (by have := HX.out; omega)]; rfl)
      clear hE
      go_wp2
      go_ret
      exact ⟨by rw [HE.out]; rfl, hb⟩
end Go.Proofs.YtpnbbhomkneflaaGreatDoor
