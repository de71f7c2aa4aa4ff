/- Marks of spans. -/
import Derived.Test.YtldikfikcnkgcaaYrA
namespace Go.Proofs.Ytldikfikcnkgcaa
open Go.ChangeShapes Go.WideShapes Go.ChangeAt Go.RowKit
theorem grown_transS {a b c : World} {row : Option Nat} (h : a.grownBy b row) (h2 : b.grownBy c row) : a.grownBy c row :=
  ⟨h2.os.trans h.os, h2.tape.trans h.tape, h2.output.trans h.output, Nat.le_trans h.size h2.size, fun k hk hne => (h2.block k (Nat.lt_of_lt_of_le hk h.size) hne).trans (h.block k hk hne)⟩
theorem grown_reflS (w : World) (row : Option Nat) : w.grownBy w row := ⟨rfl, rfl, rfl, Nat.le_refl _, fun _ _ _ => rfl⟩
theorem own_farS {w w' : World} {row : Option Nat} {base : Nat} {e : TypeId} {size : Nat} {v : Value} {n : Nat} {xs : List Value} (h : w.ownsRow base e size v n xs) (hg : w.grownBy w' row) (hne : ∀ k, v.ownBlock = some k → row ≠ some k) : w'.ownsRow base e size v n xs := by
  refine h.kept hg ?_
  cases hv : v.ownBlock with
  | none => exact .inl rfl
  | some k => exact .inr fun e => hne k hv e.symm
theorem below_ownS {B : Nat} {a w w' : World} {row : Option Nat} (h : Below B a w) (hg : w.grownBy w' row) (hB : B ≤ a.heap.size) (hgB : ∀ k, row = some k → B ≤ k) : Below B a w' :=
  h.grown hg (Nat.le_trans hB h.size) hgB
def smarks (k n : Nat) : List Sp := (List.range n).map fun i => (((k + 2 * i : Nat) : Int), ((k + 2 * i + 1 : Nat) : Int))
theorem smarks_len (k n : Nat) : (smarks k n).length = n := by simp [smarks]
theorem smarks_at (k n i : Nat) (h : i < n) : (smarks k n).getD i (0, 0) = (((k + 2 * i : Nat) : Int), ((k + 2 * i + 1 : Nat) : Int)) := by
  unfold smarks
  rw [List.getD_eq_getElem?_getD, List.getElem?_map, List.getElem?_range h]
  rfl
set_option maxRecDepth 100000 in
set_option maxHeartbeats 2000000 in
theorem markSpans_any (base k n : Nat) (v : Value) (xs : List Sp) (w : World) (hown : w.ownsRow base 42 2 v n (spanCells xs)) (hk : 0 < k) (hm : k + 2 * n ≤ 1000000000000) :
    Calls Try.prog 12 #[v, .int .i64 k] w fun e w' => e = .returned (.int .i64 (k + 2 * n : Nat)) ∧ w'.ownsRow base 42 2 v n (spanCells (smarks k n)) ∧ w.grownBy w' v.ownBlock := by
  obtain ⟨A, c, rfl, hnc, hcm⟩ := own_formS hown
  have hsh : 0 < n → ∃ g, A = some ⟨g, 0, none⟩ := fun h0 => by
    obtain ⟨g, cap, e⟩ := own_shapeS hown h0
    injection e with e
    exact ⟨g, e⟩
  have hlx := hown.1
  unfold maxLen at hcm
  go_enter Try.func12, Try.ntmps12
  go_wp2
  go_loopw [1, 5] (fun q i wr => ∃ (j : Nat) (cs : List Value), j ≤ n ∧ i = .int .i64 j ∧ q = .int .i64 (k + 2 * j : Nat) ∧ Hid (cs.take (j * 2) = (spanCells (smarks k n)).take (j * 2)) ∧ Hid (wr.ownsRow base 42 2 (.slice A n c) n cs) ∧ Hid (w.grownBy wr (Value.slice A n c).ownBlock)) (fun _ i _ => n - (intOf i).toNat)
  case atStart => exact ⟨0, spanCells xs, Nat.zero_le _, rfl, rfl, by simp [Hid], hown, grown_reflS _ _⟩
  case round =>
    obtain ⟨j, cs, hj, rfl, rfl, hcs, ho, hg⟩ := hrel
    by_cases hlt : j < n
    · obtain ⟨g, rfl⟩ := hsh (by omega)
      have ho1 := ho.out
      have hcl := ho1.1
      have d0 := ho1.cellAt (j * 2) (by omega)
      have d1 := ho1.cellAt (j * 2 + 1) (by omega)
      have f0 := ho1.frozenAt (j * 2)
      have f1 := ho1.frozenAt (j * 2 + 1)
      rw [List.getElem?_eq_getElem (by omega)] at d0 d1
      obtain ⟨u0, hu0⟩ : ∃ u, wr.cell? ⟨g, j * 2, none⟩ = some u := ⟨_, d0⟩
      obtain ⟨u1, hu1⟩ : ∃ u, wr.cell? ⟨g, j * 2 + 1, none⟩ = some u := ⟨_, d1⟩
      clear d0 d1
      have hsm := smarks_at k n j hlt
      obtain ⟨q0, hq0⟩ : ∃ q, k + 2 * j = q := ⟨_, rfl⟩
      have hqb : q0 + 2 ≤ 1000000000000 := by omega
      rw [hq0] at hsm ⊢
      have s1 := ho1.stored (j * 2) (.int .i64 (q0 : Int))
      have s2 := s1.1.stored (j * 2 + 1) (.int .i64 ((q0 + 1 : Nat) : Int))
      have hml := spanCells_len (smarks k n)
      rw [smarks_len] at hml
      have hat := spanCells_at (smarks k n) j (by rw [smarks_len]; exact hlt)
      rw [hsm] at hat
      have H1 := Lib.hid (take_set2 cs (spanCells (smarks k n)) (j * 2) _ _ hcs.out (by omega) hat.1 hat.2)
      have HO := Lib.hid s2.1
      have HG := Lib.hid (grown_transS (grown_transS hg.out s1.2) s2.2)
      have Q0 := Lib.hid hq0
      clear hat s1 s2 hsm hcs ho ho1 hg hml hq0
      go_wp2
      go_roundw
      case rel => exact ⟨j + 1, _, by omega, by go_num, by have := Q0.out; first | (go_num; done) | (congr 1; omega), by rw [Nat.add_mul]; exact H1, HO.out, HG.out⟩
      case measure => simp [intOf]; omega
    · obtain rfl : j = n := by omega
      have hcl := ho.out.1
      have hml := spanCells_len (smarks k j)
      rw [smarks_len] at hml
      have hfin : cs = spanCells (smarks k j) := by
        have := hcs.out
        rw [List.take_of_length_le (by omega), List.take_of_length_le (by omega)] at this
        exact this
      have HO := ho.out
      rw [hfin] at HO
      have HO := Lib.hid HO
      clear hfin hcs ho hml hcl
      go_wp2
      go_ret
      exact ⟨rfl, HO.out, hg.out⟩
set_option maxRecDepth 100000 in
set_option maxHeartbeats 2000000 in
theorem heldSpans_any (k n c : Nat) (A : Option Addr) (w : World) (hx : Spans w A n c (smarks k n)) (hk : 0 < k) (hm : k + 2 * n ≤ 1000000000000) :
    Calls Try.prog 13 #[.slice A n c, .int .i64 k] w fun e w' => e = .returned (.int .i64 (k + 2 * n : Nat)) ∧ Below w.heap.size w w' := by
  have hcm := hx.2.cap
  have hnc := hx.2.le
  unfold maxLen at hcm
  go_enter Try.func13, Try.ntmps13
  go_wp2
  go_loopw [1, 5] (fun q i wr => ∃ (j : Nat), j ≤ n ∧ i = .int .i64 j ∧ q = .int .i64 (k + 2 * j : Nat) ∧ Below w.heap.size w wr) (fun _ i _ => n - (intOf i).toNat)
  case atStart => exact ⟨0, Nat.zero_le _, rfl, rfl, Below.refl _ _⟩
  case round =>
    obtain ⟨j, hj, rfl, rfl, hb⟩ := hrel
    by_cases hlt : j < n
    · obtain ⟨b, off, rfl, hbl, _⟩ := hx.at_ j hlt
      obtain ⟨f, t, hft, c0, c1⟩ := hx.el hb hbl j hlt
      have hat := hft.out
      rw [smarks_at k n j hlt] at hat
      injection hat with e1 e2
      have e4 : ((k + 2 * j + 1 : Nat) : Int) + 1 = ((k + 2 * (j + 1) : Nat) : Int) := by omega
      obtain ⟨q0, hq0⟩ : ∃ q, k + 2 * j = q := ⟨_, rfl⟩
      rw [hq0] at e1 e2 e4 ⊢
      have hqb : q0 + 2 ≤ 1000000000000 := by omega
      subst e1
      subst e2
      have Q0 := Lib.hid hq0
      clear e4 hq0 hft
      go_wp2
      go_roundw
      case rel => exact ⟨j + 1, by omega, by go_num, by have := Q0.out; first | (go_num; done) | (congr 1; omega), hb⟩
      case measure => simp [intOf]; omega
    · obtain rfl : j = n := by omega
      go_wp2
      go_ret
      exact ⟨rfl, hb⟩
end Go.Proofs.Ytldikfikcnkgcaa
