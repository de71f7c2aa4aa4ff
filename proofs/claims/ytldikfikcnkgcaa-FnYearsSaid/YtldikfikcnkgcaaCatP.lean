/- slices.Grow and slices.Concat at spans: two slices joined. -/
import Derived.Lib.AppendZeros
import Derived.Laws.AppendOwn
import Derived.Test.YtldikfikcnkgcaaSrtQ
namespace Go.Proofs.Ytldikfikcnkgcaa
open Go.ChangeShapes Go.WideShapes Go.ChangeAt Go.RowKit
set_option maxRecDepth 100000 in
set_option maxHeartbeats 2000000 in
theorem growP_any (n : Nat) (w : World) (hn : n ≤ 24) :
    Calls Try.prog 59 #[.slice none 0 0, .int .i64 n] w fun e w' => ∃ v, e = .returned v ∧ w'.ownsRow w.heap.size 42 2 v 0 [] ∧ Below w.heap.size w w' := by
  obtain ⟨i0, hi, hz0, hz1, hz2⟩ := info_parts infoSpan
  have hneg : ¬ (n : Int) < 0 := by omega
  by_cases h0 : n = 0
  · subst h0
    go_enter Try.func59, Try.ntmps59
    go_wp2
    go_ret
    exact ⟨_, rfl, World.ownsRow_nil _ _ _ _, Below.refl _ _⟩
  · have happ := Lib.run_append_nil_zeros (P := Try.prog) w 24 3 24 42 i0 (.agg #[.int .i64 0, .int .i64 0]) .i64 .i64 Try.underlying24 Try.underlying3 hi hz0 n (by omega) (by omega) (by omega) (by rw [hz2]; omega)
    obtain ⟨cap2, hcap⟩ : ∃ q, grownCap w n 0 42 = q := ⟨_, rfl⟩
    have hcapge : n ≤ cap2 := by rw [← hcap]; exact grownCap_ge w _ 0 _
    have hcaple : cap2 ≤ maxLen := by rw [← hcap]; exact grownCap_le_maxLen w _ 0 _ (by unfold maxLen; omega)
    rw [hcap] at happ
    obtain ⟨Z, hZ⟩ : ∃ Z, (Builtin.zeroCells (Value.agg #[.int .i64 0, .int .i64 0]).cells n ++ Builtin.zeroCells (Value.agg #[.int .i64 0, .int .i64 0]).cells (cap2 - n)) = Z := ⟨_, rfl⟩
    have hZs : Z.size = cap2 * 2 := by rw [← hZ]; simp [size_zeroCells, Value.cells]; omega
    rw [hZ] at happ
    clear hcap hZ
    have hpos : (0 : Int) < (n : Int) := by omega
    have hcm := hcaple
    unfold maxLen at hcm
    go_enter Try.func59, Try.ntmps59
    go_wp2_with (at_builtin; refine Lib.wpList_append_run _ rfl _ _ _ _ rfl _ _ rfl rfl _ _ happ ?_)
    go_ret
    exact ⟨_, rfl, ⟨rfl, .inr ⟨w.heap.size, cap2, Z, rfl, Nat.le_refl _, World.alloc_heap_new _ _, Nat.zero_le _, hcaple, hZs, by simp⟩⟩, (Below.refl _ w).drew.alloc (Nat.le_refl _) _⟩
theorem news_sp {w wr : World} {b off n c : Nat} {xs : List Sp} (h : Spans w (some ⟨b, off, none⟩) n c xs) (hb : Below w.heap.size w wr) : ∀ j u, (spanCells xs)[j]? = some u → wr.cell? ((⟨b, off, none⟩ : Addr).add j) = some u := fun j u hu => by
  have hj := (List.getElem?_eq_some_iff.1 hu).1
  rw [spanCells_len] at hj
  have hn := h.1
  obtain ⟨b', off', e, hlt, hc⟩ := h.2.at_ (by omega)
  injection e with e; injection e with e1 e2
  subst e1; subst e2
  rw [show (⟨b, off, none⟩ : Addr).add j = ⟨b, off + j, none⟩ by simp [Addr.add]]
  exact (hb.cell (p := ⟨b, off + j, none⟩) hlt).trans (hc j u hu)
theorem one_sp (xs : List Sp) : ∀ u ∈ spanCells xs, u.oneCell' = true := fun u hu => by
  unfold spanCells at hu
  obtain ⟨x, _, hx⟩ := List.mem_flatMap.1 hu
  simp at hx
  rcases hx with rfl | rfl <;> rfl
set_option maxRecDepth 100000 in
set_option maxHeartbeats 2000000 in
/-- slices.Concat of two slices -/
theorem concatP_any (b0 b1 o1 b2 o2 n c m d : Nat) (xs ys : List Sp) (w : World) (hx : Spans w (some ⟨b1, o1, none⟩) n c xs) (hy : Spans w (some ⟨b2, o2, none⟩) m d ys) (hn : n ≤ 12) (hm : m ≤ 12) (hb1 : b1 < w.heap.size) (hb2 : b2 < w.heap.size) (hb0 : b0 < w.heap.size)
    (h0 : w.cell? ⟨b0, 0, none⟩ = some (.slice (some ⟨b1, o1, none⟩) n c)) (h1 : w.cell? ⟨b0, 1, none⟩ = some (.slice (some ⟨b2, o2, none⟩) m d)) :
    Calls Try.prog 40 #[.slice (some ⟨b0, 0, none⟩) 2 2] w fun e w' => ∃ v, e = .returned v ∧ w'.ownsRow w.heap.size 42 2 v (xs ++ ys).length (spanCells (xs ++ ys)) ∧ Below w.heap.size w w' := by
  obtain ⟨i0, hi, hz0, hz1, hz2⟩ := info_parts infoSpan
  have HX := Lib.hid hx.1
  have HY := Lib.hid hy.1
  have hg := growP_any (n + m) w (by omega)
  have e1 : IntKind.i64.wrap ((n : Int) + (m : Int)) = ((n + m : Nat) : Int) := by rw [IntWalk.i64_in _ (by omega)]; omega
  have e2 : IntKind.i64.wrap (n : Int) = (n : Int) := IntWalk.i64_in _ (by omega)
  have e3 : ((n + m : Nat) : Int) = (n : Int) + (m : Int) := by omega
  rw [e3] at hg
  have e4 : ¬ ((n : Int) + (m : Int) < 0) := by omega
  have e5 : ¬ ((n : Int) < 0) := by omega
  go_enter Try.func40, Try.ntmps40
  go_wp2
  go_loopw [3, 11] (fun sv iv wr => ∃ k : Nat, k ≤ 2 ∧ iv = .int .i64 k ∧ sv = .int .i64 (if k = 0 then 0 else if k = 1 then (n : Int) else (n : Int) + (m : Int)) ∧ wr = w) (fun _ iv _ => 2 - (intOf iv).toNat)
  case atStart => exact ⟨0, by omega, rfl, rfl, rfl⟩
  case round =>
    obtain ⟨k, hk, rfl, rfl, rfl⟩ := hrel
    rcases (show k = 0 ∨ k = 1 ∨ k = 2 by omega) with rfl | rfl | rfl
    · go_wp2
      go_roundw
      case rel => exact ⟨1, by omega, by go_num, by first | rfl | (simp; done) | simp [e2], by simp⟩
      case measure => simp [intOf]
    · go_wp2
      go_roundw
      case rel => exact ⟨2, by omega, by go_num, by first | rfl | (simp; done) | simp [e1], by simp⟩
      case measure => simp [intOf]
    · rename World => wo
      go_wp2_with fail
      refine hg.mono ?_
      rintro e_ w1 ⟨v1, rfl, o1_, k1⟩
      have HO := Lib.hid o1_
      have HB := Lib.hid k1
      clear hg o1_ k1
      go_wp2
      go_loopw [6, 27] (fun vv iv wr' => ∃ k : Nat, k ≤ 2 ∧ iv = .int .i64 k ∧ Hid (wr'.ownsRow wo.heap.size 42 2 vv (if k = 0 then [] else if k = 1 then xs else xs ++ ys).length (spanCells (if k = 0 then [] else if k = 1 then xs else xs ++ ys))) ∧ Below wo.heap.size wo wr') (fun _ iv _ => 2 - (intOf iv).toNat)
      case atStart => exact ⟨0, by omega, rfl, HO.out, HB.out⟩
      case round =>
        obtain ⟨k, hk, rfl, hO2, hb⟩ := hrel
        have q0 := (hb.cell (p := ⟨b0, 0, none⟩) hb0).trans h0
        have q1 := (hb.cell (p := ⟨b0, 1, none⟩) hb0).trans h1
        rcases (show k = 0 ∨ k = 1 ∨ k = 2 by omega) with rfl | rfl | rfl
        · have ho : wr.ownsRow wo.heap.size 42 2 _ 0 [] := hO2.out
          clear hO2
          go_wp2_with (at_builtin; refine wpList_append_own _ rfl _ _ 24 rfl wo.heap.size 42 i0 (.agg #[.int .i64 0, .int .i64 0]) 2 16 Try.underlying24 hi hz0 hz1 hz2 rfl (by decide) _ _ _ rfl ho ⟨b1, o1, none⟩ n c (spanCells xs) rfl ?c1 ?c0 ?c2 ?c3 ?c4 ?c5 ?_)
          case c1 => rw [spanCells_len, ← HX.out]
          case c0 => exact news_sp hx hb
          case c2 => exact one_sp _
          case c3 => unfold maxLen; omega
          case c4 => omega
          case c5 => exact hb.size
          intro v5 w5 hown5 hgrow _
          have HB5 := Lib.hid (hb.grown hgrow hb.size (fun q hq => (ho.lt q hq).1))
          have HO5 := Lib.hid hown5
          clear hown5 hgrow hb ho
          go_wp2
          go_roundw
          case rel => exact ⟨1, by omega, by go_num, by show w5.ownsRow _ _ 2 v5 xs.length (spanCells xs); rw [← HX.out]; simpa using HO5.out, HB5.out⟩
          case measure => simp [intOf]
        · have ho : wr.ownsRow wo.heap.size 42 2 _ xs.length (spanCells xs) := hO2.out
          rw [← HX.out] at ho
          clear hO2
          go_wp2_with (at_builtin; refine wpList_append_own _ rfl _ _ 24 rfl wo.heap.size 42 i0 (.agg #[.int .i64 0, .int .i64 0]) 2 16 Try.underlying24 hi hz0 hz1 hz2 rfl (by decide) _ _ _ rfl ho ⟨b2, o2, none⟩ m d (spanCells ys) rfl ?c1 ?c0 ?c2 ?c3 ?c4 ?c5 ?_)
          case c1 => rw [spanCells_len, ← HY.out]
          case c0 => exact news_sp hy hb
          case c2 => exact one_sp _
          case c3 => unfold maxLen; omega
          case c4 => omega
          case c5 => exact hb.size
          intro v5 w5 hown5 hgrow _
          have HB5 := Lib.hid (hb.grown hgrow hb.size (fun q hq => (ho.lt q hq).1))
          have HO5 := Lib.hid hown5
          clear hown5 hgrow hb ho
          go_wp2
          go_roundw
          case rel => exact ⟨2, by omega, by go_num, by show w5.ownsRow _ _ 2 v5 (xs ++ ys).length (spanCells (xs ++ ys)); rw [List.length_append, ← HX.out, ← HY.out, spanCells_append]; exact HO5.out, HB5.out⟩
          case measure => simp [intOf]
        · have ho : wr.ownsRow wo.heap.size 42 2 _ (xs ++ ys).length (spanCells (xs ++ ys)) := hO2.out
          have HO3 := Lib.hid ho
          clear hO2 ho
          go_wp2
          go_ret
          exact ⟨_, rfl, HO3.out, hb⟩
end Go.Proofs.Ytldikfikcnkgcaa
