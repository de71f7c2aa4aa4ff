/- slices.SortedFunc at spans by their first years. -/
import Derived.Shelf.SlSortCmp.NoneTotal
import Derived.Test.YtldikfikcnkgcaaSrtQ
namespace Go.Proofs.Ytldikfikcnkgcaa
open Go.ChangeShapes Go.WideShapes Go.ChangeAt Go.RowKit Go.Sort
theorem sortFuncP_any (v : Value) (base : Nat) (zs : List Sp) (w : World) (h : w.ownsRow base 42 2 v zs.length (spanCells zs)) (hn : zs.length ≤ 1048576) (hb : base ≤ w.heap.size) :
    Calls Try.prog 68 #[v, .func (.func 57) #[] #[]] w fun e w' => (∃ z, e = .returned z) ∧ ∃ ys, ys.Perm zs ∧ ys.Pairwise (fun a b => a.1 ≤ b.1) ∧ w'.ownsRow base 42 2 v ys.length (spanCells ys) ∧ Below base w w' := by
  rcases h.2 with ⟨rfl, h0⟩ | ⟨g, cap, cur, rfl, _⟩
  · have hz : zs = [] := List.eq_nil_of_length_eq_zero (by omega)
    subst hz
    refine Calls.mono (AnyF.slices_SortFunc_none Try.laysSF none 0 _ w) ?_
    rintro e w' ⟨rfl, rfl⟩
    exact ⟨⟨_, rfl⟩, [], List.Perm.refl _, List.Pairwise.nil, h, Below.refl _ _⟩
  · exact sortFuncP_some g cap base zs w h hn hb
set_option maxHeartbeats 1000000 in
theorem sortedP_any (A : Option Addr) (n c : Nat) (xs : List Sp) (w0 : World) (hx : Spans w0 A n c xs) (hn : xs.length ≤ 24) (Bs : Nat) (W : World) (hBs : Bs < W.heap.size) (hb : Below w0.heap.size w0 W) (hc : W.cell? ⟨Bs, 0, none⟩ = some (.slice A n c)) :
    Calls Try.prog 55 #[.func (.func 69) #[] #[.pointer (some ⟨Bs, 0, none⟩)], .func (.func 57) #[] #[]] W fun e W' => ∃ v ys, e = .returned v ∧ ys.Perm xs ∧ ys.Pairwise (fun a b => a.1 ≤ b.1) ∧ W'.ownsRow W.heap.size 42 2 v ys.length (spanCells ys) ∧ Below W.heap.size W W' := by
  have hnx := hx.1
  subst hnx
  obtain ⟨b, off, hA, hbW, hI⟩ : ∃ b off, (0 < xs.length → A = some ⟨b, off, none⟩) ∧ b < W.heap.size ∧ ∀ j, j < xs.length → W.cell? ⟨b, off + j * 2, none⟩ = some (.int .i64 (xs.getD j (0, 0)).1) ∧ W.cell? ⟨b, off + j * 2 + 1, none⟩ = some (.int .i64 (xs.getD j (0, 0)).2) := by
    by_cases h0 : 0 < xs.length
    · obtain ⟨b, off, rfl, hbl, _⟩ := hx.at_ 0 h0
      refine ⟨b, off, fun _ => rfl, Nat.lt_of_lt_of_le hbl hb.size, fun j hj => ?_⟩
      obtain ⟨f, t, hft, c0, c1⟩ := hx.el hb hbl j hj
      rw [hft.out]
      exact ⟨c0, c1⟩
    · exact ⟨Bs, 0, fun h => absurd h h0, hBs, fun j hj => absurd hj (by omega)⟩
  have h1 := collectP_any Bs b off c xs A hA (by omega) W hBs hbW hc hI
  have H2 := Lib.hid (fun v W' h1 h2 => sortFuncP_any v W.heap.size xs W' h1 (by omega) h2)
  clear hI hc hx
  go_enter Try.func55, Try.ntmps55
  go_wp2_with fail
  refine h1.mono ?_
  rintro e_ w1 ⟨v, rfl, o1, k1⟩
  have h2 := H2.out v w1 o1 k1.size
  clear h1 H2
  go_wp2_with fail
  refine h2.mono ?_
  rintro e_ w2 ⟨⟨z, rfl⟩, ys, hp, hs, o2, k2⟩
  clear h2
  go_wp2
  go_ret
  exact ⟨v, ys, rfl, hp, hs, o2, k1.trans k2⟩
end Go.Proofs.Ytldikfikcnkgcaa
