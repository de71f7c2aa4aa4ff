/- slices.SortFunc and slices.SortedFunc at spans by their first years. -/
import Derived.Shelf.SlSortCmp.WholeK
import Derived.Test.YtldikfikcnkgcaaShelfH
import Derived.Test.YtldikfikcnkgcaaUnP
namespace Go.Proofs.Ytldikfikcnkgcaa
open Go.ChangeShapes Go.WideShapes Go.ChangeAt Go.RowKit Go.Sort
theorem permP {ys zs : Array Sp} (h : PermIn 0 zs.size zs ys) : ys.toList.Perm zs.toList := by
  obtain ⟨h1, _, h3⟩ := h
  rw [Array.extract_eq_self_of_le (by omega), Array.extract_eq_self_of_le (by omega)] at h3
  exact h3
theorem pairP {ys : Array Sp} {n : Nat} (hn : ys.size = n) (h : SortedIn (ltOf fun (x y : Sp) => cmp3 x.1 y.1) 0 n ys) : ys.toList.Pairwise fun a b => a.1 ≤ b.1 := by
  rw [List.pairwise_iff_getElem]
  intro i j hi hj hij
  simp at hi hj
  have := h i j (Nat.zero_le _) hij (by omega)
  rw [ltP] at this
  rw [getElem!_pos ys i (by omega), getElem!_pos ys j (by omega)] at this
  simpa using this
theorem sortFuncP_some (g cap base : Nat) (zs : List Sp) (w : World) (h : w.ownsRow base 42 2 (.slice (some ⟨g, 0, none⟩) zs.length cap) zs.length (spanCells zs)) (hn : zs.length ≤ 1048576) (hb : base ≤ w.heap.size) :
    Calls Try.prog 68 #[.slice (some ⟨g, 0, none⟩) zs.length cap, .func (.func 57) #[] #[]] w fun e w' => (∃ z, e = .returned z) ∧ ∃ ys, ys.Perm zs ∧ ys.Pairwise (fun a b => a.1 ≤ b.1) ∧ w'.ownsRow base 42 2 (.slice (some ⟨g, 0, none⟩) zs.length cap) ys.length (spanCells ys) ∧ Below base w w' := by
  have eg : ∀ args w, (callFunc 57 args).run Try.prog w = .ok (.enter 57 args) w := enters_of Try.func57 (by kernel_rfl) rfl
  have hgl := h.lt g rfl
  have hcon := AnyQ.slices_SortFunc Try.laysSF 2 Try.isAgg42 Try.sizeOf42 encSp (fun _ => rfl) (fun x v hv => by simp [encSp] at hv; rcases hv with rfl | rfl <;> rfl) (fun x y => cmp3 x.1 y.1) swoP 57 #[] g 0 cap zs.toArray w eg (fun _ _ _ _ x y => closP_any x y _) (holdsSrt (d := zs.toArray) h (by simp)) hgl.2 (by simp; omega)
  refine Calls.mono hcon ?_
  rintro e w' ⟨rfl, d', n, os, hp, hs, rfl⟩
  have hsz : d'.size = zs.length := by have := hp.1; simpa using this
  refine ⟨⟨_, rfl⟩, d'.toList, by simpa using permP hp, pairP hsz (by simpa using hs), ?_, ?_⟩
  · have := own_sortK (d := d') (m := n) (os := os) h hsz
    rw [show d'.toList.length = zs.length by simpa using hsz]
    exact this
  · exact (Below.refl base w).grown grownSrt hb (fun k hk => by have e : g = k := Option.some.inj hk; omega)
end Go.Proofs.Ytldikfikcnkgcaa
