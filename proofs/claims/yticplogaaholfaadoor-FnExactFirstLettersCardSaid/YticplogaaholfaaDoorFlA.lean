/- FirstLetters: the sort and the cut of a row of the call's own; the first letter's cells. -/
import Derived.Shelf.SortM.Plain
import Derived.Shelf.SortM.SortNone
import Derived.Sort.OwnSortedInts
import Derived.Lib.OwnBridge
import Derived.Test.YticplogaaholfaaDoorShelfF
import Derived.Test.YticplogaaholfaaDoorShelfG
import Derived.Test.YticplogaaholfaaDoorSpellLaw
import Derived.Test.YticplogaaholfaaDoorFlLaw
namespace Go.Proofs.YticplogaaholfaaDoor
open Go.ChangeShapes Go.WideShapes Go.ChangeAt Go.RowKit Go.Sort
theorem sort_any (v : Value) (n base : Nat) (zs : List Int) (w : World) (h : w.ownsRow base 2 1 v n (zs.map (Value.int .i64))) (hn : n ≤ 1048576) (hb : base ≤ w.heap.size) :
    Calls Tryd.prog 47 #[v] w fun e w' => (∃ z, e = .returned z) ∧ w'.ownsRow base 2 1 v n ((zs.mergeSort fun x y => decide (x ≤ y)).map (Value.int .i64)) ∧ Below base w w' := by
  have hl : zs.length = n := by simpa using h.1
  rcases h.2 with ⟨rfl, h0⟩ | ⟨g, cap, cur, rfl, hbg, hg, hnc, hcm, hsz, ht⟩
  · have hz : zs = [] := List.eq_nil_of_length_eq_zero (by omega)
    subst hz
    refine Calls.mono (AnyM.slices_Sort_int_none Tryd.laysSort_f47 none 0 w) ?_
    rintro e w' ⟨rfl, rfl⟩
    exact ⟨⟨_, rfl⟩, by simpa using h, Below.refl _ _⟩
  · subst hl
    have hH : Holds (Value.int .i64) w g 0 zs.toArray := holds_of_blockI hg (by simpa using ht)
    have hgs : g < w.heap.size := (Array.getElem?_eq_some_iff.1 hg).1
    refine Calls.mono (AnyM.slices_Sort_int Tryd.laysSort_f47 g 0 cap zs w hH hgs (by omega)) ?_
    rintro e w' ⟨rfl, n', os, rfl⟩
    refine ⟨⟨_, rfl⟩, ownsRow_sortedI (by simp) hbg hg hnc hcm hsz, ?_⟩
    exact (Below.refl base w).grown (grownBy_sortedI _) hb (fun k hk => by have e : g = k := Option.some.inj hk; omega)
theorem compact_any (v : Value) (n base : Nat) (zs : List Int) (w : World) (h : w.ownsRow base 2 1 v n (zs.map (Value.int .i64))) (hn : n ≤ 1048576) (hb : base ≤ w.heap.size) :
    Calls Tryd.prog 48 #[v] w fun e w' => ∃ v', e = .returned v' ∧ w'.ownsRow base 2 1 v' (Lib.compact zs).length ((Lib.compact zs).map (Value.int .i64)) ∧ Below base w w' := by
  have hl : zs.length = n := by simpa using h.1
  rcases h.2 with ⟨rfl, h0⟩ | ⟨g, cap, cur, rfl, hbg, hg, hnc, hcm, hsz, ht⟩
  · have hz : zs = [] := List.eq_nil_of_length_eq_zero (by omega)
    subst hz
    refine Calls.mono (Tryd.slices_Compact_int_empty none 0 w) ?_
    rintro e w' ⟨rfl, rfl⟩
    exact ⟨_, rfl, by rw [show Lib.compact ([] : List Int) = [] from rfl]; exact World.ownsRow_nil _ _ _ _, Below.refl _ _⟩
  · subst hl
    have hH : Holds (Value.int .i64) w g 0 zs.toArray := holds_of_blockI hg (by simpa using ht)
    refine Calls.mono (Tryd.slices_Compact_int g 0 cap zs w hH (by omega) hnc) ?_
    rintro e w' ⟨rfl, q, rfl⟩
    have hle : (Lib.compact zs).length ≤ zs.length := by
      unfold Lib.compact Lib.compactUpTo
      rw [List.length_map]
      have := List.length_filter_le (Lib.keeps zs.toArray) (List.range zs.length)
      simpa using this
    refine ⟨_, rfl, ?_, Lib.below_putRow (Below.refl base w) hbg⟩
    have ho := Lib.ownsRow_putRow (enc := Value.int .i64) (q := q) (k := (Lib.compact zs).length) (ys := Lib.compact zs ++ List.replicate (zs.length - (Lib.compact zs).length) 0) h (by simp; omega) hle
    rw [List.take_left'] at ho
    · exact ho
    · rfl
theorem fl_ok {xs : List ByteArray} {s : ByteArray} (hp : isPhrase s = true) (ha : spAll xs s = true) : ∃ i l L, sps xs s = (i :: l) :: L ∧ ∃ k : Nat, k < xs.length ∧ i = (k : Int) := by
  have hne : 1 ≤ (cutS 32 s).length := by have := cutS_len 32 s; omega
  unfold isPhrase at hp
  rw [Bool.and_eq_true] at hp
  have hw := hp.1
  unfold spAll at ha
  unfold sps
  rcases hc : cutS 32 s with _ | ⟨t, ts⟩
  · rw [hc] at hne; simp at hne
  · rw [hc] at hw ha
    rw [List.all_cons, Bool.and_eq_true] at hw ha
    have ht := word_size hw.1
    have hk := ha.1
    unfold spellOk at hk
    obtain ⟨l, hl⟩ := Option.isSome_iff_exists.1 hk
    have hsl : spellList xs t = l := by unfold spellList; rw [hl]; rfl
    rw [List.map_cons, hsl]
    unfold spell at hl
    obtain ⟨r1, r2⟩ := spl_cat hl
    rcases l with _ | ⟨i, l'⟩
    · have e := r2 ⟨#[]⟩
      rw [nil_app] at e
      have : t.size = 0 := by rw [← e]; rfl
      omega
    · have h1 := r1 i (List.mem_cons_self ..)
      exact ⟨i, l', _, rfl, i.toNat, by omega, by omega⟩
theorem fl_ix {xs : List ByteArray} {s : ByteArray} {i : Int} {l : List Int} {L : List (List Int)} (h : sps xs s = (i :: l) :: L) : flIx xs s = i := by
  unfold flIx
  rw [h]
  rfl
theorem fl_cells {w : World} {A : Option Addr} {n c : Nat} {xs : List ByteArray} {s : ByteArray} (hL : Lists w A n c (sps xs s)) (hp : isPhrase s = true) (ha : spAll xs s = true) :
    ∃ b off b2 off2 m d, A = some ⟨b, off, none⟩ ∧ b < w.heap.size ∧ 0 < n ∧ w.cell? ⟨b, off, none⟩ = some (.slice (some ⟨b2, off2, none⟩) m d) ∧ b2 < w.heap.size ∧ 0 < m ∧ w.cell? ⟨b2, off2, none⟩ = some (.int .i64 (flIx xs s)) := by
  obtain ⟨i, l, L, hs, k, hk, hi⟩ := fl_ok hp ha
  rw [fl_ix hs]
  rw [hs] at hL
  have hn : 0 < n := by rw [hL.1]; simp
  obtain ⟨b, off, rfl, hb⟩ := hL.at_ 0 hn
  obtain ⟨B, m, d, ys, h1, h2, h3⟩ := hL.el (Below.refl _ w) 0 hn
  have e : ys = i :: l := by have := h1.out; simp at this; exact this.symm
  subst e
  have hm : 0 < m := by rw [h3.1]; simp
  obtain ⟨b2, off2, rfl, hb2⟩ := h3.at_ 0 hm
  obtain ⟨z, h4, h5⟩ := h3.el (Below.refl w.heap.size w) hb2 0 hm
  have e2 : z = i := by have := h4.out; simp at this; exact this.symm
  subst e2
  exact ⟨b, off, b2, off2, m, d, rfl, hb, hn, h2, hb2, hm, h5⟩
end Go.Proofs.YticplogaaholfaaDoor
