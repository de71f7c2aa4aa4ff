/- Numbers read from a text: the reference's and the library's reading agree. Plain law: nothing is claimed of a Go function here. -/
import Derived.Test.YtfacbdliegemgaaDoorReadD
import Derived.Test.YtfacbdliegemgaaDoorNumJ
import Derived.Test.YtfacbdliegemgaaDoorSpellA
import Derived.Lib.IndexMore
namespace Go.Proofs.YtfacbdliegemgaaDoor
open Go.ChangeShapes Go.WideShapes Go.ChangeAt Go.RowKit

theorem bytes_eq {a b : ByteArray} (h : a.data.toList = b.data.toList) : a = b := ByteArray.ext (Array.ext' h)
theorem numT_word {x : ByteArray} (h : sOkT x = true) : numT (sNumT x) = x := by
  obtain ⟨h1, _, _⟩ := sOk_is h
  exact bytes_eq (by unfold numT sNumT; simpa using h1)
theorem word_bd {x : ByteArray} (h : sOkT x = true) : -10000000000000 < sNumT x ∧ sNumT x < 10000000000000 := by
  obtain ⟨_, h2, h3⟩ := sOk_is h
  exact ⟨h2, h3⟩
theorem word_same {x : ByteArray} (h : sOkT x = true) : rOkT x = true ∧ rNumT x = sNumT x := by
  obtain ⟨h1, h2, h3⟩ := sOk_is h
  have h4 := rOk_itoa (n := sNum x.data.toList) (by omega) (by omega)
  rw [h1] at h4
  exact h4
theorem word_back {x : ByteArray} (h : rOkT x = true) (h0 : -10000000000000 < rNumT x) (h1 : rNumT x < 10000000000000) : sOkT x = true ∧ sNumT x = rNumT x := by
  have e := rOk_is h
  have h4 := sOk_itoa (n := rNum x.data.toList) h0 h1
  rw [e] at h4
  exact h4
theorem nums_same {L : List ByteArray} (h : L.all sOkT = true) : L.all rOkT = true ∧ rNumsOf L = numsOf L := by
  have h2 : L.all rOkT = true := by
    rw [List.all_eq_true] at h ⊢
    exact fun x hx => (word_same (h x hx)).1
  refine ⟨h2, ?_⟩
  unfold rNumsOf numsOf
  rw [if_pos h2, if_pos h]
  exact List.map_congr_left fun x hx => (word_same (List.all_eq_true.1 h x hx)).2
theorem nums_back {L : List ByteArray} {lo hi : Int} (h0 : -10000000000000 < lo) (h1 : hi < 10000000000000) (h : L.all rOkT = true) (hb : (rNumsOf L).all (inB lo hi) = true) : L.all sOkT = true ∧ numsOf L = rNumsOf L := by
  unfold rNumsOf at hb
  rw [if_pos h] at hb
  have hs : L.all sOkT = true := List.all_eq_true.2 fun x hx => by
    have hq := List.all_eq_true.1 hb (rNumT x) (List.mem_map_of_mem hx)
    unfold inB at hq
    have hq := of_decide_eq_true hq
    exact (word_back (List.all_eq_true.1 h x hx) (by omega) (by omega)).1
  exact ⟨hs, (nums_same hs).2.symm⟩
theorem nums_text {L : List ByteArray} (h : L.all sOkT = true) : (numsOf L).map numT = L := by
  unfold numsOf
  rw [if_pos h, List.map_map]
  conv => rhs; rw [← List.map_id L]
  exact List.map_congr_left fun x hx => numT_word (List.all_eq_true.1 h x hx)
theorem nums_numB {L : List ByteArray} (h : L.all sOkT = true) : (numsOf L).all numB = true := by
  unfold numsOf
  rw [if_pos h, List.all_eq_true]
  intro n hn
  obtain ⟨x, hx, rfl⟩ := List.mem_map.1 hn
  have := word_bd (List.all_eq_true.1 h x hx)
  exact decide_eq_true (by omega)
theorem join_two (x y : List UInt8) (r : List (List UInt8)) (c : UInt8) : Lib.join (x :: y :: r) [c] = x ++ c :: Lib.join (y :: r) [c] := by
  rw [Lib.join_cons, Lib.join_cons]
  simp [Lib.joinTail]
theorem join_head (x : UInt8) (p : List UInt8) (r : List (List UInt8)) (c : UInt8) : Lib.join ((x :: p) :: r) [c] = x :: Lib.join (p :: r) [c] := by
  rw [Lib.join_cons, Lib.join_cons]
  rfl
theorem join_cut (c : UInt8) : ∀ l : List UInt8, Lib.join (cutAt c l) [c] = l
  | [] => by simp [cutAt, Lib.join_one]
  | x :: l => by
    have ih := join_cut c l
    unfold cutAt
    split
    · rename_i h
      rcases hq : cutAt c l with _ | ⟨p, r⟩
      · exact absurd hq (cutAt_ne c l)
      · rw [hq] at ih
        rw [join_two, ih, h]
        rfl
    · split
      · rename_i hq
        exact absurd hq (cutAt_ne c l)
      · rename_i p r hq
        rw [hq] at ih
        rw [join_head, ih]
theorem jn_cut (c : UInt8) (s : ByteArray) : jn c (cutS c s) = s := by
  apply bytes_eq
  unfold jn bytesOf cutS
  rw [List.map_map]
  have e : ((fun x : ByteArray => x.data.toList) ∘ fun l : List UInt8 => (⟨l.toArray⟩ : ByteArray)) = id := by
    funext l
    simp
  rw [e, List.map_id, join_cut]
theorem cut_one (c : UInt8) (s : List UInt8) : (Lib.cut s [c] = (s, [], false) ∧ cutAt c s = [s]) ∨ ∃ p r, Lib.cut s [c] = (p, r, true) ∧ cutAt c s = p :: cutAt c r := by
  by_cases h : Lib.index s [c] = -1
  · refine .inl ⟨?_, cutAt_none (index_one_none c h)⟩
    unfold Lib.cut
    rw [if_neg (by omega)]
  · have hge := Lib.index_ge s [c]
    obtain ⟨i, hi⟩ : ∃ i : Nat, Lib.index s [c] = i := ⟨(Lib.index s [c]).toNat, by omega⟩
    obtain ⟨p, r, hs, hp, hx⟩ := index_one_some c hi
    refine .inr ⟨p, r, ?_, by rw [hs]; exact cutAt_app r hx⟩
    unfold Lib.cut
    rw [if_pos (by omega), hi, Int.toNat_natCast, ← hp, hs]
    simp
theorem cut_maxC {c : UInt8} {s : ByteArray} (hs : s.size ≤ 1048576) : (cutS c s).length ≤ maxLen ∧ ∀ x ∈ cutS c s, x.size ≤ maxLen := by
  unfold maxLen
  refine ⟨?_, fun x hx => ?_⟩
  · have := cutS_size c s; omega
  · have := cutS_each hx; omega

theorem own_setC {w : World} {base b j : Nat} {e : TypeId} {size : Nat} {v u : Value} {n : Nat} {xs : List Value} (h : w.ownsRow base e size v n xs) (hne : v.ownBlock ≠ some b) : (w.setCell ⟨b, j, none⟩ u).ownsRow base e size v n xs :=
  own_block h fun k hk => Below.heap_setCell _ _ _ k (fun e => hne (by rw [hk, e]))
theorem res_cells {w w' : World} {u v : Value} {t : TypeId} (h : Below (w.alloc (.cells #[u, v] t)).heap.size (w.alloc (.cells #[u, v] t)) w') :
    w'.cell? ⟨w.heap.size, 0, none⟩ = some u ∧ w'.cell? ⟨w.heap.size, 1, none⟩ = some v ∧ w'.frozen? ⟨w.heap.size, 0, none⟩ = false ∧ w'.frozen? ⟨w.heap.size, 1, none⟩ = false ∧ w.heap.size < w'.heap.size := by
  have hz : w.heap.size < (w.alloc (.cells #[u, v] t)).heap.size := by simp
  refine ⟨cell_keep h (by simp), cell_keep h (by simp), ?_, ?_, Nat.lt_of_lt_of_le hz h.size⟩
  · rw [h.frozen (p := ⟨w.heap.size, 0, none⟩) hz]; simp
  · rw [h.frozen (p := ⟨w.heap.size, 1, none⟩) hz]; simp
theorem two_cells {w : World} {g off c : Nat} {a b : ByteArray} (hx : Strs w (some ⟨g, off, none⟩) 2 c [a, b]) : w.cell? ⟨g, off, none⟩ = some (.string a) ∧ w.cell? ⟨g, off + 1, none⟩ = some (.string b) := by
  obtain ⟨b0, off0, e, hg, hc⟩ := hx.2.1.at_ (by decide)
  injection e with e
  injection e with e1 e2
  subst e1; subst e2
  exact ⟨by have := hc 0 (.string a) rfl; rwa [Nat.add_zero] at this, hc 1 (.string b) rfl⟩
end Go.Proofs.YtfacbdliegemgaaDoor
