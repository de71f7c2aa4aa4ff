/- Lists of lists of numbers in memory. -/
import Derived.Test.YtnjeloggpbgloaaDoorSortLaw
import Derived.Test.YtnjeloggpbgloaaDoorInts
import Derived.Test.YtnjeloggpbgloaaDoorSame
import Derived.Test.YtnjeloggpbgloaaDoorClone
namespace Go.Proofs.YtnjeloggpbgloaaDoor
open Go.ChangeShapes Go.WideShapes Go.ChangeAt Go.RowKit
def Lists (w : World) (A : Option Addr) (n c : Nat) (L : List (List Int)) : Prop := n = L.length ∧ ∃ cs : List Value, Reads w 1 A n c cs ∧ ∀ i, i < n → ∃ B m d xs, L[i]? = some xs ∧ cs[i]? = some (.slice B m d) ∧ Ints w B m d xs
theorem Lists.below {w w' : World} {A : Option Addr} {n c : Nat} {L : List (List Int)} (h : Lists w A n c L) (hb : Below w.heap.size w w') : Lists w' A n c L := by
  obtain ⟨hn, cs, hr, hc⟩ := h
  refine ⟨hn, cs, hr.below hb, fun i hi => ?_⟩
  obtain ⟨B, m, d, xs, a, b, e⟩ := hc i hi
  exact ⟨B, m, d, xs, a, b, e.below hb⟩
theorem Lists.cap {w : World} {A : Option Addr} {n c : Nat} {L : List (List Int)} (h : Lists w A n c L) : n ≤ c ∧ c ≤ maxLen := by
  obtain ⟨_, cs, hr, _⟩ := h
  exact ⟨hr.le, hr.cap⟩
theorem Lists.at_ {w : World} {A : Option Addr} {n c : Nat} {L : List (List Int)} (h : Lists w A n c L) (k : Nat) (hk : k < n) : ∃ b off, A = some ⟨b, off, none⟩ ∧ b < w.heap.size := by
  obtain ⟨_, cs, hr, _⟩ := h
  obtain ⟨b, off, e, hlt, _⟩ := hr.at_ (by omega)
  exact ⟨b, off, e, hlt⟩
theorem Lists.el {w wr : World} {b off n c : Nat} {L : List (List Int)} (h : Lists w (some ⟨b, off, none⟩) n c L) (hb : Below w.heap.size w wr) (k : Nat) (hk : k < n) :
    ∃ B m d xs, Hid (L[k]? = some xs) ∧ wr.cell? ⟨b, off + k, none⟩ = some (.slice B m d) ∧ Ints wr B m d xs := by
  obtain ⟨_, cs, hr, hc⟩ := h
  obtain ⟨b', off', e, hlt, hcell⟩ := hr.at_ (by omega)
  injection e with e; injection e with e1 e2
  subst e1; subst e2
  obtain ⟨B, m, d, xs, h1, h2, h3⟩ := hc k hk
  exact ⟨B, m, d, xs, h1, (hb.cell (p := ⟨b, off + k, none⟩) hlt).trans (hcell k _ h2), h3.below hb⟩
/-- lists whose outer row is the call's own, and whose rows lie in other blocks -/
structure OwnL (w : World) (base : Nat) (v : Value) (n : Nat) (L : List (List Int)) (us : List Value) : Prop where
  len : L.length = n
  ulen : us.length = n
  row : w.ownsRow base 30 1 v n us
  sg : ∀ (i : Nat) u xs, us[i]? = some u → L[i]? = some xs → w.ownsRow base 2 1 u xs.length (xs.map (Value.int .i64))
  lo : ∀ (i : Nat) u k, us[i]? = some u → u.ownBlock = some k → v.ownBlock ≠ some k
theorem OwnL.below {w w' : World} {base : Nat} {v : Value} {n : Nat} {L : List (List Int)} {us : List Value} (h : OwnL w base v n L us) (hb : Below w.heap.size w w') : OwnL w' base v n L us :=
  ⟨h.len, h.ulen, own_below h.row hb, fun i u xs h1 h2 => own_below (h.sg i u xs h1 h2) hb, h.lo⟩
theorem OwnL.nil (w : World) (base : Nat) : OwnL w base (.slice none 0 0) 0 [] [] :=
  ⟨rfl, rfl, World.ownsRow_nil _ _ _ _, fun i u xs h => by simp at h, fun i u k h => by simp at h⟩
theorem OwnL.lit (w : World) : OwnL (w.alloc (.cells #[] 30)) w.heap.size (.slice (some ⟨w.heap.size, 0, none⟩) 0 0) 0 [] [] :=
  ⟨rfl, rfl, World.ownsRow_lit w #[] 0 (Nat.le_refl _) (by unfold maxLen; omega) rfl, fun i u xs h => by simp at h, fun i u k h => by simp at h⟩
theorem own_kept {w w' : World} {row : Option Nat} {base : Nat} {e : TypeId} {size : Nat} {v : Value} {n : Nat} {xs : List Value} (h : w.ownsRow base e size v n xs) (hg : w.grownBy w' row) (hne : ∀ k, v.ownBlock = some k → row ≠ some k) : w'.ownsRow base e size v n xs := by
  refine h.kept hg ?_
  cases hv : v.ownBlock with
  | none => exact .inl rfl
  | some k => exact .inr fun e => hne k hv e.symm
theorem own_less {w : World} {base base' : Nat} {e : TypeId} {size : Nat} {v : Value} {n : Nat} {xs : List Value} (h : w.ownsRow base e size v n xs) (hb : base' ≤ base) : w.ownsRow base' e size v n xs :=
  ⟨h.1, h.2.imp id fun ⟨g, cap, cur, a, b, r⟩ => ⟨g, cap, cur, a, Nat.le_trans hb b, r⟩⟩
theorem OwnL.snoc {w w2 w3 : World} {base n : Nat} {v v3 u : Value} {L : List (List Int)} {us : List Value} {xs : List Int} (h : OwnL w base v n L us) (hb : Below w.heap.size w w2)
    (hu : w2.ownsRow w.heap.size 2 1 u xs.length (xs.map (Value.int .i64))) (hg : w2.grownBy w3 v.ownBlock) (hat : v3.ownBlock = v.ownBlock ∨ v3.ownBlock = some w2.heap.size)
    (hrow : w3.ownsRow base 30 1 v3 (n + 1) (us ++ [u])) (hbase : base ≤ w.heap.size) : OwnL w3 base v3 (n + 1) (L ++ [xs]) (us ++ [u]) := by
  have hs2 := hb.size
  have at_ : ∀ (i : Nat) x, (us ++ [u])[i]? = some x → (i < n ∧ us[i]? = some x) ∨ (i = n ∧ x = u) := fun i x hi => by
    rcases Nat.lt_or_ge i us.length with h1 | h1
    · rw [List.getElem?_append_left h1] at hi; exact .inl ⟨by rw [← h.ulen]; exact h1, hi⟩
    · rw [List.getElem?_append_right h1] at hi
      have h2 := (List.getElem?_eq_some_iff.1 hi).1
      simp at h2
      have h3 : i = us.length := by omega
      subst h3
      simp at hi
      exact .inr ⟨h.ulen, hi.symm⟩
  have ublk : ∀ k, u.ownBlock = some k → w.heap.size ≤ k ∧ k < w2.heap.size := fun k hk => hu.lt k hk
  have vblk : ∀ k, v.ownBlock = some k → k < w.heap.size := fun k hk => (h.row.lt k hk).2
  refine ⟨by simp [h.len], by simp [h.ulen], hrow, fun i x q h1 h2 => ?_, fun i x k h1 h2 => ?_⟩
  · rcases at_ i x h1 with ⟨hi, g1⟩ | ⟨e1, e2⟩
    · rw [List.getElem?_append_left (by rw [h.len]; exact hi)] at h2
      exact own_kept (own_below (h.sg i x q g1 h2) hb) hg (fun k hk e => h.lo i x k g1 hk e)
    · subst e1; subst e2
      rw [List.getElem?_append_right (by rw [h.len]; exact Nat.le_refl _), h.len] at h2
      simp at h2
      subst h2
      exact own_less (own_kept hu hg (fun k hk e => by have := ublk k hk; have := vblk k e; omega)) hbase
  · rcases at_ i x h1 with ⟨hi, g1⟩ | ⟨e1, e2⟩
    · have h4 : i < L.length := by rw [h.len]; exact hi
      have h5 := ((h.sg i x _ g1 (List.getElem?_eq_getElem h4)).lt k h2).2
      intro e
      rcases hat with hat | hat
      · rw [hat] at e; exact h.lo i x k g1 h2 e
      · rw [hat] at e; injection e with e; omega
    · subst e2
      have h5 := ublk k h2
      intro e
      rcases hat with hat | hat
      · rw [hat] at e; have := vblk k e; omega
      · rw [hat] at e; injection e with e; omega
theorem OwnL.lists {w : World} {base n : Nat} {v : Value} {L : List (List Int)} {us : List Value} (h : OwnL w base v n L us) : ∃ A c, v = .slice A n c ∧ Lists w A n c L := by
  have key : ∀ A c, v = .slice A n c → Lists w A n c L := fun A c hv => by
    refine ⟨h.len.symm, us, Reads.of_own (by have := h.row; rw [hv] at this; exact this), fun i hi => ?_⟩
    have e1 : us[i]? = some (us[i]'(by rw [h.ulen]; exact hi)) := List.getElem?_eq_getElem _
    have e2 : L[i]? = some (L[i]'(by rw [h.len]; exact hi)) := List.getElem?_eq_getElem _
    obtain ⟨B, d, e3, h5⟩ := own_ints_ (h.sg i _ _ e1 e2)
    exact ⟨B, _, d, _, e2, by rw [e1, e3], h5⟩
  rcases h.row.2 with ⟨hv, h0⟩ | ⟨g, cap, cur, hv, _⟩
  · exact ⟨none, 0, by rw [hv, h0], key none 0 (by rw [hv, h0])⟩
  · exact ⟨_, _, hv, key _ _ hv⟩
theorem infoSl : (Tryd.prog.info? 30).map (fun i => (i.zero, i.size, i.bytes)) = some (some (.slice none 0 0), 1, 24) := by kernel_rfl
end Go.Proofs.YtnjeloggpbgloaaDoor
