/- Splitting a text at blanks: what the functions compute. -/
import Derived.Test.YtfacbdliegemgaaDoorDist
import Derived.Test.YtfacbdliegemgaaDoorSplitLaw
import Derived.Test.YtfacbdliegemgaaDoorShelf2
namespace Go.Proofs.YtfacbdliegemgaaDoor
open Go.ChangeShapes Go.WideShapes Go.ChangeAt Go.RowKit

/-- the cell that the shelf's search for a byte reads -/
def MaxCell (w : World) : Prop := ∃ m, w.cell? ⟨0, 0, none⟩ = some (.int .i64 m)
theorem MaxCell.below {w w' : World} (h : MaxCell w) (hb : Below w.heap.size w w') : MaxCell w' := by
  obtain ⟨m, hm⟩ := h
  exact ⟨m, cell_keep hb hm⟩

theorem strs_alloc (w : World) (L : List ByteArray) (t : TypeId) (hl : L.length ≤ maxLen) (hs : ∀ x ∈ L, x.size ≤ maxLen) :
    Strs (w.alloc (.cells (L.map Value.string).toArray t)) (some ⟨w.heap.size, 0, none⟩) L.length L.length L :=
  ⟨rfl, ⟨Nat.le_refl _, hl, by simp, fun _ => ⟨w.heap.size, 0, rfl, by simp, fun j u hu => by
    rw [Nat.zero_add]
    go_simp⟩⟩, hs⟩

/-- the pieces up to a place, and where the open one began -/
def Cut (c : UInt8) (s : ByteArray) (P : List ByteArray) (fr i : Nat) : Prop :=
  (i = s.size + 1 ∧ P = cutS c s) ∨
  (fr ≤ i ∧ i ≤ s.size ∧ P.length ≤ i ∧ cutS c s = P ++ (cutAt c (s.data.toList.drop fr)).map (fun l => ⟨l.toArray⟩) ∧ ∀ x ∈ (s.data.toList.take i).drop fr, x ≠ c)
theorem cut_start (c : UInt8) (s : ByteArray) : Cut c s [] 0 0 := .inr ⟨Nat.le_refl _, Nat.zero_le _, Nat.le_refl _, rfl, by simp⟩
theorem ext_list (s : ByteArray) (fr i : Nat) : (⟨((s.data.toList.take i).drop fr).toArray⟩ : ByteArray) = s.extract fr i := by
  apply ByteArray.ext
  rw [ByteArray.data_extract]
  apply Array.ext'
  simp [List.drop_take]
theorem cut_skip {c : UInt8} {s : ByteArray} {P : List ByteArray} {fr i : Nat} (h : Cut c s P fr i) (hi : i < s.size) (hc : s[i] ≠ c) : Cut c s P fr (i + 1) := by
  rcases h with ⟨h, _⟩ | ⟨h1, h2, h3, h4, h5⟩
  · omega
  · refine .inr ⟨by omega, by omega, by omega, h4, fun x hx => ?_⟩
    rw [List.take_add_one, List.drop_append_of_le_length (by simp; omega), get_list s hi] at hx
    rcases List.mem_append.1 hx with hx | hx
    · exact h5 x hx
    · simp at hx; subst hx; exact hc
theorem cut_at {c : UInt8} {s : ByteArray} {P : List ByteArray} {fr i : Nat} (h : Cut c s P fr i) (hi : i < s.size) (hc : s[i] = c) : Cut c s (P ++ [s.extract fr i]) (i + 1) (i + 1) := by
  rcases h with ⟨h, _⟩ | ⟨h1, h2, h3, h4, h5⟩
  · omega
  · have e : s.data.toList.drop fr = (s.data.toList.take i).drop fr ++ c :: s.data.toList.drop (i + 1) := by
      have hl : i < s.data.toList.length := by simpa using hi
      have hg : s.data.toList[i] = c := hc
      rw [← hg, ← List.drop_eq_getElem_cons hl, ← List.drop_append_of_le_length (by simp; omega), List.take_append_drop]
    refine .inr ⟨Nat.le_refl _, by omega, by simp; omega, ?_, fun x hx => ?_⟩
    · rw [h4, e, cutAt_app _ h5, List.map_cons, ext_list]; simp
    · rw [List.drop_eq_nil_of_le (by simp; omega)] at hx; simp at hx
theorem cut_last {c : UInt8} {s : ByteArray} {P : List ByteArray} {fr : Nat} (h : Cut c s P fr s.size) (k : Nat) : Cut c s (P ++ [s.extract fr s.size]) k (s.size + 1) := by
  rcases h with ⟨h, _⟩ | ⟨h1, h2, h3, h4, h5⟩
  · omega
  · refine .inl ⟨rfl, ?_⟩
    have e : (s.data.toList.take s.size) = s.data.toList := List.take_of_length_le (by simp)
    have hx := ext_list s fr s.size
    rw [e] at h5 hx
    rw [h4, cutAt_none h5, List.map_cons, hx]
    rfl
theorem cut_done {c : UInt8} {s : ByteArray} {P : List ByteArray} {fr i : Nat} (h : Cut c s P fr i) (hi : s.size < i) : i = s.size + 1 ∧ P = cutS c s := by
  rcases h with h | ⟨h1, h2, h3, h4, h5⟩
  · exact h
  · omega
theorem cut_le {c : UInt8} {s : ByteArray} {P : List ByteArray} {fr i : Nat} (h : Cut c s P fr i) (hi : i ≤ s.size) : fr ≤ i ∧ P.length ≤ i := by
  rcases h with h | ⟨h1, h2, h3, h4, h5⟩
  · omega
  · exact ⟨h1, h3⟩

theorem infoStr : (Tryd.prog.info? 9).map (fun i => (i.zero, i.size, i.bytes)) = some (some (.string ⟨#[]⟩), 1, 16) := by kernel_rfl

set_option maxRecDepth 100000 in
set_option maxHeartbeats 4000000 in
theorem l01Split_any (c : UInt8) (s : ByteArray) (w : World) (hs : s.size ≤ 1048576) :
    Calls Tryd.prog 32 #[.string s, .int .u8 c.toNat] w fun e w' => ∃ v, e = .returned v ∧ w'.ownsRow w.heap.size 9 1 v (cutS c s).length ((cutS c s).map Value.string) ∧ Below w.heap.size w w' := by
  obtain ⟨i0, hi, hz0, hz1, hz2⟩ := info_parts infoStr
  go_enter Tryd.func32, Tryd.ntmps32
  go_wp2
  go_loopw [5, 6, 7] (fun rv f i wr => ∃ (k fr : Nat) (P : List ByteArray), k ≤ s.size + 1 ∧ i = .int .i64 k ∧ f = .int .i64 fr ∧ Hid (Cut c s P fr k) ∧ Hid (wr.ownsRow w.heap.size 9 1 rv P.length (P.map Value.string)) ∧ Below w.heap.size w wr) (fun _ _ i _ => s.size + 1 - (intOf i).toNat)
  case atStart => exact ⟨0, 0, [], Nat.zero_le _, rfl, rfl, cut_start c s, World.ownsRow_lit w #[] 0 (Nat.le_refl _) (by unfold maxLen; omega) rfl, (Below.refl _ _).alloc (Nat.le_refl _) _⟩
  case round =>
    obtain ⟨k, fr, P, hk, rfl, rfl, hcut, hown, hb0⟩ := hrel
    have hz3 := hb0.size
    by_cases hk1 : k ≤ s.size
    · have hcl := cut_le hcut.out hk1
      by_cases hlt : k < s.size
      · by_cases hc : s[k] = c
        · have HC := Lib.hid (cut_at hcut.out hlt hc)
          have hq : ((s[k].toNat : Int) == (c.toNat : Int)) = true := by rw [hc]; simp
          clear hc
          go_wp2_with (at_builtin; refine wpList_append_own _ rfl _ _ 48 rfl w.heap.size 9 i0 (.string ⟨#[]⟩) 1 16 Tryd.underlying48 hi hz0 hz1 hz2 rfl (by decide) _ _ _ rfl (hown.out.alloc _) ⟨wr.heap.size, 0, none⟩ 1 1 [.string (s.extract fr k)] rfl rfl ?c1 ?c2 ?c3 ?c4 ?c5 ?_)
          case c1 => exact cell_one_new _ _ _
          case c2 => simp [Value.oneCell']
          case c3 => unfold maxLen; omega
          case c4 => omega
          case c5 => simp; omega
          intro v4 w4 hown4 hgrow _
          have HO : Hid (w4.ownsRow w.heap.size 9 1 v4 (P ++ [s.extract fr k]).length ((P ++ [s.extract fr k]).map Value.string)) := by rw [List.length_append, List.map_append]; exact hown4
          have HB : Hid (Below w.heap.size w w4) := (hb0.alloc hz3 _).grown hgrow (by simp; omega) (fun q hq => (hown.out.lt q hq).1)
          clear hown4 hgrow hown
          go_wp2
          go_roundw
          case rel => exact ⟨k + 1, k + 1, _, by omega, by go_num, by go_num, HC.out, HO, HB.out⟩
          case measure => simp [intOf]; omega
        · have HC := Lib.hid (cut_skip hcut.out hlt hc)
          have hq : ((s[k].toNat : Int) == (c.toNat : Int)) = false := by
            rw [beq_eq_false_iff_ne]
            intro e
            exact hc (UInt8.toNat_inj.1 (by omega))
          clear hc
          go_wp2
          go_roundw
          case rel => exact ⟨k + 1, fr, P, by omega, by go_num, rfl, HC.out, hown, hb0⟩
          case measure => simp [intOf]; omega
      · obtain rfl : k = s.size := by omega
        have HC := Lib.hid (cut_last hcut.out (s.size + 1))
        go_wp2_with (at_builtin; refine wpList_append_own _ rfl _ _ 48 rfl w.heap.size 9 i0 (.string ⟨#[]⟩) 1 16 Tryd.underlying48 hi hz0 hz1 hz2 rfl (by decide) _ _ _ rfl (hown.out.alloc _) ⟨wr.heap.size, 0, none⟩ 1 1 [.string (s.extract fr s.size)] rfl rfl ?c1 ?c2 ?c3 ?c4 ?c5 ?_)
        case c1 => exact cell_one_new _ _ _
        case c2 => simp [Value.oneCell']
        case c3 => unfold maxLen; omega
        case c4 => omega
        case c5 => simp; omega
        intro v4 w4 hown4 hgrow _
        have HO : Hid (w4.ownsRow w.heap.size 9 1 v4 (P ++ [s.extract fr s.size]).length ((P ++ [s.extract fr s.size]).map Value.string)) := by rw [List.length_append, List.map_append]; exact hown4
        have HB : Hid (Below w.heap.size w w4) := (hb0.alloc hz3 _).grown hgrow (by simp; omega) (fun q hq => (hown.out.lt q hq).1)
        clear hown4 hgrow hown
        go_wp2
        go_roundw
        case rel => exact ⟨s.size + 1, s.size + 1, _, by omega, by go_num, by go_num, HC.out, HO, HB.out⟩
        case measure => simp [intOf]
    · obtain ⟨hkE, hP⟩ := cut_done hcut.out (by omega)
      have HO := hown.out
      rw [hP] at HO
      have HO := Lib.hid HO
      clear hP hown hcut
      go_wp2
      go_ret
      exact ⟨_, rfl, HO.out, hb0⟩


theorem own_strs {w : World} {base : Nat} {e : TypeId} {v : Value} {xs : List ByteArray} (h : w.ownsRow base e 1 v xs.length (xs.map Value.string)) (hs : ∀ x ∈ xs, x.size ≤ maxLen) :
    ∃ A c, v = .slice A xs.length c ∧ Strs w A xs.length c xs := by
  rcases h.2 with ⟨hv, hn⟩ | ⟨g, cap, cur, hv, _⟩
  · subst hv
    rw [← hn] at h ⊢
    exact ⟨none, _, rfl, rfl, Reads.of_own h, hs⟩
  · subst hv
    exact ⟨_, _, rfl, rfl, Reads.of_own h, hs⟩
def isPhrase (s : ByteArray) : Bool := (cutS 32 s).all isWord && decide ((cutS 32 s).length ≤ 8)
theorem cut_max {s : ByteArray} (hs : s.size ≤ 1048576) : (cutS 32 s).length ≤ maxLen ∧ ∀ x ∈ cutS 32 s, x.size ≤ maxLen := by
  unfold maxLen
  refine ⟨?_, fun x hx => ?_⟩
  · have := cutS_size 32 s; omega
  · have := cutS_each hx; omega

/-- WordsOf's code, and its words -/
def phCode (s : ByteArray) : Int := if isPhrase s = true then 0 else 1
def phWords (s : ByteArray) : List ByteArray := if isPhrase s = true then cutS 32 s else []
theorem ph_cases (s : ByteArray) : (isPhrase s = true ∧ Hid (phCode s = 0 ∧ phWords s = cutS 32 s)) ∨ (isPhrase s = false ∧ Hid (phCode s = 1 ∧ phWords s = [])) := by
  unfold phCode phWords Hid
  cases isPhrase s <;> simp

end Go.Proofs.YtfacbdliegemgaaDoor
