/- Spelling a whole word: what the functions compute. -/
import Derived.Test.YtnjeloggpbgloaaDoorSpellB
namespace Go.Proofs.YtnjeloggpbgloaaDoor
open Go.ChangeShapes Go.WideShapes Go.ChangeAt Go.RowKit

theorem text_some {s : ByteArray} (h : 0 < s.size) : s.toList.isEmpty = false := by
  rw [ByteArray.toList_eq, List.isEmpty_eq_false_iff]
  intro e
  have : s.data.toList.length = 0 := by rw [e]; rfl
  have h2 : s.size = s.data.toList.length := by rw [Array.length_toList]; rfl
  omega
/-- the spelling of a text, with fuel -/
def spl (xs : List ByteArray) : Nat → ByteArray → Option (List Int)
  | 0, s => if s.size = 0 then some [] else none
  | f + 1, s => if s.size = 0 then some [] else if nx xs s xs.length < 0 then none else
      (spl xs f (s.extract (xs.getD (nx xs s xs.length).toNat ⟨#[]⟩).size s.size)).map (nx xs s xs.length :: ·)
def spell (xs : List ByteArray) (s : ByteArray) : Option (List Int) := spl xs s.size s
theorem spl_empty (xs : List ByteArray) (f : Nat) {s : ByteArray} (h : s.size = 0) : spl xs f s = some [] := by
  cases f <;> simp [spl, h]
theorem spl_none {xs : List ByteArray} {f : Nat} {s : ByteArray} (h : 0 < s.size) (hn : nx xs s xs.length < 0) : spl xs f s = none := by
  have h0 : ¬ s.size = 0 := by omega
  cases f <;> simp [spl, h0, hn]
theorem spl_step {xs : List ByteArray} {f q : Nat} {s x : ByteArray} (h : 0 < s.size) (hn : nx xs s xs.length = q) (hx : xs[q]? = some x) : spl xs (f + 1) s = (spl xs f (s.extract x.size s.size)).map ((q : Int) :: ·) := by
  have h0 : ¬ s.size = 0 := by omega
  have e2 : xs.getD ((q : Int)).toNat ⟨#[]⟩ = x := by rw [List.getD_eq_getElem?_getD, Int.toNat_natCast, hx]; rfl
  conv => lhs; unfold spl
  rw [hn, e2, if_neg h0, if_neg (by omega)]
/-- what is spelled so far, and what is left -/
def Spelt (xs : List ByteArray) (s0 : ByteArray) (f : Nat) (s : ByteArray) (P : List Int) : Prop := s.size ≤ f ∧ spell xs s0 = (spl xs f s).map (P ++ ·)
theorem spelt_start (xs : List ByteArray) (s : ByteArray) : Spelt xs s s.size s [] := ⟨Nat.le_refl _, by unfold spell; simp⟩
theorem spelt_end {xs : List ByteArray} {s0 s : ByteArray} {f : Nat} {P : List Int} (h : Spelt xs s0 f s P) (hs : s.size = 0) : spell xs s0 = some P := by
  rw [h.2, spl_empty xs f hs]; simp
theorem spelt_none {xs : List ByteArray} {s0 s : ByteArray} {f : Nat} {P : List Int} (h : Spelt xs s0 f s P) (hs : 0 < s.size) (hn : nx xs s xs.length < 0) : spell xs s0 = none := by
  rw [h.2, spl_none hs hn]; rfl
theorem spelt_step {xs : List ByteArray} {s0 s x : ByteArray} {f q : Nat} {P : List Int} (h : Spelt xs s0 f s P) (hs : 0 < s.size) (hn : nx xs s xs.length = q) (hx : xs[q]? = some x) (h1 : 1 ≤ x.size) (h2 : x.size ≤ s.size) : Spelt xs s0 (f - 1) (s.extract x.size s.size) (P ++ [(q : Int)]) := by
  obtain ⟨ha, hb⟩ := h
  obtain ⟨g, rfl⟩ : ∃ g, f = g + 1 := ⟨f - 1, by omega⟩
  refine ⟨?_, ?_⟩
  · rw [ByteArray.size_extract]; omega
  · rw [hb, spl_step hs hn hx, Option.map_map, Nat.add_sub_cancel]
    congr 1
    funext l
    simp
/-- the next letter is a beginning -/
theorem nx_pre {xs : List ByteArray} {s : ByteArray} : ∀ {k q : Nat}, k ≤ xs.length → nx xs s k = q → ∃ x, xs[q]? = some x ∧ pre x s = true
  | 0, q, _, h => by
    unfold nx at h
    omega
  | k + 1, q, hk, h => by
    have e1 : xs[k]? = some xs[k] := List.getElem?_eq_getElem (by omega)
    cases hp : pre xs[k] s
    · rw [nx_no e1 hp] at h
      exact nx_pre (by omega) h
    · by_cases hb : nx xs s k < 0
      · rw [nx_first e1 hp hb] at h
        obtain rfl : k = q := by omega
        exact ⟨_, e1, hp⟩
      · obtain ⟨r, hr⟩ : ∃ r : Nat, nx xs s k = r := ⟨(nx xs s k).toNat, by omega⟩
        obtain ⟨y, hy, hyp⟩ := nx_pre (by omega) hr
        rw [nx_cmp e1 hp hr hy] at h
        split at h
        · obtain rfl : k = q := by omega
          exact ⟨_, e1, hp⟩
        · obtain rfl : r = q := by omega
          exact ⟨_, hy, hyp⟩

/-- what spell returns -/
def spellOk (xs : List ByteArray) (s : ByteArray) : Bool := (spell xs s).isSome
def spellList (xs : List ByteArray) (s : ByteArray) : List Int := (spell xs s).getD []

set_option maxRecDepth 100000 in
set_option maxHeartbeats 2000000 in
theorem l03Spell_any (A : Option Addr) (n c : Nat) (xs : List ByteArray) (s0 : ByteArray) (w : World) (hx : Strs w A n c xs) (hs : s0.size ≤ 1048576) (ha : isAlpha xs = true) :
    Calls Tryd.prog 19 #[.slice A n c, .string s0] w fun e w' => ∃ v, e = .returned (.tuple #[v, .bool (spellOk xs s0)]) ∧ w'.ownsRow w.heap.size 2 1 v (spellList xs s0).length ((spellList xs s0).map (Value.int .i64)) ∧ Below w.heap.size w w' := by
  have hcm := hx.2.1.cap
  have hnc := hx.2.1.le
  have HX := Lib.hid hx.1
  have HA := Lib.hid ha
  unfold maxLen at hcm
  clear ha
  obtain ⟨i0, hi, hz0, hz1, hz2⟩ := info_parts infoInt
  go_enter Tryd.func19, Tryd.ntmps19
  go_wp2
  go_loopw [1, 6] (fun t rv wr => ∃ (f : Nat) (s : ByteArray) (P : List Int), t = .string s ∧ s.size ≤ s0.size ∧ Hid (Spelt xs s0 f s P) ∧ P.length + s.size ≤ s0.size ∧ Hid (wr.ownsRow w.heap.size 2 1 rv P.length (P.map (Value.int .i64))) ∧ Below w.heap.size w wr) (fun t _ _ => match t with | .string s => s.size | _ => 0)
  case atStart => exact ⟨s0.size, s0, [], rfl, Nat.le_refl _, spelt_start xs s0, by simp, World.ownsRow_lit w #[] 0 (Nat.le_refl _) (by unfold maxLen; omega) rfl, (Below.refl _ _).alloc (Nat.le_refl _) _⟩
  case round =>
    obtain ⟨f, s, P, rfl, hss, hsp, hPl, hown, hb⟩ := hrel
    have hz3 := hb.size
    by_cases h0 : 0 < s.size
    · have hsm : s.size ≤ maxLen := by unfold maxLen; omega
      have hne := text_some h0
      have hl3 := l03Next_any A n c xs s wr (hx.below hb) hsm
      have hni := nx_in xs s n
      by_cases hneg : nx xs s n < 0
      · have hsn := spelt_none hsp.out h0 (by rw [← HX.out]; exact hneg)
        have HF := Lib.hid (show spellOk xs s0 = false ∧ spellList xs s0 = [] by unfold spellOk spellList; rw [hsn]; exact ⟨rfl, rfl⟩)
        clear hsn
        generalize nx xs s n = q at hl3 hneg hni
        go_wp2_with fail
        refine (hl3).mono ?_
        rintro e_ w1 ⟨rfl, h1⟩
        have hc_w1 := bcell h1; have hf_w1 := bfree h1
        go_wp2
        go_ret2
        exact ⟨_, by rw [HF.out.1]; rfl, by rw [HF.out.2]; exact World.ownsRow_nil _ _ _ _, next hb h1⟩
      · obtain ⟨q, hq⟩ : ∃ q : Nat, nx xs s n = q := ⟨(nx xs s n).toNat, by omega⟩
        obtain ⟨x, hxq, hxp⟩ := nx_pre (by rw [← HX.out]; exact Nat.le_refl _) hq
        have hx3 := alpha_size HA.out hxq
        have hxs := (pre_eq hxp).1
        have HS := Lib.hid (spelt_step hsp.out h0 (by rw [← HX.out]; exact hq) hxq hx3.1 hxs)
        have hqn : q < n := by rw [hq] at hni; omega
        obtain ⟨b, off, rfl, hbl⟩ := hx.at_ q hqn
        obtain ⟨x', hxk, c0, hsz⟩ := hx.el hb hbl q hqn
        have exx : x' = x := by have := hxk.out; rw [hxq] at this; exact (Option.some.inj this).symm
        subst exx
        rw [hq] at hl3 hni
        clear hneg hsp hxp hq
        go_wp2_with fail
        refine (hl3).mono ?_
        rintro e_ w1 ⟨rfl, h1⟩
        have hc_w1 := bcell h1; have hf_w1 := bfree h1
        have hown1 := own_below hown.out h1
        have c1 := cell_keep h1 c0
        have hb1 := next hb h1
        have hz4 := hb1.size
        go_wp2_with (at_builtin; refine wpList_append_own _ rfl _ _ 30 rfl w.heap.size 2 i0 (.int .i64 0) 1 8 Tryd.underlying30 hi hz0 hz1 hz2 rfl (by decide) _ _ _ rfl (hown1.alloc _) ⟨w1.heap.size, 0, none⟩ 1 1 [.int .i64 q] rfl rfl ?c1 ?c2 ?c3 ?c4 ?c5 ?_)
        case c1 => exact cell_one_new _ _ _
        case c2 => simp [Value.oneCell']
        case c3 => unfold maxLen; omega
        case c4 => omega
        case c5 => simp; omega
        intro v4 w4 hown4 hgrow hrest
        have HO : Hid (w4.ownsRow w.heap.size 2 1 v4 (P ++ [(q : Int)]).length ((P ++ [(q : Int)]).map (Value.int .i64))) := by rw [List.length_append, List.map_append]; exact hown4
        have HB : Hid (Below w.heap.size w w4) := (hb1.alloc hz4 _).grown hgrow (by simp; omega) (fun z hz => (hown1.lt z hz).1)
        have c2 := (HB.out.cell (p := ⟨b, off + q, none⟩) hbl).trans ((hb.cell (p := ⟨b, off + q, none⟩) hbl).symm.trans c0)
        clear hown4 hgrow hown1 hrest c1
        have hsz2 : (s.extract x'.size s.size).size = s.size - x'.size := by rw [ByteArray.size_extract]; omega
        go_wp2
        go_roundw
        case rel => exact ⟨f - 1, s.extract x'.size s.size, P ++ [(q : Int)], rfl, by omega, HS.out, by rw [List.length_append, hsz2]; simp; omega, HO, HB.out⟩
        case measure => simp only [hsz2]; omega
    · have he : s = ⟨#[]⟩ := by
        apply ByteArray.ext
        have : s.data.size = 0 := by have : s.size = s.data.size := rfl; omega
        exact Array.eq_empty_of_size_eq_zero this
      have hE := spelt_end hsp.out (by omega)
      have HF := Lib.hid (show spellOk xs s0 = true ∧ spellList xs s0 = P by unfold spellOk spellList; rw [hE]; exact ⟨rfl, rfl⟩)
      clear hE hsp
      subst he
      go_wp2
      go_ret2
      exact ⟨_, by rw [HF.out.1]; rfl, by rw [HF.out.2]; exact hown.out, hb⟩
end Go.Proofs.YtnjeloggpbgloaaDoor
