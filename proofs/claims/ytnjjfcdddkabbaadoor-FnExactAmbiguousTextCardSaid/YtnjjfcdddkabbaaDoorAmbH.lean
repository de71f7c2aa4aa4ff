/- The program's steps: what follows from a lead; the map of best texts. -/
import Derived.Test.YtnjjfcdddkabbaaDoorAmbC
import Derived.Test.YtnjjfcdddkabbaaDoorAmbB
import Derived.Deep.RegionLaw
namespace Go.Proofs.YtnjjfcdddkabbaaDoor
open Go.ChangeShapes Go.WideShapes Go.ChangeAt Go.RowKit
open Go.Maps (Keyed)
theorem fol_cells {w w1 : World} {t x r : ByteArray} {B : Option Addr} {m d : Nat} (h : Below (((w.alloc (.cells #[.string t, .string x] 55)).alloc (.cells #[.slice B m d, .string r] 39)).alloc (.cells #[.string ⟨#[]⟩, .string ⟨#[]⟩] 55)).heap.size (((w.alloc (.cells #[.string t, .string x] 55)).alloc (.cells #[.slice B m d, .string r] 39)).alloc (.cells #[.string ⟨#[]⟩, .string ⟨#[]⟩] 55)) w1) :
    (w1.cell? ⟨w.heap.size, 0, none⟩ = some (.string t) ∧ w1.cell? ⟨w.heap.size, 1, none⟩ = some (.string x) ∧ w1.cell? ⟨w.heap.size + 1, 1, none⟩ = some (.string r)) ∧
    (w1.cell? ⟨w.heap.size + 2, 0, none⟩ = some (.string ⟨#[]⟩) ∧ w1.cell? ⟨w.heap.size + 2, 1, none⟩ = some (.string ⟨#[]⟩)) ∧ (w1.frozen? ⟨w.heap.size + 2, 0, none⟩ = false ∧ w1.frozen? ⟨w.heap.size + 2, 1, none⟩ = false) ∧ w.heap.size + 2 < w1.heap.size ∧ Below w.heap.size w w1 := by
  have hz := h.size
  have e0 : (((w.alloc (.cells #[.string t, .string x] 55)).alloc (.cells #[.slice B m d, .string r] 39)).alloc (.cells #[.string ⟨#[]⟩, .string ⟨#[]⟩] 55)).cell? ⟨w.heap.size, 0, none⟩ = some (.string t) := by go_simp
  have e1 : (((w.alloc (.cells #[.string t, .string x] 55)).alloc (.cells #[.slice B m d, .string r] 39)).alloc (.cells #[.string ⟨#[]⟩, .string ⟨#[]⟩] 55)).cell? ⟨w.heap.size, 1, none⟩ = some (.string x) := by go_simp
  have e2 : (((w.alloc (.cells #[.string t, .string x] 55)).alloc (.cells #[.slice B m d, .string r] 39)).alloc (.cells #[.string ⟨#[]⟩, .string ⟨#[]⟩] 55)).cell? ⟨w.heap.size + 1, 1, none⟩ = some (.string r) := by go_simp
  have e3 : (((w.alloc (.cells #[.string t, .string x] 55)).alloc (.cells #[.slice B m d, .string r] 39)).alloc (.cells #[.string ⟨#[]⟩, .string ⟨#[]⟩] 55)).cell? ⟨w.heap.size + 2, 0, none⟩ = some (.string ⟨#[]⟩) := by go_simp
  have e4 : (((w.alloc (.cells #[.string t, .string x] 55)).alloc (.cells #[.slice B m d, .string r] 39)).alloc (.cells #[.string ⟨#[]⟩, .string ⟨#[]⟩] 55)).cell? ⟨w.heap.size + 2, 1, none⟩ = some (.string ⟨#[]⟩) := by go_simp
  have e5 : (((w.alloc (.cells #[.string t, .string x] 55)).alloc (.cells #[.slice B m d, .string r] 39)).alloc (.cells #[.string ⟨#[]⟩, .string ⟨#[]⟩] 55)).frozen? ⟨w.heap.size + 2, 0, none⟩ = false := by go_simp
  have e6 : (((w.alloc (.cells #[.string t, .string x] 55)).alloc (.cells #[.slice B m d, .string r] 39)).alloc (.cells #[.string ⟨#[]⟩, .string ⟨#[]⟩] 55)).frozen? ⟨w.heap.size + 2, 1, none⟩ = false := by go_simp
  have e7 : w.heap.size + 2 < (((w.alloc (.cells #[.string t, .string x] 55)).alloc (.cells #[.slice B m d, .string r] 39)).alloc (.cells #[.string ⟨#[]⟩, .string ⟨#[]⟩] 55)).heap.size := by simp
  have e8 : w.heap.size ≤ (((w.alloc (.cells #[.string t, .string x] 55)).alloc (.cells #[.slice B m d, .string r] 39)).alloc (.cells #[.string ⟨#[]⟩, .string ⟨#[]⟩] 55)).heap.size := by simp; omega
  exact ⟨⟨cell_keep h e0, cell_keep h e1, cell_keep h e2⟩, ⟨cell_keep h e3, cell_keep h e4⟩, ⟨(h.frozen (p := ⟨w.heap.size + 2, 0, none⟩) e7).trans e5, (h.frozen (p := ⟨w.heap.size + 2, 1, none⟩) e7).trans e6⟩, Nat.lt_of_lt_of_le e7 hz, (three_boxes _ _ _ _).trans (h.mono e8)⟩
theorem fol_end {w w1 : World} {u v : Value} (h : Below w.heap.size w w1) : Below w.heap.size w ((w1.setCell ⟨w.heap.size + 2, 0, none⟩ u).setCell ⟨w.heap.size + 2, 1, none⟩ v) := (h.setCell (by simp) _).setCell (by simp) _
set_option maxRecDepth 100000 in
set_option maxHeartbeats 2000000 in
theorem follow_over (t x r : ByteArray) (B : Option Addr) (m d : Nat) (w : World) (hp : pre x r = true) (ht : t.size ≤ 1000) (hx : x.size ≤ 4) (hr : r.size ≤ 4) :
    Calls Tryd.prog 35 #[.agg #[.string t, .string x], .agg #[.slice B m d, .string r]] w fun e w' => e = .returned (.tuple #[.agg #[.string (t ++ r.extract x.size r.size), .string (r.extract x.size r.size)], .bool true]) ∧ Below w.heap.size w w' := by
  have hxr := (pre_eq hp).1
  have hxri : (x.size : Int) ≤ (r.size : Int) := by omega
  have hcat : ¬ 9223372036854775807 < t.size + (r.size - x.size) := by omega
  have HC := Lib.hid (isb (HasPrefix_any r x (((w.alloc (.cells #[.string t, .string x] 55)).alloc (.cells #[.slice B m d, .string r] 39)).alloc (.cells #[.string ⟨#[]⟩, .string ⟨#[]⟩] 55)) (by unfold maxLen; omega) (by unfold maxLen; omega)) hp)
  clear hp
  go_enter Tryd.func35, Tryd.ntmps35
  go_wp2_with fail
  refine HC.out.mono ?_
  rintro e_ w1 ⟨rfl, h1⟩
  obtain ⟨⟨a1, a2, a3⟩, ⟨b1, b2⟩, ⟨f1, f2⟩, hz, hB⟩ := fol_cells h1
  have HB := Lib.hid hB
  clear h1 HC hB
  go_wp2
  refine bodyPost_ret (v := .tuple #[.agg #[.string (t ++ r.extract x.size r.size), .string (r.extract x.size r.size)], .bool true]) ?_ rfl ⟨rfl, fol_end HB.out⟩
  simp [results, Tryd.results35, go_sem, *]
set_option maxRecDepth 100000 in
set_option maxHeartbeats 2000000 in
theorem follow_under (t x r : ByteArray) (B : Option Addr) (m d : Nat) (w : World) (hn : pre x r = false) (hp : pre r x = true) (ht : t.size ≤ 1000) (hx : x.size ≤ 4) (hr : r.size ≤ 4) :
    Calls Tryd.prog 35 #[.agg #[.string t, .string x], .agg #[.slice B m d, .string r]] w fun e w' => e = .returned (.tuple #[.agg #[.string t, .string (x.extract r.size x.size)], .bool true]) ∧ Below w.heap.size w w' := by
  have hxr := (pre_eq hp).1
  have hxri : (r.size : Int) ≤ (x.size : Int) := by omega
  have HC := Lib.hid (isb (HasPrefix_any r x (((w.alloc (.cells #[.string t, .string x] 55)).alloc (.cells #[.slice B m d, .string r] 39)).alloc (.cells #[.string ⟨#[]⟩, .string ⟨#[]⟩] 55)) (by unfold maxLen; omega) (by unfold maxLen; omega)) hn)
  have HC2 := Lib.hid (fun W => isb (HasPrefix_any x r W (by unfold maxLen; omega) (by unfold maxLen; omega)) hp)
  clear hp hn
  go_enter Tryd.func35, Tryd.ntmps35
  go_wp2_with fail
  refine HC.out.mono ?_
  rintro e_ w1 ⟨rfl, h1⟩
  have h1' := h1
  obtain ⟨⟨a1, a2, a3⟩, _, _, hz, _⟩ := fol_cells h1
  go_wp2_with fail
  refine (HC2.out _).mono ?_
  rintro e_ w2 ⟨rfl, h2⟩
  obtain ⟨⟨d1, d2, d3⟩, ⟨b1, b2⟩, ⟨f1, f2⟩, hz2, hB⟩ := fol_cells (next h1 h2)
  have HB := Lib.hid hB
  clear h1 HC HC2 hB h2 h1' a1 a2 a3 hz
  go_wp2_with fail
  go_region_law (fail)
  all_goals
    go_wp2
    refine bodyPost_ret (v := .tuple #[.agg #[.string t, .string (x.extract r.size x.size)], .bool true]) ?_ rfl ⟨rfl, ?_⟩
    · simp [results, Tryd.results35, go_sem, *]
    · exact (fol_end HB.out).drew
set_option maxRecDepth 100000 in
set_option maxHeartbeats 2000000 in
theorem follow_none (t x r : ByteArray) (B : Option Addr) (m d : Nat) (w : World) (hn : pre x r = false) (hp : pre r x = false) (hx : x.size ≤ 4) (hr : r.size ≤ 4) :
    Calls Tryd.prog 35 #[.agg #[.string t, .string x], .agg #[.slice B m d, .string r]] w fun e w' => e = .returned (.tuple #[.agg #[.string ⟨#[]⟩, .string ⟨#[]⟩], .bool false]) ∧ Below w.heap.size w w' := by
  have HC := Lib.hid (isb (HasPrefix_any r x (((w.alloc (.cells #[.string t, .string x] 55)).alloc (.cells #[.slice B m d, .string r] 39)).alloc (.cells #[.string ⟨#[]⟩, .string ⟨#[]⟩] 55)) (by unfold maxLen; omega) (by unfold maxLen; omega)) hn)
  have HC2 := Lib.hid (fun W => isb (HasPrefix_any x r W (by unfold maxLen; omega) (by unfold maxLen; omega)) hp)
  clear hp hn
  go_enter Tryd.func35, Tryd.ntmps35
  go_wp2_with fail
  refine HC.out.mono ?_
  rintro e_ w1 ⟨rfl, h1⟩
  obtain ⟨⟨a1, a2, a3⟩, _, _, hz, _⟩ := fol_cells h1
  go_wp2_with fail
  refine (HC2.out _).mono ?_
  rintro e_ w2 ⟨rfl, h2⟩
  obtain ⟨⟨d1, d2, d3⟩, ⟨b1, b2⟩, ⟨f1, f2⟩, hz2, hB⟩ := fol_cells (next h1 h2)
  have HB := Lib.hid hB
  clear h1 HC HC2 hB h2 a1 a2 a3 hz
  go_wp2
  refine bodyPost_ret (v := .tuple #[.agg #[.string ⟨#[]⟩, .string ⟨#[]⟩], .bool false]) ?_ rfl ⟨rfl, fol_end HB.out⟩
  simp [results, Tryd.results35, go_sem, *]
/-! ## the map -/
theorem zeroStrU (w : World) : (zeroValue 9).run Tryd.prog w = .ok (.string ByteArray.empty) w := by kernel_rfl
theorem keyedU : Keyed Tryd.prog 9 := Go.Maps.string_keyed Tryd.underlying9
/-- block b is a map that holds what f knows -/
def OwnB (w : World) (R : List ByteArray) (b : Nat) (f : Best) : Prop := ∃ D : DataW Unit, w.ownsMap Tryd.prog 9 (plainElem Tryd.prog 9) b (Go.Maps.size D) D ∧ MapB R D f
theorem OwnB.kept {w w' : World} {R : List ByteArray} {b : Nat} {f : Best} {row : Option Nat} (h : OwnB w R b f) (hg : w.grownBy w' row) (hne : some b ≠ row) : OwnB w' R b f := by
  obtain ⟨D, h1, h2⟩ := h
  exact ⟨D, h1.kept hg hne, h2⟩
theorem grown_none {w w' : World} (h : Below w.heap.size w w') : w.grownBy w' none := ⟨h.os, h.tape, h.output, h.size, fun k hk _ => h.block k hk⟩
theorem OwnB.below {w w' : World} {R : List ByteArray} {b : Nat} {f : Best} (h : OwnB w R b f) (hb : Below w.heap.size w w') : OwnB w' R b f := h.kept (grown_none hb) (by simp)
theorem OwnB.lt {w : World} {R : List ByteArray} {b : Nat} {f : Best} (h : OwnB w R b f) : b < w.heap.size := by
  obtain ⟨D, h1, _⟩ := h
  exact h1.lt
theorem best_small {R : List ByteArray} {f : Best} (hR : ∀ r ∈ R, r.size ≤ 4) (hl : R.length ≤ 30) (h : FitB R f) {x t : ByteArray} (e : f x = some t) : x.size ≤ 4 ∧ t.size ≤ 604 := by
  have hu := univ_len hR
  have h2 := h.size x t e
  have h3 := cntB_le (univ R) f
  exact ⟨univ_size hR (h.dom x t e), by omega⟩
set_option maxRecDepth 100000 in
set_option maxHeartbeats 2000000 in
theorem improve_any (R : List ByteArray) (f : Best) (b : Nat) (x t : ByteArray) (w : World) (hO : OwnB w R b f) (hx : x ∈ univ R) (ht : t.size ≤ 4 * (1 + cntB (univ R) f) + 4) (hR : ∀ r ∈ R, r.size ≤ 4) (hl : R.length ≤ 30) :
    Calls Tryd.prog 34 #[.map (some b), .agg #[.string t, .string x]] w fun e w' => e = .returned (.bool (isNewB f x t)) ∧ OwnB w' R b (learnB f x t) ∧ w.grownBy w' (some b) := by
  obtain ⟨D, hown, hM⟩ := hO
  have hxs := univ_size hR hx
  have hts : t.size ≤ 608 := by
    have hu := univ_len hR
    have h3 := cntB_le (univ R) f
    omega
  have hsz : Go.Maps.size D ≤ 150 := by
    have := hM.short
    have hu := univ_len hR
    omega
  have hkey := Go.WideMaps.keyOf_string_mk (k := 9) Tryd.underlying9 (s := x) (by unfold maxLen; omega)
  have HK := Lib.hid (show keyOf Tryd.prog 9 (.string x) = some (keyL x) from hkey)
  have hb1 := one_boxU w (.cells #[.string t, .string x] 55)
  have hown1 := hown.alloc (.cells #[.string t, .string x] 55)
  have hpl : plainElem (H := Unit) Tryd.prog 9 (.string t) = some (litT t, []) := plainElem_string Tryd.underlying9 (by unfold maxLen; omega)
  have HPL := Lib.hid hpl
  have HH := hM.has x
  clear hkey hpl
  rcases ef : f x with _ | u
  · have hnew : isNewB f x t = true := by unfold isNewB; rw [ef]
    have hput := Lib.hid (mapB_put hM hx ht hnew)
    rw [ef] at HH
    rw [hnew]
    have HF := Lib.hid ef
    have HMM := Lib.hid hM
    obtain ⟨hs, hhs⟩ : ∃ q, Go.Maps.has D (keyL x) = q := ⟨_, rfl⟩
    rw [hhs] at HH
    have HHS := Lib.hid hhs
    have hsf : hs = false := HH
    subst hsf
    clear HH hnew ef hM hhs
    go_enter Tryd.func34, Tryd.ntmps34
    go_wp2_with (first
      | (at_lookup; refine wpList_lookup_text _ rfl _ _ _ rfl 9 9 keyedU Tryd.underlying51 Tryd.underlying9 (zeroStrU _) b _ D rfl hown1 x rfl HK.out ?_; intro c hat hcz; rw [HHS.out])
      | (at_mapUpdate; refine wpList_mapUpdate_own _ rfl _ _ _ _ rfl 9 9 keyedU Tryd.underlying51 _ b _ _ rfl hown1 (by unfold maxLen; omega) _ _ _ rfl rfl HK.out _ [] HPL.out ?_; intro w2 hown2 hgrow2))
    have HO := Lib.hid (show OwnB w2 R b (learnB f x t) from ⟨_, own_tight hown2, hput.out⟩)
    have HG := Lib.hid (grown_trans (grown_below hb1 (row := some b)) hgrow2)
    clear hown2 hgrow2
    go_wp2
    go_ret
    exact ⟨rfl, HO.out, HG.out⟩
  · rw [ef] at HH
    have hus := (best_small hR hl hM.fit ef).2
    cases hbt : betB t u with
    | true =>
      have hnew : isNewB f x t = true := by unfold isNewB; rw [ef]; exact hbt
      have hput := Lib.hid (mapB_put hM hx ht hnew)
      rw [hnew]
      have HHS := Lib.hid (show Go.Maps.has D (keyL x) = true from HH)
      have HMM := Lib.hid hM
      have HEF := Lib.hid ef
      clear HH hnew ef hM
      go_enter Tryd.func34, Tryd.ntmps34
      go_wp2_with (at_lookup; refine wpList_lookup_text _ rfl _ _ _ rfl 9 9 keyedU Tryd.underlying51 Tryd.underlying9 (zeroStrU _) b _ D rfl hown1 x rfl HK.out ?_; intro c hat hcz; rw [HHS.out])
      have hcu : c = u := by
        have h1 := HMM.out.at_ x u HEF.out (litT ⟨#[]⟩)
        exact litT_inj (hat.symm.trans h1)
      subst hcu
      clear hat
      go_wp2_with fail
      refine (isb (isShorter_any t c _ (by unfold maxLen; omega) (by unfold maxLen; omega)) hbt).mono ?_
      rintro e_ w2 ⟨rfl, h2⟩
      have hc_w2 := bcell h2; have hf_w2 := bfree h2
      have hown3 := hown1.kept (grown_none h2) (by simp)
      have c0 : w2.cell? ⟨w.heap.size, 0, none⟩ = some (.string t) := cell_keep h2 (by simp)
      have c1 : w2.cell? ⟨w.heap.size, 1, none⟩ = some (.string x) := cell_keep h2 (by simp)
      go_wp2_with (at_mapUpdate; refine wpList_mapUpdate_own _ rfl _ _ _ _ rfl 9 9 keyedU Tryd.underlying51 _ b _ _ rfl hown3 (by unfold maxLen; omega) _ _ _ rfl rfl HK.out _ [] HPL.out ?_; intro w4 hown4 hgrow4)
      have HO := Lib.hid (show OwnB w4 R b (learnB f x t) from ⟨_, own_tight hown4, hput.out⟩)
      have HG := Lib.hid (grown_trans (grown_below (next hb1 h2) (row := some b)) hgrow4)
      clear hown4 hgrow4
      go_wp2
      go_ret
      exact ⟨rfl, HO.out, HG.out⟩
    | false =>
      have hnew : isNewB f x t = false := by unfold isNewB; rw [ef]; exact hbt
      have HL := Lib.hid (learn_not hnew)
      rw [hnew]
      have HHS := Lib.hid (show Go.Maps.has D (keyL x) = true from HH)
      have HMM := Lib.hid hM
      have HEF := Lib.hid ef
      clear HH hnew ef hM
      go_enter Tryd.func34, Tryd.ntmps34
      go_wp2_with (at_lookup; refine wpList_lookup_text _ rfl _ _ _ rfl 9 9 keyedU Tryd.underlying51 Tryd.underlying9 (zeroStrU _) b _ D rfl hown1 x rfl HK.out ?_; intro c hat hcz; rw [HHS.out])
      have hcu : c = u := by
        have h1 := HMM.out.at_ x u HEF.out (litT ⟨#[]⟩)
        exact litT_inj (hat.symm.trans h1)
      subst hcu
      clear hat
      go_wp2_with fail
      refine (isb (isShorter_any t c _ (by unfold maxLen; omega) (by unfold maxLen; omega)) hbt).mono ?_
      rintro e_ w2 ⟨rfl, h2⟩
      have hc_w2 := bcell h2; have hf_w2 := bfree h2
      have HO := Lib.hid (show OwnB w2 R b (learnB f x t) by rw [HL.out]; exact ⟨D, hown1.kept (grown_none h2) (by simp), HMM.out⟩)
      have HG := Lib.hid (grown_below (next hb1 h2) (row := some b))
      go_wp2
      go_ret
      exact ⟨rfl, HO.out, HG.out⟩
/-- what a step of a row leaves in the map -/
def MapPost (R : List ByteArray) (f0 : Best) (L : List (ByteArray × ByteArray)) (i : Nat) (x t : ByteArray) (k : Nat) (ch nb : Bool) (b : Nat) (w : World) (e : Ending) (w' : World) : Prop :=
  ∃ g, e = .returned (.bool nb) ∧ OwnB w' R b g ∧ InRow R f0 L i x t (k + 1) g (ch || nb) ∧ w.grownBy w' (some b)
theorem improve_row {R : List ByteArray} {f0 f : Best} {L : List (ByteArray × ByteArray)} {i k : Nat} {x t r x' t' : ByteArray} {ch : Bool} (hR : ∀ r ∈ R, r.size ≤ 4) (hl : R.length ≤ 30) (h : InRow R f0 L i x t k f ch) (hr : R[k]? = some r) (h0 : x.size ≠ 0) (hs : stepB x t r = some (x', t')) :
    ∃ nb, ∀ (b : Nat) (w : World), OwnB w R b f → Calls Tryd.prog 34 #[.map (some b), .agg #[.string t', .string x']] w (MapPost R f0 L i x t k ch nb b w) := by
  obtain ⟨a1, a2⟩ := inRow_ask hR h hr hs
  refine ⟨isNewB f x' t', fun b w ho => ?_⟩
  refine (improve_any R f b x' t' w ho a1 a2 hR hl).mono ?_
  rintro e w' ⟨he, h1, h2⟩
  exact ⟨_, he, h1, inRow_step hR h hr h0 hs, h2⟩
/-! ## slices of leads -/
def leadCells (L : List (ByteArray × ByteArray)) : List Value := L.flatMap fun p => [.string p.1, .string p.2]
theorem leadCells_len (L : List (ByteArray × ByteArray)) : (leadCells L).length = L.length * 2 := by
  induction L with
  | nil => rfl
  | cons p L ih => simp [leadCells] at ih ⊢; omega
theorem leadCells_at : ∀ {L : List (ByteArray × ByteArray)} {i : Nat} {t x : ByteArray}, L[i]? = some (t, x) → (leadCells L)[i * 2]? = some (.string t) ∧ (leadCells L)[i * 2 + 1]? = some (.string x)
  | [], i, t, x, h => by simp at h
  | p :: L, 0, t, x, h => by
    simp at h
    subst h
    exact ⟨rfl, rfl⟩
  | p :: L, i + 1, t, x, h => by
    have h2 := leadCells_at (L := L) (i := i) (by simpa using h)
    have e : leadCells (p :: L) = .string p.1 :: .string p.2 :: leadCells L := rfl
    rw [e, show (i + 1) * 2 = i * 2 + 1 + 1 by omega]
    simpa only [List.getElem?_cons_succ] using h2
theorem leadCells_snoc (L : List (ByteArray × ByteArray)) (t x : ByteArray) : leadCells (L ++ [(t, x)]) = leadCells L ++ [.string t, .string x] := by
  unfold leadCells
  rw [List.flatMap_append]
  rfl
theorem infoLead : (Tryd.prog.info? 55).map (fun i => (i.zero, i.size, i.bytes)) = some (some (.agg #[.string ⟨#[]⟩, .string ⟨#[]⟩]), 2, 32) := by kernel_rfl
theorem cell_two_newU (w : World) (a b : Value) (e : TypeId) : ∀ j u, [a, b][j]? = some u → (w.alloc (.cells #[a, b] e)).cell? ((⟨w.heap.size, 0, none⟩ : Addr).add j) = some u := fun j u hu => by
  match j, hu with
  | 0, hu => injection hu with hu; subst hu; simp [Addr.add]
  | 1, hu => injection hu with hu; subst hu; simp [Addr.add]
theorem own_lead {w : World} {base : Nat} {e : TypeId} {A : Option Addr} {n c i : Nat} {L : List (ByteArray × ByteArray)} {t x : ByteArray} (h : w.ownsRow base e 2 (.slice A n c) n (leadCells L)) (hn : L.length = n) (hi : L[i]? = some (t, x)) :
    ∃ g, A = some ⟨g, 0, none⟩ ∧ g < w.heap.size ∧ base ≤ g ∧ n ≤ c ∧ c ≤ maxLen ∧ w.cell? ⟨g, i * 2, none⟩ = some (.string t) ∧ w.cell? ⟨g, i * 2 + 1, none⟩ = some (.string x) := by
  have hil := (List.getElem?_eq_some_iff.1 hi).1
  obtain ⟨h1, h2⟩ := leadCells_at hi
  have h' := h
  rcases h'.2 with ⟨_, h0⟩ | ⟨g, cap, cur, hv, hb, hg, hnc, hcm, _⟩
  · omega
  · injection hv with e1 e2 e3
    subst e1; subst e3
    exact ⟨g, rfl, (h.lt g rfl).2, hb, hnc, hcm, (h.cellAt (i * 2) (by omega)).trans h1, (h.cellAt (i * 2 + 1) (by omega)).trans h2⟩
theorem grown_cellU {w w' : World} {row : Option Nat} (h : w.grownBy w' row) {a : Addr} {v : Value} (hc : w.cell? a = some v) (hne : row ≠ some a.block) : w'.cell? a = some v :=
  (World.cell?_of_block (w := w) (h.block a.block (World.block_lt_of_cell? w _ hc) (fun e => hne e.symm))).trans hc
theorem belowU {B b : Nat} {a w w' : World} (h : Below B a w) (hg : w.grownBy w' (some b)) (hB : B ≤ a.heap.size) (hb : B ≤ b) : Below B a w' := h.grown hg (Nat.le_trans hB h.size) (fun k hk => by injection hk with hk; omega)
theorem own_otherU {w w' : World} {base : Nat} {e : TypeId} {size : Nat} {v : Value} {n : Nat} {xs : List Value} {b : Nat} (h : w.ownsRow base e size v n xs) (hg : w.grownBy w' (some b)) (hb : b < base) : w'.ownsRow base e size v n xs := by
  refine h.kept hg ?_
  cases hv : v.ownBlock with
  | none => exact .inl rfl
  | some k =>
    have h1 := (h.lt k hv).1
    exact .inr fun e => (by injection e with e; omega)
theorem own_lowU {w : World} {base : Nat} {e : TypeId} {size : Nat} {v : Value} {n : Nat} {xs : List Value} (h : w.ownsRow base e size v n xs) {b : Nat} (hb : b < base) : some b ≠ v.ownBlock := fun e1 => by
  have := (h.lt b e1.symm).1
  omega
end Go.Proofs.YtnjjfcdddkabbaaDoor
