/- The signs covered. -/
import Derived.Test.YtjgcbnngjfchhaaDoorRuleD
namespace Go.Proofs.YtjgcbnngjfchhaaDoor
open Go.ChangeShapes Go.WideShapes Go.ChangeAt Go.RowKit

theorem ints_lit (w : World) (s : Int) (t : TypeId) : Ints (w.alloc (.cells #[.int .i64 s] t)) (some ⟨w.heap.size, 0, none⟩) 1 1 [s] :=
  ⟨rfl, ⟨Nat.le_refl _, by unfold maxLen; omega, rfl, fun _ => ⟨w.heap.size, 0, rfl, by simp, fun j u hu => by
    rw [Nat.zero_add]
    match j, hu with
    | 0, hu => simp at hu; subst hu; go_simp
    | j + 1, hu => simp at hu⟩⟩⟩
def covTo (T : List Rl) : Nat → List Int
  | 0 => []
  | k + 1 => if hasR T [(k : Int)] = true then covTo T k ++ [(k : Int)] else covTo T k
theorem covTo_len (T : List Rl) : ∀ k, (covTo T k).length ≤ k
  | 0 => by simp [covTo]
  | k + 1 => by
    have := covTo_len T k
    unfold covTo
    split
    · simp; omega
    · omega
theorem cov_yes {T : List Rl} {k : Nat} (h : hasR T [(k : Int)] = true) : covTo T (k + 1) = covTo T k ++ [(k : Int)] := by
  conv => lhs; unfold covTo
  rw [if_pos h]
theorem cov_no {T : List Rl} {k : Nat} (h : hasR T [(k : Int)] = false) : covTo T (k + 1) = covTo T k := by
  conv => lhs; unfold covTo
  rw [if_neg (by rw [h]; simp)]
def scList (T : List Rl) : List Int := if isTab T = true then covTo T 20 else []
def scCode (T : List Rl) : Int := if isTab T = true then 0 else 1
theorem sc_len (T : List Rl) : (scList T).length ≤ 20 := by
  unfold scList
  split
  · exact covTo_len T 20
  · simp
theorem next' {B : Nat} {a w w' : World} (h : Below B a w) (hb : Below w.heap.size w w') (hB : B ≤ w.heap.size) : Below B a w' := h.trans (hb.mono hB)
set_option maxRecDepth 100000 in
set_option maxHeartbeats 2000000 in
theorem SignsCovered_spec (A : Option Addr) (n c : Nat) (T : List Rl) (w : World) (hx : Rules w A n c T) :
    Calls Tryd.prog 30 #[.slice A n c] w fun e w' => ∃ v, e = .returned (.tuple #[v, .int .i64 (scCode T)]) ∧ w'.ownsRow w.heap.size 2 1 v (scList T).length ((scList T).map (Value.int .i64)) ∧ Below w.heap.size w w' := by
  cases ha : isTab T
  · have HF := Lib.hid (show scList T = [] ∧ scCode T = 1 by unfold scList scCode; rw [ha]; exact ⟨rfl, rfl⟩)
    go_enter Tryd.func30, Tryd.ntmps30
    go_wp2_with fail
    refine (isb (IsTable_spec A n c T _ hx) ha).mono ?_
    rintro e_ w1 ⟨rfl, h1⟩
    have hc_w1 := bcell h1; have hf_w1 := bfree h1
    go_wp2
    go_ret2
    exact ⟨_, by rw [HF.out.2]; rfl, by rw [HF.out.1]; exact World.ownsRow_nil _ _ _ _, h1⟩
  · have HF := Lib.hid (show scList T = covTo T 20 ∧ scCode T = 0 by unfold scList scCode; rw [ha]; exact ⟨rfl, rfl⟩)
    obtain ⟨i0, hi, hz0, hz1, hz2⟩ := info_parts infoInt
    go_enter Tryd.func30, Tryd.ntmps30
    go_wp2_with fail
    refine (isb (IsTable_spec A n c T _ hx) ha).mono ?_
    rintro e_ w1 ⟨rfl, h1⟩
    have hc_w1 := bcell h1; have hf_w1 := bfree h1
    clear ha
    replace hx := hx.below h1
    have hz0' := h1.size
    clear hc_w1 hf_w1
    go_wp2
    go_loopw [4, 5] (fun rv i wr => ∃ (k : Nat) (P : List Int), k ≤ 20 ∧ i = .int .i64 k ∧ Hid (P = covTo T k) ∧ P.length ≤ k ∧ Hid (wr.ownsRow w1.heap.size 2 1 rv P.length (P.map (Value.int .i64))) ∧ Below w1.heap.size w1 wr) (fun _ i _ => 20 - (intOf i).toNat)
    case atStart => exact ⟨0, [], Nat.zero_le _, rfl, rfl, Nat.le_refl _, World.ownsRow_lit w1 #[] 0 (Nat.le_refl _) (by unfold maxLen; omega) rfl, one_box _ _⟩
    case round =>
      obtain ⟨k, P, hk, rfl, hP, hPl, hown, hb⟩ := hrel
      have hz3 := hb.size
      by_cases hlt : k < 20
      · obtain ⟨q, hq⟩ : ∃ q : Int, fndR T [(k : Int)] = q := ⟨_, rfl⟩
        have hfn := isn (l04Find_any A (some ⟨wr.heap.size, 0, none⟩) n c 1 1 T [(k : Int)] (wr.alloc (.cells #[.int .i64 k] 2)) ((hx.below hb).below (one_box _ _)) (ints_lit wr k _)) hq
        have hqm : -1 ≤ q := by rw [← hq]; exact fndR_min _ _
        have hqh : decide (0 ≤ q) = hasR T [(k : Int)] := by rw [← hq]; exact fndR_has _ _
        by_cases h0 : 0 ≤ q
        · have HC := Lib.hid (cov_yes (T := T) (k := k) (by rw [← hqh]; exact decide_eq_true h0))
          clear hq hqh
          go_wp2_with fail
          refine hfn.mono ?_
          rintro e_ w2 ⟨rfl, h2⟩
          clear hfn
          have hb2 := next' hb (next (one_box _ _) h2) hz3
          have hown2 := own_below hown.out (next (one_box _ _) h2)
          have hz4 := hb2.size
          go_wp2_with (at_builtin; refine wpList_append_own _ rfl _ _ 24 rfl w1.heap.size 2 i0 (.int .i64 0) 1 8 Tryd.underlying24 hi hz0 hz1 hz2 rfl (by decide) _ _ _ rfl (hown2.alloc _) ⟨w2.heap.size, 0, none⟩ 1 1 [.int .i64 k] rfl rfl ?c1 ?c2 ?c3 ?c4 ?c5 ?_)
          case c1 => exact cell_one_new _ _ _
          case c2 => simp [Value.oneCell']
          case c3 => unfold maxLen; omega
          case c4 => omega
          case c5 => (try simp); (try omega)
          intro v4 w4 hown4 hgrow hrest
          have HO : Hid (w4.ownsRow w1.heap.size 2 1 v4 (P ++ [(k : Int)]).length ((P ++ [(k : Int)]).map (Value.int .i64))) := by rw [List.length_append, List.map_append]; exact hown4
          have HB : Hid (Below w1.heap.size w1 w4) := (hb2.alloc hz4 _).grown hgrow (by simp; omega) (fun z hz => (hown2.lt z hz).1)
          clear hown4 hgrow hown2 hrest
          go_wp2
          go_roundw
          case rel => exact ⟨k + 1, P ++ [(k : Int)], by omega, by go_num, by rw [HC.out, ← hP.out]; rfl, by rw [List.length_append]; simp; omega, HO, HB.out⟩
          case measure => simp [intOf]; omega
        · have HC := Lib.hid (cov_no (T := T) (k := k) (by rw [← hqh]; exact decide_eq_false h0))
          clear hq hqh
          go_wp2_with fail
          refine hfn.mono ?_
          rintro e_ w2 ⟨rfl, h2⟩
          clear hfn
          have hb2 := next' hb (next (one_box _ _) h2) hz3
          have HO := Lib.hid (own_below hown.out (next (one_box _ _) h2))
          clear hown
          go_wp2
          go_roundw
          case rel => exact ⟨k + 1, P, by omega, by go_num, by rw [HC.out, ← hP.out]; rfl, by omega, HO.out, hb2⟩
          case measure => simp [intOf]; omega
      · obtain rfl : k = 20 := by omega
        have HE := Lib.hid (show scList T = P by rw [HF.out.1, hP.out])
        have HO := Lib.hid (own_mono_ hown.out hz0')
        clear hP hown
        go_wp2
        go_ret2
        exact ⟨_, by rw [HF.out.2]; rfl, by rw [HE.out]; exact HO.out, next h1 hb⟩
set_option maxRecDepth 100000 in
set_option maxHeartbeats 2000000 in
theorem SignsCovered_impl (A : Option Addr) (n c : Nat) (T : List Rl) (w : World) (hx : Rules w A n c T) :
    Calls Tryd.prog 29 #[.slice A n c] w fun e w' => ∃ v, e = .returned (.tuple #[v, .int .i64 (scCode T)]) ∧ w'.ownsRow w.heap.size 2 1 v (scList T).length ((scList T).map (Value.int .i64)) ∧ Below w.heap.size w w' := by
  cases ha : isTab T
  · have HF := Lib.hid (show scList T = [] ∧ scCode T = 1 by unfold scList scCode; rw [ha]; exact ⟨rfl, rfl⟩)
    go_enter Tryd.func29, Tryd.ntmps29
    go_wp2_with fail
    refine (isb (IsTable_impl A n c T _ hx) ha).mono ?_
    rintro e_ w1 ⟨rfl, h1⟩
    have hc_w1 := bcell h1; have hf_w1 := bfree h1
    go_wp2
    go_ret2
    exact ⟨_, by rw [HF.out.2]; rfl, by rw [HF.out.1]; exact World.ownsRow_nil _ _ _ _, h1⟩
  · have HF := Lib.hid (show scList T = covTo T 20 ∧ scCode T = 0 by unfold scList scCode; rw [ha]; exact ⟨rfl, rfl⟩)
    obtain ⟨i0, hi, hz0, hz1, hz2⟩ := info_parts infoInt
    go_enter Tryd.func29, Tryd.ntmps29
    go_wp2_with fail
    refine (isb (IsTable_impl A n c T _ hx) ha).mono ?_
    rintro e_ w1 ⟨rfl, h1⟩
    have hc_w1 := bcell h1; have hf_w1 := bfree h1
    clear ha
    replace hx := hx.below h1
    have hz0' := h1.size
    clear hc_w1 hf_w1
    go_wp2
    go_loopw [4, 9] (fun rv i wr => ∃ (k : Nat) (P : List Int), k ≤ 20 ∧ i = .int .i64 k ∧ Hid (P = covTo T k) ∧ P.length ≤ k ∧ Hid (wr.ownsRow w1.heap.size 2 1 rv P.length (P.map (Value.int .i64))) ∧ Below w1.heap.size w1 wr) (fun _ i _ => 20 - (intOf i).toNat)
    case atStart => exact ⟨0, [], Nat.zero_le _, rfl, rfl, Nat.le_refl _, World.ownsRow_nil _ _ _ _, Below.refl _ _⟩
    case round =>
      obtain ⟨k, P, hk, rfl, hP, hPl, hown, hb⟩ := hrel
      have hz3 := hb.size
      by_cases hlt : k < 20
      · obtain ⟨q, hq⟩ : ∃ q : Int, fndR T [(k : Int)] = q := ⟨_, rfl⟩
        have hfn := isn (findRule_any A (some ⟨wr.heap.size, 0, none⟩) n c 1 1 T [(k : Int)] (wr.alloc (.cells #[.int .i64 k] 2)) ((hx.below hb).below (one_box _ _)) (ints_lit wr k _)) hq
        have hqm : -1 ≤ q := by rw [← hq]; exact fndR_min _ _
        have hqh : decide (0 ≤ q) = hasR T [(k : Int)] := by rw [← hq]; exact fndR_has _ _
        by_cases h0 : 0 ≤ q
        · have HC := Lib.hid (cov_yes (T := T) (k := k) (by rw [← hqh]; exact decide_eq_true h0))
          clear hq hqh
          go_wp2_with fail
          refine hfn.mono ?_
          rintro e_ w2 ⟨rfl, h2⟩
          clear hfn
          have hb2 := next' hb (next (one_box _ _) h2) hz3
          have hown2 := own_below hown.out (next (one_box _ _) h2)
          have hz4 := hb2.size
          go_wp2_with (at_builtin; refine wpList_append_own _ rfl _ _ 24 rfl w1.heap.size 2 i0 (.int .i64 0) 1 8 Tryd.underlying24 hi hz0 hz1 hz2 rfl (by decide) _ _ _ rfl (hown2.alloc _) ⟨w2.heap.size, 0, none⟩ 1 1 [.int .i64 k] rfl rfl ?c1 ?c2 ?c3 ?c4 ?c5 ?_)
          case c1 => exact cell_one_new _ _ _
          case c2 => simp [Value.oneCell']
          case c3 => unfold maxLen; omega
          case c4 => omega
          case c5 => (try simp); (try omega)
          intro v4 w4 hown4 hgrow hrest
          have HO : Hid (w4.ownsRow w1.heap.size 2 1 v4 (P ++ [(k : Int)]).length ((P ++ [(k : Int)]).map (Value.int .i64))) := by rw [List.length_append, List.map_append]; exact hown4
          have HB : Hid (Below w1.heap.size w1 w4) := (hb2.alloc hz4 _).grown hgrow (by simp; omega) (fun z hz => (hown2.lt z hz).1)
          clear hown4 hgrow hown2 hrest
          go_wp2
          go_roundw
          case rel => exact ⟨k + 1, P ++ [(k : Int)], by omega, by go_num, by rw [HC.out, ← hP.out]; rfl, by rw [List.length_append]; simp; omega, HO, HB.out⟩
          case measure => simp [intOf]; omega
        · have HC := Lib.hid (cov_no (T := T) (k := k) (by rw [← hqh]; exact decide_eq_false h0))
          clear hq hqh
          go_wp2_with fail
          refine hfn.mono ?_
          rintro e_ w2 ⟨rfl, h2⟩
          clear hfn
          have hb2 := next' hb (next (one_box _ _) h2) hz3
          have HO := Lib.hid (own_below hown.out (next (one_box _ _) h2))
          clear hown
          go_wp2
          go_roundw
          case rel => exact ⟨k + 1, P, by omega, by go_num, by rw [HC.out, ← hP.out]; rfl, by omega, HO.out, hb2⟩
          case measure => simp [intOf]; omega
      · obtain rfl : k = 20 := by omega
        have HE := Lib.hid (show scList T = P by rw [HF.out.1, hP.out])
        have HO := Lib.hid (own_mono_ hown.out hz0')
        clear hP hown
        go_wp2
        go_ret2
        exact ⟨_, by rw [HF.out.2]; rfl, by rw [HE.out]; exact HO.out, next h1 hb⟩
end Go.Proofs.YtjgcbnngjfchhaaDoor
