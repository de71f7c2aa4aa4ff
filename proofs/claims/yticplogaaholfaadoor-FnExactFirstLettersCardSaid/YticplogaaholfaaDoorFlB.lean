/- FirstLetters of the program. -/
import Derived.Test.YticplogaaholfaaDoorFlA
namespace Go.Proofs.YticplogaaholfaaDoor
open Go.ChangeShapes Go.WideShapes Go.ChangeAt Go.RowKit
def flVal (xs ps : List ByteArray) : List Int := if l6Code xs [] ps = 0 then flTo xs ps xs.length else []
theorem fl_len (xs ps : List ByteArray) : (flVal xs ps).length ≤ 1048576 := by
  unfold flVal
  split
  · rename_i h
    have h1 := (l6_zero h).1
    unfold isAlpha at h1
    rw [Bool.and_eq_true] at h1
    have := (of_decide_eq_true h1.2).2
    have := flTo_len xs ps xs.length
    omega
  · simp
theorem ints_none_F {w : World} : Ints w none 0 0 [] := ⟨rfl, ⟨Nat.le_refl _, Nat.zero_le _, rfl, fun h => absurd h (Nat.not_lt_zero _)⟩⟩
theorem own_lowF {w : World} {base base' : Nat} {e : TypeId} {size : Nat} {v : Value} {n : Nat} {xs : List Value} (h : w.ownsRow base e size v n xs) (hb : base' ≤ base) : w.ownsRow base' e size v n xs :=
  ⟨h.1, h.2.imp id fun ⟨g, cap, cur, a, b, r⟩ => ⟨g, cap, cur, a, Nat.le_trans hb b, r⟩⟩
set_option maxRecDepth 100000 in
set_option maxHeartbeats 2000000 in
theorem FirstLetters_impl (A C : Option Addr) (n c q f : Nat) (xs ps : List ByteArray) (w : World) (hx : Strs w A n c xs) (hp : Strs w C q f ps) (hs : ∀ s ∈ ps, s.size ≤ 1048576) (hm : MaxCell w) :
    Calls Tryd.prog 25 #[.slice A n c, .slice C q f] w fun e w' => ∃ v, e = .returned (.tuple #[v, .int .i64 (l6Code xs [] ps)]) ∧ w'.ownsRow w.heap.size 2 1 v (flVal xs ps).length ((flVal xs ps).map (Value.int .i64)) ∧ Below w.heap.size w w' := by
  obtain ⟨k, hk⟩ : ∃ k, l6Code xs [] ps = k := ⟨_, rfl⟩
  have h1 := listSorter_any A none C n c 0 0 q f xs [] ps w hx ints_none_F hp hs hm
  rw [hk] at h1
  have HK := Lib.hid hk
  obtain ⟨i0, hi, hz0, hz1, hz2⟩ := info_parts infoInt
  by_cases h0 : k = 0
  · subst h0
    obtain ⟨ha, hph, hsp, hq⟩ := l6_zero hk
    have HF := Lib.hid (show flVal xs ps = flTo xs ps xs.length by unfold flVal; rw [if_pos hk])
    have HPH := Lib.hid (List.all_eq_true.1 hph)
    have HSP := Lib.hid (List.all_eq_true.1 hsp)
    have HSM := Lib.hid (fl_same xs ps fun s h => by
      obtain ⟨i, l, L, e, k, hk, hi⟩ := fl_ok (HPH.out s h) (HSP.out s h)
      exact ⟨k, hk, by rw [fl_ix e, hi]⟩)
    have HS := Lib.hid hs
    have HL := Lib.hid hp.1
    have hqn : q ≤ 20 := by rw [hp.1]; exact hq
    have hqf := hp.2.1.le
    have hqm := hp.2.1.cap
    unfold maxLen at hqm
    have HC := Lib.hid (fun s W h1 h2 h3 => spelled_any A n c xs s W h1 h2 ha h3)
    clear hk ha hph hsp hq
    go_enter Tryd.func25, Tryd.ntmps25
    go_wp2_with fail
    refine h1.mono ?_
    rintro e_ w1 ⟨A', n', c', B', m', d', rfl, hv, k1⟩
    clear h1 hv
    have hB := next k1 (boxO w1 (.cells #[.slice A' n' c', .slice B' m' d'] 54))
    go_wp2
    generalize w1.alloc (.cells #[.slice A' n' c', .slice B' m' d'] 54) = w2 at *
    replace hx := hx.below hB
    replace hp := hp.below hB
    replace hm := hm.below hB
    have hzB := hB.size
    go_loopw [8, 24] (fun v i wr => ∃ k, k ≤ q ∧ i = .int .i64 k ∧ Hid (wr.ownsRow w2.heap.size 2 1 v k (((ps.take k).map (flIx xs)).map (Value.int .i64))) ∧ Below w2.heap.size w2 wr) (fun _ i _ => q - (intOf i).toNat)
    case atStart => exact ⟨0, Nat.zero_le _, rfl, World.ownsRow_nil _ _ _ _, Below.refl _ _⟩
    case round =>
      obtain ⟨k, hk, rfl, hown, hb⟩ := hrel
      have hz3 := hb.size
      by_cases hlt : k < q
      · obtain ⟨b, off, rfl, hbl⟩ := hp.at_ k hlt
        obtain ⟨s, hs1, c0, hsz⟩ := hp.el hb hbl k hlt
        have hmem := List.mem_of_getElem? hs1.out
        have h2 := HC.out s wr (hx.below hb) (HS.out s hmem) (hm.below hb)
        rw [HSP.out s hmem] at h2
        have hfc := fun (w : World) A n c (hL : Lists w A n c (sps xs s)) => fl_cells hL (HPH.out s hmem) (HSP.out s hmem)
        have HFC := Lib.hid hfc
        have hbw : b < wr.heap.size := Nat.lt_of_lt_of_le hbl hz3
        have HT := Lib.hid (map_take_succ (f := flIx xs) hs1.out)
        obtain ⟨fi, hfi⟩ : ∃ fi, flIx xs s = fi := ⟨_, rfl⟩
        rw [hfi] at HT HFC
        clear hmem hfc hfi hs1
        go_wp2_with fail
        refine h2.mono ?_
        rintro e_ w3 ⟨A3, n3, c3, rfl, hL, k3⟩
        obtain ⟨b3, off3, b4, off4, m4, d4, rfl, hb3, hn3, p0, hb4, hm4, p1⟩ := HFC.out w3 _ _ _ (hL (by simp))
        have hn3' : (0 : Int) < (n3 : Int) := by omega
        have hm4' : (0 : Int) < (m4 : Int) := by omega
        have hrow := own_below hown.out k3
        have hz4 := k3.size
        clear h2 hL HFC
        go_wp2_with (at_builtin; refine wpList_append_own _ rfl _ _ 29 rfl w2.heap.size 2 i0 (.int .i64 0) 1 8 Tryd.underlying29 hi hz0 hz1 hz2 rfl (by decide) _ _ _ rfl (hrow.alloc _) ⟨w3.heap.size, 0, none⟩ 1 1 [.int .i64 fi] rfl rfl ?c1 ?c2 ?c3 ?c4 ?c5 ?_)
        case c1 => exact cell_one_new _ _ _
        case c2 => simp [Value.oneCell']
        case c3 => unfold maxLen; omega
        case c4 => omega
        case c5 => first | omega | (simp; omega)
        intro v4 w4 hown4 hgrow _
        have hb4' := k3.alloc hz4 (.cells #[.int .i64 fi] 2)
        have HO : Hid (w4.ownsRow w2.heap.size 2 1 v4 (k + 1) (((ps.take (k + 1)).map (flIx xs)).map (Value.int .i64))) := by
          unfold Hid
          rw [HT.out, List.map_append]
          simpa [List.map_take] using hown4
        have HB4 := Lib.hid ((hb.trans (hb4'.mono hz3)).grown hgrow (Nat.le_trans hz3 hb4'.size) (fun q hq => (hrow.lt q hq).1))
        clear hown4 hgrow hown hb4' k3 hrow p0 p1
        go_wp2
        go_roundw
        case rel => exact ⟨k + 1, by omega, by go_num, HO, HB4.out⟩
        case measure => simp [intOf]; omega
      · obtain rfl : k = q := by omega
        have ho := hown.out
        rw [List.take_of_length_le (by rw [← HL.out]; exact Nat.le_refl _)] at ho
        obtain ⟨zs, hzs⟩ : ∃ zs, ps.map (flIx xs) = zs := ⟨_, rfl⟩
        rw [hzs] at ho HSM
        have hso := sort_any _ k w2.heap.size zs wr ho (by omega) hz3
        have HCO := Lib.hid (fun v W h hb => compact_any v k w2.heap.size (zs.mergeSort fun x y => decide (x ≤ y)) W h (by omega) hb)
        rw [HSM.out] at HCO
        have HB := Lib.hid (next hB hb)
        have HZB := Lib.hid hzB
        clear ho hown hzs HSM
        go_wp2_with fail
        refine hso.mono ?_
        rintro e_ w4 ⟨⟨z, rfl⟩, o4, h4⟩
        have hco := HCO.out _ w4 o4 (Nat.le_trans hz3 h4.size)
        have HB4 := Lib.hid (hB.trans ((hb.trans h4).mono hzB))
        clear hso HCO o4 h4 HB
        go_wp2_with fail
        refine hco.mono ?_
        rintro e_ w5 ⟨v5, rfl, o5, h5⟩
        have HO5 := Lib.hid (own_lowF o5 hzB)
        have HB5 := Lib.hid (HB4.out.trans (h5.mono hzB))
        clear hco o5 h5 HB4
        go_wp2
        go_ret2
        exact ⟨_, by rw [HK.out]; rfl, by rw [HF.out]; exact HO5.out, HB5.out⟩
  · have HF := Lib.hid (show flVal xs ps = [] by unfold flVal; rw [hk, if_neg h0])
    have hne : (k != 0) = true := by rw [bne_iff_ne]; exact h0
    clear hk
    go_enter Tryd.func25, Tryd.ntmps25
    go_wp2_with fail
    refine h1.mono ?_
    rintro e_ w1 ⟨A', n', c', B', m', d', rfl, hv, k1⟩
    clear h1
    go_wp2
    go_ret2
    exact ⟨_, by rw [HK.out]; rfl, by rw [HF.out]; exact World.ownsRow_nil _ _ _ _, next k1 (boxO _ _)⟩
end Go.Proofs.YticplogaaholfaaDoor
