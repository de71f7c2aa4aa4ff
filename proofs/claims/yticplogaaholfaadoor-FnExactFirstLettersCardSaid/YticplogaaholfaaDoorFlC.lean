/- FirstLetters of the reference. -/
import Derived.Test.YticplogaaholfaaDoorFlB
namespace Go.Proofs.YticplogaaholfaaDoor
open Go.ChangeShapes Go.WideShapes Go.ChangeAt Go.RowKit
theorem keepF_none (L : List (List Int)) : L.map (keepI []) = L := by
  induction L with
  | nil => rfl
  | cons x L ih => rw [List.map_cons, ih, keepI_nil]
theorem anyF_succ {α : Type} {p : α → Bool} {xs : List α} {k : Nat} {x : α} (h : xs[k]? = some x) : (xs.take (k + 1)).any p = ((xs.take k).any p || p x) := by
  rw [List.take_add_one, h, List.any_append]
  simp
set_option maxRecDepth 100000 in
set_option maxHeartbeats 4000000 in
theorem FirstLetters_spec (A C : Option Addr) (n c q f : Nat) (xs ps : List ByteArray) (w : World) (hx : Strs w A n c xs) (hp : Strs w C q f ps) (hs : ∀ s ∈ ps, s.size ≤ 1048576) :
    Calls Tryd.prog 24 #[.slice A n c, .slice C q f] w fun e w' => ∃ v, e = .returned (.tuple #[v, .int .i64 (l6Code xs [] ps)]) ∧ w'.ownsRow w.heap.size 2 1 v (flVal xs ps).length ((flVal xs ps).map (Value.int .i64)) ∧ Below w.heap.size w w' := by
  obtain ⟨k, hk⟩ : ∃ k, l6Code xs [] ps = k := ⟨_, rfl⟩
  have b0 := boxO w (.cells #[] 2)
  have h1 := isn_ (l06Code_any A (some ⟨w.heap.size, 0, none⟩) C n c 0 0 q f xs [] ps (w.alloc (.cells #[] 2)) (hx.below b0) (ints_lit0 w _) (hp.below b0) hs) hk
  have HK := Lib.hid hk
  obtain ⟨i0, hi, hz0, hz1, hz2⟩ := info_parts infoInt
  by_cases h0 : k = 0
  · subst h0
    obtain ⟨ha, hph, hsp, hq⟩ := l6_zero hk
    have HF := Lib.hid (show flVal xs ps = flTo xs ps xs.length by unfold flVal; rw [if_pos hk])
    have HPH := Lib.hid (List.all_eq_true.1 hph)
    have HSP := Lib.hid (List.all_eq_true.1 hsp)
    have HS := Lib.hid hs
    have HL := Lib.hid hp.1
    have HX := Lib.hid hx.1
    have hn40 : n ≤ 40 := by
      have h1 := ha
      unfold isAlpha at h1
      rw [Bool.and_eq_true] at h1
      have := (of_decide_eq_true h1.2).2
      have := hx.1
      omega
    have hqn : q ≤ 20 := by rw [hp.1]; exact hq
    have hqf := hp.2.1.le
    have hqm := hp.2.1.cap
    unfold maxLen at hqm
    have HC := Lib.hid (fun s (W : World) h1 h2 h3 => l06Spellings_any A (some ⟨W.heap.size, 0, none⟩) n c 0 0 xs [] s (W.alloc (.cells #[] 2)) h1 (ints_lit0 W _) ha h2 h3)
    simp only [keepF_none] at HC
    clear hk ha hph hsp hq
    go_enter Tryd.func24, Tryd.ntmps24
    go_wp2_with fail
    refine h1.mono ?_
    rintro e_ w1 ⟨rfl, k1⟩
    clear h1
    have hB := next b0 k1
    replace hx := hx.below hB
    replace hp := hp.below hB
    have hzB := hB.size
    clear b0 k1
    go_wp2
    go_loopw [7, 8] (fun v kv wr => ∃ k, k ≤ n ∧ kv = .int .i64 k ∧ Hid (wr.ownsRow w1.heap.size 2 1 v (flTo xs ps k).length ((flTo xs ps k).map (Value.int .i64))) ∧ Below w1.heap.size w1 wr) (fun _ kv _ => n - (intOf kv).toNat)
    case atStart => exact ⟨0, Nat.zero_le _, rfl, World.ownsRow_lit w1 #[] 0 (Nat.le_refl _) (by unfold maxLen; omega) rfl, boxO _ _⟩
    case round =>
      obtain ⟨k, hk, rfl, hown, hb⟩ := hrel
      rename World => wo
      have hz3 := hb.size
      by_cases hlt : k < n
      · have hl40 := flTo_len xs ps k
        have HFS := Lib.hid (flTo_succ xs ps k)
        have HFH := Lib.hid (show flHas xs ps k = ps.any fun s => decide (flIx xs s = (k : Int)) from rfl)
        generalize flTo xs ps k = Z at *
        have HO := Lib.hid hown.out
        have HB := Lib.hid hb
        clear hown hb
        go_wp2
        go_loopw [9, 10] (fun fv jv wr => ∃ (j : Nat) (fb : Bool), j ≤ q ∧ jv = .int .i64 j ∧ fv = .bool fb ∧ Hid (fb = (ps.take j).any fun s => decide (flIx xs s = (k : Int))) ∧ Hid (wr.ownsRow w1.heap.size 2 1 u7 Z.length (Z.map (Value.int .i64))) ∧ Hid (Below w1.heap.size w1 wr)) (fun _ jv _ => q - (intOf jv).toNat)
        case atStart => exact ⟨0, false, Nat.zero_le _, rfl, rfl, rfl, HO.out, HB.out⟩
        case round =>
          clear HO HB
          obtain ⟨j, fb, hj, rfl, rfl, hfb, hO, hBo⟩ := hrel
          have hbo := hBo.out
          have hz4 := hbo.size
          by_cases hjl : j < q
          · obtain ⟨b, off, rfl, hbl⟩ := hp.at_ j hjl
            obtain ⟨s, hs1, c0, hsz⟩ := hp.el hbo hbl j hjl
            have hmem := List.mem_of_getElem? hs1.out
            have HT := Lib.hid (anyF_succ (p := fun s => decide (flIx xs s = (k : Int))) hs1.out)
            rcases fb with _ | _
            · have hbw : b < wr.heap.size := Nat.lt_of_lt_of_le hbl hz4
              have bx := boxO wr (.cells #[] 2)
              have hby := next hbo bx
              have h2 := HC.out s wr (hx.below hby) (HS.out s hmem) (HPH.out s hmem)
              have HFC := Lib.hid (fun (w : World) A n c (hL : Lists w A n c (sps xs s)) => fl_cells hL (HPH.out s hmem) (HSP.out s hmem))
              obtain ⟨fi, hfi⟩ : ∃ fi, flIx xs s = fi := ⟨_, rfl⟩
              rw [hfi] at HFC
              have HT' : Hid ((ps.take (j + 1)).any (fun s => decide (flIx xs s = (k : Int))) = decide (fi = (k : Int))) := by
                unfold Hid; rw [HT.out, ← hfb.out, hfi]; rfl
              clear hmem hfi hs1 HT hfb
              go_wp2_with fail
              refine h2.mono ?_
              rintro e_ w3 ⟨A3, n3, c3, rfl, hL, k3⟩
              obtain ⟨b3, off3, b4, off4, m4, d4, rfl, hb3, hn3, p0, hb4, hm4, p1⟩ := HFC.out w3 _ _ _ hL
              have hn3' : (0 : Int) < (n3 : Int) := by omega
              have hm4' : (0 : Int) < (m4 : Int) := by omega
              have HO4 := Lib.hid (own_below (own_below hO.out bx) k3)
              have HB4 := Lib.hid (next hby k3)
              clear h2 hL HFC hO hBo hbo hby bx k3
              go_wp2
              go_roundw
              case rel => exact ⟨j + 1, _, by omega, by go_num, rfl, by unfold Hid; rw [HT'.out]; first | rfl | (simp; done) | (exact (beq_eq_decide ..)) | (cases h : decide (fi = (k : Int)) <;> simp_all), HO4.out, HB4.out⟩
              case measure => simp [intOf]; omega
            · have HT' : Hid (true = (ps.take (j + 1)).any (fun s => decide (flIx xs s = (k : Int)))) := by
                unfold Hid; rw [HT.out, ← hfb.out]; rfl
              clear hmem hs1 HT hfb
              go_wp2
              go_roundw
              case rel => exact ⟨j + 1, _, by omega, by go_num, rfl, HT'.out, hO.out, hBo.out⟩
              case measure => simp [intOf]; omega
          · obtain rfl : j = q := by omega
            have HFB : Hid (fb = flHas xs ps k) := by
              unfold Hid; rw [HFH.out, hfb.out, List.take_of_length_le (by rw [← HL.out]; exact Nat.le_refl _)]
            clear hfb
            rcases fb with _ | _
            · have HZ := Lib.hid (show flTo xs ps (k + 1) = Z by rw [HFS.out, ← HFB.out]; rfl)
              clear HFB
              go_wp2
              go_roundw
              case rel => exact ⟨k + 1, by omega, by go_num, by unfold Hid; rw [HZ.out]; exact hO.out, hBo.out⟩
              case measure => simp [intOf]; omega
            · have HZ := Lib.hid (show flTo xs ps (k + 1) = Z ++ [(k : Int)] by rw [HFS.out, ← HFB.out]; rfl)
              have hrow := hO.out
              clear HFB hO
              go_wp2_with (at_builtin; refine wpList_append_own _ rfl _ _ 29 rfl w1.heap.size 2 i0 (.int .i64 0) 1 8 Tryd.underlying29 hi hz0 hz1 hz2 rfl (by decide) _ _ _ rfl (hrow.alloc _) ⟨wr.heap.size, 0, none⟩ 1 1 [.int .i64 k] rfl rfl ?c1 ?c2 ?c3 ?c4 ?c5 ?_)
              case c1 => exact cell_one_new _ _ _
              case c2 => simp [Value.oneCell']
              case c3 => unfold maxLen; omega
              case c4 => omega
              case c5 => first | omega | (simp; omega)
              intro v4 w4 hown4 hgrow _
              have hb4' := (boxO wr (.cells #[.int .i64 k] 2))
              have HO : Hid (w4.ownsRow w1.heap.size 2 1 v4 (flTo xs ps (k + 1)).length ((flTo xs ps (k + 1)).map (Value.int .i64))) := by
                unfold Hid
                rw [HZ.out, List.map_append, List.length_append]
                exact hown4
              have HB4 := Lib.hid ((next hbo hb4').grown hgrow (Nat.le_trans hz4 hb4'.size) (fun q hq => (hrow.lt q hq).1))
              clear hown4 hgrow hb4' hrow hbo hBo
              go_wp2
              go_roundw
              case rel => exact ⟨k + 1, by omega, by go_num, HO, HB4.out⟩
              case measure => simp [intOf]; omega
      · obtain rfl : k = n := by omega
        have HE := Lib.hid (show flVal xs ps = flTo xs ps k by rw [HF.out, HX.out])
        clear HF
        go_wp2
        go_ret2
        exact ⟨_, by rw [HK.out]; rfl, by rw [HE.out]; exact own_lowF hown.out hzB, next hB hb⟩
  · have HF := Lib.hid (show flVal xs ps = [] by unfold flVal; rw [hk, if_neg h0])
    have hne : (k != 0) = true := by rw [bne_iff_ne]; exact h0
    clear hk
    go_enter Tryd.func24, Tryd.ntmps24
    go_wp2_with fail
    refine h1.mono ?_
    rintro e_ w1 ⟨rfl, k1⟩
    clear h1
    go_wp2
    go_ret2
    exact ⟨_, by rw [HK.out]; rfl, by rw [HF.out]; exact World.ownsRow_nil _ _ _ _, next b0 k1⟩
end Go.Proofs.YticplogaaholfaaDoor
