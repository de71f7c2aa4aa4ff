/- Phrases compared: the program's. -/
import Derived.Test.YtpnbbhomkneflaaGreatDoorSortC
import Derived.Deep.RegionLaw
namespace Go.Proofs.YtpnbbhomkneflaaGreatDoor
open Go.ChangeShapes Go.WideShapes Go.ChangeAt Go.RowKit
theorem own_shapeL {w : World} {base n : Nat} {e : TypeId} {size : Nat} {v : Value} {xs : List Value} (h : w.ownsRow base e size v n xs) (h0 : 0 < n) : ∃ g cap, v = .slice (some ⟨g, 0, none⟩) n cap := by
  rcases h.2 with ⟨_, hn⟩ | ⟨g, cap, cur, hv, _⟩
  · omega
  · exact ⟨g, cap, hv⟩
theorem set_take_succ {α : Type} {ys : List α} {i : Nat} {x : α} (h : i < ys.length) : (ys.set i x).take (i + 1) = ys.take i ++ [x] := by
  rw [List.take_add_one, List.getElem?_set_self h, List.take_set_of_le (Nat.le_refl _)]
  rfl
set_option maxRecDepth 100000 in
set_option maxHeartbeats 2000000 in
theorem DeleteFunc_ig (v : Value) (n base p m d : Nat) (B : Option Addr) (l ig : List Int) (w0 w : World) (hown : w.ownsRow base 2 1 v n (l.map (Value.int .i64))) (hb0 : Below w0.heap.size w0 w) (hbase : w0.heap.size ≤ base) (hbw : base ≤ w.heap.size)
    (hp : w0.cell? ⟨p, 1, none⟩ = some (.slice B m d)) (hy : Ints w0 B m d ig) :
    Calls Tryz.prog 68 #[v, .func (.func 70) #[] #[.pointer (some ⟨p, 0, none⟩)]] w fun e w' => ∃ u, e = .returned u ∧ w'.ownsRow base 2 1 u (keepI ig l).length ((keepI ig l).map (Value.int .i64)) ∧ Below base w w' := by
  obtain ⟨A, c, rfl, hI⟩ := own_ints_ hown
  have hix := IndexFunc_ig A B n c p m d l ig w hI (cell_keep hb0 hp) (hy.below hb0)
  have hcm := hI.2.cap
  have hnc := hI.2.le
  unfold maxLen at hcm
  have HX := Lib.hid hI.1
  have HO := Lib.hid hown
  have hpl : p < w0.heap.size := World.block_lt_of_cell? w0 _ hp
  clear hI
  go_enter Tryz.func68, Tryz.ntmps68
  go_wp2_with fail
  refine hix.mono ?_
  rintro e_ w1 ⟨q, rfl, hq, h1⟩
  clear hix
  rcases hq with ⟨rfl, hall⟩ | ⟨k, rfl, hk, hpre, hat⟩
  · have HE := Lib.hid (keepI_all hall)
    have HB : Hid (Below base w w1) := h1.mono hbw
    have HO1 := Lib.hid (own_below HO.out h1)
    clear hall h1
    go_wp2
    go_ret
    exact ⟨_, rfl, by rw [HE.out, ← HX.out]; exact HO1.out, HB.out⟩
  · have hkn : k < n := by rw [HX.out]; exact hk
    obtain ⟨g, cap, hv⟩ := own_shapeL HO.out (by omega)
    injection hv with e1 _ e3
    subst e1; subst e3
    obtain ⟨x0, hx0⟩ : ∃ x0, l[k]? = some x0 := ⟨_, List.getElem?_eq_getElem hk⟩
    rw [hx0] at hat
    have hat' : hasG ig x0 = true := by simpa using hat
    have HS := Lib.hid (show keepI ig (l.take (k + 1)) = l.take k by rw [keepI_snoc hx0, if_pos hat', List.append_nil, keepI_all hpre])
    have hne1 : ((k : Int) == -1) = false := beq_eq_false_iff_ne.2 (by omega)
    have HOS := Lib.hid (And.intro HX.out.symm (own_below HO.out h1))
    have HBS : Hid (Below base w w1) := h1.mono hbw
    have hgl := (HO.out.lt g rfl)
    clear hat hx0 hat' hpre h1 HO hown
    go_wp2
    go_loopw [5, 6] (fun iv jv wr => ∃ (i j : Nat) (ys : List Int), iv = .int .i64 i ∧ jv = .int .i64 j ∧ i < j ∧ j ≤ n ∧ Hid (keepI ig (l.take j) = ys.take i) ∧ Hid (ys.drop j = l.drop j) ∧ Hid (ys.length = n ∧ wr.ownsRow base 2 1 (.slice (some ⟨g, 0, none⟩) n c) n (ys.map (Value.int .i64))) ∧ Hid (Below base w wr)) (fun _ jv _ => n - (intOf jv).toNat)
    case atStart => exact ⟨k, k + 1, l, rfl, by go_num, by omega, by omega, HS.out, rfl, HOS.out, HBS.out⟩
    case round =>
      clear HS HOS HBS
      obtain ⟨i, j, ys, rfl, rfl, hij, hjn, hK, hD, hO, hB⟩ := hrel
      have hln := hO.out.1
      have ho := hO.out.2
      by_cases hlt : j < n
      · obtain ⟨x, hx⟩ : ∃ x, l[j]? = some x := ⟨_, List.getElem?_eq_getElem (by rw [← HX.out]; exact hlt)⟩
        have hyx : ys[j]? = some x := by
          have := congrArg (fun t => t[0]?) hD.out
          simp only [List.getElem?_drop, Nat.add_zero] at this
          rw [this, hx]
        have cj := ho.cellAt j (by simpa using hlt)
        rw [List.getElem?_map, hyx] at cj
        replace cj : wr.cell? ⟨g, j, none⟩ = some (.int .i64 x) := cj
        have hw0 : Below w0.heap.size w0 wr := hb0.trans (hB.out.mono hbase)
        have hig := ignored_any x p m d B ig wr (cell_keep hw0 hp) (Nat.lt_of_lt_of_le hpl hw0.size) (hy.below hw0)
        have hd1 : ys.drop (j + 1) = l.drop (j + 1) := by
          have := congrArg (List.drop 1) hD.out
          rw [List.drop_drop, List.drop_drop] at this
          exact this
        have HLN := Lib.hid hln
        cases hh : hasG ig x with
        | true =>
          rw [hh] at hig
          have HK := Lib.hid (show keepI ig (l.take (j + 1)) = ys.take i by rw [keepI_snoc hx, if_pos hh, List.append_nil, hK.out])
          have HD := Lib.hid hd1
          clear hh hx hyx hK hD hln hd1
          go_wp2_with fail
          refine hig.mono ?_
          rintro e_ w2 ⟨rfl, h2⟩
          have HO2 := Lib.hid (And.intro HLN.out (own_below ho h2))
          have HB2 := Lib.hid (show Below base w w2 from hB.out.trans (h2.mono (Nat.le_trans hbw hB.out.size)))
          clear hig h2 hO hB ho
          go_wp2
          go_roundw
          case rel => exact ⟨i, j + 1, ys, rfl, by go_num, by omega, by omega, HK.out, HD.out, HO2.out, HB2.out⟩
          case measure => simp [intOf]; omega
        | false =>
          rw [hh] at hig
          have HK := Lib.hid (show keepI ig (l.take (j + 1)) = (ys.set i x).take (i + 1) by rw [keepI_snoc hx, if_neg (by rw [hh]; simp), hK.out, set_take_succ (by omega)])
          have HD := Lib.hid (show (ys.set i x).drop (j + 1) = l.drop (j + 1) by rw [List.drop_set_of_lt (by omega)]; exact hd1)
          clear hh hx hyx hK hD hln hd1
          go_wp2_with fail
          refine hig.mono ?_
          rintro e_ w2 ⟨rfl, h2⟩
          have ho2 := own_below ho h2
          have ci := ho2.cellAt i (by have := HLN.out; simp; omega)
          have fi := ho2.frozenAt i
          rw [List.getElem?_eq_getElem (by have := HLN.out; simp; omega)] at ci
          obtain ⟨u0, hu0⟩ : ∃ u0, w2.cell? ⟨g, i, none⟩ = some u0 := ⟨_, ci⟩
          clear ci
          have st := ho2.stored i (.int .i64 x)
          have HO2 := Lib.hid (show (ys.set i x).length = n ∧ (w2.setCell ⟨g, i, none⟩ (.int .i64 x)).ownsRow base 2 1 (.slice (some ⟨g, 0, none⟩) n c) n ((ys.set i x).map (Value.int .i64)) from ⟨by rw [List.length_set]; exact HLN.out, by rw [List.map_set]; exact st.1⟩)
          have HB2 := Lib.hid (show Below base w (w2.setCell ⟨g, i, none⟩ (.int .i64 x)) from (hB.out.trans (h2.mono (Nat.le_trans hbw hB.out.size))).setCell hgl.1 _)
          clear hig h2 hO hB ho ho2 st cj
          go_wp2
          go_roundw
          case rel => exact ⟨i + 1, j + 1, ys.set i x, by go_num, by go_num, by omega, by omega, HK.out, HD.out, HO2.out, HB2.out⟩
          case measure => simp [intOf]; omega
      · obtain rfl : j = n := by omega
        have HKL := Lib.hid (show keepI ig l = ys.take i by rw [← hK.out, List.take_of_length_le (by rw [HX.out]; exact Nat.le_refl _)])
        have hki : (ys.take i).length = i := by rw [List.length_take]; omega
        have hci : ¬ c = i := by omega
        have hic : i ≤ c := by omega
        have hin : i ≤ j := by omega
        have hcl := Lib.run_clear_slice (P := Tryz.prog) wr _ _ 0 _ Tryz.underlying25 Tryz.zeroValue2 rfl rfl g i (j - i) (c - i) (by omega) (fun t ht => by rw [ho.cellAt (i + t) (by omega), List.getElem?_eq_getElem (by simp; omega)]; rfl) (fun t ht => ho.frozenAt (i + t))
        obtain ⟨y2, o2, t2, g2⟩ := own_stores (List.replicate (j - i) (Value.int .i64 0)) i wr _ ho
        have o3 := own_cut1 o2 hin
        rw [t2, ← List.map_take] at o3
        have HO3 := Lib.hid (show (wr.setCells g i (List.replicate (j - i) (Value.int .i64 0))).ownsRow base 2 1 (.slice (some ⟨g, 0, none⟩) i c) (keepI ig l).length ((keepI ig l).map (Value.int .i64)) by rw [HKL.out, hki]; exact o3)
        have HB3 := Lib.hid (show Below base w (wr.setCells g i (List.replicate (j - i) (Value.int .i64 0))) from hB.out.grown g2 (Nat.le_trans hbw hB.out.size) (fun q hq => by have e : g = q := Option.some.inj hq; omega))
        clear hK hD hO hB hln ho o2 t2 g2 o3 hki
        go_wp2
        go_ret
        exact ⟨_, rfl, HO3.out, HB3.out⟩
end Go.Proofs.YtpnbbhomkneflaaGreatDoor
