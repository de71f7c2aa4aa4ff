/- The reference's search for a text with two parsings. -/
import Derived.Test.YtnjjfcdddkabbaaDoorAmbE
import Derived.Test.YtnjjfcdddkabbaaDoorMix
import Derived.Deep.LoopGhost
namespace Go.Proofs.YtnjjfcdddkabbaaDoor
open Go.ChangeShapes Go.WideShapes Go.ChangeAt Go.RowKit

theorem pre_mk {x s : ByteArray} (h1 : x.size ≤ s.size) (h2 : s.extract 0 x.size = x) : pre x s = true := by unfold pre; rw [h2]; simp [h1]
theorem pre_no1 {x s : ByteArray} (h1 : ¬ x.size ≤ s.size) : pre x s = false := by unfold pre; simp [h1]
theorem pre_no2 {x s : ByteArray} (h2 : ¬ s.extract 0 x.size = x) : pre x s = false := by unfold pre; simp [h2]
set_option maxRecDepth 100000 in
set_option maxHeartbeats 4000000 in
theorem l05Ambiguous_any (A : Option Addr) (n c : Nat) (T : List Rl) (w : World) (hx : Rules w A n c T) (hT : isTab T = true) :
    Calls Tryd.prog 15 #[.slice A n c] w fun e w' => e = .returned (.tuple #[.string (ambT T), .bool (ambB T)]) ∧ Below w.heap.size w w' := by
  have hcm := hx.cap.2
  have hnc := hx.cap.1
  have HX := Lib.hid hx.1
  have hR := Lib.hid (roms_small hT)
  have hlT : T.length ≤ 30 := isTab_len hT
  have hl30 : (roms T).length ≤ 30 := by rw [roms_len]; exact hlT
  have HRL := Lib.hid (show (roms T).length = n by rw [roms_len, hx.1])
  have hn30 : n ≤ 30 := by rw [hx.1]; exact hlT
  unfold maxLen at hcm
  clear hT
  go_enter Tryd.func15, Tryd.ntmps15
  go_wp2
  go_loopw [4, 5, 6] (fun v1_ v2_ iv wr => ∃ (i : Nat) (rs ts : List ByteArray) (v1 v2 : Value), i ≤ n ∧ iv = .int .i64 i ∧ v1 = v1_ ∧ v2 = v2_ ∧ Hid (InFirst (roms T) i 0 (lookB rs ts)) ∧ Hid (Two (roms T) rs ts) ∧ Hid (Own2 wr w.heap.size v1 v2 rs ts) ∧ Hid (Below w.heap.size w wr)) (fun _ _ i _ => n - (intOf i).toNat)
  case atStart =>
    have hs0 : (w.alloc (.cells #[] 9)).heap.size = w.heap.size + 1 := by simp
    have o2 := World.ownsRow_lit (base := w.heap.size) (e := 9) (size := 1) (w.alloc (.cells #[] 9)) #[] 0 (by simp) (by unfold maxLen; omega) rfl
    rw [hs0] at o2
    refine ⟨0, [], [], _, _, Nat.zero_le _, rfl, rfl, rfl, inFirst_start _, two_start _, ⟨own_below (World.ownsRow_lit (base := w.heap.size) (e := 9) (size := 1) w #[] 0 (Nat.le_refl _) (by unfold maxLen; omega) rfl) (one_boxU _ _), o2, fun k hk e => ?_⟩, two_boxes _ _ _⟩
    simp [Value.ownBlock] at hk e
    omega
  case round =>
    obtain ⟨i, rs, ts, v1, v2, hi, rfl, rfl, rfl, hF, hTw, hO, hBo⟩ := hrel
    by_cases hlt : i < n
    · rename World => wo
      go_wp2
      go_loopw [4, 5, 7] (fun v1_ v2_ kv wr => ∃ (k : Nat) (rs ts : List ByteArray) (v1 v2 : Value), k ≤ n ∧ kv = .int .i64 k ∧ v1 = v1_ ∧ v2 = v2_ ∧ Hid (InFirst (roms T) i k (lookB rs ts)) ∧ Hid (Two (roms T) rs ts) ∧ Hid (Own2 wr w.heap.size v1 v2 rs ts) ∧ Hid (Below w.heap.size w wr)) (fun _ _ k _ => n - (intOf k).toNat)
      case atStart => exact ⟨0, rs, ts, _, _, Nat.zero_le _, rfl, rfl, rfl, hF, hTw, hO, hBo⟩
      case round =>
        clear hF hTw hO hBo
        obtain ⟨k, rs, ts, v1, v2, hk, rfl, rfl, rfl, hF, hTw, hO, hBo⟩ := hrel
        by_cases hlt2 : k < n
        · have hb := hBo.out
          obtain ⟨b, off, rfl, hbl⟩ := hx.at_ k hlt2
          obtain ⟨B1, m1, d1, xs1, s1, hT1, c0, c1, _, hz1⟩ := hx.el hb i hlt
          obtain ⟨B2, m2, d2, xs2, s2, hT2, c2, c3, _, hz2⟩ := hx.el hb k hlt2
          have r1 := Lib.hid (roms_at hT1.out)
          have r2 := Lib.hid (roms_at hT2.out)
          unfold maxLen at hz1 hz2
          have hbw : b < wr.heap.size := Nat.lt_of_lt_of_le hbl hb.size
          have e1 : (i : Int) < (n : Int) := by omega
          have e2 : (k : Int) < (n : Int) := by omega
          have e3 : (0 : Int) ≤ (i : Int) := by omega
          have e4 : (0 : Int) ≤ (k : Int) := by omega
          clear hT1 hT2
          by_cases hik : i = k
          · have HF := Lib.hid (inFirst_skip hF.out r1.out r2.out (.inl hik))
            have q1 : ((i : Int) != (k : Int)) = false := by rw [hik]; simp
            have HIK := Lib.hid hik
            clear hik hF
            go_wp2_with fail
            refine wp_region_later (by kernel_rfl) (by kernel_rfl) ?_
            repeat (go_big_quiet_step (fail))
            refine wpQuiet_nil ?_
            intro w2 hw2; have h2 := later_below hw2; clear hw2
            have HO2 := Lib.hid (hO.out.below h2)
            have HB2 := Lib.hid (nextU hb h2 hb.size)
            clear hO hBo hb h2
            go_wp2
            go_roundw
            case rel => exact ⟨k + 1, rs, ts, _, _, by omega, by go_num, rfl, rfl, HF, hTw, HO2, HB2⟩
            case measure => simp [intOf]; omega
          · have q1 : ((i : Int) != (k : Int)) = true := by simpa using fun e : (i : Int) = k => hik (by omega)
            by_cases h1 : s1.size ≤ s2.size
            · have h1' : (s1.size : Int) ≤ (s2.size : Int) := by omega
              by_cases h2 : s2.extract 0 s1.size = s1
              · have hp := pre_mk h1 h2
                have hq : ((s2.extract 0 s1.size).toList == s1.toList) = true := by rw [h2]; simp
                obtain ⟨g1, g2, g3⟩ := init_fits (f := lookB rs ts) hR.out r1.out r2.out hik hp
                have HF := Lib.hid (inFirst_learn hR.out hF.out r1.out r2.out hik hp)
                have HL := Lib.hid (fun W hW hO => l05Learn_any (roms T) rs ts (s2.extract s1.size s2.size) s2 w.heap.size v1 v2 W hW hO hTw.out g2 g3 hR.out hl30)
                clear h2 hp g1 g2 g3 hF hTw hik
                go_wp2_with fail
                refine wp_region_later (by kernel_rfl) (by kernel_rfl) ?_
                repeat (go_big_quiet_step (fail))
                refine wpQuiet_nil ?_
                intro w2 hw2; have h2 := later_below hw2; clear hw2
                have hO2 := hO.out.below h2
                have hb2 := nextU hb h2 hb.size
                clear hO hBo hb h2
                go_wp2_with fail
                refine (HL.out _ hb2.size hO2).mono ?_
                rintro e_ w3 ⟨u1, u2, rs', ts', rfl, o3, t3, l3, _, _, b3⟩
                have HT3 := Lib.hid t3
                have HF3 := Lib.hid (show InFirst (roms T) i (k + 1) (lookB rs' ts') by rw [l3]; exact HF.out)
                have HO3 := Lib.hid o3
                have HB3 := Lib.hid (hb2.trans b3)
                clear HF HL t3 l3 o3 b3 hO2 hb2
                go_wp2
                go_roundw
                case rel => exact ⟨k + 1, rs', ts', _, _, by omega, by go_num, rfl, rfl, HF3, HT3, HO3, HB3⟩
                case measure => simp [intOf]; omega
              · have HF := Lib.hid (inFirst_skip hF.out r1.out r2.out (.inr (pre_no2 h2)))
                have hne := text_ne h2
                clear hF h2 hik
                go_wp2_with fail
                refine wp_region_later (by kernel_rfl) (by kernel_rfl) ?_
                repeat (go_big_quiet_step (fail))
                refine wpQuiet_nil ?_
                intro w2 hw2; have h2 := later_below hw2; clear hw2
                have HO2 := Lib.hid (hO.out.below h2)
                have HB2 := Lib.hid (nextU hb h2 hb.size)
                clear hO hBo hb h2
                go_wp2
                go_roundw
                case rel => exact ⟨k + 1, rs, ts, _, _, by omega, by go_num, rfl, rfl, HF, hTw, HO2, HB2⟩
                case measure => simp [intOf]; omega
            · have HF := Lib.hid (inFirst_skip hF.out r1.out r2.out (.inr (pre_no1 h1)))
              have h1' : ¬ (s1.size : Int) ≤ (s2.size : Int) := by omega
              clear hF hik
              go_wp2_with fail
              refine wp_region_later (by kernel_rfl) (by kernel_rfl) ?_
              repeat (go_big_quiet_step (fail))
              refine wpQuiet_nil ?_
              intro w2 hw2; have h2 := later_below hw2; clear hw2
              have HO2 := Lib.hid (hO.out.below h2)
              have HB2 := Lib.hid (nextU hb h2 hb.size)
              clear hO hBo hb h2
              go_wp2
              go_roundw
              case rel => exact ⟨k + 1, rs, ts, _, _, by omega, by go_num, rfl, rfl, HF, hTw, HO2, HB2⟩
              case measure => simp [intOf]; omega
        · obtain rfl : n = k := by omega
          have HF := Lib.hid (inFirst_row hF.out (by rw [HRL.out]; exact Nat.le_refl _))
          clear hF
          go_wp2
          go_roundw
          case rel => exact ⟨i + 1, rs, ts, _, _, by omega, by go_num, rfl, rfl, HF, hTw, hO, hBo⟩
          case measure => simp [intOf]; omega
    · obtain rfl : n = i := by omega
      have HI := Lib.hid (initsTo_end hF.out.to (by rw [HRL.out]; exact Nat.le_refl _))
      have HG := Lib.hid hF.out.goes
      clear hF hlt hi
      rename World => wo
      go_wp2
      go_loopg [4, 5, 10] (2 * phiB (roms T) (lookB rs ts) + 1) (fun p v1_ v2_ chv wr => ∃ (rs ts : List ByteArray) (ch : Bool) (v1 v2 : Value), chv = .bool ch ∧ v1 = v1_ ∧ v2 = v2_ ∧ Hid (p = 2 * phiB (roms T) (lookB rs ts) + (if ch = true then 1 else 0)) ∧ Hid (Goes (roms T) (lookB rs ts)) ∧ Hid (Inits (roms T) (lookB rs ts)) ∧ Hid (ch = false → Done (roms T) (lookB rs ts)) ∧ Hid (Two (roms T) rs ts) ∧ Hid (Own2 wr w.heap.size v1 v2 rs ts) ∧ Hid (Below w.heap.size w wr))
      case atStart => exact ⟨rs, ts, true, _, _, rfl, rfl, rfl, rfl, HG, HI, fun h => (by cases h), hTw, hO, hBo⟩
      case round =>
        clear hO hBo hTw HI HG
        obtain ⟨rs, ts, ch, v1, v2, rfl, rfl, rfl, hp, hG, hI, hD, hTw, hO, hBo⟩ := hrel
        cases ch with
        | false =>
          obtain ⟨am1, am2⟩ := amb_is (hD.out rfl)
          have hlen := hTw.out.len
          obtain ⟨sm1, sm2, sm3⟩ := two_small hR.out hl30 hTw.out
          obtain ⟨A1, c1, rfl, hs1⟩ := own_strs hO.out.one (fun s hs => by have := sm1 s hs; unfold maxLen; omega)
          have hfi := l03Find_any A1 rs.length c1 rs ⟨#[]⟩ wr hs1
          cases hh : hasT rs ⟨#[]⟩ with
          | false =>
            rw [fnd_none hh] at hfi
            rw [look_none hh] at am1 am2
            have HAM := Lib.hid (And.intro am1 am2)
            have HFI := Lib.hid hfi
            clear am1 am2 hfi hs1 sm1 sm2 hh hp hG hI hD hTw hO hlen
            go_wp2_with fail
            refine HFI.out.mono ?_
            rintro e_ w1 ⟨rfl, h1⟩
            have HB1 := Lib.hid (nextU hBo.out h1 hBo.out.size)
            clear hBo h1
            go_wp2
            go_ret2
            exact ⟨by rw [HAM.out.1, HAM.out.2]; rfl, HB1.out⟩
          | true =>
            obtain ⟨k, hk1, hk2⟩ := hasT_first hh
            rw [fnd_at hk1 hk2] at hfi
            have hkl := (List.getElem?_eq_some_iff.1 hk1).1
            obtain ⟨u, hu⟩ : ∃ u, ts[k]? = some u := ⟨_, List.getElem?_eq_getElem (by omega)⟩
            obtain ⟨g, c2, rfl, hg, _, _, c0⟩ := own_text hO.out.two hu
            rw [look_at hk1 hk2 hu] at am1 am2
            have HAM := Lib.hid (And.intro am1 am2)
            have HFI := Lib.hid hfi
            obtain ⟨q, hq⟩ : ∃ q, ts.length = q := ⟨_, rfl⟩
            have hkq : (k : Int) < (q : Int) := by omega
            rw [hq]
            clear am1 am2 hfi hs1 sm1 sm2 hh hp hG hI hD hTw hO hlen hk1 hk2 hu hkl hq
            go_wp2_with fail
            refine HFI.out.mono ?_
            rintro e_ w1 ⟨rfl, h1⟩
            have c1' := cell_keep h1 c0
            have hgw := Nat.lt_of_lt_of_le hg h1.size
            have HB1 := Lib.hid (nextU hBo.out h1 hBo.out.size)
            clear hBo h1 c0
            go_wp2
            go_ret2
            exact ⟨by rw [HAM.out.1, HAM.out.2]; rfl, HB1.out⟩
        | true =>
          clear hD
          have hp' := hp.out
          rw [if_pos rfl] at hp'
          have HP := Lib.hid hp'
          have HA0 := Lib.hid (inAll_start (ts.zip rs) hG.out hI.out)
          clear hp hp' hG hI
          rename World => wq
          go_wp2
          go_loopw [4, 5, 10, 11] (fun v1_ v2_ chv iv wr => ∃ (i : Nat) (rs1 ts1 : List ByteArray) (ch : Bool) (v1 v2 : Value), i ≤ rs1.length ∧ iv = .int .i64 i ∧ chv = .bool ch ∧ v1 = v1_ ∧ v2 = v2_ ∧ Hid (InAll (roms T) (lookB rs ts) (ts.zip rs) i (lookB rs1 ts1) ch) ∧ Hid (ch = false → rs1 = rs ∧ ts1 = ts) ∧ Hid (Two (roms T) rs1 ts1) ∧ Hid (Own2 wr w.heap.size v1 v2 rs1 ts1) ∧ Hid (Below w.heap.size w wr)) (fun _ _ _ i _ => 150 - (intOf i).toNat)
          case atStart => exact ⟨0, rs, ts, false, _, _, Nat.zero_le _, rfl, rfl, rfl, rfl, HA0, fun _ => ⟨rfl, rfl⟩, hTw, hO, hBo⟩
          case round =>
            clear hO hBo hTw HA0
            obtain ⟨i, rs1, ts1, ch, v1, v2, hi, rfl, rfl, rfl, rfl, hA, hS, hTw, hO, hBo⟩ := hrel
            by_cases hlt : i < rs1.length
            · obtain ⟨x, hxi⟩ : ∃ x, rs1[i]? = some x := ⟨_, List.getElem?_eq_getElem hlt⟩
              obtain ⟨t, hti⟩ : ∃ t, ts1[i]? = some t := ⟨_, List.getElem?_eq_getElem (by have := hTw.out.len; omega)⟩
              obtain ⟨g1, c1, rfl, hg1, hc1, hm1, d1⟩ := own_text hO.out.one hxi
              obtain ⟨g2, c2, rfl, hg2, hc2, hm2, d2⟩ := own_text hO.out.two hti
              obtain ⟨sm1, sm2, sm3⟩ := two_small hR.out hl30 hTw.out
              have hxs := sm1 x (List.mem_of_getElem? hxi)
              have hts := sm2 t (List.mem_of_getElem? hti)
              have HRow := Lib.hid (inRow_start hA.out hA.out.goes (Nat.le_refl _) (hTw.out.get hxi hti) (fun h => by
                obtain ⟨e1, e2⟩ := hS.out h
                subst e1; subst e2
                exact zip_at hxi hti))
              obtain ⟨q, hq⟩ : ∃ q, rs1.length = q := ⟨_, rfl⟩
              have hq2 : ts1.length = q := by have := hTw.out.len; omega
              have hlt0 := hlt
              rw [hq] at hi hlt sm3
              rw [hq, hq2] at hO
              rw [hq, hq2]
              have HQ := Lib.hid hq
              have HQ2 := Lib.hid hq2
              have hli : (i : Int) < (q : Int) := by omega
              unfold maxLen at hm1 hm2
              clear hq hq2 hA sm1 sm2 hxi hti hi
              go_wp2_with fail
              refine wp_region_later (by kernel_rfl) (by kernel_rfl) ?_
              repeat (go_big_quiet_step (fail))
              refine wpQuiet_nil ?_
              intro w2 hw2; have h2 := later_below hw2; clear hw2
              have HO2 := Lib.hid (hO.out.below h2)
              have HB2 := Lib.hid (nextU hBo.out h2 hBo.out.size)
              clear hO hBo h2 d1 d2
              rename World => wo2
              go_wp2
              go_loopw [4, 5, 10, 14] (fun v1_ v2_ chv kv wr => ∃ (k : Nat) (rs2 ts2 : List ByteArray) (ch : Bool) (v1 v2 : Value), k ≤ n ∧ kv = .int .i64 k ∧ chv = .bool ch ∧ v1 = v1_ ∧ v2 = v2_ ∧ Hid (InRow (roms T) (lookB rs ts) (ts.zip rs) i x t k (lookB rs2 ts2) ch) ∧ Hid (ch = false → rs2 = rs ∧ ts2 = ts) ∧ i < rs2.length ∧ Hid (Two (roms T) rs2 ts2) ∧ Hid (Own2 wr w.heap.size v1 v2 rs2 ts2) ∧ Hid (Below w.heap.size w wr)) (fun _ _ _ k _ => n - (intOf k).toNat)
              case atStart => exact ⟨0, rs1, ts1, ch, _, _, Nat.zero_le _, rfl, rfl, rfl, rfl, HRow, hS, hlt0, hTw, HO2, HB2⟩
              case round =>
                clear HRow hS hTw HO2 HB2
                obtain ⟨k, rs2, ts2, ch, v1, v2, hk, rfl, rfl, rfl, rfl, hRow, hS, hil, hTw, hO, hBo⟩ := hrel
                by_cases hgo : k < n ∧ 0 < x.size
                · obtain ⟨hlt2, h0⟩ := hgo
                  have hb := hBo.out
                  have hne0 := text_someU h0
                  obtain ⟨b, off, rfl, hbl⟩ := hx.at_ k hlt2
                  obtain ⟨B1, m1, d1, xs1, r, hT1, e0, e1, _, hz1⟩ := hx.el hb k hlt2
                  have r1 := Lib.hid (roms_at hT1.out)
                  have hr4 := hR.out r (List.mem_of_getElem? r1.out)
                  have hbw : b < wr.heap.size := Nat.lt_of_lt_of_le hbl hb.size
                  have q1 : (k : Int) < (n : Int) := by omega
                  have q2 : (0 : Int) ≤ (k : Int) := by omega
                  clear hT1 hz1
                  by_cases h1 : r.size ≤ x.size
                  · have h1' : (r.size : Int) ≤ (x.size : Int) := by omega
                    by_cases h2 : x.extract 0 r.size = r
                    · have hp := pre_mk h1 h2
                      have hq : ((x.extract 0 r.size).toList == r.toList) = true := by rw [h2]; simp
                      obtain ⟨nb, HL⟩ := learn_row hR.out hl30 hTw.out hRow.out r1.out (by omega) (stepB_under hp)
                      have HL := Lib.hid HL
                      clear h2 hp
                      go_wp2_with fail
                      refine (HL.out w.heap.size _ _ _ hb.size hO.out).mono ?_
                      rintro e_ w3 ⟨u1, u2, rs', ts', rfl, o3, t3, r3, n3, ln3, b3⟩
                      have HT3 := Lib.hid t3
                      have HR3 := Lib.hid r3
                      have HO3 := Lib.hid o3
                      have HB3 := Lib.hid (hBo.out.trans b3)
                      have HS3 := Lib.hid (show (ch || nb) = false → rs' = rs ∧ ts' = ts from fun h => by
                        rw [Bool.or_eq_false_iff] at h
                        obtain ⟨a1, a2⟩ := n3 h.2
                        obtain ⟨a3, a4⟩ := hS.out h.1
                        exact ⟨a1.trans a3, a2.trans a4⟩)
                      have hil' := Nat.lt_of_lt_of_le hil ln3
                      clear HL t3 r3 o3 b3 n3 hO hBo hS hRow
                      cases ch <;> cases nb
                      all_goals
                        go_wp2
                        go_roundw
                        case rel => exact ⟨k + 1, rs', ts', _, _, _, by omega, by go_num, rfl, rfl, rfl, HR3, HS3, hil', HT3, HO3, HB3⟩
                        case measure => simp [intOf]; omega
                    · have hne := text_ne h2
                      have hxr : ¬ x.size < r.size := by omega
                      have hxri : ¬ (x.size : Int) < (r.size : Int) := by omega
                      have HR3 := Lib.hid (inRow_none hRow.out r1.out (stepB_none (by cases hpx : pre x r with | false => rfl | true => exact absurd (by obtain rfl := pre_same hpx h1; exact (pre_eq hpx).2) h2) (pre_no2 h2)))
                      clear hRow h2 hxr
                      cases ch
                      all_goals
                        go_wp2
                        go_roundw
                        case rel => exact ⟨k + 1, rs2, ts2, _, _, _, by omega, by go_num, rfl, rfl, rfl, HR3, hS, hil, hTw, hO, hBo⟩
                        case measure => simp [intOf]; omega
                  · have h1' : ¬ (r.size : Int) ≤ (x.size : Int) := by omega
                    have h1'' : (x.size : Int) < (r.size : Int) := by omega
                    have hxr : (x.size : Int) ≤ (r.size : Int) := by omega
                    by_cases h2 : r.extract 0 x.size = x
                    · have hp := pre_mk (show x.size ≤ r.size by omega) h2
                      have hq : ((r.extract 0 x.size).toList == x.toList) = true := by rw [h2]; simp
                      obtain ⟨nb, HL⟩ := learn_row hR.out hl30 hTw.out hRow.out r1.out (by omega) (stepB_over hp)
                      have HL := Lib.hid HL
                      have hOd := Lib.hid (hO.out.below (Below.refl _ _).drew)
                      have hbd : w.heap.size ≤ wr.drew.heap.size := hb.size
                      have hcat : ¬ 9223372036854775807 < t.size + (r.size - x.size) := by omega
                      clear h2 hp
                      go_wp2_with fail
                      (go_region_law (first | (go_simp; go_at_call 26; refine (HL.out w.heap.size _ _ _ hbd hOd.out).mono ?_; rintro e_ w3 ⟨u1, u2, rs', ts', rfl, o3, t3, r3, n3, ln3, b3⟩)))
                      have hBo := Lib.hid hBo.out.drew
                      have HT3 := Lib.hid t3
                      have HR3 := Lib.hid r3
                      have HO3 := Lib.hid o3
                      have HB3 := Lib.hid (hBo.out.trans b3)
                      have HS3 := Lib.hid (show (ch || nb) = false → rs' = rs ∧ ts' = ts from fun h => by
                        rw [Bool.or_eq_false_iff] at h
                        obtain ⟨a1, a2⟩ := n3 h.2
                        obtain ⟨a3, a4⟩ := hS.out h.1
                        exact ⟨a1.trans a3, a2.trans a4⟩)
                      have hil' := Nat.lt_of_lt_of_le hil ln3
                      clear HL t3 r3 o3 b3 n3 hO hBo hS hRow
                      cases ch <;> cases nb
                      all_goals
                        go_wp2
                        go_roundw
                        case rel => exact ⟨k + 1, rs', ts', _, _, _, by omega, by go_num, rfl, rfl, rfl, HR3, HS3, hil', HT3, HO3, HB3⟩
                        case measure => simp [intOf]; omega
                    · have hne := text_ne h2
                      have HR3 := Lib.hid (inRow_none hRow.out r1.out (stepB_none (pre_no2 h2) (pre_no1 h1)))
                      clear hRow h2
                      cases ch
                      all_goals
                        go_wp2
                        go_roundw
                        case rel => exact ⟨k + 1, rs2, ts2, _, _, _, by omega, by go_num, rfl, rfl, rfl, HR3, hS, hil, hTw, hO, hBo⟩
                        case measure => simp [intOf]; omega
                · have HE := Lib.hid (inRow_end hRow.out (by
                    by_cases h0 : x.size = 0
                    · exact .inr h0
                    · exact .inl (by rw [HRL.out]; omega)))
                  have hq150 := (two_small hR.out hl30 hTw.out).2.2
                  clear hRow
                  by_cases hlt2 : k < n
                  · have h0 : ¬ 0 < x.size := fun h => hgo ⟨hlt2, h⟩
                    obtain rfl := text_nilU h0
                    have q1 : (k : Int) < (n : Int) := by omega
                    clear hgo h0
                    go_wp2
                    go_roundw
                    case rel => exact ⟨i + 1, rs2, ts2, ch, _, _, by omega, by go_num, rfl, rfl, rfl, HE, hS, hTw, hO, hBo⟩
                    case measure => simp [intOf]; omega
                  · obtain rfl : n = k := by omega
                    clear hgo
                    go_wp2
                    go_roundw
                    case rel => exact ⟨i + 1, rs2, ts2, ch, _, _, by omega, by go_num, rfl, rfl, rfl, HE, hS, hTw, hO, hBo⟩
                    case measure => simp [intOf]; omega
            · obtain rfl : i = rs1.length := by omega
              have HE := Lib.hid hA.out
              have HDn := Lib.hid (show ch = false → Done (roms T) (lookB rs1 ts1) from fun h => by
                have h1 := hA.out
                obtain ⟨e1, e2⟩ := hS.out h
                subst h
                exact inAll_done h1 (by rw [List.length_zip]; subst e1; omega) (fun x t hx => by subst e1; subst e2; exact zip_mem hx))
              have HGo := Lib.hid hA.out.goes
              have HIn := Lib.hid hA.out.inits
              have HM := Lib.hid (show 2 * phiB (roms T) (lookB rs1 ts1) + (if ch = true then 1 else 0) < gk by
                have h1 := hA.out.le
                have h2 := hA.out.lt
                rw [HP.out]
                cases ch with
                | false => simp; omega
                | true => have := h2 rfl; simp; omega)
              obtain ⟨q, hq⟩ : ∃ q, rs1.length = q := ⟨_, rfl⟩
              obtain ⟨A1, c1, rfl⟩ : ∃ A1 c1, v1 = .slice A1 q c1 := by
                rcases hO.out.one.2 with ⟨h0, h1⟩ | ⟨g, cap, cur, h0, _⟩
                · exact ⟨none, 0, by rw [h0, ← hq, ← h1]⟩
                · exact ⟨_, _, by rw [h0, hq]⟩
              rw [hq]
              clear hA hS hi hlt HP HE hq
              go_wp2
              go_roundg (2 * phiB (roms T) (lookB rs1 ts1) + (if ch = true then 1 else 0))
              case rel => exact ⟨rs1, ts1, ch, _, _, rfl, rfl, rfl, rfl, HGo, HIn, HDn, hTw, hO, hBo⟩
              case measure => exact HM.out
end Go.Proofs.YtnjjfcdddkabbaaDoor
