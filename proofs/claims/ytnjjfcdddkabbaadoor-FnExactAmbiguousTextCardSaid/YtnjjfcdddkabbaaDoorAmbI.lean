/- The program's search for a text with two parsings. -/
import Derived.Test.YtnjjfcdddkabbaaDoorAmbH
import Derived.Deep.LoopGhost
namespace Go.Proofs.YtnjjfcdddkabbaaDoor
open Go.ChangeShapes Go.WideShapes Go.ChangeAt Go.RowKit
theorem ext_noneU (r : ByteArray) : r.extract 0 (ByteArray.mk #[]).size = ⟨#[]⟩ := by
  apply ByteArray.ext
  rw [ByteArray.data_extract]
  show r.data.extract 0 0 = #[]
  simp
theorem ext_allU (r : ByteArray) : r.extract (ByteArray.mk #[]).size r.size = r := by
  show r.extract 0 r.size = r
  simp
theorem pre_noneU (r : ByteArray) : pre ⟨#[]⟩ r = true := by
  unfold pre
  rw [ext_noneU]
  show (decide (0 ≤ r.size) && decide True) = true
  simp
set_option maxRecDepth 100000 in
set_option maxHeartbeats 4000000 in
theorem ambiguous_any (A : Option Addr) (n c : Nat) (T : List Rl) (w : World) (hx : Rules w A n c T) (hT : isTab T = true) :
    Calls Tryd.prog 19 #[.slice A n c] w fun e w' => e = .returned (.tuple #[.string (ambT T), .bool (ambB T)]) ∧ Below w.heap.size w w' := by
  have hmm := @run_makeMap Tryd.prog
  obtain ⟨i0, hi0, hy0, hy1, hy2⟩ := info_parts infoLead
  have hcm := hx.cap.2
  have hnc := hx.cap.1
  have HX := Lib.hid hx.1
  have hR := Lib.hid (roms_small hT)
  have hlT : T.length ≤ 30 := isTab_len hT
  have hl30 : (roms T).length ≤ 30 := by rw [roms_len]; exact hlT
  have HRL := Lib.hid (show (roms T).length = n by rw [roms_len, hx.1])
  have hn30 : n ≤ 30 := by rw [hx.1]; exact hlT
  unfold maxLen at hcm
  clear hT
  go_enter Tryd.func19, Tryd.ntmps19
  go_wp2
  go_loopw [24] (fun iv wr => ∃ (i : Nat) (f : Best), i ≤ n ∧ iv = .int .i64 i ∧ Hid (InFirst (roms T) i 0 f) ∧ Hid (OwnB wr (roms T) w.heap.size f) ∧ Hid (Below w.heap.size w wr)) (fun i _ => n - (intOf i).toNat)
  case atStart => exact ⟨0, _, Nat.zero_le _, rfl, inFirst_start _, ⟨.map [], World.ownsMap_made _ _ _ _, mapB_start _⟩, one_boxU _ _⟩
  case round =>
    obtain ⟨i, f, hi, rfl, hF, hO, hBo⟩ := hrel
    by_cases hlt : i < n
    · rename World => wo
      have hb := hBo.out
      obtain ⟨b, off, rfl, hbl⟩ := hx.at_ i hlt
      obtain ⟨B1, m1, d1, xs1, s1, hT1, c0, c1, _, hz1⟩ := hx.el hb i hlt
      have r1 := Lib.hid (roms_at hT1.out)
      unfold maxLen at hz1
      have hbw : b < wo.heap.size := Nat.lt_of_lt_of_le hbl hb.size
      have hs14 := hR.out s1 (List.mem_of_getElem? r1.out)
      have hO1 := Lib.hid (hO.out.below (one_boxU wo (.cells #[.slice B1 m1 d1, .string s1] 39)))
      have hB1 := Lib.hid (nextU hb (one_boxU wo (.cells #[.slice B1 m1 d1, .string s1] 39)) hb.size)
      have hC1 := Lib.hid (show (wo.alloc (.cells #[.slice B1 m1 d1, .string s1] 39)).cell? ⟨wo.heap.size, 1, none⟩ = some (.string s1) by go_simp)
      have hwo := hO.out.lt
      clear hT1
      go_wp2
      go_loopw [31] (fun kv wr => ∃ (k : Nat) (f : Best), k ≤ n ∧ kv = .int .i64 k ∧ Hid (InFirst (roms T) i k f) ∧ Hid (OwnB wr (roms T) w.heap.size f) ∧ Hid (Below w.heap.size w wr) ∧ Hid (wr.cell? ⟨wo.heap.size, 1, none⟩ = some (.string s1))) (fun k _ => n - (intOf k).toNat)
      case atStart => exact ⟨0, f, Nat.zero_le _, rfl, hF, hO1, hB1, hC1⟩
      case round =>
        clear hF hO1 hB1 hC1 hO hBo c0 c1 hb hbw
        obtain ⟨k, f, hk, rfl, hF, hO, hBo, hC⟩ := hrel
        by_cases hlt2 : k < n
        · have hb := hBo.out
          obtain ⟨B2, m2, d2, xs2, s2, hT2, c2, c3, _, hz2⟩ := hx.el hb k hlt2
          have r2 := Lib.hid (roms_at hT2.out)
          have hs24 := hR.out s2 (List.mem_of_getElem? r2.out)
          have hbw : b < wr.heap.size := Nat.lt_of_lt_of_le hbl hb.size
          have hC0 := hC.out
          have hlb : wo.heap.size < wr.heap.size := World.block_lt_of_cell? wr _ hC0
          have hbx := one_boxU wr (.cells #[.slice B2 m2 d2, .string s2] 39)
          have hCx := cell_keep hbx hC0
          have hBx := nextU hb hbx hb.size
          have hOx := hO.out.below hbx
          have hDx : (wr.alloc (.cells #[.slice B2 m2 d2, .string s2] 39)).cell? ⟨wr.heap.size, 1, none⟩ = some (.string s2) := by go_simp
          clear hT2 hz2
          by_cases hik : i = k
          · have HF := Lib.hid (inFirst_skip hF.out r1.out r2.out (.inl hik))
            have q1 : ((i : Int) != (k : Int)) = false := by rw [hik]; simp
            have HOx := Lib.hid hOx
            have HBx := Lib.hid hBx
            have HCx := Lib.hid hCx
            clear hik hF hO hBo hOx hBx hCx hDx hbx hC
            go_wp2
            go_roundw
            case rel => exact ⟨k + 1, f, by omega, by go_num, HF, HOx, HBx, HCx⟩
            case measure => simp [intOf]; omega
          · have q1 : ((i : Int) != (k : Int)) = true := by simpa using fun e : (i : Int) = k => hik (by omega)
            cases hp : pre s1 s2 with
            | false =>
              have HF := Lib.hid (inFirst_skip hF.out r1.out r2.out (.inr hp))
              have HP := Lib.hid (isb (HasPrefix_any s2 s1 (wr.alloc (.cells #[.slice B2 m2 d2, .string s2] 39)) (by unfold maxLen; omega) (by unfold maxLen; omega)) hp)
              have HOx := Lib.hid hOx
              have HBx := Lib.hid hBx
              have HCx := Lib.hid hCx
              clear hik hF hO hBo hOx hBx hp hC hCx hDx
              go_wp2_with fail
              refine HP.out.mono ?_
              rintro e_ w3 ⟨rfl, h3⟩
              have HO3 := Lib.hid (HOx.out.below h3)
              have HB3 := Lib.hid (nextU HBx.out h3 HBx.out.size)
              have HC3 := Lib.hid (cell_keep h3 HCx.out)
              clear HP h3 HOx HBx HCx
              go_wp2
              go_roundw
              case rel => exact ⟨k + 1, f, by omega, by go_num, HF, HO3, HB3, HC3⟩
              case measure => simp [intOf]; omega
            | true =>
              have hle := (pre_eq hp).1
              have hlei : (s1.size : Int) ≤ (s2.size : Int) := by omega
              obtain ⟨g1, g2, g3⟩ := init_fits (f := f) hR.out r1.out r2.out hik hp
              have HF := Lib.hid (inFirst_learn hR.out hF.out r1.out r2.out hik hp)
              have HL := Lib.hid (fun W hO => improve_any (roms T) f w.heap.size (s2.extract s1.size s2.size) s2 W hO g2 g3 hR.out hl30)
              have HP := Lib.hid (isb (HasPrefix_any s2 s1 (wr.alloc (.cells #[.slice B2 m2 d2, .string s2] 39)) (by unfold maxLen; omega) (by unfold maxLen; omega)) hp)
              have HOx := Lib.hid hOx
              have HBx := Lib.hid hBx
              clear hik hF hO hBo hOx hBx hp hC g1 g2 g3
              go_wp2_with fail
              refine HP.out.mono ?_
              rintro e_ w3 ⟨rfl, h3⟩
              have hC3 := cell_keep h3 hCx
              have hD3 := cell_keep h3 hDx
              have HO3 := Lib.hid ((HOx.out.below h3).below (Below.refl _ _).drew)
              have HB3 := Lib.hid (nextU HBx.out h3 HBx.out.size)
              have hz3 : wo.heap.size < w3.heap.size := World.block_lt_of_cell? w3 _ hC3
              have hz4 : wr.heap.size < w3.heap.size := World.block_lt_of_cell? w3 _ hD3
              clear HP h3 HOx HBx hCx hDx hC0 c2 c3 hbx
              go_wp2_with fail
              (go_region_law (first | (go_simp; go_at_call 34; refine (HL.out _ HO3.out).mono ?_; rintro e_ w5 ⟨rfl, o5, g5⟩)))
              all_goals
                have HO5 := Lib.hid o5
                have HB5 := Lib.hid (belowU HB3.out.drew g5 (Nat.le_refl _) (Nat.le_refl _))
                have HC5 := Lib.hid (grown_cellU g5 (show w3.drew.cell? ⟨wo.heap.size, 1, none⟩ = some (.string s1) from hC3) (fun e => by injection e with e; have e : w.heap.size = wo.heap.size := e; omega))
                clear o5 g5 HL HO3 HB3 hC3 hD3
                go_wp2
                go_roundw
                case rel => exact ⟨k + 1, _, by omega, by go_num, HF, HO5, HB5, HC5⟩
                case measure => simp [intOf]; omega
        · obtain rfl : n = k := by omega
          have HF := Lib.hid (inFirst_row hF.out (by rw [HRL.out]; exact Nat.le_refl _))
          clear hF
          go_wp2
          go_roundw
          case rel => exact ⟨i + 1, f, by omega, by go_num, HF, hO, hBo⟩
          case measure => simp [intOf]; omega
    · obtain rfl : n = i := by omega
      have HI := Lib.hid (initsTo_end hF.out.to (by rw [HRL.out]; exact Nat.le_refl _))
      have HG := Lib.hid hF.out.goes
      clear hF hlt hi
      rename World => wo
      go_wp2
      go_loopg [9] (2 * phiB (roms T) f + 1) (fun p chv wr => ∃ (f : Best) (ch : Bool), chv = .bool ch ∧ Hid (p = 2 * phiB (roms T) f + (if ch = true then 1 else 0)) ∧ Hid (Goes (roms T) f) ∧ Hid (Inits (roms T) f) ∧ Hid (ch = false → Done (roms T) f) ∧ Hid (OwnB wr (roms T) w.heap.size f) ∧ Hid (Below w.heap.size w wr))
      case atStart => exact ⟨f, true, rfl, rfl, HG, HI, fun h => (by cases h), hO, hBo⟩
      case round =>
        clear hO hBo HI HG
        obtain ⟨f, ch, rfl, hp, hG, hI, hD, hO, hBo⟩ := hrel
        cases ch with
        | false =>
          obtain ⟨am1, am2⟩ := amb_is (hD.out rfl)
          obtain ⟨D, hown, hM⟩ := hO.out
          have hkey := Go.WideMaps.keyOf_string_mk (k := 9) Tryd.underlying9 (s := ⟨#[]⟩) (by unfold maxLen; decide)
          have HK := Lib.hid (show keyOf Tryd.prog 9 (.string ⟨#[]⟩) = some (keyL ⟨#[]⟩) from hkey)
          have HAM := Lib.hid (And.intro am1 am2)
          have HM := Lib.hid hM
          clear am1 am2 hp hG hI hD hO hM hkey
          go_wp2_with (at_lookup; refine wpList_lookup_text _ rfl _ _ _ rfl 9 9 keyedU Tryd.underlying51 Tryd.underlying9 (zeroStrU _) w.heap.size _ D rfl hown ⟨#[]⟩ rfl HK.out ?_; intro c hat hcz)
          have HE := Lib.hid (show ambT T = c ∧ ambB T = Go.Maps.has D (keyL ⟨#[]⟩) by
            rcases HM.out.look hat with ⟨h1, h2, h3⟩ | ⟨h1, h2⟩
            · rw [HAM.out.1, HAM.out.2, h1, h2, h3]; exact ⟨rfl, rfl⟩
            · rw [HAM.out.1, HAM.out.2, h1, h2]; exact ⟨rfl, rfl⟩)
          clear hat hown HK HM HAM
          go_wp2
          go_ret2
          exact ⟨by rw [HE.out.1, HE.out.2]; rfl, hBo.out⟩
        | true =>
          clear hD
          have hp' := hp.out
          rw [if_pos rfl] at hp'
          have HP := Lib.hid hp'
          have HG := Lib.hid hG.out
          have HI := Lib.hid hI.out
          clear hp hp' hG hI
          obtain ⟨D, hown, hM⟩ := hO.out
          have hsz : Go.Maps.size D ≤ 150 := by
            have h1 := hM.short
            have h2 := univ_len hR.out
            omega
          have HM := Lib.hid hM
          have hwq := hO.out.lt
          clear hO hM
          rename World => wq
          go_wp2_with (at_range; refine wpList_range_own _ rfl _ _ rfl 9 9 keyedU Tryd.underlying51 _ w.heap.size _ D rfl hown ?_; intro w0 hrg0 hg0 hs0)
          go_frame
          have hst := Lib.hid hs0
          have HRG := Lib.hid hrg0
          have HB0 := Lib.hid (hBo.out.grown hg0 hBo.out.size (fun j hj => by cases hj))
          clear hs0 hrg0 hg0 hown hBo
          go_loopw [10] (fun v_ wr => ∃ (left : Lit → Bool) (cnt : Nat) (L : List (ByteArray × ByteArray)) (v : Value), v = v_ ∧ Hid (wr.ranges Tryd.prog 9 (plainElem (H := Unit) Tryd.prog 9) w.heap.size wq.heap.size (Go.Maps.size D) D left cnt) ∧ Hid (Met f D left cnt L) ∧ Hid (wr.ownsRow (wq.heap.size + 1) 55 2 v L.length (leadCells L)) ∧ Hid (Below w.heap.size w wr)) (fun _ wr => wr.rangeLeft w.heap.size wq.heap.size)
          case atStart => exact ⟨_, _, [], _, rfl, HRG, met_start HM.out, World.ownsRow_nil _ _ _ _, HB0⟩
          case round =>
            clear HRG HB0 hst
            obtain ⟨left, cnt, L, v, rfl, hrg, hMet, hrow, hBo⟩ := hrel
            have hrgo := hrg.out
            have hrlt := hrgo.lt
            have hLl := hMet.out.len
            go_wp2_with (at_next; refine wpList_next_texts _ rfl _ rfl 9 9 keyedU Tryd.underlying9 Tryd.underlying9 w.heap.size wq.heap.size _ D _ _ rfl hrgo ?_ ?_)
            · intro hc0 hl0
              have HLm := Lib.hid (met_end hMet.out hl0)
              have HLo := Lib.hid hMet.out.of
              have hO := Lib.hid (show OwnB wr (roms T) w.heap.size f from ⟨D, hrgo.owns, HM.out⟩)
              obtain ⟨n5, hn5⟩ : ∃ n5, L.length = n5 := ⟨_, rfl⟩
              obtain ⟨A5, c5, rfl⟩ : ∃ A5 c5, v = .slice A5 n5 c5 := by
                rcases hrow.out.2 with ⟨h0, h1⟩ | ⟨g, cap, cur, h0, _⟩
                · exact ⟨none, 0, by rw [h0, ← hn5, ← h1]⟩
                · exact ⟨_, _, by rw [h0, hn5]⟩
              rw [hn5] at hrow
              have hn150 : n5 ≤ 150 := by omega
              have HN5 := Lib.hid hn5
              have HA0 := Lib.hid (inAll_start L HG.out HI.out)
              clear hc0 hl0 hMet hrg hrgo hrlt hLl HM hn5 HI
              rename World => wl
              go_wp2
              go_loopw [9, 75] (fun chv iv wr => ∃ (i : Nat) (f1 : Best) (ch : Bool), i ≤ n5 ∧ iv = .int .i64 i ∧ chv = .bool ch ∧ Hid (InAll (roms T) f L i f1 ch) ∧ Hid (OwnB wr (roms T) w.heap.size f1) ∧ Hid (wr.ownsRow (wq.heap.size + 1) 55 2 (.slice A5 n5 c5) n5 (leadCells L)) ∧ Hid (Below w.heap.size w wr)) (fun _ i _ => n5 - (intOf i).toNat)
              case atStart => exact ⟨0, f, false, Nat.zero_le _, rfl, rfl, HA0, hO, hrow, hBo⟩
              case round =>
                clear HA0 hO hrow hBo
                obtain ⟨i, f1, ch, hi, rfl, rfl, hA, hO, hrow, hBo⟩ := hrel
                by_cases hlt5 : i < n5
                · obtain ⟨⟨t, x⟩, hLi⟩ : ∃ p, L[i]? = some p := ⟨_, List.getElem?_eq_getElem (by rw [HN5.out]; exact hlt5)⟩
                  obtain ⟨g, rfl, hgw, hgb, hnc5, hcm5, e0, e1⟩ := own_lead hrow.out HN5.out hLi
                  have hfx := HLo.out _ (List.mem_of_getElem? hLi)
                  obtain ⟨hxs, hts⟩ := best_small hR.out hl30 HG.out.fit hfx
                  have HRow := Lib.hid (inRow_start hA.out HG.out hA.out.cnt hfx (fun _ => hLi))
                  have hbx := one_boxU wr (.cells #[.string t, .string x] 55)
                  have HOx := Lib.hid (hO.out.below hbx)
                  have HBx := Lib.hid (nextU hBo.out hbx hBo.out.size)
                  have HWx := Lib.hid (own_below hrow.out hbx)
                  have hwp := hO.out.lt
                  have HC := Lib.hid (show (wr.alloc (.cells #[.string t, .string x] 55)).cell? ⟨wr.heap.size, 0, none⟩ = some (.string t) by go_simp)
                  have HE := Lib.hid (show (wr.alloc (.cells #[.string t, .string x] 55)).cell? ⟨wr.heap.size, 1, none⟩ = some (.string x) by go_simp)
                  unfold maxLen at hcm5
                  have hi5 : (i : Int) < (n5 : Int) := by omega
                  clear hA hO hrow hBo hfx hLi
                  rename World => wp
                  go_wp2
                  go_loopw [9, 81] (fun chv kv wr => ∃ (k : Nat) (f1 : Best) (ch : Bool), k ≤ n ∧ kv = .int .i64 k ∧ chv = .bool ch ∧ Hid (InRow (roms T) f L i x t k f1 ch) ∧ Hid (OwnB wr (roms T) w.heap.size f1) ∧ Hid (wr.ownsRow (wq.heap.size + 1) 55 2 (.slice (some ⟨g, 0, none⟩) n5 c5) n5 (leadCells L)) ∧ Hid (wr.cell? ⟨wp.heap.size, 0, none⟩ = some (.string t)) ∧ Hid (wr.cell? ⟨wp.heap.size, 1, none⟩ = some (.string x)) ∧ Hid (Below w.heap.size w wr)) (fun _ k _ => n - (intOf k).toNat)
                  case atStart => exact ⟨0, f1, ch, Nat.zero_le _, rfl, rfl, HRow, HOx, HWx, HC, HE, HBx⟩
                  case round =>
                    clear HRow HOx HWx HC HE HBx e0 e1 hbx hgw
                    obtain ⟨k, f1, ch, hk, rfl, rfl, hRow, hO, hrow, hC, hE, hBo⟩ := hrel
                    by_cases hlt2 : k < n
                    · obtain ⟨b, off, rfl, hbl⟩ := hx.at_ k hlt2
                      obtain ⟨B2, m2, d2, xs2, r, hT2, c2, c3, _, hz2⟩ := hx.el hBo.out k hlt2
                      have r1 := Lib.hid (roms_at hT2.out)
                      have hr4 := hR.out r (List.mem_of_getElem? r1.out)
                      have hbw : b < wr.heap.size := Nat.lt_of_lt_of_le hbl hBo.out.size
                      have hC0 := hC.out
                      have hE0 := hE.out
                      have hlb : wp.heap.size < wr.heap.size := World.block_lt_of_cell? wr _ hC0
                      have hbx := one_boxU wr (.cells #[.slice B2 m2 d2, .string r] 39)
                      have hCx := cell_keep hbx hC0
                      have hEx := cell_keep hbx hE0
                      have HOx := Lib.hid (hO.out.below hbx)
                      have HBx := Lib.hid (nextU hBo.out hbx hBo.out.size)
                      have HWx := Lib.hid (own_below hrow.out hbx)
                      clear hT2 hz2 hO hrow hC hE hBo
                      by_cases h0 : 0 < x.size
                      · have hne0 := text_someU h0
                        cases hp : pre x r with
                        | true =>
                          obtain ⟨nb, HL⟩ := improve_row hR.out hl30 hRow.out r1.out (by omega) (stepB_over hp)
                          have HL := Lib.hid HL
                          have HFO := Lib.hid (follow_over t x r B2 m2 d2 (wr.alloc (.cells #[.slice B2 m2 d2, .string r] 39)) hp (by omega) hxs hr4)
                          clear hp hRow
                          go_wp2_with fail
                          refine (HFO.out).mono ?_
                          rintro e_ w3 ⟨rfl, h3⟩
                          have hC3 := cell_keep h3 hCx
                          have hE3 := cell_keep h3 hEx
                          have hz3 : wp.heap.size < w3.heap.size := World.block_lt_of_cell? w3 _ hC3
                          have HO3 := Lib.hid (HOx.out.below h3)
                          have HB3 := Lib.hid (nextU HBx.out h3 HBx.out.size)
                          have HW3 := Lib.hid (own_below HWx.out h3)
                          clear h3 HOx HBx HWx hCx hEx HFO c2 c3 hC0 hE0 hbx
                          have HO4 := Lib.hid (HO3.out.below (one_boxU w3 (.cells #[.string (t ++ r.extract x.size r.size), .string (r.extract x.size r.size)] 55)))
                          have hB4 := nextU HB3.out (one_boxU w3 (.cells #[.string (t ++ r.extract x.size r.size), .string (r.extract x.size r.size)] 55)) HB3.out.size
                          have hW4 := own_below HW3.out (one_boxU w3 (.cells #[.string (t ++ r.extract x.size r.size), .string (r.extract x.size r.size)] 55))
                          have HB4 := Lib.hid hB4
                          have HW4 := Lib.hid hW4
                          have hC4 := cell_keep (one_boxU w3 (.cells #[.string (t ++ r.extract x.size r.size), .string (r.extract x.size r.size)] 55)) hC3
                          have hE4 := cell_keep (one_boxU w3 (.cells #[.string (t ++ r.extract x.size r.size), .string (r.extract x.size r.size)] 55)) hE3
                          have HC4 := Lib.hid hC4
                          have HE4 := Lib.hid hE4
                          clear hB4 hW4 HB3 HW3 HO3 hC4 hE4
                          go_wp2_with fail
                          refine (HL.out _ _ HO4.out).mono ?_
                          rintro e_ w5 ⟨g5, rfl, o5, r5, gr5⟩
                          have HO5 := Lib.hid o5
                          have HR5 := Lib.hid r5
                          have HB5 := Lib.hid (belowU HB4.out gr5 (Nat.le_refl _) (Nat.le_refl _))
                          have HW5 := Lib.hid (own_otherU HW4.out gr5 (show w.heap.size < wq.heap.size + 1 by omega))
                          have HC5 := Lib.hid (grown_cellU gr5 HC4.out (fun e => by injection e with e; have e : w.heap.size = wp.heap.size := e; omega))
                          have HE5 := Lib.hid (grown_cellU gr5 HE4.out (fun e => by injection e with e; have e : w.heap.size = wp.heap.size := e; omega))
                          clear o5 r5 gr5 HB4 HW4 HO4 HC4 HE4 HL hC3 hE3
                          cases nb
                          · have HR6 := Lib.hid (by have h := HR5.out; rw [Bool.or_false] at h; exact h)
                            clear HR5
                            go_wp2
                            go_roundw
                            case rel => exact ⟨k + 1, g5, ch, by omega, by go_num, rfl, HR6, HO5, HW5, HC5, HE5, HB5⟩
                            case measure => simp [intOf]; omega
                          · have HR6 := Lib.hid (by have h := HR5.out; rw [Bool.or_true] at h; exact h)
                            clear HR5
                            go_wp2
                            go_roundw
                            case rel => exact ⟨k + 1, g5, true, by omega, by go_num, rfl, HR6, HO5, HW5, HC5, HE5, HB5⟩
                            case measure => simp [intOf]; omega
                        | false =>
                          cases hq : pre r x with
                          | true =>
                            obtain ⟨nb, HL⟩ := improve_row hR.out hl30 hRow.out r1.out (by omega) (stepB_under hq)
                            have HL := Lib.hid HL
                            have HFO := Lib.hid (follow_under t x r B2 m2 d2 (wr.alloc (.cells #[.slice B2 m2 d2, .string r] 39)) hp hq (by omega) hxs hr4)
                            clear hp hq hRow
                            go_wp2_with fail
                            refine (HFO.out).mono ?_
                            rintro e_ w3 ⟨rfl, h3⟩
                            have hC3 := cell_keep h3 hCx
                            have hE3 := cell_keep h3 hEx
                            have hz3 : wp.heap.size < w3.heap.size := World.block_lt_of_cell? w3 _ hC3
                            have HO3 := Lib.hid (HOx.out.below h3)
                            have HB3 := Lib.hid (nextU HBx.out h3 HBx.out.size)
                            have HW3 := Lib.hid (own_below HWx.out h3)
                            clear h3 HOx HBx HWx hCx hEx HFO c2 c3 hC0 hE0 hbx
                            have HO4 := Lib.hid (HO3.out.below (one_boxU w3 (.cells #[.string t, .string (x.extract r.size x.size)] 55)))
                            have hB4 := nextU HB3.out (one_boxU w3 (.cells #[.string t, .string (x.extract r.size x.size)] 55)) HB3.out.size
                            have hW4 := own_below HW3.out (one_boxU w3 (.cells #[.string t, .string (x.extract r.size x.size)] 55))
                            have HB4 := Lib.hid hB4
                            have HW4 := Lib.hid hW4
                            have hC4 := cell_keep (one_boxU w3 (.cells #[.string t, .string (x.extract r.size x.size)] 55)) hC3
                            have hE4 := cell_keep (one_boxU w3 (.cells #[.string t, .string (x.extract r.size x.size)] 55)) hE3
                            have HC4 := Lib.hid hC4
                            have HE4 := Lib.hid hE4
                            clear hB4 hW4 HB3 HW3 HO3 hC4 hE4
                            go_wp2_with fail
                            refine (HL.out _ _ HO4.out).mono ?_
                            rintro e_ w5 ⟨g5, rfl, o5, r5, gr5⟩
                            have HO5 := Lib.hid o5
                            have HR5 := Lib.hid r5
                            have HB5 := Lib.hid (belowU HB4.out gr5 (Nat.le_refl _) (Nat.le_refl _))
                            have HW5 := Lib.hid (own_otherU HW4.out gr5 (show w.heap.size < wq.heap.size + 1 by omega))
                            have HC5 := Lib.hid (grown_cellU gr5 HC4.out (fun e => by injection e with e; have e : w.heap.size = wp.heap.size := e; omega))
                            have HE5 := Lib.hid (grown_cellU gr5 HE4.out (fun e => by injection e with e; have e : w.heap.size = wp.heap.size := e; omega))
                            clear o5 r5 gr5 HB4 HW4 HO4 HC4 HE4 HL hC3 hE3
                            cases nb
                            · have HR6 := Lib.hid (by have h := HR5.out; rw [Bool.or_false] at h; exact h)
                              clear HR5
                              go_wp2
                              go_roundw
                              case rel => exact ⟨k + 1, g5, ch, by omega, by go_num, rfl, HR6, HO5, HW5, HC5, HE5, HB5⟩
                              case measure => simp [intOf]; omega
                            · have HR6 := Lib.hid (by have h := HR5.out; rw [Bool.or_true] at h; exact h)
                              clear HR5
                              go_wp2
                              go_roundw
                              case rel => exact ⟨k + 1, g5, true, by omega, by go_num, rfl, HR6, HO5, HW5, HC5, HE5, HB5⟩
                              case measure => simp [intOf]; omega
                          | false =>
                            have HR6 := Lib.hid (inRow_none hRow.out r1.out (stepB_none hp hq))
                            have HFO := Lib.hid (follow_none t x r B2 m2 d2 (wr.alloc (.cells #[.slice B2 m2 d2, .string r] 39)) hp hq hxs hr4)
                            clear hp hq hRow
                            go_wp2_with fail
                            refine (HFO.out).mono ?_
                            rintro e_ w3 ⟨rfl, h3⟩
                            have hC3 := cell_keep h3 hCx
                            have hE3 := cell_keep h3 hEx
                            have hz3 : wp.heap.size < w3.heap.size := World.block_lt_of_cell? w3 _ hC3
                            have HO3 := Lib.hid (HOx.out.below h3)
                            have HB3 := Lib.hid (nextU HBx.out h3 HBx.out.size)
                            have HW3 := Lib.hid (own_below HWx.out h3)
                            clear h3 HOx HBx HWx hCx hEx HFO c2 c3 hC0 hE0 hbx
                            have HO4 := Lib.hid (HO3.out.below (one_boxU w3 (.cells #[.string ⟨#[]⟩, .string ⟨#[]⟩] 55)))
                            have HB4 := Lib.hid (nextU HB3.out (one_boxU w3 (.cells #[.string ⟨#[]⟩, .string ⟨#[]⟩] 55)) HB3.out.size)
                            have HW4 := Lib.hid (own_below HW3.out (one_boxU w3 (.cells #[.string ⟨#[]⟩, .string ⟨#[]⟩] 55)))
                            have HC4 := Lib.hid (cell_keep (one_boxU w3 (.cells #[.string ⟨#[]⟩, .string ⟨#[]⟩] 55)) hC3)
                            have HE4 := Lib.hid (cell_keep (one_boxU w3 (.cells #[.string ⟨#[]⟩, .string ⟨#[]⟩] 55)) hE3)
                            clear HB3 HW3 HO3
                            go_wp2
                            go_roundw
                            case rel => exact ⟨k + 1, f1, ch, by omega, by go_num, rfl, HR6, HO4, HW4, HC4, HE4, HB4⟩
                            case measure => simp [intOf]; omega
                      · obtain rfl := text_nilU h0
                        have HR6 := Lib.hid (inRow_skip hRow.out rfl)
                        have hfo := follow_over t ⟨#[]⟩ r B2 m2 d2 (wr.alloc (.cells #[.slice B2 m2 d2, .string r] 39)) (pre_noneU r) (by omega) hxs hr4
                        rw [ext_allU] at hfo
                        have HFO := Lib.hid hfo
                        clear hfo
                        clear hRow
                        go_wp2_with fail
                        refine (HFO.out).mono ?_
                        rintro e_ w3 ⟨rfl, h3⟩
                        have hC3 := cell_keep h3 hCx
                        have hE3 := cell_keep h3 hEx
                        have hz3 : wp.heap.size < w3.heap.size := World.block_lt_of_cell? w3 _ hC3
                        have HO3 := Lib.hid (HOx.out.below h3)
                        have HB3 := Lib.hid (nextU HBx.out h3 HBx.out.size)
                        have HW3 := Lib.hid (own_below HWx.out h3)
                        clear h3 HOx HBx HWx hCx hEx HFO c2 c3 hC0 hE0 hbx
                        have HO4 := Lib.hid (HO3.out.below (one_boxU w3 (.cells #[.string (t ++ r), .string r] 55)))
                        have HB4 := Lib.hid (nextU HB3.out (one_boxU w3 (.cells #[.string (t ++ r), .string r] 55)) HB3.out.size)
                        have HW4 := Lib.hid (own_below HW3.out (one_boxU w3 (.cells #[.string (t ++ r), .string r] 55)))
                        have HC4 := Lib.hid (cell_keep (one_boxU w3 (.cells #[.string (t ++ r), .string r] 55)) hC3)
                        have HE4 := Lib.hid (cell_keep (one_boxU w3 (.cells #[.string (t ++ r), .string r] 55)) hE3)
                        clear HB3 HW3 HO3
                        go_wp2
                        go_roundw
                        case rel => exact ⟨k + 1, f1, ch, by omega, by go_num, rfl, HR6, HO4, HW4, HC4, HE4, HB4⟩
                        case measure => simp [intOf]; omega
                    · obtain rfl : n = k := by omega
                      have HE6 := Lib.hid (inRow_end hRow.out (.inl (by rw [HRL.out]; exact Nat.le_refl _)))
                      clear hRow hC hE
                      go_wp2
                      go_roundw
                      case rel => exact ⟨i + 1, f1, ch, by omega, by go_num, rfl, HE6, hO, hrow, hBo⟩
                      case measure => simp [intOf]; omega
                · obtain rfl : n5 = i := by omega
                  have HDn := Lib.hid (show ch = false → Done (roms T) f1 from fun h => by
                    have h1 := hA.out
                    subst h
                    exact inAll_done h1 (by rw [HN5.out]; exact Nat.le_refl _) (fun x t hx => HLm.out x t (by rw [← (h1.same rfl).1]; exact hx)))
                  have HGo := Lib.hid hA.out.goes
                  have HIn := Lib.hid hA.out.inits
                  have HM := Lib.hid (show 2 * phiB (roms T) f1 + (if ch = true then 1 else 0) < gk by
                    have h1 := hA.out.le
                    have h2 := hA.out.lt
                    rw [HP.out]
                    cases ch with
                    | false => simp; omega
                    | true => have := h2 rfl; simp; omega)
                  clear hA hrow HP HG HLm HLo
                  go_wp2
                  go_roundg (2 * phiB (roms T) f1 + (if ch = true then 1 else 0))
                  case rel => exact ⟨f1, ch, rfl, rfl, HGo, HIn, HDn, hO, hBo⟩
                  case measure => exact HM.out
            · intro x c w2 cnt2 hxz hcz hlx hat hrg2 hlt hg2 hs2 hen
              have hfx := HM.out.read hat
              have HMet := Lib.hid (met_step hMet.out hfx hlt)
              have hrow2 := own_otherU hrow.out hg2 (Nat.lt_succ_self _)
              have HB2 := Lib.hid (hBo.out.grown hg2 hBo.out.size (fun j hj => by injection hj with hj; omega))
              have hz2 := hg2.size
              have hr2 := hrg2.lt
              have hml : L.length ≤ 150 := by omega
              have HLT := Lib.hid hlt
              have HLE := Lib.hid hrgo.left_eq
              clear hs2 hat hfx hg2 hlt hMet hlx hrow hBo hrg hrgo hrlt hLl
              go_wp2_with (at_builtin; refine wpList_append_own _ rfl _ _ 56 rfl (wq.heap.size + 1) 55 i0 (.agg #[.string ⟨#[]⟩, .string ⟨#[]⟩]) 2 32 Tryd.underlying56 hi0 hy0 hy1 hy2 rfl (by decide) _ _ _ rfl (hrow2.alloc _) ⟨w2.heap.size, 0, none⟩ 1 1 [.string c, .string x] rfl rfl ?c1 ?c2 ?c3 ?c4 ?c5 ?_)
              case c1 => exact cell_two_newU _ _ _ _
              case c2 => simp [Value.oneCell']
              case c3 => unfold maxLen; omega
              case c4 => omega
              case c5 => (try simp); omega
              intro v' w3 hown' hg3 _
              have hrg3 := (hrg2.alloc (.cells #[.string c, .string x] 55)).kept hg3 (own_lowU hrow2 (by omega)) (own_lowU hrow2 (Nat.lt_succ_self _))
              have HO3 := Lib.hid (show w3.ownsRow (wq.heap.size + 1) 55 2 v' (L ++ [(c, x)]).length (leadCells (L ++ [(c, x)])) by rw [leadCells_snoc, List.length_append]; exact hown')
              have HB3 := Lib.hid ((HB2.out.alloc HB2.out.size (.cells #[.string c, .string x] 55)).grown hg3 (by have := HB2.out.size; (try simp); omega) (fun j hj => by have := (hrow2.lt j hj).1; omega))
              have HRG3 := Lib.hid hrg3
              have HM3 := Lib.hid (show w3.rangeLeft w.heap.size wq.heap.size < wr.rangeLeft w.heap.size wq.heap.size by rw [hrg3.left_eq, HLE.out]; exact HLT.out)
              clear hown' hg3 hrg3 hrg2 hrow2
              go_wp2
              go_roundw
              case rel => exact ⟨_, cnt2, L ++ [(c, x)], _, rfl, HRG3, HMet, HO3, HB3⟩
              case measure => exact HM3.out
end Go.Proofs.YtnjjfcdddkabbaaDoor
