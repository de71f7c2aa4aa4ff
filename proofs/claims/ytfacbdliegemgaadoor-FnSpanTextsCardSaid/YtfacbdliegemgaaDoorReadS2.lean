/- A span read from its text: what ReadSpan computes. -/
import Derived.Test.YtfacbdliegemgaaDoorReadS
import Derived.Test.YtfacbdliegemgaaDoorShelf5
import Derived.Test.YtfacbdliegemgaaDoorRuleA
namespace Go.Proofs.YtfacbdliegemgaaDoor
open Go.ChangeShapes Go.WideShapes Go.ChangeAt Go.RowKit

theorem three_cells {w : World} {g off c : Nat} {a m b : ByteArray} (hx : Strs w (some ⟨g, off, none⟩) 3 c [a, m, b]) : w.cell? ⟨g, off, none⟩ = some (.string a) ∧ w.cell? ⟨g, off + 1, none⟩ = some (.string m) ∧ w.cell? ⟨g, off + 2, none⟩ = some (.string b) := by
  obtain ⟨b0, off0, e, hg, hc⟩ := hx.2.1.at_ (by decide)
  injection e with e
  injection e with e1 e2
  subst e1; subst e2
  exact ⟨by have := hc 0 (.string a) rfl; rwa [Nat.add_zero] at this, hc 1 (.string m) rfl, hc 2 (.string b) rfl⟩
theorem some_text {m : ByteArray} (h : ¬ m = ⟨#[]⟩) : m.toList.isEmpty = false := by
  rw [ByteArray.toList_eq]
  rcases hl : m.data.toList with _ | ⟨x, r⟩
  · exact absurd (bytes_eq (b := ⟨#[]⟩) (by rw [hl])) h
  · rfl
set_option maxRecDepth 100000 in
set_option maxHeartbeats 2000000 in
theorem ReadSpan_spec (s : ByteArray) (w : World) (hs : s.size ≤ 1048576) :
    Calls Tryd.prog 18 #[.string s] w fun e w' => e = .returned (.tuple #[.agg #[.int .i64 (rsSpan s).1, .int .i64 (rsSpan s).2], .int .i64 (rsCode s)]) ∧ Below w.heap.size w w' := by
  have hmx := cut_maxC (c := 46) hs
  have hsp := Lib.hid (fun W => l01Split_any 46 s W hs)
  rcases hw : rsWords s with _ | ⟨a, m, b⟩
  · have hl := words_none hw
    have HF := rs_none (s := s) (by unfold rsVal; rw [hw]; rfl)
    obtain ⟨L, hL⟩ : ∃ L, cutS 46 s = L := ⟨_, rfl⟩
    rw [hL] at hsp hl hmx
    have hne : ((L.length : Int) != 3) = true := by rw [bne_iff_ne]; omega
    clear hw hL
    go_enter Tryd.func18, Tryd.ntmps18
    go_wp2_with fail
    refine (hsp.out _).mono ?_
    rintro e_ w1 ⟨v, rfl, hown, hb1⟩
    obtain ⟨A, c, rfl, hx⟩ := own_strs hown hmx.2
    obtain ⟨r0, r1, r2, r3, r4⟩ := res_cells hb1
    have HB := Lib.hid (next (one_box w _) hb1)
    clear hown hsp hb1
    go_wp2
    refine bodyPost_ret (v := .tuple #[.agg #[.int .i64 0, .int .i64 0], .int .i64 6]) ?_ rfl ⟨by rw [HF.out.1, HF.out.2], ?_⟩
    · simp [results, Tryd.results18, go_sem, r0, r1, r2, r3, r4]
    · exact (HB.out.setCell (Nat.le_refl _) _).setCell (Nat.le_refl _) _
  · have hc := words_some hw
    have hv := rs_of hw
    have htx := Lib.hid (rs_text hc)
    rw [hc] at hsp hmx
    have hza : a.size ≤ maxLen := hmx.2 a (by simp)
    have hzb : b.size ≤ maxLen := hmx.2 b (by simp)
    clear hw hc
    go_enter Tryd.func18, Tryd.ntmps18
    go_wp2_with fail
    refine (hsp.out _).mono ?_
    rintro e_ w1 ⟨v, rfl, hown, hb1⟩
    obtain ⟨A, c, hv2, hx⟩ := own_strs hown hmx.2
    replace hx : Strs w1 A 3 c [a, m, b] := hx
    obtain rfl : v = .slice A 3 c := hv2
    clear hown hmx hsp
    obtain ⟨g, off, rfl, hg⟩ := hx.at_ 0 (by decide)
    obtain ⟨c0, c1, c2⟩ := three_cells hx
    have hcap := hx.2.1.cap
    have hle := hx.2.1.le
    unfold maxLen at hcap
    have hbx := Lib.hid hb1
    have B1 := Lib.hid (next (one_box w _) hb1)
    obtain ⟨r0, r1, r2, r3, r4⟩ := res_cells hb1
    clear hx hb1
    by_cases hm : m = ⟨#[]⟩
    · have hty := Lib.hid (htx.out hm)
      clear htx
      subst hm
      have hla := l01Signed_any a w1 hza
      have hlb := Lib.hid (fun W => l01Signed_any b W hzb)
      replace hla : Calls Tryd.prog 42 #[.string a] w1 fun e w' => e = .returned (.tuple #[.int .i64 (sNumT a), .bool (sOkT a)]) ∧ Below w1.heap.size w1 w' := hla
      replace hlb : Hid (∀ W, Calls Tryd.prog 42 #[.string b] W fun e w' => e = .returned (.tuple #[.int .i64 (sNumT b), .bool (sOkT b)]) ∧ Below W.heap.size W w') := hlb
      unfold rsOf at hv
      rw [decide_eq_true rfl, Bool.true_and] at hv
      generalize sNumT a = na at *
      generalize sNumT b = nb at *
      go_wp2_with fail
      refine hla.mono ?_
      rintro e_ w2 ⟨rfl, hb2⟩
      have c2' := cell_keep hb2 c2
      have hby := Lib.hid (next hbx.out hb2)
      have hz2 := hb2.size
      clear r0 r1 r2 r3 c0 c1 c2 B1 hbx hla
      obtain ⟨r0, r1, r2, r3, r5⟩ := res_cells hby.out
      go_wp2_with fail
      refine (hlb.out _).mono ?_
      rintro e_ w3 ⟨rfl, hb3⟩
      have hbz := Lib.hid (next hby.out hb3)
      clear r0 r1 r2 r3 r5 c2' hby hlb
      obtain ⟨r0, r1, r2, r3, r5⟩ := res_cells hbz.out
      have B3 := Lib.hid (next (one_box w _) hbz.out)
      cases ha : sOkT a
      · have HF := rs_none (s := s) (by rw [hv, ha]; rfl)
        clear hv hty
        go_wp2
        refine bodyPost_ret (v := .tuple #[.agg #[.int .i64 0, .int .i64 0], .int .i64 6]) ?_ rfl ⟨by rw [HF.out.1, HF.out.2], ?_⟩
        · simp [results, Tryd.results18, go_sem, r0, r1, r2, r3, r5]
        · exact Below.alloc (Below.setCell (Below.setCell B3.out (Nat.le_refl _) _) (Nat.le_refl _) _) (by simp; omega) _
      · cases hbk : sOkT b
        · have HF := rs_none (s := s) (by rw [hv, ha, hbk]; rfl)
          clear hv hty
          go_wp2
          refine bodyPost_ret (v := .tuple #[.agg #[.int .i64 0, .int .i64 0], .int .i64 6]) ?_ rfl ⟨by rw [HF.out.1, HF.out.2], ?_⟩
          · simp [results, Tryd.results18, go_sem, r0, r1, r2, r3, r5]
          · exact Below.alloc (Below.setCell (Below.setCell B3.out (Nat.le_refl _) _) (Nat.le_refl _) _) (by simp; omega) _
        · cases hsp : isSpn na nb
          · have HF := rs_none (s := s) (by rw [hv, ha, hbk, hsp]; rfl)
            clear hv
            go_wp2_with fail
            refine (isb (isSpn_spec na nb _) hsp).mono ?_
            rintro e_ w4 ⟨rfl, hb4⟩
            have hb5 := Lib.hid (next (next hbz.out (one_box w3 _)) hb4)
            obtain ⟨p0, p1, _, _, _⟩ := res_cells hb4
            clear r0 r1 r2 r3 r5 hbz
            obtain ⟨r0, r1, r2, r3, r5⟩ := res_cells hb5.out
            have B5 := Lib.hid (next (one_box w _) hb5.out)
            clear hb4 hb5
            go_wp2
            refine bodyPost_ret (v := .tuple #[.agg #[.int .i64 0, .int .i64 0], .int .i64 6]) ?_ rfl ⟨by rw [HF.out.1, HF.out.2], ?_⟩
            · simp [results, Tryd.results18, go_sem, r0, r1, r2, r3, r5]
            · exact (B5.out.setCell (Nat.le_refl _) _).setCell (Nat.le_refl _) _
          · have HF := rs_some (s := s) (x := (na, nb)) (by rw [hv, ha, hbk, hsp]; rfl)
            have htx := hty.out ha hbk
            have hlt := fun W => l02Text_any na nb W hsp
            rw [htx] at hlt
            have cq : (s.toList == s.toList) = true := by simp
            clear hv
            go_wp2_with fail
            refine (isb (isSpn_spec na nb _) hsp).mono ?_
            rintro e_ w4 ⟨rfl, hb4⟩
            have hb5 := Lib.hid (next (next hbz.out (one_box w3 _)) hb4)
            have hbq := Lib.hid hb4
            obtain ⟨p0, p1, _, _, _⟩ := res_cells hb4
            clear r0 r1 r2 r3 r5 hbz
            obtain ⟨r0, r1, r2, r3, r5⟩ := res_cells hb5.out
            clear hb4
            go_wp2_with fail
            refine (hlt _).mono ?_
            rintro e_ w5 ⟨rfl, hb6⟩
            have hb7 := Lib.hid (next hb5.out hb6)
            clear r0 r1 r2 r3 r5 hb5 p0 p1
            obtain ⟨p0, p1, _, _, _⟩ := res_cells (next hbq.out hb6)
            obtain ⟨r0, r1, r2, r3, r5⟩ := res_cells hb7.out
            have B7 := Lib.hid (next (one_box w _) hb7.out)
            clear hb7 hb6
            go_wp2
            refine bodyPost_ret (v := .tuple #[.agg #[.int .i64 na, .int .i64 nb], .int .i64 0]) ?_ rfl ⟨by rw [HF.out.1, HF.out.2], ?_⟩
            · simp [results, Tryd.results18, go_sem, r0, r1, r2, r3, r5]
            · exact (B7.out.setCell (Nat.le_refl _) _).setCell (Nat.le_refl _) _
    · have HF := rs_none (s := s) (by rw [hv]; unfold rsOf; rw [decide_eq_false hm]; rfl)
      have hne := some_text hm
      clear hv htx
      go_wp2
      refine bodyPost_ret (v := .tuple #[.agg #[.int .i64 0, .int .i64 0], .int .i64 6]) ?_ rfl ⟨by rw [HF.out.1, HF.out.2], ?_⟩
      · simp [results, Tryd.results18, go_sem, r0, r1, r2, r3, r4]
      · exact (B1.out.setCell (Nat.le_refl _) _).setCell (Nat.le_refl _) _
end Go.Proofs.YtfacbdliegemgaaDoor
