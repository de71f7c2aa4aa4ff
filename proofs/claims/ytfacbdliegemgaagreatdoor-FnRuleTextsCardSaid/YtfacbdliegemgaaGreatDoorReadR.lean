/- A rule read from its text: what ReadRule computes. -/
import Derived.Test.YtfacbdliegemgaaGreatDoorReadRl
import Derived.Test.YtfacbdliegemgaaGreatDoorShelf5
namespace Go.Proofs.YtfacbdliegemgaaGreatDoor
open Go.ChangeShapes Go.WideShapes Go.ChangeAt Go.RowKit

theorem pair_some {s a b : ByteArray} (h : rrPair s = some (a, b)) : cutS 61 s = [a, b] := by
  unfold rrPair at h
  rcases hc : cutS 61 s with _ | ⟨x, _ | ⟨y, _ | ⟨_, _⟩⟩⟩
  · rw [hc] at h; cases h
  · rw [hc] at h; cases h
  · rw [hc] at h
    injection h with h
    injection h with h1 h2
    rw [h1, h2]
  · rw [hc] at h; cases h
theorem pair_none {s : ByteArray} (h : rrPair s = none) : (cutS 61 s).length ≠ 2 := by
  unfold rrPair at h
  rcases hc : cutS 61 s with _ | ⟨x, _ | ⟨y, _ | ⟨_, _⟩⟩⟩
  · simp
  · simp
  · rw [hc] at h; cases h
  · simp
theorem rr_none {s : ByteArray} (h : rrVal s = none) : Hid (rrRule s = ([], ⟨#[]⟩) ∧ rrCode s = 6) := by
  unfold rrRule rrCode
  rw [h]
  exact ⟨rfl, rfl⟩
theorem rr_some {s : ByteArray} {x : Rl} (h : rrVal s = some x) : Hid (rrRule s = x ∧ rrCode s = 0) := by
  unfold rrRule rrCode
  rw [h]
  exact ⟨rfl, rfl⟩
theorem rr_of {s a b : ByteArray} (h : rrPair s = some (a, b)) : rrVal s = if ((cutS 43 a).all sOkT && isRl (numsOf (cutS 43 a), b)) = true then some (numsOf (cutS 43 a), b) else none := by
  unfold rrVal
  rw [h]
  rfl
set_option maxRecDepth 100000 in
set_option maxHeartbeats 2000000 in
theorem ReadRule_spec (s : ByteArray) (w : World) (hs : s.size ≤ 1048576) :
    Calls Tryz.prog 10 #[.string s] w fun e w' => ∃ v, e = .returned (.tuple #[.agg #[v, .string (rrRule s).2], .int .i64 (rrCode s)]) ∧ w'.ownsRow w.heap.size 2 1 v (rrRule s).1.length ((rrRule s).1.map (Value.int .i64)) ∧ Below w.heap.size w w' := by
  rcases hp : rrPair s with _ | ⟨a, b⟩
  · have hl := pair_none hp
    have HF := rr_none (s := s) (by unfold rrVal; rw [hp]; rfl)
    have hmx := cut_maxC (c := 61) hs
    have hsp := Lib.hid (fun W => l01Split_any 61 s W hs)
    obtain ⟨L, hL⟩ : ∃ L, cutS 61 s = L := ⟨_, rfl⟩
    rw [hL] at hsp hl hmx
    have hne : ((L.length : Int) != 2) = true := by
      rw [bne_iff_ne]
      omega
    clear hp hL
    go_enter Tryz.func10, Tryz.ntmps10
    go_wp2_with fail
    refine (hsp.out _).mono ?_
    rintro e_ w1 ⟨v, rfl, hown, hb1⟩
    obtain ⟨A, c, rfl, hx⟩ := own_strs hown hmx.2
    have hc_w1 := bcell hb1
    have hf_w1 := bfree hb1
    have hz1 : w.heap.size < w1.heap.size := by have := hb1.size; (try simp at this); omega
    have HB := Lib.hid hb1
    clear hown hsp hb1
    go_wp2
    refine bodyPost_ret (v := .tuple #[.agg #[.slice none 0 0, .string ⟨#[]⟩], .int .i64 6]) ?_ rfl ⟨.slice none 0 0, by rw [HF.out.1, HF.out.2], by rw [HF.out.1]; exact World.ownsRow_nil _ _ _ _, ?_⟩
    · simp [results, Tryz.results10, go_sem, *]
    · exact ((next (one_box w _) HB.out).setCell (Nat.le_refl _) _).setCell (Nat.le_refl _) _
  · have hc := pair_some hp
    have hv := rr_of hp
    have hmx := cut_maxC (c := 61) hs
    have hsp := Lib.hid (fun W => l01Split_any 61 s W hs)
    have has : a.size ≤ s.size := cutS_each (c := 61) (by rw [hc]; simp)
    have hbs : b.size ≤ maxLen := by have := cutS_each (c := 61) (s := s) (p := b) (by rw [hc]; simp); unfold maxLen; omega
    have htx := rr_text hc
    rw [hc] at hsp hmx
    have hmx2 := cut_maxC (c := 43) (s := a) (by omega)
    have hln2 := cutS_size 43 a
    have hsp2 := Lib.hid (fun W => l01Split_any 43 a W (by omega))
    obtain ⟨L, hL⟩ : ∃ L, cutS 43 a = L := ⟨_, rfl⟩
    rw [hL] at hv hsp2 hmx2 hln2 htx
    have hnum := Lib.hid (fun A c W h => l01Numbers_any A L.length c L W h (by omega))
    clear hp hL hc
    cases hok : L.all sOkT
    · have HF := rr_none (s := s) (by rw [hv, hok]; rfl)
      rw [hok] at hnum
      clear hok hv htx
      go_enter Tryz.func10, Tryz.ntmps10
      go_wp2_with fail
      refine (hsp.out _).mono ?_
      rintro e_ w1 ⟨v, rfl, hown, hb1⟩
      obtain ⟨A, c, hv2, hx⟩ := own_strs hown hmx.2
      replace hx : Strs w1 A 2 c [a, b] := hx
      obtain rfl : v = .slice A 2 c := hv2
      clear hown hmx
      obtain ⟨g, off, rfl, hg⟩ := hx.at_ 0 (by decide)
      obtain ⟨c0, c1⟩ := two_cells hx
      have hcap := hx.2.1.cap
      have hle := hx.2.1.le
      unfold maxLen at hcap
      have hc_w1 := bcell hb1
      have hf_w1 := bfree hb1
      have hz1 : w.heap.size < w1.heap.size := by have := hb1.size; (try simp at this); omega
      have B1 := Lib.hid hb1
      clear hx hsp hb1
      go_wp2_with fail
      refine (hsp2.out _).mono ?_
      rintro e_ w2 ⟨v2, rfl, hown2, hb2⟩
      obtain ⟨A2, c2, rfl, hx2⟩ := own_strs hown2 hmx2.2
      have hc_w2 := bcell hb2
      have hf_w2 := bfree hb2
      have hz2 : w.heap.size < w2.heap.size := Nat.lt_of_lt_of_le hz1 (Nat.le_trans (by simp) hb2.size)
      have B2 := Lib.hid (next B1.out hb2)
      have c1' := cell_keep hb2 c1
      clear hown2 hsp2 hb2 B1 hmx2 c0 c1
      go_wp2_with fail
      refine (hnum.out A2 c2 _ hx2).mono ?_
      rintro e_ w3 ⟨v3, rfl, hown3, hb3⟩
      have hc_w3 := bcell hb3
      have hf_w3 := bfree hb3
      have hz3 : w.heap.size < w3.heap.size := Nat.lt_of_lt_of_le hz2 (Nat.le_trans (by simp) hb3.size)
      have B3 := Lib.hid (next B2.out hb3)
      have c1'' := cell_keep hb3 c1'
      clear hb3 B2 hx2 hnum c1'
      obtain ⟨A3, c3, rfl, hx3⟩ := own_ints_ hown3
      obtain ⟨r0, r1, r2, r3, r4⟩ := res_cells B3.out
      go_wp2
      refine bodyPost_ret (v := .tuple #[.agg #[.slice none 0 0, .string ⟨#[]⟩], .int .i64 6]) ?_ rfl ⟨.slice none 0 0, by rw [HF.out.1, HF.out.2], by rw [HF.out.1]; exact World.ownsRow_nil _ _ _ _, ?_⟩
      · simp [results, Tryz.results10, go_sem, *]
      · refine Below.alloc (Below.setCell (Below.setCell ?_ ?_ _) ?_ _) ?_ _
        · exact next (one_box w _) B3.out
        · exact Nat.le_refl _
        · exact Nat.le_refl _
        · simp; omega
    · have hnb := nums_numB hok
      have htx := htx hok
      rw [hok] at hnum
      cases hr : isRl (numsOf L, b)
      · have HF := rr_none (s := s) (by rw [hv, hok, hr]; rfl)
        clear hok hv htx
        go_enter Tryz.func10, Tryz.ntmps10
        go_wp2_with fail
        refine (hsp.out _).mono ?_
        rintro e_ w1 ⟨v, rfl, hown, hb1⟩
        obtain ⟨A, c, hv2, hx⟩ := own_strs hown hmx.2
        replace hx : Strs w1 A 2 c [a, b] := hx
        obtain rfl : v = .slice A 2 c := hv2
        clear hown hmx
        obtain ⟨g, off, rfl, hg⟩ := hx.at_ 0 (by decide)
        obtain ⟨c0, c1⟩ := two_cells hx
        have hcap := hx.2.1.cap
        have hle := hx.2.1.le
        unfold maxLen at hcap
        have hc_w1 := bcell hb1
        have hf_w1 := bfree hb1
        have hz1 : w.heap.size < w1.heap.size := by have := hb1.size; (try simp at this); omega
        have B1 := Lib.hid hb1
        clear hx hsp hb1
        go_wp2_with fail
        refine (hsp2.out _).mono ?_
        rintro e_ w2 ⟨v2, rfl, hown2, hb2⟩
        obtain ⟨A2, c2, rfl, hx2⟩ := own_strs hown2 hmx2.2
        have hc_w2 := bcell hb2
        have hf_w2 := bfree hb2
        have hz2 : w.heap.size < w2.heap.size := Nat.lt_of_lt_of_le hz1 (Nat.le_trans (by simp) hb2.size)
        have B2 := Lib.hid (next B1.out hb2)
        have c1' := cell_keep hb2 c1
        clear hown2 hsp2 hb2 B1 hmx2 c0 c1
        go_wp2_with fail
        refine (hnum.out A2 c2 _ hx2).mono ?_
        rintro e_ w3 ⟨v3, rfl, hown3, hb3⟩
        have hc_w3 := bcell hb3
        have hf_w3 := bfree hb3
        have hz3 : w.heap.size < w3.heap.size := Nat.lt_of_lt_of_le hz2 (Nat.le_trans (by simp) hb3.size)
        have B3 := Lib.hid (next B2.out hb3)
        have c1'' := cell_keep hb3 c1'
        clear hb3 B2 hx2 hnum c1'
        obtain ⟨A3, c3, rfl, hx3⟩ := own_ints_ hown3
        go_wp2_with fail
        refine (isb (IsRule_spec A3 _ c3 (numsOf L) b _ (hx3.below (one_box _ _)) hbs) hr).mono ?_
        rintro e_ w4 ⟨rfl, hb4⟩
        have hc_w4 := bcell hb4
        have hf_w4 := bfree hb4
        have hz4 : w.heap.size < w4.heap.size := Nat.lt_of_lt_of_le hz3 (Nat.le_trans (by simp) hb4.size)
        have B4 := Lib.hid (next (next B3.out (one_box _ _)) hb4)
        obtain ⟨r0, r1, r2, r3, r4⟩ := res_cells B4.out
        go_wp2
        refine bodyPost_ret (v := .tuple #[.agg #[.slice none 0 0, .string ⟨#[]⟩], .int .i64 6]) ?_ rfl ⟨.slice none 0 0, by rw [HF.out.1, HF.out.2], by rw [HF.out.1]; exact World.ownsRow_nil _ _ _ _, ?_⟩
        · simp [results, Tryz.results10, go_sem, *]
        · refine Below.setCell (Below.setCell ?_ ?_ _) ?_ _
          · exact next (one_box w _) B4.out
          · exact Nat.le_refl _
          · exact Nat.le_refl _
      · have HF := rr_some (s := s) (x := (numsOf L, b)) (by rw [hv, hok, hr]; rfl)
        have cq : (s.toList == s.toList) = true := by simp
        clear hok hv
        go_enter Tryz.func10, Tryz.ntmps10
        go_wp2_with fail
        refine (hsp.out _).mono ?_
        rintro e_ w1 ⟨v, rfl, hown, hb1⟩
        obtain ⟨A, c, hv2, hx⟩ := own_strs hown hmx.2
        replace hx : Strs w1 A 2 c [a, b] := hx
        obtain rfl : v = .slice A 2 c := hv2
        clear hown hmx
        obtain ⟨g, off, rfl, hg⟩ := hx.at_ 0 (by decide)
        obtain ⟨c0, c1⟩ := two_cells hx
        have hcap := hx.2.1.cap
        have hle := hx.2.1.le
        unfold maxLen at hcap
        have hc_w1 := bcell hb1
        have hf_w1 := bfree hb1
        have hz1 : w.heap.size < w1.heap.size := by have := hb1.size; (try simp at this); omega
        have B1 := Lib.hid hb1
        clear hx hsp hb1
        go_wp2_with fail
        refine (hsp2.out _).mono ?_
        rintro e_ w2 ⟨v2, rfl, hown2, hb2⟩
        obtain ⟨A2, c2, rfl, hx2⟩ := own_strs hown2 hmx2.2
        have hc_w2 := bcell hb2
        have hf_w2 := bfree hb2
        have hz2 : w.heap.size < w2.heap.size := Nat.lt_of_lt_of_le hz1 (Nat.le_trans (by simp) hb2.size)
        have B2 := Lib.hid (next B1.out hb2)
        have c1' := cell_keep hb2 c1
        clear hown2 hsp2 hb2 B1 hmx2 c0 c1
        go_wp2_with fail
        refine (hnum.out A2 c2 _ hx2).mono ?_
        rintro e_ w3 ⟨v3, rfl, hown3, hb3⟩
        have hc_w3 := bcell hb3
        have hf_w3 := bfree hb3
        have hz3 : w.heap.size < w3.heap.size := Nat.lt_of_lt_of_le hz2 (Nat.le_trans (by simp) hb3.size)
        have B3 := Lib.hid (next B2.out hb3)
        have c1'' := cell_keep hb3 c1'
        clear hb3 B2 hx2 hnum c1'
        obtain ⟨A3, c3, rfl, hx3⟩ := own_ints_ hown3
        have HO := Lib.hid hown3
        clear hown3
        go_wp2_with fail
        refine (isb (IsRule_spec A3 _ c3 (numsOf L) b _ (hx3.below (one_box _ _)) hbs) hr).mono ?_
        rintro e_ w4 ⟨rfl, hb4⟩
        have hc_w4 := bcell hb4
        have hf_w4 := bfree hb4
        have hz4 : w.heap.size < w4.heap.size := Nat.lt_of_lt_of_le hz3 (Nat.le_trans (by simp) hb4.size)
        have B34 := next (one_box _ _) hb4
        have B4 := Lib.hid (next B3.out B34)
        have hx4 := hx3.below B34
        have HO4 := Lib.hid (own_below HO.out B34)
        have hl4 := fun W h => l04Text_any A3 (numsOf L).length c3 (numsOf L) b W h hr
        rw [htx] at hl4
        clear HO B34 hx3
        go_wp2_with fail
        refine (hl4 _ hx4).mono ?_
        rintro e_ w5 ⟨rfl, hb5⟩
        have hc_w5 := bcell hb5
        have hf_w5 := bfree hb5
        have hz5 : w.heap.size < w5.heap.size := Nat.lt_of_lt_of_le hz4 (Nat.le_trans (by simp) hb5.size)
        have B5 := Lib.hid (next B4.out hb5)
        have HO5 := Lib.hid (own_below HO4.out hb5)
        clear HO4 hx4
        obtain ⟨r0, r1, r2, r3, r4⟩ := res_cells B5.out
        obtain ⟨q0, q1, _, _, _⟩ := res_cells (next hb4 hb5)
        go_wp2
        refine bodyPost_ret (v := .tuple #[.agg #[.slice A3 (numsOf L).length c3, .string b], .int .i64 0]) ?_ rfl ⟨.slice A3 (numsOf L).length c3, by rw [HF.out.1, HF.out.2], ?_, ?_⟩
        · simp [results, Tryz.results10, go_sem, r0, r1, r2, r3, r4]
        · rw [HF.out.1]
          exact own_base (own_setC (own_setC HO5.out (fun e => by have := (HO5.out.lt _ e).1; omega)) (fun e => by have := (HO5.out.lt _ e).1; omega)) (by omega)
        · exact ((next (one_box w _) B5.out).setCell (Nat.le_refl _) _).setCell (Nat.le_refl _) _
end Go.Proofs.YtfacbdliegemgaaGreatDoor
