/- A rule read from its text: what the program's ReadRule computes. -/
import Derived.Test.YtfacbdliegemgaaGreatDoorReadR
namespace Go.Proofs.YtfacbdliegemgaaGreatDoor
open Go.ChangeShapes Go.WideShapes Go.ChangeAt Go.RowKit

theorem cut_any (s : ByteArray) (w : World) (hs : s.size ≤ 1048576) (hm : MaxCell w) :
    Calls Tryz.prog 20 #[.string s, .string ⟨#[61]⟩] w fun e w' => e = .returned (.tuple #[.string (rdBefore s), .string (rdAfter s), .bool (rdFound s)]) ∧ Below w.heap.size w w' := by
  obtain ⟨m, hm⟩ := hm
  refine (Tryz.strings_Cut s ⟨#[61]⟩ m w (by omega) hm).mono ?_
  rintro e w' ⟨rfl, n, rfl⟩
  exact ⟨rfl, ⟨rfl, rfl, rfl, Nat.le_refl _, fun _ _ => rfl⟩⟩
theorem rd_size (s : ByteArray) : (rdBefore s).size ≤ s.size ∧ (rdAfter s).size ≤ s.size := by
  unfold rdBefore rdAfter
  have h0 : s.data.toList.length = s.size := by simp
  rcases cut_one 61 s.data.toList with ⟨h1, _⟩ | ⟨p, r, h1, h2⟩
  · rw [h1]
    exact ⟨by show s.data.toList.toArray.size ≤ _; simp, Nat.zero_le _⟩
  · have e := join_cut 61 s.data.toList
    rw [h1]
    refine ⟨by show p.toArray.size ≤ _; have := cutAt_each 61 s.data.toList p (by rw [h2]; simp); simp; omega, ?_⟩
    have e2 := join_cut 61 r
    rw [h2] at e
    rcases hq : cutAt 61 r with _ | ⟨x, q⟩
    · exact absurd hq (cutAt_ne 61 r)
    · rw [hq] at e e2
      rw [join_two, e2] at e
      have := congrArg List.length e
      simp only [List.length_append, List.length_cons] at this
      show r.toArray.size ≤ _
      simp
      omega

set_option maxRecDepth 100000 in
set_option maxHeartbeats 2000000 in
theorem ReadRule_impl (s : ByteArray) (w : World) (hs : s.size ≤ 1048576) (hm : MaxCell w) (he : ErrCells w) (ht : PowTab w) :
    Calls Tryz.prog 9 #[.string s] w fun e w' => ∃ v, e = .returned (.tuple #[.agg #[v, .string (rrRule s).2], .int .i64 (rrCode s)]) ∧ w'.ownsRow w.heap.size 2 1 v (rrRule s).1.length ((rrRule s).1.map (Value.int .i64)) ∧ Below w.heap.size w w' := by
  have hsz := rd_size s
  have hbz : (rdBefore s).size ≤ 1048576 := by omega
  have haz : (rdAfter s).size ≤ maxLen := by unfold maxLen; omega
  have hcut := fun W h => cut_any s W hs h
  have hrn := Lib.hid (fun W h1 h2 h3 => readNumbers_any (rdBefore s) ⟨#[43]⟩ 43 W rfl hbz h1 h2 h3)
  have hy := rd_yes (s := s)
  have hn := rd_no (s := s)
  unfold rdList at hy hn
  have hm0 := hm.below (one_box w (.cells #[.slice none 0 0, .string ⟨#[]⟩] 26))
  have he0 := he.below (one_box w (.cells #[.slice none 0 0, .string ⟨#[]⟩] 26))
  have ht0 := ht.below (one_box w (.cells #[.slice none 0 0, .string ⟨#[]⟩] 26))
  clear hsz hbz
  generalize rdBefore s = bf at *
  generalize rdAfter s = af at *
  generalize rdFound s = fd at *
  generalize cutS 43 bf = L at *
  cases fd
  · have HF := rr_none (hn (.inl rfl))
    clear hy hn
    cases hok : L.all rOkT
    all_goals
      rw [hok] at hrn
      clear hok
      go_enter Tryz.func9, Tryz.ntmps9
      go_wp2_with fail
      refine (hcut _ hm0).mono ?_
      rintro e_ w1 ⟨rfl, hb1⟩
      have hz1 : w.heap.size < w1.heap.size := Nat.lt_of_lt_of_le (by simp) hb1.size
      go_wp2_with fail
      refine (hrn.out _ (hm0.below hb1) (he0.below hb1) (ht0.below hb1)).mono ?_
      rintro e_ w2 ⟨v2, rfl, hown2, hb2⟩
      have hz2 : w.heap.size < w2.heap.size := Nat.lt_of_lt_of_le hz1 hb2.size
      have B2 := Lib.hid (next hb1 hb2)
      clear hb1 hb2 hrn hcut hm0 he0 ht0
      obtain ⟨A3, c3, rfl, hx3⟩ := own_ints_ hown2
      obtain ⟨r0, r1, r2, r3, r4⟩ := res_cells B2.out
      go_wp2
      refine bodyPost_ret (v := .tuple #[.agg #[.slice none 0 0, .string ⟨#[]⟩], .int .i64 6]) ?_ rfl ⟨.slice none 0 0, by rw [HF.out.1, HF.out.2], by rw [HF.out.1]; exact World.ownsRow_nil _ _ _ _, ?_⟩
      · simp [results, Tryz.results9, go_sem, r0, r1, r2, r3, r4]
      · first
        | exact Below.alloc (Below.setCell (Below.setCell (next (one_box w _) B2.out) (Nat.le_refl _) _) (Nat.le_refl _) _) (by simp; omega) _
        | exact Below.setCell (Below.setCell (next (one_box w _) B3.out) (Nat.le_refl _) _) (Nat.le_refl _) _
  · cases hok : L.all rOkT
    · have HF := rr_none (hn (.inr (.inl hok)))
      rw [hok] at hrn
      clear hy hn hok
      go_enter Tryz.func9, Tryz.ntmps9
      go_wp2_with fail
      refine (hcut _ hm0).mono ?_
      rintro e_ w1 ⟨rfl, hb1⟩
      have hz1 : w.heap.size < w1.heap.size := Nat.lt_of_lt_of_le (by simp) hb1.size
      go_wp2_with fail
      refine (hrn.out _ (hm0.below hb1) (he0.below hb1) (ht0.below hb1)).mono ?_
      rintro e_ w2 ⟨v2, rfl, hown2, hb2⟩
      have hz2 : w.heap.size < w2.heap.size := Nat.lt_of_lt_of_le hz1 hb2.size
      have B2 := Lib.hid (next hb1 hb2)
      clear hb1 hb2 hrn hcut hm0 he0 ht0
      obtain ⟨A3, c3, rfl, hx3⟩ := own_ints_ hown2
      obtain ⟨r0, r1, r2, r3, r4⟩ := res_cells B2.out
      go_wp2
      refine bodyPost_ret (v := .tuple #[.agg #[.slice none 0 0, .string ⟨#[]⟩], .int .i64 6]) ?_ rfl ⟨.slice none 0 0, by rw [HF.out.1, HF.out.2], by rw [HF.out.1]; exact World.ownsRow_nil _ _ _ _, ?_⟩
      · simp [results, Tryz.results9, go_sem, r0, r1, r2, r3, r4]
      · first
        | exact Below.alloc (Below.setCell (Below.setCell (next (one_box w _) B2.out) (Nat.le_refl _) _) (Nat.le_refl _) _) (by simp; omega) _
        | exact Below.setCell (Below.setCell (next (one_box w _) B3.out) (Nat.le_refl _) _) (Nat.le_refl _) _
    · cases hr : isRl (rNumsOf L, af)
      · have HF := rr_none (hn (.inr (.inr hr)))
        rw [hok] at hrn
        clear hy hn hok
        go_enter Tryz.func9, Tryz.ntmps9
        go_wp2_with fail
        refine (hcut _ hm0).mono ?_
        rintro e_ w1 ⟨rfl, hb1⟩
        have hz1 : w.heap.size < w1.heap.size := Nat.lt_of_lt_of_le (by simp) hb1.size
        go_wp2_with fail
        refine (hrn.out _ (hm0.below hb1) (he0.below hb1) (ht0.below hb1)).mono ?_
        rintro e_ w2 ⟨v2, rfl, hown2, hb2⟩
        have hz2 : w.heap.size < w2.heap.size := Nat.lt_of_lt_of_le hz1 hb2.size
        have B2 := Lib.hid (next hb1 hb2)
        clear hb1 hb2 hrn hcut hm0 he0 ht0
        obtain ⟨A3, c3, rfl, hx3⟩ := own_ints_ hown2
        obtain ⟨r0, r1, r2, r3, r4⟩ := res_cells B2.out
        go_wp2_with fail
        refine (isb (IsRule_impl A3 _ c3 (rNumsOf L) af _ (hx3.below (one_box _ _)) haz) hr).mono ?_
        rintro e_ w3 ⟨rfl, hb3⟩
        have hz3 : w.heap.size < w3.heap.size := Nat.lt_of_lt_of_le (show w.heap.size < (w2.alloc (.cells #[.slice A3 (rNumsOf L).length c3, .string af] 26)).heap.size by simp; omega) hb3.size
        have B3 := Lib.hid (next B2.out (next (one_box _ _) hb3))
        have HO3 := Lib.hid (own_below hown2 (next (one_box _ _) hb3))
        obtain ⟨q0, q1, _, _, _⟩ := res_cells hb3
        clear r0 r1 r2 r3 r4 hown2 hx3 hb3
        obtain ⟨r0, r1, r2, r3, r4⟩ := res_cells B3.out
        go_wp2
        refine bodyPost_ret (v := .tuple #[.agg #[.slice none 0 0, .string ⟨#[]⟩], .int .i64 6]) ?_ rfl ⟨.slice none 0 0, by rw [HF.out.1, HF.out.2], by rw [HF.out.1]; exact World.ownsRow_nil _ _ _ _, ?_⟩
        · simp [results, Tryz.results9, go_sem, r0, r1, r2, r3, r4]
        · first
          | exact Below.alloc (Below.setCell (Below.setCell (next (one_box w _) B2.out) (Nat.le_refl _) _) (Nat.le_refl _) _) (by simp; omega) _
          | exact Below.setCell (Below.setCell (next (one_box w _) B3.out) (Nat.le_refl _) _) (Nat.le_refl _) _
      · have HF := rr_some (hy rfl hok hr)
        rw [hok] at hrn
        clear hy hn hok
        go_enter Tryz.func9, Tryz.ntmps9
        go_wp2_with fail
        refine (hcut _ hm0).mono ?_
        rintro e_ w1 ⟨rfl, hb1⟩
        have hz1 : w.heap.size < w1.heap.size := Nat.lt_of_lt_of_le (by simp) hb1.size
        go_wp2_with fail
        refine (hrn.out _ (hm0.below hb1) (he0.below hb1) (ht0.below hb1)).mono ?_
        rintro e_ w2 ⟨v2, rfl, hown2, hb2⟩
        have hz2 : w.heap.size < w2.heap.size := Nat.lt_of_lt_of_le hz1 hb2.size
        have B2 := Lib.hid (next hb1 hb2)
        clear hb1 hb2 hrn hcut hm0 he0 ht0
        obtain ⟨A3, c3, rfl, hx3⟩ := own_ints_ hown2
        obtain ⟨r0, r1, r2, r3, r4⟩ := res_cells B2.out
        go_wp2_with fail
        refine (isb (IsRule_impl A3 _ c3 (rNumsOf L) af _ (hx3.below (one_box _ _)) haz) hr).mono ?_
        rintro e_ w3 ⟨rfl, hb3⟩
        have hz3 : w.heap.size < w3.heap.size := Nat.lt_of_lt_of_le (show w.heap.size < (w2.alloc (.cells #[.slice A3 (rNumsOf L).length c3, .string af] 26)).heap.size by simp; omega) hb3.size
        have B3 := Lib.hid (next B2.out (next (one_box _ _) hb3))
        have HO3 := Lib.hid (own_below hown2 (next (one_box _ _) hb3))
        obtain ⟨q0, q1, _, _, _⟩ := res_cells hb3
        clear r0 r1 r2 r3 r4 hown2 hx3 hb3
        obtain ⟨r0, r1, r2, r3, r4⟩ := res_cells B3.out
        go_wp2
        refine bodyPost_ret (v := .tuple #[.agg #[.slice A3 (rNumsOf L).length c3, .string af], .int .i64 0]) ?_ rfl ⟨.slice A3 (rNumsOf L).length c3, by rw [HF.out.1, HF.out.2], ?_, ?_⟩
        · simp [results, Tryz.results9, go_sem, r0, r1, r2, r3, r4]
        · rw [HF.out.1]
          exact own_base (own_setC (own_setC HO3.out (fun e => by have := (HO3.out.lt _ e).1; omega)) (fun e => by have := (HO3.out.lt _ e).1; omega)) (by omega)
        · exact Below.setCell (Below.setCell (next (one_box w _) B3.out) (Nat.le_refl _) _) (Nat.le_refl _) _
end Go.Proofs.YtfacbdliegemgaaGreatDoor
