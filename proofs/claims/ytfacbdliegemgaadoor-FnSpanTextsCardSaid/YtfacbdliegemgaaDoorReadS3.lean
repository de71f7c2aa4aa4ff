/- A span read from its text: what the program's ReadSpan computes, and the walk of its law. -/
import Derived.Test.YtfacbdliegemgaaDoorReadS2
import Derived.Test.YtfacbdliegemgaaDoorMix
import Derived.Deep.RegionWith
namespace Go.Proofs.YtfacbdliegemgaaDoor
open Go.ChangeShapes Go.WideShapes Go.ChangeAt Go.RowKit

theorem cut2_any (s : ByteArray) (w : World) (hs : s.size ≤ 1048576) (hm : MaxCell w) :
    Calls Tryd.prog 36 #[.string s, .string ⟨#[46, 46]⟩] w fun e w' => e = .returned (.tuple #[.string (rsFrom s), .string (rsTo s), .bool (rsFound s)]) ∧ Below w.heap.size w w' := by
  obtain ⟨m, hm⟩ := hm
  refine (Tryd.strings_Cut s ⟨#[46, 46]⟩ m w (by omega) hm).mono ?_
  rintro e w' ⟨rfl, n, rfl⟩
  exact ⟨rfl, ⟨rfl, rfl, rfl, Nat.le_refl _, fun _ _ => rfl⟩⟩
theorem rs_size (s : ByteArray) : (rsFrom s).size ≤ s.size ∧ (rsTo s).size ≤ s.size := by
  have h0 : s.data.toList.length = s.size := by simp
  unfold rsFrom rsTo
  rcases cut_two_is 46 s.data.toList with h | ⟨p, r, h, e⟩
  · rw [h]
    exact ⟨by show s.data.toList.toArray.size ≤ _; simp, Nat.zero_le _⟩
  · rw [h]
    have := congrArg List.length e
    simp only [List.length_append, List.length_cons] at this
    exact ⟨by show p.toArray.size ≤ _; simp; omega, by show r.toArray.size ≤ _; simp; omega⟩
theorem set_two {w W : World} {u v : Value} (h : Below w.heap.size w W) : Below w.heap.size w ((W.setCell ⟨w.heap.size, 0, none⟩ u).setCell ⟨w.heap.size, 1, none⟩ v) := (h.setCell (Nat.le_refl _) _).setCell (Nat.le_refl _) _
def rsOk (s : ByteArray) : Bool := rOkT (rsFrom s) && (rOkT (rsTo s) && isSpn (rNumT (rsFrom s)) (rNumT (rsTo s)))
set_option maxRecDepth 100000 in
set_option maxHeartbeats 2000000 in
theorem readSpan_any (s : ByteArray) (w : World) (hs : s.size ≤ 1048576) (hm : MaxCell w) (he : ErrCells w) (ht : PowTab w) :
    Calls Tryd.prog 45 #[.string s] w fun e w' => e = .returned (.tuple #[.agg #[.int .i64 (rNumT (rsFrom s)), .int .i64 (rNumT (rsTo s))], .bool (rsOk s)]) ∧ Below w.heap.size w w' := by
  have hz := rs_size s
  have hcut := fun W h => cut2_any s W hs h
  have hra := Lib.hid (fun W h1 h2 => readNumber_any (rsFrom s) W (by omega) h1 h2)
  have hrb := Lib.hid (fun W h1 h2 => readNumber_any (rsTo s) W (by omega) h1 h2)
  replace hra : Hid (∀ W, ErrCells W → PowTab W → Calls Tryd.prog 61 #[.string (rsFrom s)] W fun e w' => e = .returned (.tuple #[.int .i64 (rNumT (rsFrom s)), .bool (rOkT (rsFrom s))]) ∧ Below W.heap.size W w') := hra
  replace hrb : Hid (∀ W, ErrCells W → PowTab W → Calls Tryd.prog 61 #[.string (rsTo s)] W fun e w' => e = .returned (.tuple #[.int .i64 (rNumT (rsTo s)), .bool (rOkT (rsTo s))]) ∧ Below W.heap.size W w') := hrb
  have HF := Lib.hid (show rsOk s = (rOkT (rsFrom s) && (rOkT (rsTo s) && isSpn (rNumT (rsFrom s)) (rNumT (rsTo s)))) from rfl)
  clear hz
  generalize rsOk s = ok at *
  generalize rsFrom s = fr at *
  generalize rsTo s = bto at *
  generalize rsFound s = fd at *
  generalize rNumT fr = na at *
  generalize rNumT bto = nb at *
  have hm0 := hm.below (one_box w (.cells #[.int .i64 0, .int .i64 0] 35))
  have he0 := he.below (one_box w (.cells #[.int .i64 0, .int .i64 0] 35))
  have ht0 := ht.below (one_box w (.cells #[.int .i64 0, .int .i64 0] 35))
  cases ha : rOkT fr
  · rw [ha] at hra HF
    clear ha
    obtain ⟨hsp, HF⟩ : isSpn na nb = isSpn na nb ∧ Hid (ok = false) := ⟨rfl, Lib.hid HF.out⟩
    clear hsp
    go_enter Tryd.func45, Tryd.ntmps45
    go_wp2_with fail
    refine (hcut _ hm0).mono ?_
    rintro e_ w1 ⟨rfl, hb1⟩
    go_wp2_with fail
    refine (hra.out _ (he0.below hb1) (ht0.below hb1)).mono ?_
    rintro e_ w2 ⟨rfl, hb2⟩
    have h12 := next hb1 hb2
    go_wp2_with fail
    refine (hrb.out _ (he0.below h12) (ht0.below h12)).mono ?_
    rintro e_ w3 ⟨rfl, hb3⟩
    have h13 := Lib.hid (next h12 hb3)
    clear hb1 hb2 hb3 h12 hra hrb hcut
    obtain ⟨r0, r1, r2, r3, r4⟩ := res_cells h13.out
    have B3 := Lib.hid (next (one_box w _) h13.out)
    have hz3 : w.heap.size < w3.heap.size := r4
    go_wp2_with fail
    first | (go_region_with (first | (go_at_call 31; refine (isSpn_impl na nb _).mono ?_; rintro e_ w4 ⟨rfl, hb4⟩; have hc_w4 := bcell hb4; have hf_w4 := bfree hb4; have hz_w4 : w3.heap.size < w4.heap.size := (by have hz_ := hb4.size; (try simp at hz_); omega); have hz_w5 : w.heap.size < w4.heap.size := (by omega); have hb5 := Lib.hid ((Below.alloc h13.out h13.out.size _).drew.trans (hb4.mono (by have := h13.out.size; simp at this ⊢; omega))); have hb6 := next (one_box w _) hb5.out; obtain ⟨q0, q1, q2, q3, q4⟩ := res_cells hb5.out))) | fail
    all_goals
      go_wp2
      refine bodyPost_ret (v := .tuple #[.agg #[.int .i64 na, .int .i64 nb], .bool ok]) ?_ rfl ⟨rfl, ?_⟩
      · simp [results, Tryd.results45, go_sem, HF.out, *]
      · repeat first | assumption | exact B3.out | exact hb6 | refine Below.drew ?_ | refine set_two ?_ | refine Below.alloc ?_ (by simp; omega) _
  · cases hb : rOkT bto
    · rw [ha] at hra HF
      rw [hb] at hrb HF
      clear ha hb
      replace HF : Hid (ok = false) := Lib.hid HF.out
      go_enter Tryd.func45, Tryd.ntmps45
      go_wp2_with fail
      refine (hcut _ hm0).mono ?_
      rintro e_ w1 ⟨rfl, hb1⟩
      go_wp2_with fail
      refine (hra.out _ (he0.below hb1) (ht0.below hb1)).mono ?_
      rintro e_ w2 ⟨rfl, hb2⟩
      have h12 := next hb1 hb2
      go_wp2_with fail
      refine (hrb.out _ (he0.below h12) (ht0.below h12)).mono ?_
      rintro e_ w3 ⟨rfl, hb3⟩
      have h13 := Lib.hid (next h12 hb3)
      clear hb1 hb2 hb3 h12 hra hrb hcut
      obtain ⟨r0, r1, r2, r3, r4⟩ := res_cells h13.out
      have B3 := Lib.hid (next (one_box w _) h13.out)
      have hz3 : w.heap.size < w3.heap.size := r4
      go_wp2_with fail
      first | (go_region_with (first | (go_at_call 31; refine (isSpn_impl na nb _).mono ?_; rintro e_ w4 ⟨rfl, hb4⟩; have hc_w4 := bcell hb4; have hf_w4 := bfree hb4; have hz_w4 : w3.heap.size < w4.heap.size := (by have hz_ := hb4.size; (try simp at hz_); omega); have hz_w5 : w.heap.size < w4.heap.size := (by omega); have hb5 := Lib.hid ((Below.alloc h13.out h13.out.size _).drew.trans (hb4.mono (by have := h13.out.size; simp at this ⊢; omega))); have hb6 := next (one_box w _) hb5.out; obtain ⟨q0, q1, q2, q3, q4⟩ := res_cells hb5.out))) | fail
      all_goals
        go_wp2
        refine bodyPost_ret (v := .tuple #[.agg #[.int .i64 na, .int .i64 nb], .bool ok]) ?_ rfl ⟨rfl, ?_⟩
        · simp [results, Tryd.results45, go_sem, HF.out, *]
        · repeat first | assumption | exact B3.out | exact hb6 | refine Below.drew ?_ | refine set_two ?_ | refine Below.alloc ?_ (by simp; omega) _
    · cases hsp : isSpn na nb
      all_goals
        rw [ha] at hra HF
        rw [hb] at hrb HF
        rw [hsp] at HF
        clear ha hb
        go_enter Tryd.func45, Tryd.ntmps45
        go_wp2_with fail
        refine (hcut _ hm0).mono ?_
        rintro e_ w1 ⟨rfl, hb1⟩
        go_wp2_with fail
        refine (hra.out _ (he0.below hb1) (ht0.below hb1)).mono ?_
        rintro e_ w2 ⟨rfl, hb2⟩
        have h12 := next hb1 hb2
        go_wp2_with fail
        refine (hrb.out _ (he0.below h12) (ht0.below h12)).mono ?_
        rintro e_ w3 ⟨rfl, hb3⟩
        have h13 := Lib.hid (next h12 hb3)
        clear hb1 hb2 hb3 h12 hra hrb hcut
        obtain ⟨r0, r1, r2, r3, r4⟩ := res_cells h13.out
        have B3 := Lib.hid (next (one_box w _) h13.out)
        have hz3 : w.heap.size < w3.heap.size := r4
        go_wp2_with fail
        first | (go_region_with (first | (go_at_call 31; refine (isb (isSpn_impl na nb _) hsp).mono ?_; rintro e_ w4 ⟨rfl, hb4⟩; have hc_w4 := bcell hb4; have hf_w4 := bfree hb4; have hz_w4 : w3.heap.size < w4.heap.size := (by have hz_ := hb4.size; (try simp at hz_); omega); have hz_w5 : w.heap.size < w4.heap.size := (by omega); have hb5 := Lib.hid ((Below.alloc h13.out h13.out.size _).drew.trans (hb4.mono (by have := h13.out.size; simp at this ⊢; omega))); have hb6 := next (one_box w _) hb5.out; obtain ⟨q0, q1, q2, q3, q4⟩ := res_cells hb5.out))) | fail
        all_goals
          go_wp2
          refine bodyPost_ret (v := .tuple #[.agg #[.int .i64 na, .int .i64 nb], .bool ok]) ?_ rfl ⟨rfl, ?_⟩
          · simp [results, Tryd.results45, go_sem, HF.out, *]
          · repeat first | assumption | exact B3.out | exact hb6 | refine Below.drew ?_ | refine set_two ?_ | refine Below.alloc ?_ (by simp; omega) _
set_option maxRecDepth 100000 in
set_option maxHeartbeats 2000000 in
theorem ReadSpan_impl (s : ByteArray) (w : World) (hs : s.size ≤ 1048576) (hm : MaxCell w) (he : ErrCells w) (ht : PowTab w) :
    Calls Tryd.prog 19 #[.string s] w fun e w' => e = .returned (.tuple #[.agg #[.int .i64 (rsSpan s).1, .int .i64 (rsSpan s).2], .int .i64 (rsCode s)]) ∧ Below w.heap.size w w' := by
  have hrd := fun W h1 h2 h3 => readSpan_any s W hs h1 h2 h3
  have hm0 := hm.below (one_box w (.cells #[.int .i64 0, .int .i64 0] 35))
  have he0 := he.below (one_box w (.cells #[.int .i64 0, .int .i64 0] 35))
  have ht0 := ht.below (one_box w (.cells #[.int .i64 0, .int .i64 0] 35))
  cases hok : rsOk s
  · have HF := rs_none (rs_no hok)
    rw [hok] at hrd
    clear hok
    generalize rNumT (rsFrom s) = na at *
    generalize rNumT (rsTo s) = nb at *
    go_enter Tryd.func19, Tryd.ntmps19
    go_wp2_with fail
    refine (hrd _ hm0 he0 ht0).mono ?_
    rintro e_ w1 ⟨rfl, hb1⟩
    obtain ⟨r0, r1, r2, r3, r4⟩ := res_cells hb1
    have B1 := Lib.hid (next (one_box w _) hb1)
    clear hb1 hrd
    go_wp2
    refine bodyPost_ret (v := .tuple #[.agg #[.int .i64 0, .int .i64 0], .int .i64 6]) ?_ rfl ⟨by rw [HF.out.1, HF.out.2], ?_⟩
    · simp [results, Tryd.results19, go_sem, r0, r1, r2, r3, r4]
    · exact Below.alloc (Below.setCell (Below.setCell B1.out (Nat.le_refl _) _) (Nat.le_refl _) _) (by simp; omega) _
  · have h2 := hok
    unfold rsOk at h2
    rw [Bool.and_eq_true, Bool.and_eq_true] at h2
    have HF := rs_some (rs_yes h2.1 h2.2.1 h2.2.2)
    rw [hok] at hrd
    clear hok h2
    generalize rNumT (rsFrom s) = na at *
    generalize rNumT (rsTo s) = nb at *
    go_enter Tryd.func19, Tryd.ntmps19
    go_wp2_with fail
    refine (hrd _ hm0 he0 ht0).mono ?_
    rintro e_ w1 ⟨rfl, hb1⟩
    obtain ⟨r0, r1, r2, r3, r4⟩ := res_cells hb1
    have B1 := Lib.hid (next (one_box w _) hb1)
    clear hb1 hrd
    go_wp2
    refine bodyPost_ret (v := .tuple #[.agg #[.int .i64 na, .int .i64 nb], .int .i64 0]) ?_ rfl ⟨by rw [HF.out.1, HF.out.2], ?_⟩
    · simp [results, Tryd.results19, go_sem, r0, r1, r2, r3, r4]
    · exact Below.alloc (Below.setCell (Below.setCell B1.out (Nat.le_refl _) _) (Nat.le_refl _) _) (by simp; omega) _
end Go.Proofs.YtfacbdliegemgaaDoor
namespace Go.Proofs.YtfacbdliegemgaaDoor.fnExactReadSpan
open Go.ChangeShapes Go.WideShapes Go.ChangeAt Go.RowKit
set_option linter.unusedVariables false
set_option maxHeartbeats 2000000 in
theorem walk (s0 : ByteArray) (hs0 : s0.size ≤ maxLen) (w : World) (hm : MaxCell w) (he : ErrCells w) (ht : PowTab w) : Calls Tryd.prog 5 #[.string s0] w fun e w' => e = .returned (.bool true) ∧ Below w.heap.size w w' := by
  have hs2 := hs0
  unfold maxLen at hs2
  by_cases hbig : 1048576 < s0.size
  · go_enter Tryd.func5, Tryd.ntmps5
    go_wp2
    go_ret
    exact ⟨rfl, Below.refl _ _⟩
  · have e1 : (s0.size : Int) ≤ 1048576 := by omega
    have hs1 : s0.size ≤ 1048576 := by omega
    have HSP := fun W => ReadSpan_spec s0 W hs1
    have HIM := fun W h1 h2 h3 => ReadSpan_impl s0 W hs1 h1 h2 h3
    generalize (rsSpan s0).1 = na at *
    generalize (rsSpan s0).2 = nb at *
    generalize rsCode s0 = code at *
    have cq : (code != code) = false := by simp
    go_enter Tryd.func5, Tryd.ntmps5
    go_wp2_with fail
    refine (HSP _).mono ?_
    rintro e_ w1 ⟨rfl, k1⟩
    have B1 := Lib.hid (next k1 (one_box w1 (.cells #[.int .i64 na, .int .i64 nb] 35)))
    go_wp2_with fail
    refine (HIM _ (hm.below B1.out) (he.below B1.out) (ht.below B1.out)).mono ?_
    rintro e_ w2 ⟨rfl, k2⟩
    obtain ⟨p0, p1, _, _, p4⟩ := res_cells k2
    have B2 := Lib.hid (next B1.out k2)
    go_wp2_with fail
    refine (eqSpn_any na nb _).mono ?_
    rintro e_ w3 ⟨rfl, k3⟩
    go_wp2
    go_ret
    exact ⟨rfl, next (next B2.out (one_box _ _)) k3⟩
end Go.Proofs.YtfacbdliegemgaaDoor.fnExactReadSpan
