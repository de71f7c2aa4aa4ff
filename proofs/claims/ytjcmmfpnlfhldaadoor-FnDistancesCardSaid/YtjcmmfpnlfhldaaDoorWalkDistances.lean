/- Walk of the law FnDistances. -/
import Derived.Test.YtjcmmfpnlfhldaaDoorDrawB
import Derived.Test.YtjcmmfpnlfhldaaDoorDistLaw
namespace Go.Proofs.YtjcmmfpnlfhldaaDoor
open Go.ChangeShapes Go.WideShapes Go.ChangeAt Go.RowKit
theorem code_sym (a b : ByteArray) : twoCode b a = twoCode a b := by
  unfold twoCode
  by_cases h : isWord a = true ∧ isWord b = true
  · rw [if_pos h, if_pos ⟨h.2, h.1⟩]
  · rw [if_neg h, if_neg fun x => h ⟨x.2, x.1⟩]
theorem dist_facts {a b : ByteArray} (h : twoCode a b = 0) : edVal b a = edVal a b ∧ (edVal a b = 0 ↔ a = b) ∧ max (a.size : Int) b.size - min (a.size : Int) b.size ≤ edVal a b ∧ edVal a b ≤ max (a.size : Int) b.size ∧ lcsVal a b ≤ min (a.size : Int) b.size ∧ max (a.size : Int) b.size - lcsVal a b ≤ edVal a b ∧ edVal a b ≤ (a.size : Int) + b.size - 2 * lcsVal a b ∧ ((comText a b).size : Int) ≤ lcsVal a b ∧ 0 ≤ edVal a b ∧ 0 ≤ lcsVal a b := by
  have h2 := code_sym a b
  rw [h] at h2
  have e0 : ∀ x : ByteArray, x.data.toList.length = x.size := fun x => by simp
  have e1 : edVal b a = edit b.data.toList a.data.toList := by unfold edVal; rw [if_pos h2]
  have e2 : edVal a b = edit a.data.toList b.data.toList := by unfold edVal; rw [if_pos h]
  have e3 : lcsVal a b = lcs a.data.toList b.data.toList := by unfold lcsVal; rw [if_pos h]
  have e4 : (comText a b).size = startLen a.data.toList b.data.toList := by
    unfold comText
    rw [if_pos h]
    have := comStart_le a b
    rw [ByteArray.size_extract]
    unfold comStart at *
    omega
  obtain ⟨l1, l2, l3⟩ := dist_law a.data.toList b.data.toList
  rw [e0, e0] at l3
  rw [e1, e2, e3, e4]
  refine ⟨l1, l2.trans ⟨fun e => ByteArray.ext (Array.ext' e), fun e => by rw [e]⟩, l3⟩
end Go.Proofs.YtjcmmfpnlfhldaaDoor
namespace Go.Proofs.YtjcmmfpnlfhldaaDoor.fnDistances
open Go.ChangeShapes Go.WideShapes Go.ChangeAt Go.RowKit
set_option linter.unusedVariables false
set_option maxRecDepth 100000 in
set_option maxHeartbeats 4000000 in
theorem walk (A : Option Addr) (n c : Nat) (bs : List UInt8) (w : World) (hx : Bytes w A n c bs) : Calls Tryd.prog 3 #[.slice A n c] w fun e w' => e = .returned (.bool true) ∧ Below w.heap.size w w' := by
  go_enter Tryd.func3, Tryd.ntmps3
  go_wp2_with fail
  refine (big_any A n c w).mono ?_
  rintro e_ w0 ⟨rfl, h0⟩
  by_cases hbig : 4096 < n
  · have hb2 : (4096 : Int) < n := by omega
    go_wp2
    go_ret
    exact ⟨rfl, h0⟩
  · have hb2 : ¬ (4096 : Int) < n := by omega
    go_wp2_with fail
    refine (DrawEditDistance_any A n c bs _ (hx.below h0)).mono ?_
    rintro e_ w1 ⟨a, b, rfl, za, zb, h1⟩
    have B1 := Lib.hid (next h0 h1)
    have ma : a.size ≤ maxLen := by unfold maxLen; omega
    have mb : b.size ≤ maxLen := by unfold maxLen; omega
    go_wp2_with fail
    refine (EditDistance_impl a b _ ma mb).mono ?_
    rintro e_ w2 ⟨rfl, h2⟩
    go_wp2_with fail
    refine (EditDistance_spec a b _ ma mb).mono ?_
    rintro e_ w3 ⟨rfl, h3⟩
    go_wp2_with fail
    refine (Letters_impl a b _ ma mb).mono ?_
    rintro e_ w4 ⟨rfl, h4⟩
    go_wp2_with fail
    refine (Letters_spec a b _ ma mb).mono ?_
    rintro e_ w5 ⟨rfl, h5⟩
    go_wp2_with fail
    refine (CommonStart_impl a b _ ma mb).mono ?_
    rintro e_ w6 ⟨rfl, h6⟩
    go_wp2_with fail
    refine (CommonStart_spec a b _ ma mb).mono ?_
    rintro e_ w7 ⟨rfl, h7⟩
    have B7 := Lib.hid (next (next (next (next (next (next B1.out h2) h3) h4) h5) h6) h7)
    clear h2 h3 h4 h5 h6 h7
    have c1 : (twoCode a b != twoCode a b) = false := by simp
    have c2 : (edVal a b != edVal a b) = false := by simp
    have c3 : (lcsVal a b != lcsVal a b) = false := by simp
    have c4 : ((comText a b).toList == (comText a b).toList) = true := by simp
    rcases two_cases a b with ⟨ht, _, _⟩ | ⟨ht, _⟩
    · have hf := Lib.hid (dist_facts ht.out)
      have hs := Lib.hid (code_sym a b)
      have hE := fun W => EditDistance_impl b a W mb ma
      rw [hs.out, hf.out.1] at hE
      have t0 : (twoCode a b != 0) = false := by rw [ht.out]; rfl
      have t1 : (twoCode a b == 0) = true := by rw [ht.out]; rfl
      generalize twoCode a b = code at *
      generalize edVal a b = d at *
      generalize lcsVal a b = l at *
      generalize comText a b = s at *
      go_wp2_with fail
      refine (hE _).mono ?_
      rintro e_ w8 ⟨rfl, h8⟩
      have B8 := Lib.hid (next B7.out h8)
      obtain ⟨-, f2, f3, f4, f5, f6, f7, f8, f9, f10⟩ := hf.out
      have e1 : IntKind.i64.wrap (max (a.size : Int) b.size - min (a.size : Int) b.size) = max (a.size : Int) b.size - min (a.size : Int) b.size := IntWalk.i64_in _ (by omega)
      have e2 : IntKind.i64.wrap (max (a.size : Int) b.size - l) = max (a.size : Int) b.size - l := IntWalk.i64_in _ (by omega)
      have e3 : IntKind.i64.wrap ((a.size : Int) + b.size) = (a.size : Int) + b.size := IntWalk.i64_in _ (by omega)
      have e4 : IntKind.i64.wrap (2 * l) = 2 * l := IntWalk.i64_in _ (by omega)
      have e5 : IntKind.i64.wrap ((a.size : Int) + b.size - 2 * l) = (a.size : Int) + b.size - 2 * l := IntWalk.i64_in _ (by omega)
      have dq : (d == d) = true := by simp
      clear hf hs hE
      by_cases hab : a = b
      · have d0 : (d == 0) = true := by rw [f2.2 hab]; rfl
        have d1 : d = 0 := f2.2 hab
        clear f2
        subst hab
        subst d1
        simp only [Int.max_self, Int.min_self, Int.sub_self] at e1 e2 f3 f4 f5 f6
        have ab : (a.toList == a.toList) = true := by simp
        go_wp2
        all_goals first | (go_ret; exact ⟨rfl, B8.out⟩) | (exfalso; omega)
      · have d0 : (d == 0) = false := by rw [beq_eq_false_iff_ne]; exact fun e => hab (f2.1 e)
        have ab := text_ne hab
        clear f2
        go_wp2
        all_goals first | (go_ret; exact ⟨rfl, B8.out⟩) | (exfalso; omega)
    · have t0 : (twoCode a b != 0) = true := by rw [ht.out]; rfl
      go_wp2
      go_ret
      exact ⟨rfl, B7.out⟩
end Go.Proofs.YtjcmmfpnlfhldaaDoor.fnDistances
