/- Letters joined: what the functions compute. -/
import Derived.Test.YtfacbdliegemgaaDoorAlpha2
import Derived.Test.YtfacbdliegemgaaDoorInts
namespace Go.Proofs.YtfacbdliegemgaaDoor
open Go.ChangeShapes Go.WideShapes Go.ChangeAt Go.RowKit

def inB (lo hi y : Int) : Bool := decide (lo ≤ y ∧ y ≤ hi)
theorem iall_at {p : Int → Bool} {xs : List Int} {k : Nat} {s : Int} (h : Hid (xs[k]? = some s)) (hp : (xs.take k).all p = true) (hs : p s = true) : (xs.take (k + 1)).all p = true := all_at h hp hs

set_option maxHeartbeats 800000 in
theorem areWithin_any (A : Option Addr) (n c : Nat) (ys : List Int) (lo hi : Int) (w : World) (hx : Ints w A n c ys) :
    Calls Tryd.prog 41 #[.slice A n c, .int .i64 lo, .int .i64 hi] w fun e w' => e = .returned (.bool (ys.all (inB lo hi))) ∧ Below w.heap.size w w' := by
  have hm := hx.2.cap
  have hnc := hx.2.le
  unfold maxLen at hm
  have HN := Lib.hid hx.1
  go_enter Tryd.func41, Tryd.ntmps41
  go_wp2
  go_loopw [11] (fun i wr => ∃ k : Nat, k ≤ n ∧ i = .int .i64 k ∧ Hid ((ys.take k).all (inB lo hi) = true) ∧ Below w.heap.size w wr) (fun i _ => n - (intOf i).toNat)
  case atStart => exact ⟨0, Nat.zero_le _, rfl, by simp [Hid], Below.refl _ _⟩
  case round =>
    obtain ⟨k, hk, rfl, hup, hb⟩ := hrel
    by_cases hlt : k < n
    · obtain ⟨b, off, rfl, hbl⟩ := hx.at_ k hlt
      obtain ⟨s, hs, c0⟩ := hx.el hb hbl k hlt
      cases hw : inB lo hi s
      · go_wp2_with fail
        refine (isb (within_any s lo hi _) hw).mono ?_
        rintro e_ w1 ⟨rfl, h1⟩
        have hc_w1 := bcell h1; have hf_w1 := bfree h1
        have HF := Lib.hid (all_not hs hw)
        go_wp2
        go_ret
        exact ⟨by rw [HF.out]; rfl, next hb h1⟩
      · go_wp2_with fail
        refine (isb (within_any s lo hi _) hw).mono ?_
        rintro e_ w1 ⟨rfl, h1⟩
        have hc_w1 := bcell h1; have hf_w1 := bfree h1
        have HU := Lib.hid (all_at hs hup.out hw)
        clear hup
        go_wp2
        go_roundw
        case rel => exact ⟨k + 1, by omega, by go_num, HU, next hb h1⟩
        case measure => simp [intOf]; omega
    · have HF := Lib.hid (all_done HN.out (by omega) hup.out)
      clear hup
      go_wp2
      go_ret
      exact ⟨by rw [HF.out]; rfl, hb⟩

/-- the letters with some indices, one behind the other -/
def cat (xs : List ByteArray) (sp : List Int) : ByteArray := sp.foldl (fun t i => t ++ xs.getD i.toNat ⟨#[]⟩) ⟨#[]⟩
theorem cat_succ {xs : List ByteArray} {sp : List Int} {k q : Nat} {x : ByteArray} (h : sp[k]? = some (q : Int)) (hx : xs[q]? = some x) : cat xs (sp.take (k + 1)) = cat xs (sp.take k) ++ x := by
  unfold cat
  rw [List.take_add_one, h]
  simp [List.getD_eq_getElem?_getD, hx]
def jlBad (xs : List ByteArray) (sp : List Int) : Bool := decide (16 < sp.length) || !sp.all (inB 0 (xs.length - 1))
def jlCode (xs : List ByteArray) (sp : List Int) : Int := if isAlpha xs = true then if jlBad xs sp = true then 2 else 0 else 1
def jlText (xs : List ByteArray) (sp : List Int) : ByteArray := if isAlpha xs = true ∧ jlBad xs sp = false then cat xs sp else ⟨#[]⟩
theorem jl_no {xs : List ByteArray} (sp : List Int) (h : isAlpha xs = false) : Hid (jlText xs sp = ⟨#[]⟩ ∧ jlCode xs sp = 1) := by
  unfold Hid jlText jlCode
  simp [h]
theorem jl_bad {xs : List ByteArray} {sp : List Int} (h : isAlpha xs = true) (hb : jlBad xs sp = true) : Hid (jlText xs sp = ⟨#[]⟩ ∧ jlCode xs sp = 2) := by
  unfold Hid jlText jlCode
  simp [h, hb]
theorem jl_ok {xs : List ByteArray} {sp : List Int} (h : isAlpha xs = true) (hb : jlBad xs sp = false) : Hid (jlText xs sp = cat xs sp ∧ jlCode xs sp = 0) := by
  unfold Hid jlText jlCode
  simp [h, hb]
theorem alpha_size {xs : List ByteArray} (h : isAlpha xs = true) {q : Nat} {x : ByteArray} (hx : xs[q]? = some x) : 1 ≤ x.size ∧ x.size ≤ 3 := by
  unfold isAlpha at h
  rw [Bool.and_eq_true, List.all_eq_true] at h
  have h1 := h.1 q (by have := (List.getElem?_eq_some_iff.1 hx).1; simpa using this)
  rw [alphaAt_is hx, Bool.and_eq_true] at h1
  have h2 := h1.1
  unfold small at h2
  simp at h2
  omega

end Go.Proofs.YtfacbdliegemgaaDoor
