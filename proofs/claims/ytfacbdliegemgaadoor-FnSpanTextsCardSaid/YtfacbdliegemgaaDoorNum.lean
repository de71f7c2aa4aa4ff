/- Numbers written in decimal: what the functions compute. -/
import Derived.Test.YtfacbdliegemgaaDoorInts
import Derived.Test.YtfacbdliegemgaaDoorZone
import Derived.Test.YtfacbdliegemgaaDoorNumLaw
import Derived.Test.YtfacbdliegemgaaDoorShelf3
import Derived.Lib.AppendIntMem
import Derived.Lib.LaidTab
import Derived.IntWalk
import Derived.Deep.DeepCutAuto
import Derived.Deep.RegionWith
import Derived.Deep.RegionHeldLaw
namespace Go.Proofs.YtfacbdliegemgaaDoor
open Go.ChangeShapes Go.WideShapes Go.ChangeAt Go.RowKit

/-- the library's table of powers, as long as nothing below is changed -/
def PowTab (w : World) : Prop := Lib.TabIs Tryd.prog w "internal/strconv.uint64pow10" .u64 Lib.pow10Tab
theorem PowTab.below {w w' : World} (h : PowTab w) (hb : Below w.heap.size w w') : PowTab w' := ((Lib.tabBelow_of_tabIs h).on hb).here
def numT (n : Int) : ByteArray := ⟨(Lib.itoa n).toArray⟩
theorem decimal_any (n : Int) (w : World) (h0 : -9223372036854775808 ≤ n) (h1 : n ≤ 9223372036854775807) (ht : PowTab w) :
    Calls Tryd.prog 70 #[.int .i64 n] w fun e w' => e = .returned (.string (numT n)) ∧ Below w.heap.size w w' := by
  have hf := Any.strconv_FormatInt_10 Tryd.laysM173 n h0 h1 w ht
  go_enter Tryd.func70, Tryd.ntmps70
  go_wp2_with fail
  refine hf.mono ?_
  rintro e_ w1 ⟨rfl, k, os, rfl⟩
  have hb := Lib.below_grow w.heap.size w (Nat.le_refl _) k os
  clear hf
  generalize Sort.grow (w.drewN k) os = w1 at *
  go_wp2
  go_ret
  exact ⟨rfl, hb⟩
theorem conv_at (W : World) (g : Nat) (d : Int) (h0 : 0 ≤ d) (hd : d < 10) (hc : W.cell? ⟨g, 0, none⟩ = some (.int .u8 (48 + d))) :
    (convert 39 9 (.slice (some ⟨g, 0, none⟩) 1 1)).run Tryd.prog W = .ok (.string ⟨#[UInt8.ofNat (48 + d.toNat)]⟩) W := by
  have h := run_convert_bytes_back (P := Tryd.prog) W 39 9 5 ⟨g, 0, none⟩ 1 [UInt8.ofNat (48 + d.toNat)] Tryd.underlying39 Tryd.underlying5 Tryd.underlying9 ?_
  · simpa using h
  · intro j hj
    have : j = 0 := by simpa using hj
    subst this
    have e : ((UInt8.ofNat (48 + d.toNat)).toNat : Int) = 48 + d := by
      rw [UInt8.toNat_ofNat']; omega
    simp only [List.getElem_cons_zero, e]
    exact hc
theorem cat_dec (n : Nat) (h : ¬ n < 10) : (⟨(Lib.decDigits (n / 10)).toArray⟩ : ByteArray) ++ ⟨#[UInt8.ofNat (48 + n % 10)]⟩ = ⟨(Lib.decDigits n).toArray⟩ := by
  rw [dec_big h]
  apply ByteArray.ext
  simp [ByteArray.data_append]
set_option maxRecDepth 100000 in
set_option maxHeartbeats 2000000 in
theorem l01Dec_any (n : Nat) : ∀ (w : World), n ≤ 1000000000000000000 → Calls Tryd.prog 76 #[.int .i64 n] w fun e w' => e = .returned (.string ⟨(Lib.decDigits n).toArray⟩) ∧ Below w.heap.size w w' := by
  induction n using Nat.strongRecOn with
  | _ n ih =>
    intro w hn
    by_cases h : n < 10
    · have HD := Lib.hid (dec_small h)
      have hc := conv_one w (n : Int) (by omega) (by omega)
      go_enter Tryd.func76, Tryd.ntmps76
      go_wp2
      go_ret
      exact ⟨by rw [HD.out]; simp, (Below.refl _ _).alloc (Nat.le_refl _) _⟩
    · have HD := Lib.hid (cat_dec n h)
      have hih := fun W => ih (n / 10) (by omega) W (by omega)
      have hcv := fun W g hc => conv_at W g ((n : Int) % 10) (by omega) (by omega) hc
      have hp : (10 : Nat) ^ 20 = 100000000000000000000 := by decide
      have hlen : (Lib.decDigits (n / 10)).length ≤ 20 := dec_le 19 (n / 10) (by omega)
      clear hp
      obtain ⟨t, ht⟩ : ∃ t : ByteArray, ⟨(Lib.decDigits (n / 10)).toArray⟩ = t := ⟨_, rfl⟩
      have hts : t.size ≤ 20 := by rw [← ht]; simpa [ByteArray.size] using hlen
      rw [ht] at hih HD
      clear ht hlen ih
      have hw2 : (n : Int).tmod 10 = (n : Int) % 10 := Int.tmod_eq_emod_of_nonneg (by omega)
      have hw3 : IntKind.i64.wrap (48 + (n : Int) % 10) = 48 + (n : Int) % 10 := IntWalk.i64_in _ (by omega)
      have hw4 : IntKind.u8.wrap (48 + (n : Int) % 10) = 48 + (n : Int) % 10 := IntWalk.u8_in _ (by omega)
      have hw1 : IntKind.i64.wrap ((n : Int) / 10) = ((n / 10 : Nat) : Int) := by rw [IntWalk.i64_in _ (by omega)]; rfl
      go_enter Tryd.func76, Tryd.ntmps76
      go_upto_region 3 with fail
      (go_region_held_law (fun w' => Below w.heap.size w w') (first | exact (Below.refl _ _).drew | assumption | exact next ‹_› h1 | exact Below.alloc ‹_› (by have := ‹Below w.heap.size w _›.size; omega) _ | (exact (Below.refl _ _).drew.alloc (by simp) _)) (first | (go_at_call 76; refine (hih _).mono ?_; rintro e_ w1 ⟨rfl, h1⟩; (have hc_w1 := bcell h1))))
      all_goals
        clear hcv hih
        go_wp2
        go_ret
        refine ⟨by rw [← HD.out]; first | rfl | (simp; done) | (congr 2; simp), ?_⟩
        first | assumption | exact Below.alloc ‹Below w.heap.size w w1› ‹Below w.heap.size w w1›.size _
set_option maxHeartbeats 800000 in
theorem l01Number_any (n : Int) (w : World) (h0 : -1000000000000000000 ≤ n) (h1 : n ≤ 1000000000000000000) :
    Calls Tryd.prog 68 #[.int .i64 n] w fun e w' => e = .returned (.string (numT n)) ∧ Below w.heap.size w w' := by
  by_cases hn : n < 0
  · have HN := Lib.hid (show (⟨#[45]⟩ : ByteArray) ++ ⟨(Lib.decDigits n.natAbs).toArray⟩ = numT n by
      unfold numT
      rw [itoa_neg hn]
      apply ByteArray.ext
      simp [ByteArray.data_append])
    have hd := fun W => l01Dec_any n.natAbs W (by omega)
    rw [show ((n.natAbs : Nat) : Int) = -n by omega] at hd
    have hp : (10 : Nat) ^ 20 = 100000000000000000000 := by decide
    have hlen : (Lib.decDigits n.natAbs).length ≤ 20 := dec_le 19 n.natAbs (by omega)
    obtain ⟨t, ht⟩ : ∃ t : ByteArray, ⟨(Lib.decDigits n.natAbs).toArray⟩ = t := ⟨_, rfl⟩
    have hts : t.size ≤ 20 := by rw [← ht]; simpa [ByteArray.size] using hlen
    rw [ht] at hd HN
    clear ht hlen hp
    go_enter Tryd.func68, Tryd.ntmps68
    go_wp2_with fail
    refine (hd _).mono ?_
    rintro e_ w1 ⟨rfl, k1⟩
    have hc_w1 := bcell k1; have hf_w1 := bfree k1
    go_wp2
    go_ret
    exact ⟨by rw [← HN.out]; rfl, k1⟩
  · have HN := Lib.hid (show (⟨(Lib.decDigits n.toNat).toArray⟩ : ByteArray) = numT n by
      unfold numT
      rw [itoa_pos hn])
    have hd := fun W => l01Dec_any n.toNat W (by omega)
    rw [show ((n.toNat : Nat) : Int) = n by omega, HN.out] at hd
    go_enter Tryd.func68, Tryd.ntmps68
    go_wp2_with fail
    refine (hd _).mono ?_
    rintro e_ w1 ⟨rfl, k1⟩
    have hc_w1 := bcell k1; have hf_w1 := bfree k1
    go_wp2
    go_ret
    exact ⟨rfl, k1⟩
end Go.Proofs.YtfacbdliegemgaaDoor
