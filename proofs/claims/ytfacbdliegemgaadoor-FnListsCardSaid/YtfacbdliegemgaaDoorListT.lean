/- The text of a list of numbers. -/
import Derived.Test.YtfacbdliegemgaaDoorNumJ
import Derived.Test.YtfacbdliegemgaaDoorSpellA
namespace Go.Proofs.YtfacbdliegemgaaDoor
open Go.ChangeShapes Go.WideShapes Go.ChangeAt Go.RowKit

def valB (n : Int) : Bool := inB (-1000000000000) 1000000000000 n
def lstT (ns : List Int) : ByteArray := if ns = [] then ⟨#[45]⟩ else jn 44 (ns.map numT)
def ltCode (ns : List Int) : Int := if ns.all valB = true then if 60 < ns.length then 3 else 0 else 2
def ltText (ns : List Int) : ByteArray := if ns.all valB = true ∧ ¬ 60 < ns.length then lstT ns else ⟨#[]⟩
theorem val_num {ns : List Int} (h : ns.all valB = true) : ns.all numB = true := by
  rw [List.all_eq_true] at h ⊢
  intro i hi
  have := h i hi
  unfold valB inB at this
  have := of_decide_eq_true this
  exact decide_eq_true (by omega)
theorem lt_cases (ns : List Int) {n : Nat} (hn : n = ns.length) :
    (ns.all valB = false ∧ Hid (ltText ns = ⟨#[]⟩ ∧ ltCode ns = 2)) ∨ (ns.all valB = true ∧ 60 < n ∧ Hid (ltText ns = ⟨#[]⟩ ∧ ltCode ns = 3)) ∨ (ns.all valB = true ∧ ¬ 60 < n ∧ Hid (ltText ns = lstT ns ∧ ltCode ns = 0)) := by
  subst hn
  unfold Hid ltText ltCode
  cases ns.all valB
  · simp
  · by_cases h : 60 < ns.length
    · simp [h]
    · simp [h]
theorem l01Is_any (n : Int) (w : World) : Calls Tryd.prog 40 #[.int .i64 n] w fun e w' => e = .returned (.bool (valB n)) ∧ Below w.heap.size w w' := by
  go_enter Tryd.func40, Tryd.ntmps40
  go_wp2_with fail
  refine (l01In_any n (-1000000000000) 1000000000000 _).mono ?_
  rintro e_ w1 ⟨rfl, h1⟩
  have hc_w1 := bcell h1; have hf_w1 := bfree h1
  go_wp2
  go_ret
  exact ⟨ret_bool (by unfold valB inB; rw [Bool.eq_iff_iff]; simp), h1⟩
set_option maxHeartbeats 1000000 in
theorem listText_any (A : Option Addr) (n c : Nat) (ns : List Int) (w : World) (hx : Ints w A n c ns) (hb : ns.all numB = true) (hn : n ≤ 1048576) (ht : PowTab w) :
    Calls Tryd.prog 50 #[.slice A n c] w fun e w' => e = .returned (.string (lstT ns)) ∧ Below w.heap.size w w' := by
  have hcm := hx.2.cap
  have hnc := hx.2.le
  unfold maxLen at hcm
  by_cases h0 : 0 < n
  · have hl := hx.1
    have HF := Lib.hid (show lstT ns = jn 44 (ns.map numT) by unfold lstT; rw [if_neg (by rintro rfl; simp at hl; omega)])
    have hj := join_num A n c ns 44 w hx hb hn ht
    obtain ⟨t, htt⟩ : ∃ t, jn 44 (ns.map numT) = t := ⟨_, rfl⟩
    rw [htt] at hj HF
    clear htt hl hb
    go_enter Tryd.func50, Tryd.ntmps50
    go_wp2_with fail
    refine hj.mono ?_
    rintro e_ w1 ⟨rfl, h1⟩
    go_wp2
    go_ret
    exact ⟨by rw [HF.out]; rfl, h1⟩
  · obtain rfl : n = 0 := by omega
    have HF := Lib.hid (show lstT ns = ⟨#[45]⟩ by unfold lstT; rw [if_pos (List.eq_nil_of_length_eq_zero hx.1.symm)])
    go_enter Tryd.func50, Tryd.ntmps50
    go_wp2
    go_ret
    exact ⟨by rw [HF.out]; rfl, Below.refl _ _⟩
set_option maxHeartbeats 1000000 in
theorem l01List_any (A : Option Addr) (n c : Nat) (ns : List Int) (w : World) (hx : Ints w A n c ns) (hb : ns.all numB = true) (hn : n ≤ 1048576) :
    Calls Tryd.prog 39 #[.slice A n c] w fun e w' => e = .returned (.string (lstT ns)) ∧ Below w.heap.size w w' := by
  have hcm := hx.2.cap
  have hnc := hx.2.le
  unfold maxLen at hcm
  by_cases h0 : 0 < n
  · have hl := hx.1
    have HF := Lib.hid (show lstT ns = jn 44 (ns.map numT) by unfold lstT; rw [if_neg (by rintro rfl; simp at hl; omega)])
    have hj := l01Join_any A n c ns 44 w hx hb hn
    obtain ⟨t, htt⟩ : ∃ t, jn 44 (ns.map numT) = t := ⟨_, rfl⟩
    rw [htt] at hj HF
    clear htt hl hb
    go_enter Tryd.func39, Tryd.ntmps39
    go_wp2_with fail
    refine hj.mono ?_
    rintro e_ w1 ⟨rfl, h1⟩
    go_wp2
    go_ret
    exact ⟨by rw [HF.out]; rfl, h1⟩
  · obtain rfl : n = 0 := by omega
    have HF := Lib.hid (show lstT ns = ⟨#[45]⟩ by unfold lstT; rw [if_pos (List.eq_nil_of_length_eq_zero hx.1.symm)])
    go_enter Tryd.func39, Tryd.ntmps39
    go_wp2
    go_ret
    exact ⟨by rw [HF.out]; rfl, Below.refl _ _⟩
set_option maxHeartbeats 1000000 in
theorem ListText_impl (A : Option Addr) (n c : Nat) (ns : List Int) (w : World) (hx : Ints w A n c ns) (ht : PowTab w) :
    Calls Tryd.prog 23 #[.slice A n c] w fun e w' => e = .returned (.tuple #[.string (ltText ns), .int .i64 (ltCode ns)]) ∧ Below w.heap.size w w' := by
  have hcm := hx.2.cap
  have hnc := hx.2.le
  unfold maxLen at hcm
  rcases lt_cases ns hx.1 with ⟨ha, HF⟩ | ⟨ha, h60, HF⟩ | ⟨ha, h60, HF⟩
  · go_enter Tryd.func23, Tryd.ntmps23
    go_wp2_with fail
    refine (isb (areWithin_any A n c ns (-1000000000000) 1000000000000 _ hx) ha).mono ?_
    rintro e_ w1 ⟨rfl, h1⟩
    have hc_w1 := bcell h1; have hf_w1 := bfree h1
    go_wp2
    go_ret2
    exact ⟨by rw [HF.out.1, HF.out.2]; rfl, h1⟩
  · go_enter Tryd.func23, Tryd.ntmps23
    go_wp2_with fail
    refine (isb (areWithin_any A n c ns (-1000000000000) 1000000000000 _ hx) ha).mono ?_
    rintro e_ w1 ⟨rfl, h1⟩
    have hc_w1 := bcell h1; have hf_w1 := bfree h1
    go_wp2
    go_ret2
    exact ⟨by rw [HF.out.1, HF.out.2]; rfl, h1⟩
  · have hl := fun W h1 h2 => listText_any A n c ns W h1 (val_num ha) (by omega) h2
    obtain ⟨t, htt⟩ : ∃ t, lstT ns = t := ⟨_, rfl⟩
    rw [htt] at hl HF
    clear htt
    go_enter Tryd.func23, Tryd.ntmps23
    go_wp2_with fail
    refine (isb (areWithin_any A n c ns (-1000000000000) 1000000000000 _ hx) ha).mono ?_
    rintro e_ w1 ⟨rfl, h1⟩
    have hc_w1 := bcell h1; have hf_w1 := bfree h1
    go_wp2_with fail
    refine (hl _ (hx.below h1) (ht.below h1)).mono ?_
    rintro e_ w2 ⟨rfl, h2⟩
    have hc_w2 := bcell h2; have hf_w2 := bfree h2
    go_wp2
    go_ret2
    exact ⟨by rw [HF.out.1, HF.out.2]; rfl, next h1 h2⟩
set_option maxRecDepth 100000 in
set_option maxHeartbeats 1000000 in
theorem ListText_spec (A : Option Addr) (n c : Nat) (ns : List Int) (w : World) (hx : Ints w A n c ns) :
    Calls Tryd.prog 24 #[.slice A n c] w fun e w' => e = .returned (.tuple #[.string (ltText ns), .int .i64 (ltCode ns)]) ∧ Below w.heap.size w w' := by
  have hcm := hx.2.cap
  have hnc := hx.2.le
  have HX := Lib.hid hx.1
  unfold maxLen at hcm
  go_enter Tryd.func24, Tryd.ntmps24
  go_wp2
  go_loopw [4] (fun i wr => ∃ k : Nat, k ≤ n ∧ i = .int .i64 k ∧ Hid ((ns.take k).all valB = true) ∧ Below w.heap.size w wr) (fun i _ => n - (intOf i).toNat)
  case atStart => exact ⟨0, Nat.zero_le _, rfl, by simp [Hid], Below.refl _ _⟩
  case round =>
    obtain ⟨k, hk, rfl, hup, hb⟩ := hrel
    by_cases hlt : k < n
    · obtain ⟨b, off, rfl, hbl⟩ := hx.at_ k hlt
      obtain ⟨s, hs, c0⟩ := hx.el hb hbl k hlt
      cases hw : valB s
      · have HF := Lib.hid (show ltText ns = ⟨#[]⟩ ∧ ltCode ns = 2 by unfold ltText ltCode; rw [all_not hs hw]; simp)
        go_wp2_with fail
        refine (isb (l01Is_any s _) hw).mono ?_
        rintro e_ w1 ⟨rfl, h1⟩
        have hc_w1 := bcell h1; have hf_w1 := bfree h1
        go_wp2
        go_ret2
        exact ⟨by rw [HF.out.1, HF.out.2]; rfl, next hb h1⟩
      · have HU := Lib.hid (all_at hs hup.out hw)
        clear hup
        go_wp2_with fail
        refine (isb (l01Is_any s _) hw).mono ?_
        rintro e_ w1 ⟨rfl, h1⟩
        have hc_w1 := bcell h1; have hf_w1 := bfree h1
        go_wp2
        go_roundw
        case rel => exact ⟨k + 1, by omega, by go_num, HU, next hb h1⟩
        case measure => simp [intOf]; omega
    · have ha := all_done HX.out (by omega) hup.out
      clear hup
      rcases lt_cases ns HX.out with ⟨ha2, HF⟩ | ⟨_, h60, HF⟩ | ⟨_, h60, HF⟩
      · rw [ha] at ha2; cases ha2
      · clear ha
        go_wp2
        go_ret2
        exact ⟨by rw [HF.out.1, HF.out.2]; rfl, hb⟩
      · have hl := fun W h1 => l01List_any A n c ns W h1 (val_num ha) (by omega)
        obtain ⟨t, htt⟩ : ∃ t, lstT ns = t := ⟨_, rfl⟩
        rw [htt] at hl HF
        clear htt ha
        go_wp2_with fail
        refine (hl _ (hx.below hb)).mono ?_
        rintro e_ w1 ⟨rfl, h1⟩
        have hc_w1 := bcell h1; have hf_w1 := bfree h1
        go_wp2
        go_ret2
        exact ⟨by rw [HF.out.1, HF.out.2]; rfl, next hb h1⟩
end Go.Proofs.YtfacbdliegemgaaDoor
