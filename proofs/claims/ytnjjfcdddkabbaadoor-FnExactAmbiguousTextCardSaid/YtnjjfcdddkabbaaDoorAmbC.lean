/- Tables with an empty text: what the functions compute. -/
import Derived.Test.YtnjjfcdddkabbaaDoorAmbG
import Derived.Test.YtnjjfcdddkabbaaDoorAmbA
namespace Go.Proofs.YtnjjfcdddkabbaaDoor
open Go.ChangeShapes Go.WideShapes Go.ChangeAt Go.RowKit
theorem text_someU {s : ByteArray} (h : 0 < s.size) : s.toList.isEmpty = false := by
  rw [ByteArray.toList_eq]
  cases hl : s.data.toList with
  | nil =>
    have : s.data.toList.length = s.size := by simp
    rw [hl] at this
    simp at this
    omega
  | cons a l => rfl
theorem text_nilU {s : ByteArray} (h : ¬ 0 < s.size) : s = ⟨#[]⟩ := by
  apply ByteArray.ext
  apply Array.eq_empty_of_size_eq_zero
  have : s.data.size = s.size := rfl
  omega
theorem nextU {B : Nat} {a w w' : World} (h : Below B a w) (hb : Below w.heap.size w w') (hB : B ≤ w.heap.size) : Below B a w' := h.trans (hb.mono hB)
theorem one_boxU (w : World) (o : Obj) : Below w.heap.size w (w.alloc o) := (Below.refl _ _).alloc (Nat.le_refl _) _
set_option maxRecDepth 100000 in
set_option maxHeartbeats 1000000 in
theorem l05Empty_any (A : Option Addr) (n c : Nat) (T : List Rl) (w : World) (hx : Rules w A n c T) :
    Calls Tryd.prog 14 #[.slice A n c] w fun e w' => e = .returned (.bool (hasE T)) ∧ Below w.heap.size w w' := by
  have hcm := hx.cap.2
  have hnc := hx.cap.1
  have HX := Lib.hid hx.1
  unfold maxLen at hcm
  go_enter Tryd.func14, Tryd.ntmps14
  go_wp2
  go_loopw [3] (fun i wr => ∃ k : Nat, k ≤ n ∧ i = .int .i64 k ∧ Hid (hasE (T.take k) = false) ∧ Below w.heap.size w wr) (fun i _ => n - (intOf i).toNat)
  case atStart => exact ⟨0, Nat.zero_le _, rfl, by simp [Hid, hasE], Below.refl _ _⟩
  case round =>
    obtain ⟨k, hk, rfl, hup, hb⟩ := hrel
    by_cases hlt : k < n
    · obtain ⟨b, off, rfl, hbl⟩ := hx.at_ k hlt
      obtain ⟨B', m', d', xs, r, hT, c0, c1, hz, hrz⟩ := hx.el hb k hlt
      by_cases h0 : 0 < r.size
      · have hne := text_someU h0
        have HU := Lib.hid (hasE_succ hT.out (by omega) hup.out)
        clear hup
        go_wp2
        go_roundw
        case rel => exact ⟨k + 1, by omega, by go_num, HU, hb⟩
        case measure => simp [intOf]; omega
      · have HF := Lib.hid (hasE_yes hT.out (by omega))
        obtain rfl := text_nilU h0
        clear hup
        go_wp2
        go_ret
        exact ⟨by rw [HF.out]; rfl, hb⟩
    · have HF := Lib.hid (hasE_all hup.out (by have := HX.out; omega))
      clear hup
      go_wp2
      go_ret
      exact ⟨by rw [HF.out]; rfl, hb⟩
theorem hasEmpty1_any (B : Option Addr) (m d : Nat) (r : ByteArray) (w : World) :
    Calls Tryd.prog 32 #[.agg #[.slice B m d, .string r]] w fun e w' => e = .returned (.bool (decide (r.size = 0))) ∧ Below w.heap.size w w' := by
  by_cases h0 : 0 < r.size
  · have hne := text_someU h0
    have e : decide (r.size = 0) = false := decide_eq_false (by omega)
    rw [e]
    clear e
    go_enter Tryd.func32, Tryd.ntmps32
    go_wp2
    go_ret
    exact ⟨rfl, one_boxU _ _⟩
  · obtain rfl := text_nilU h0
    go_enter Tryd.func32, Tryd.ntmps32
    go_wp2
    go_ret
    exact ⟨rfl, one_boxU _ _⟩
def AnyU (b : Bool) (w : World) (e : Ending) (w' : World) : Prop := ∃ q : Int, e = .returned (.int .i64 q) ∧ decide (0 ≤ q) = b ∧ Below w.heap.size w w'
set_option maxRecDepth 100000 in
set_option maxHeartbeats 1000000 in
theorem IndexFunc_hasE (A : Option Addr) (n c : Nat) (T : List Rl) (w : World) (hx : Rules w A n c T) :
    Calls Tryd.prog 43 #[.slice A n c, .func (.func 32) #[] #[]] w (AnyU (hasE T) w) := by
  have hcm := hx.cap.2
  have hnc := hx.cap.1
  have HX := Lib.hid hx.1
  unfold maxLen at hcm
  go_enter Tryd.func43, Tryd.ntmps43
  go_wp2
  go_loopw [8] (fun i wr => ∃ k : Nat, k ≤ n ∧ i = .int .i64 k ∧ Hid (hasE (T.take k) = false) ∧ Below w.heap.size w wr) (fun i _ => n - (intOf i).toNat)
  case atStart => exact ⟨0, Nat.zero_le _, rfl, by simp [Hid, hasE], Below.refl _ _⟩
  case round =>
    obtain ⟨k, hk, rfl, hup, hb⟩ := hrel
    by_cases hlt : k < n
    · obtain ⟨b, off, rfl, hbl⟩ := hx.at_ k hlt
      obtain ⟨B', m', d', xs, r, hT, c0, c1, hz, hrz⟩ := hx.el hb k hlt
      cases he : decide (r.size = 0)
      · have HU := Lib.hid (hasE_succ hT.out (of_decide_eq_false he) hup.out)
        clear hup
        go_wp2_with fail
        refine (isb (hasEmpty1_any B' m' d' r _) he).mono ?_
        rintro e_ w1 ⟨rfl, h1⟩
        have hc_w1 := bcell h1; have hf_w1 := bfree h1
        go_wp2
        go_roundw
        case rel => exact ⟨k + 1, by omega, by go_num, HU, next hb h1⟩
        case measure => simp [intOf]; omega
      · have HF := Lib.hid (hasE_yes hT.out (of_decide_eq_true he))
        clear hup
        go_wp2_with fail
        refine (isb (hasEmpty1_any B' m' d' r _) he).mono ?_
        rintro e_ w1 ⟨rfl, h1⟩
        have hc_w1 := bcell h1; have hf_w1 := bfree h1
        go_wp2
        go_ret
        exact ⟨k, rfl, by rw [HF.out]; exact decide_eq_true (by omega), next hb h1⟩
    · have HF := Lib.hid (hasE_all hup.out (by have := HX.out; omega))
      clear hup
      go_wp2
      go_ret
      exact ⟨-1, rfl, by rw [HF.out]; rfl, hb⟩
theorem ContainsFunc_hasE (A : Option Addr) (n c : Nat) (T : List Rl) (w : World) (hx : Rules w A n c T) :
    Calls Tryd.prog 31 #[.slice A n c, .func (.func 32) #[] #[]] w fun e w' => e = .returned (.bool (hasE T)) ∧ Below w.heap.size w w' := by
  have hi := IndexFunc_hasE A n c T w hx
  go_enter Tryd.func31, Tryd.ntmps31
  go_wp2_with fail
  refine hi.mono ?_
  rintro e_ w1 ⟨q, rfl, hq, h1⟩
  have HQ := Lib.hid hq
  clear hq hi
  go_wp2
  go_ret
  exact ⟨by rw [← HQ.out]; rfl, h1⟩
theorem hasEmpty_any (A : Option Addr) (n c : Nat) (T : List Rl) (w : World) (hx : Rules w A n c T) :
    Calls Tryd.prog 18 #[.slice A n c] w fun e w' => e = .returned (.bool (hasE T)) ∧ Below w.heap.size w w' := by
  go_enter Tryd.func18, Tryd.ntmps18
  go_wp2_with fail
  refine (ContainsFunc_hasE A n c T _ hx).mono ?_
  rintro e_ w1 ⟨rfl, h1⟩
  have hc_w1 := bcell h1; have hf_w1 := bfree h1
  go_wp2
  go_ret
  exact ⟨rfl, h1⟩
end Go.Proofs.YtnjjfcdddkabbaaDoor
