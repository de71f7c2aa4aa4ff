/- Texts compared by length and alphabet; tables with an empty text. -/
import Derived.Test.YtnjjfcdddkabbaaDoorAmbLaw2
import Derived.Test.YtnjjfcdddkabbaaDoorAlpha
import Derived.Test.YtnjjfcdddkabbaaDoorRules
import Derived.Lib.Bytealg
import Derived.Laws.Externs
namespace Go.Proofs.YtnjjfcdddkabbaaDoor
open Go.ChangeShapes Go.WideShapes Go.ChangeAt Go.RowKit
theorem bytes_lex : ∀ x y : List UInt8, Op.bytesLess x y = lexB x y
  | [], [] => rfl
  | [], _ :: _ => rfl
  | _ :: _, [] => rfl
  | a :: x, b :: y => by
    unfold Op.bytesLess lexB
    rw [bytes_lex x y]
    by_cases h : a = b
    · simp [h]
    · simp [h]
def cmpU (a b : Int) : Int := if a < b then -1 else if b < a then 1 else 0
theorem drop_consU {α : Type} {xs : List α} {k : Nat} {a : α} (h : xs[k]? = some a) : xs.drop k = a :: xs.drop (k + 1) := by
  obtain ⟨hk, e⟩ := List.getElem?_eq_some_iff.1 h
  rw [List.drop_eq_getElem_cons hk, e]
set_option maxHeartbeats 1000000 in
theorem cmpCompareI_any (a b : Int) (w : World) : Calls Tryd.prog 54 #[.int .i64 a, .int .i64 b] w fun e w' => e = .returned (.int .i64 (cmpU a b)) ∧ Below w.heap.size w w' := by
  have hnan : ∀ (x : Int) (W : World), Calls Tryd.prog 63 #[.int .i64 x] W fun e W' => e = .returned (.bool false) ∧ Below W.heap.size W W' := fun x W => by
    go_enter Tryd.func63, Tryd.ntmps63
    go_wp2
    go_ret
    exact ⟨rfl, Below.refl _ _⟩
  by_cases h1 : a < b
  · have HF := Lib.hid (show cmpU a b = -1 by unfold cmpU; rw [if_pos h1])
    go_enter Tryd.func54, Tryd.ntmps54
    go_wp2_with fail
    refine (hnan a _).mono ?_
    rintro e_ w1 ⟨rfl, k1⟩
    have hc_w1 := bcell k1; have hf_w1 := bfree k1
    go_wp2_with fail
    refine (hnan b _).mono ?_
    rintro e_ w2 ⟨rfl, k2⟩
    have hc_w2 := bcell k2; have hf_w2 := bfree k2
    go_wp2
    go_ret
    exact ⟨by rw [HF.out]; rfl, next k1 k2⟩
  · by_cases h2 : b < a
    · have HF := Lib.hid (show cmpU a b = 1 by unfold cmpU; rw [if_neg h1, if_pos h2])
      go_enter Tryd.func54, Tryd.ntmps54
      go_wp2_with fail
      refine (hnan a _).mono ?_
      rintro e_ w1 ⟨rfl, k1⟩
      have hc_w1 := bcell k1; have hf_w1 := bfree k1
      go_wp2_with fail
      refine (hnan b _).mono ?_
      rintro e_ w2 ⟨rfl, k2⟩
      have hc_w2 := bcell k2; have hf_w2 := bfree k2
      go_wp2
      go_ret
      exact ⟨by rw [HF.out]; rfl, next k1 k2⟩
    · have HF := Lib.hid (show cmpU a b = 0 by unfold cmpU; rw [if_neg h1, if_neg h2])
      go_enter Tryd.func54, Tryd.ntmps54
      go_wp2_with fail
      refine (hnan a _).mono ?_
      rintro e_ w1 ⟨rfl, k1⟩
      have hc_w1 := bcell k1; have hf_w1 := bfree k1
      go_wp2_with fail
      refine (hnan b _).mono ?_
      rintro e_ w2 ⟨rfl, k2⟩
      have hc_w2 := bcell k2; have hf_w2 := bfree k2
      go_wp2
      go_ret
      exact ⟨by rw [HF.out]; rfl, next k1 k2⟩
/-- the first that is not zero -/
def orU : List Int → Int
  | [] => 0
  | x :: r => if x = 0 then orU r else x
theorem orU_step {xs : List Int} {k : Nat} (h : xs[k]? = some 0) : orU (xs.drop k) = orU (xs.drop (k + 1)) := by
  rw [drop_consU h]
  conv => lhs; unfold orU
  rw [if_pos rfl]
theorem orU_hit {xs : List Int} {k : Nat} {x : Int} (h : xs[k]? = some x) (h0 : x ≠ 0) : orU (xs.drop k) = x := by
  rw [drop_consU h]
  conv => lhs; unfold orU
  rw [if_neg h0]
set_option maxRecDepth 100000 in
set_option maxHeartbeats 2000000 in
theorem cmpOrU_any (A : Option Addr) (n c : Nat) (xs : List Int) (w : World) (hx : Ints w A n c xs) :
    Calls Tryd.prog 53 #[.slice A n c] w fun e w' => e = .returned (.int .i64 (orU xs)) ∧ Below w.heap.size w w' := by
  have hcm := hx.2.cap
  have hnc := hx.2.le
  unfold maxLen at hcm
  have HX := Lib.hid hx.1
  go_enter Tryd.func53, Tryd.ntmps53
  go_wp2
  go_loopw [8] (fun i wr => ∃ k : Nat, k ≤ n ∧ i = .int .i64 k ∧ Hid (orU xs = orU (xs.drop k)) ∧ Below w.heap.size w wr) (fun i _ => n - (intOf i).toNat)
  case atStart => exact ⟨0, Nat.zero_le _, rfl, rfl, Below.refl _ _⟩
  case round =>
    obtain ⟨k, hk, rfl, hE, hb⟩ := hrel
    by_cases hlt : k < n
    · obtain ⟨b, off, rfl, hbl⟩ := hx.at_ k hlt
      obtain ⟨x, hx1, c0⟩ := hx.el hb hbl k hlt
      by_cases h0 : x = 0
      · subst h0
        have HE := Lib.hid (hE.out.trans (orU_step hx1.out))
        clear hE
        go_wp2
        go_roundw
        case rel => exact ⟨k + 1, by omega, by go_num, HE.out, hb⟩
        case measure => simp [intOf]; omega
      · have HE := Lib.hid (hE.out.trans (orU_hit hx1.out h0))
        have hne : (x != 0) = true := by rw [bne_iff_ne]; exact h0
        clear hE
        go_wp2
        go_ret
        exact ⟨by rw [HE.out]; rfl, hb⟩
    · have HE := Lib.hid (show orU xs = 0 by rw [hE.out, List.drop_eq_nil_of_le (by have := HX.out; omega)]; rfl)
      clear hE
      go_wp2
      go_ret
      exact ⟨by rw [HE.out]; rfl, hb⟩
set_option maxHeartbeats 1000000 in
theorem l05Better_any (a b : ByteArray) (w : World) (ha : a.size ≤ maxLen) (hb : b.size ≤ maxLen) :
    Calls Tryd.prog 40 #[.string a, .string b] w fun e w' => e = .returned (.bool (betB a b)) ∧ Below w.heap.size w w' := by
  unfold maxLen at ha hb
  by_cases h1 : a.size < b.size
  · have e : betB a b = true := by unfold betB; simp [h1]
    rw [e]
    have h1' : (a.size : Int) < b.size := by omega
    go_enter Tryd.func40, Tryd.ntmps40
    go_wp2
    go_ret
    exact ⟨rfl, Below.refl _ _⟩
  · have h1' : ¬ (a.size : Int) < b.size := by omega
    by_cases h2 : a.size = b.size
    · have e : betB a b = lexB a.data.toList b.data.toList := by unfold betB; simp [h2]
      rw [e]
      have h2' : ((a.size : Int) == b.size) = true := by simp [h2]
      go_enter Tryd.func40, Tryd.ntmps40
      go_wp2
      go_ret
      exact ⟨by rw [ByteArray.toList_eq, ByteArray.toList_eq, bytes_lex]; rfl, Below.refl _ _⟩
    · have e : betB a b = false := by unfold betB; simp [h1, h2]
      rw [e]
      have h2' : ((a.size : Int) == b.size) = false := by simpa using fun h => h2 (by omega)
      go_enter Tryd.func40, Tryd.ntmps40
      go_wp2
      go_ret
      exact ⟨rfl, Below.refl _ _⟩
set_option maxHeartbeats 2000000 in
theorem strCompare_any (a b : ByteArray) (w : World) :
    Calls Tryd.prog 55 #[.string a, .string b] w fun e w' => e = .returned (.int .i64 (Go.Lib.compareBytes a.data.toList b.data.toList)) ∧ Below w.heap.size w w' := by
  have hcmp : ∀ w : World, (callFunc 69 #[.string a, .string b]).run Tryd.prog w = .ok (.value (.int .i64 (Go.Lib.compareBytes a.data.toList b.data.toList))) w := fun w => by
    rw [run_callFunc_extern (e := Extern.BytealgCompare.compare) Tryd.func69 (by kernel_rfl) (by kernel_rfl) (by kernel_rfl) (by kernel_rfl), Go.Lib.run_compareString]
    rfl
  go_enter Tryd.func55, Tryd.ntmps55
  go_wp2
  go_ret
  exact ⟨rfl, Below.refl _ _⟩
theorem cmpBytes_lt : ∀ x y : List UInt8, (Go.Lib.compareBytes x y < 0 ↔ lexB x y = true)
  | [], [] => by simp [Go.Lib.compareBytes, lexB]
  | [], _ :: _ => by simp [Go.Lib.compareBytes, lexB]
  | _ :: _, [] => by simp [Go.Lib.compareBytes, lexB]
  | a :: x, b :: y => by
    have ih := cmpBytes_lt x y
    unfold Go.Lib.compareBytes lexB
    rw [Bool.or_eq_true, Bool.and_eq_true, decide_eq_true_iff, decide_eq_true_iff]
    by_cases h : a < b
    · rw [if_pos h]; exact ⟨fun _ => .inl h, fun _ => by omega⟩
    · rw [if_neg h]
      by_cases h2 : b < a
      · rw [if_pos h2]
        refine ⟨fun h' => by omega, fun h' => ?_⟩
        rcases h' with h' | ⟨h', _⟩
        · exact absurd h' h
        · rw [h'] at h2; exact absurd (UInt8.lt_iff_toNat_lt.1 h2) (Nat.lt_irrefl _)
      · rw [if_neg h2, ih]
        have e : a = b := by
          apply UInt8.toNat_inj.1
          have h3 : ¬ a.toNat < b.toNat := fun h' => h (UInt8.lt_iff_toNat_lt.2 h')
          have h4 : ¬ b.toNat < a.toNat := fun h' => h2 (UInt8.lt_iff_toNat_lt.2 h')
          omega
        exact ⟨fun h' => .inr ⟨e, h'⟩, fun h' => h'.elim (fun h'' => absurd h'' h) (fun h'' => h''.2)⟩
theorem short_bet (a b : ByteArray) : decide (orU [cmpU (a.size : Int) b.size, Go.Lib.compareBytes a.data.toList b.data.toList] < 0) = betB a b := by
  rw [Bool.eq_iff_iff, decide_eq_true_iff]
  unfold orU cmpU betB orU orU
  rw [Bool.or_eq_true, Bool.and_eq_true, decide_eq_true_iff, decide_eq_true_iff]
  by_cases h1 : a.size < b.size
  · have e1 : (a.size : Int) < b.size := by omega
    simp [e1, h1]
  · have e1 : ¬ (a.size : Int) < b.size := by omega
    by_cases h2 : b.size < a.size
    · have e2 : (b.size : Int) < a.size := by omega
      have h3 : ¬ a.size = b.size := by omega
      simp [e1, e2, h1, h3]
    · have e2 : ¬ (b.size : Int) < a.size := by omega
      have h3 : a.size = b.size := by omega
      rw [if_neg e1, if_neg e2, if_pos rfl, ← cmpBytes_lt]
      constructor
      · intro h
        refine .inr ⟨h3, ?_⟩
        split at h
        · omega
        · exact h
      · rintro (h | ⟨_, h⟩)
        · omega
        · rw [if_neg (by omega)]; exact h
set_option maxRecDepth 100000 in
set_option maxHeartbeats 2000000 in
theorem isShorter_any (a b : ByteArray) (w : World) (ha : a.size ≤ maxLen) (hb : b.size ≤ maxLen) :
    Calls Tryd.prog 47 #[.string a, .string b] w fun e w' => e = .returned (.bool (betB a b)) ∧ Below w.heap.size w w' := by
  have HE := Lib.hid (short_bet a b)
  unfold maxLen at ha hb
  go_enter Tryd.func47, Tryd.ntmps47
  go_wp2_with fail
  refine (cmpCompareI_any _ _ _).mono ?_
  rintro e_ w1 ⟨rfl, h1⟩
  go_wp2_with fail
  refine (strCompare_any _ _ _).mono ?_
  rintro e_ w2 ⟨rfl, h2⟩
  generalize Go.Lib.compareBytes a.data.toList b.data.toList = q at *
  generalize cmpU (a.size : Int) b.size = r at *
  have hx : Ints (w2.alloc (.cells #[.int .i64 r, .int .i64 q] 3)) (some ⟨w2.heap.size, 0, none⟩) 2 2 [r, q] := ⟨rfl, ⟨Nat.le_refl _, by unfold maxLen; omega, by simp, fun _ => ⟨w2.heap.size, 0, rfl, by simp, fun j u hu => by
    rw [Nat.zero_add]
    go_simp
    simpa using hu⟩⟩⟩
  go_wp2_with fail
  refine (cmpOrU_any _ 2 2 _ _ hx).mono ?_
  rintro e_ w3 ⟨rfl, h3⟩
  go_wp2
  go_ret
  exact ⟨by rw [← HE.out]; rfl, next (next (next h1 h2) ((Below.refl _ _).alloc (Nat.le_refl _) _)) h3⟩
end Go.Proofs.YtnjjfcdddkabbaaDoor
