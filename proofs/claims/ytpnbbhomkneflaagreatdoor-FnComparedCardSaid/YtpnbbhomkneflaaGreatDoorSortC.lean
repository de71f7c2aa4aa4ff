/- Spellings without the letters that are ignored: slices.DeleteFunc with the program's closure. -/
import Derived.Test.YtpnbbhomkneflaaGreatDoorSortB
import Derived.Lib.SliceRun
namespace Go.Proofs.YtpnbbhomkneflaaGreatDoor
open Go.ChangeShapes Go.WideShapes Go.ChangeAt Go.RowKit
theorem own_stores {base g n c : Nat} {e : TypeId} : ∀ (vs : List Value) (o : Nat) (w : World) (xs : List Value), w.ownsRow base e 1 (.slice (some ⟨g, 0, none⟩) n c) n xs →
    ∃ ys, (w.setCells g o vs).ownsRow base e 1 (.slice (some ⟨g, 0, none⟩) n c) n ys ∧ ys.take o = xs.take o ∧ w.grownBy (w.setCells g o vs) (some g)
  | [], o, w, xs, h => ⟨xs, h, rfl, rfl, rfl, rfl, Nat.le_refl _, fun _ _ _ => rfl⟩
  | v :: r, o, w, xs, h => by
    have s := h.stored o v
    obtain ⟨ys, h1, h2, h3⟩ := own_stores r (o + 1) _ _ s.1
    refine ⟨ys, h1, ?_, ⟨h3.os.trans s.2.os, h3.tape.trans s.2.tape, h3.output.trans s.2.output, Nat.le_trans s.2.size h3.size, fun k hk hne => (h3.block k (Nat.lt_of_lt_of_le hk s.2.size) hne).trans (s.2.block k hk hne)⟩⟩
    have e2 := congrArg (List.take o) h2
    rw [List.take_take, List.take_take, Nat.min_eq_left (Nat.le_succ _)] at e2
    rw [e2, List.take_set_of_le (Nat.le_refl _)]
theorem own_cut1 {w : World} {base g n cap m : Nat} {e : TypeId} {xs : List Value} (h : w.ownsRow base e 1 (.slice (some ⟨g, 0, none⟩) n cap) n xs) (hm : m ≤ n) : w.ownsRow base e 1 (.slice (some ⟨g, 0, none⟩) m cap) m (xs.take m) := by
  have hl := h.1
  rcases h.2 with ⟨h', _⟩ | ⟨g', cap', cur, h', hb, hg, hnc, hcm, hcs, htake⟩
  · simp at h'
  simp only [Value.slice.injEq, Option.some.injEq, Addr.mk.injEq, and_true, true_and] at h'
  obtain ⟨rfl, rfl⟩ := h'
  refine ⟨by rw [List.length_take]; omega, .inr ⟨g, cap, cur, rfl, hb, hg, by omega, hcm, hcs, ?_⟩⟩
  rw [← htake, List.take_take]
  congr 1
  omega
/-! ## the numbers that are ignored -/
set_option maxHeartbeats 800000 in
theorem indexI_any (A : Option Addr) (n c : Nat) (xs : List Int) (y : Int) (w : World) (hx : Ints w A n c xs) :
    Calls Tryz.prog 81 #[.slice A n c, .int .i64 y] w fun e w' => e = .returned (.int .i64 (fndG xs y)) ∧ Below w.heap.size w w' := by
  have hcm := hx.2.cap
  have hnc := hx.2.le
  unfold maxLen at hcm
  have HX := Lib.hid hx.1
  go_enter Tryz.func81, Tryz.ntmps81
  go_wp2
  go_loopw [8] (fun i wr => ∃ k : Nat, k ≤ n ∧ i = .int .i64 k ∧ Hid (hasG (xs.take k) y = false) ∧ Below w.heap.size w wr) (fun i _ => n - (intOf i).toNat)
  case atStart => exact ⟨0, Nat.zero_le _, rfl, by simp [Hid, hasG], Below.refl _ _⟩
  case round =>
    obtain ⟨k, hk, rfl, hup, hb⟩ := hrel
    by_cases hlt : k < n
    · obtain ⟨b, off, rfl, hbl⟩ := hx.at_ k hlt
      obtain ⟨x, hx1, c0⟩ := hx.el hb hbl k hlt
      by_cases he : x = y
      · have HF := Lib.hid (show fndG xs y = k from by subst he; exact fndG_at hx1.out hup.out)
        have hne : (y == x) = true := by rw [he]; simp
        clear hup
        go_wp2
        go_ret
        exact ⟨by rw [HF.out]; rfl, hb⟩
      · have HU := Lib.hid (hasG_succ hx1.out he hup.out)
        have hne : (y == x) = false := by rw [beq_eq_false_iff_ne]; exact fun e => he e.symm
        clear hup
        go_wp2
        go_roundw
        case rel => exact ⟨k + 1, by omega, by go_num, HU, hb⟩
        case measure => simp [intOf]; omega
    · have HF := Lib.hid (show fndG xs y = -1 from fndG_none (by have := hup.out; rwa [List.take_of_length_le (by have := HX.out; omega)] at this))
      clear hup
      go_wp2
      go_ret
      exact ⟨by rw [HF.out]; rfl, hb⟩
set_option maxHeartbeats 800000 in
theorem containsI_any (A : Option Addr) (n c : Nat) (xs : List Int) (y : Int) (w : World) (hx : Ints w A n c xs) :
    Calls Tryz.prog 71 #[.slice A n c, .int .i64 y] w fun e w' => e = .returned (.bool (hasG xs y)) ∧ Below w.heap.size w w' := by
  have HF := Lib.hid (fndG_has xs y)
  go_enter Tryz.func71, Tryz.ntmps71
  go_wp2_with fail
  refine (indexI_any A n c xs y _ hx).mono ?_
  rintro e_ w1 ⟨rfl, h1⟩
  have hc_w1 := bcell h1; have hf_w1 := bfree h1
  go_wp2
  go_ret
  exact ⟨by rw [← HF.out]; rfl, h1⟩
set_option maxHeartbeats 800000 in
theorem ignored_any (i : Int) (p m d : Nat) (B : Option Addr) (ig : List Int) (w : World) (hp : w.cell? ⟨p, 1, none⟩ = some (.slice B m d)) (hpl : p < w.heap.size) (hy : Ints w B m d ig) :
    Calls Tryz.prog 70 #[.int .i64 i, .pointer (some ⟨p, 0, none⟩)] w fun e w' => e = .returned (.bool (hasG ig i)) ∧ Below w.heap.size w w' := by
  go_enter Tryz.func70, Tryz.ntmps70
  go_wp2_with fail
  refine (containsI_any B m d ig i _ hy).mono ?_
  rintro e_ w1 ⟨rfl, h1⟩
  have hc_w1 := bcell h1; have hf_w1 := bfree h1
  go_wp2
  go_ret
  exact ⟨rfl, h1⟩
/-- the first of a list that is ignored -/
def FirstIn (ig l : List Int) (q : Int) : Prop := (q = -1 ∧ l.any (hasG ig) = false) ∨ ∃ k : Nat, q = k ∧ k < l.length ∧ (l.take k).any (hasG ig) = false ∧ (l[k]?.map (hasG ig)) = some true
theorem any_succ {α : Type} {p : α → Bool} {xs : List α} {k : Nat} {x : α} (h : xs[k]? = some x) (hb : (xs.take k).any p = false) (hx : p x = false) : (xs.take (k + 1)).any p = false := by
  rw [List.take_add_one, h, List.any_append, hb]
  simp [hx]
set_option maxRecDepth 100000 in
set_option maxHeartbeats 1000000 in
theorem IndexFunc_ig (A B : Option Addr) (n c p m d : Nat) (l ig : List Int) (w : World) (hx : Ints w A n c l) (hp : w.cell? ⟨p, 1, none⟩ = some (.slice B m d)) (hy : Ints w B m d ig) :
    Calls Tryz.prog 80 #[.slice A n c, .func (.func 70) #[] #[.pointer (some ⟨p, 0, none⟩)]] w fun e w' => ∃ q : Int, e = .returned (.int .i64 q) ∧ FirstIn ig l q ∧ Below w.heap.size w w' := by
  have hcm := hx.2.cap
  have hnc := hx.2.le
  unfold maxLen at hcm
  have HX := Lib.hid hx.1
  have hpl : p < w.heap.size := World.block_lt_of_cell? w _ hp
  go_enter Tryz.func80, Tryz.ntmps80
  go_wp2
  go_loopw [8] (fun i wr => ∃ k : Nat, k ≤ n ∧ i = .int .i64 k ∧ Hid ((l.take k).any (hasG ig) = false) ∧ Below w.heap.size w wr) (fun i _ => n - (intOf i).toNat)
  case atStart => exact ⟨0, Nat.zero_le _, rfl, by simp [Hid], Below.refl _ _⟩
  case round =>
    obtain ⟨k, hk, rfl, hup, hb⟩ := hrel
    by_cases hlt : k < n
    · obtain ⟨b, off, rfl, hbl⟩ := hx.at_ k hlt
      obtain ⟨x, hx1, c0⟩ := hx.el hb hbl k hlt
      have hig := ignored_any x p m d B ig wr (cell_keep hb hp) (Nat.lt_of_lt_of_le hpl hb.size) (hy.below hb)
      cases hh : hasG ig x with
      | true =>
        rw [hh] at hig
        have HF := Lib.hid (show FirstIn ig l k from .inr ⟨k, rfl, by rw [← HX.out]; exact hlt, hup.out, by rw [hx1.out]; show some (hasG ig x) = some true; rw [hh]⟩)
        clear hup hh
        go_wp2_with fail
        refine hig.mono ?_
        rintro e_ w1 ⟨rfl, h1⟩
        clear hig
        go_wp2
        go_ret
        exact ⟨_, rfl, HF.out, next hb h1⟩
      | false =>
        rw [hh] at hig
        have HU := Lib.hid (any_succ hx1.out hup.out hh)
        clear hup hh
        go_wp2_with fail
        refine hig.mono ?_
        rintro e_ w1 ⟨rfl, h1⟩
        clear hig
        go_wp2
        go_roundw
        case rel => exact ⟨k + 1, by omega, by go_num, HU, next hb h1⟩
        case measure => simp [intOf]; omega
    · have HF := Lib.hid (show FirstIn ig l (-1) from .inl ⟨rfl, by have := hup.out; rwa [List.take_of_length_le (by have := HX.out; omega)] at this⟩)
      clear hup
      go_wp2
      go_ret
      exact ⟨_, rfl, HF.out, hb⟩
/-! ## slices.DeleteFunc -/
theorem keepI_all {ig l : List Int} (h : l.any (hasG ig) = false) : keepI ig l = l := by
  unfold keepI
  refine List.filter_eq_self.2 fun a ha => ?_
  have := List.any_eq_false.1 h a ha
  simpa using this
theorem keepI_snoc {ig l : List Int} {k : Nat} {x : Int} (h : l[k]? = some x) : keepI ig (l.take (k + 1)) = keepI ig (l.take k) ++ (if hasG ig x = true then [] else [x]) := by
  unfold keepI
  rw [List.take_add_one, h, List.filter_append]
  congr 1
  cases hh : hasG ig x <;> simp [hh]
theorem keepI_len (ig l : List Int) : (keepI ig l).length ≤ l.length := List.length_filter_le _ _
end Go.Proofs.YtpnbbhomkneflaaGreatDoor
