/- The dice of the laws: numbers that follow from a code. -/
import Derived.Test.YtldikfikcnkgcaaDrY
import Derived.Laws.BitsAllLaws
namespace Go.Proofs.Ytldikfikcnkgcaa
open Go.ChangeShapes Go.WideShapes Go.ChangeAt Go.RowKit

/-- the dice: three cells, of a slice of bytes that lies ahead of them -/
structure DiceAt (w : World) (p : Nat) (A : Option Addr) (n c : Nat) (bs : List UInt8) (at_ h : Int) : Prop where
  lt : p < w.heap.size
  c0 : w.cell? ⟨p, 0, none⟩ = some (.slice A n c)
  c1 : w.cell? ⟨p, 1, none⟩ = some (.int .i64 at_)
  c2 : w.cell? ⟨p, 2, none⟩ = some (.int .u64 h)
  f0 : ∀ j, w.frozen? ⟨p, j, none⟩ = false
  s0 : 0 ≤ h
  s1 : h < 18446744073709551616
  a0 : 0 ≤ at_
  a1 : at_ ≤ n
  by_ : Bytes w A n c bs
  bl : 0 < n → ∀ b off, A = some ⟨b, off, none⟩ → b < p
def Dice (w : World) (p : Nat) : Prop := ∃ A n c bs at_ h, DiceAt w p A n c bs at_ h
theorem DiceAt.below {w w' : World} {p : Nat} {A : Option Addr} {n c : Nat} {bs : List UInt8} {a s : Int} (h : DiceAt w p A n c bs a s) (hb : Below w.heap.size w w') : DiceAt w' p A n c bs a s :=
  ⟨Nat.lt_of_lt_of_le h.lt hb.size, cell_keep hb h.c0, cell_keep hb h.c1, cell_keep hb h.c2, fun j => (hb.frozen (p := ⟨p, j, none⟩) h.lt).trans (h.f0 j), h.s0, h.s1, h.a0, h.a1, h.by_.below hb, h.bl⟩
theorem Dice.below {w w' : World} {p : Nat} (h : Dice w p) (hb : Below w.heap.size w w') : Dice w' p := by
  obtain ⟨A, n, c, bs, a, s, h⟩ := h
  exact ⟨A, n, c, bs, a, s, h.below hb⟩
theorem DiceAt.seed {w : World} {p : Nat} {A : Option Addr} {n c : Nat} {bs : List UInt8} {a s : Int} (h : DiceAt w p A n c bs a s) (v : Int) (h0 : 0 ≤ v) (h1 : v < 18446744073709551616) : DiceAt (w.setCell ⟨p, 2, none⟩ (.int .u64 v)) p A n c bs a v := by
  have hg := grown_set w p 2 (.int .u64 v)
  have hne : 0 < n → ∀ b off, A = some ⟨b, off, none⟩ → (w.setCell ⟨p, 2, none⟩ (.int .u64 v)).heap[b]? = w.heap[b]? := fun hn b off e => Below.heap_setCell _ _ _ b (by have := h.bl hn b off e; simp only; omega)
  refine ⟨Nat.lt_of_lt_of_le h.lt hg.size, ?_, ?_, World.cell?_setCell_same (w := w) (a := ⟨p, 2, none⟩) (v := .int .u64 v) h.c2, fun j => by rw [World.frozen?_setCell]; exact h.f0 j, h0, h1, h.a0, h.a1, h.by_.block hg.size hne, h.bl⟩
  · rw [World.cell?_setCell_other (w := w) (a := ⟨p, 2, none⟩) (b := ⟨p, 0, none⟩) (v := .int .u64 v) (by simp)]; exact h.c0
  · rw [World.cell?_setCell_other (w := w) (a := ⟨p, 2, none⟩) (b := ⟨p, 1, none⟩) (v := .int .u64 v) (by simp)]; exact h.c1
theorem DiceAt.step {w : World} {p : Nat} {A : Option Addr} {n c : Nat} {bs : List UInt8} {a s : Int} (h : DiceAt w p A n c bs a s) (v : Int) (h0 : 0 ≤ v) (h1 : v ≤ n) : DiceAt (w.setCell ⟨p, 1, none⟩ (.int .i64 v)) p A n c bs v s := by
  have hg := grown_set w p 1 (.int .i64 v)
  have hne : 0 < n → ∀ b off, A = some ⟨b, off, none⟩ → (w.setCell ⟨p, 1, none⟩ (.int .i64 v)).heap[b]? = w.heap[b]? := fun hn b off e => Below.heap_setCell _ _ _ b (by have := h.bl hn b off e; simp only; omega)
  refine ⟨Nat.lt_of_lt_of_le h.lt hg.size, ?_, World.cell?_setCell_same (w := w) (a := ⟨p, 1, none⟩) (v := .int .i64 v) h.c1, ?_, fun j => by rw [World.frozen?_setCell]; exact h.f0 j, h.s0, h.s1, h0, h1, h.by_.block hg.size hne, h.bl⟩
  · rw [World.cell?_setCell_other (w := w) (a := ⟨p, 1, none⟩) (b := ⟨p, 0, none⟩) (v := .int .i64 v) (by simp)]; exact h.c0
  · rw [World.cell?_setCell_other (w := w) (a := ⟨p, 1, none⟩) (b := ⟨p, 2, none⟩) (v := .int .i64 v) (by simp)]; exact h.c2
theorem u64_lt (n : Int) : IntKind.u64.wrap n < 18446744073709551616 := by simp [IntKind.wrap, IntKind.bits, IntKind.signed]; omega
theorem u64_ge (n : Int) : 0 ≤ IntKind.u64.wrap n := by simp [IntKind.wrap, IntKind.bits, IntKind.signed]; omega

set_option maxRecDepth 100000 in
set_option maxHeartbeats 2000000 in
theorem roll_any (A : Option Addr) (n c : Nat) (bs : List UInt8) (s : Int) (w : World) (hx : Bytes w A n c bs) :
    Calls Try.prog 32 #[.slice A n c, .int .u64 s] w fun e w' => e = .returned (.pointer (some ⟨w.heap.size, 0, none⟩)) ∧ Dice w' w.heap.size ∧ Below w.heap.size w w' := by
  have ha : 0 < n → ∀ b off, A = some ⟨b, off, none⟩ → b < w.heap.size := fun h b off e => by
    obtain ⟨b', off', e', hl⟩ := hx.at_ 0 h
    rw [e] at e'
    injection e' with e'
    injection e' with e1 _
    omega
  have hcm := hx.2.cap
  have hnc := hx.2.le
  unfold maxLen at hcm
  go_enter Try.func32, Try.ntmps32
  go_wp2
  have S0 : DiceAt (w.alloc (.cells #[.slice A n c, .int .i64 0, .int .u64 (IntKind.u64.wrap (IntKind.u64.wrap (s * 7919) + n))] 71)) w.heap.size A n c bs 0 (IntKind.u64.wrap (IntKind.u64.wrap (s * 7919) + n)) := by
    have B := (Below.refl w.heap.size w).alloc (Nat.le_refl _) (.cells #[.slice A n c, .int .i64 0, .int .u64 (IntKind.u64.wrap (IntKind.u64.wrap (s * 7919) + n))] 71)
    exact ⟨by simp, by go_simp, by go_simp, by go_simp, fun j => by go_simp, u64_ge _, u64_lt _, by omega, by omega, hx.below B, ha⟩
  have B0 := (Below.refl w.heap.size w).alloc (Nat.le_refl _) (.cells #[.slice A n c, .int .i64 0, .int .u64 (IntKind.u64.wrap (IntKind.u64.wrap (s * 7919) + n))] 71)
  go_loopw [6] (fun i wr => ∃ (k : Nat) (s : Int), k ≤ n ∧ i = .int .i64 k ∧ Hid (DiceAt wr w.heap.size A n c bs 0 s) ∧ Below w.heap.size w wr) (fun i _ => n - (intOf i).toNat)
  case atStart => exact ⟨0, _, Nat.zero_le _, rfl, S0, B0⟩
  case round =>
    clear S0 B0
    obtain ⟨k, s, hk, rfl, hs, hb⟩ := hrel
    by_cases hlt : k < n
    · obtain ⟨b, off, rfl, hbl⟩ := hx.at_ k hlt
      obtain ⟨u, hu⟩ := hs.out.by_.el k hlt
      have hu2 : u.toNat < 256 := u.toNat_lt
      have c2 := hs.out.c2
      have f2 := hs.out.f0 2
      have hpl := hs.out.lt
      have hbp := hs.out.bl (by omega) b off rfl
      have hbw : b < wr.heap.size := by omega
      have hj0 : (0 : Int) ≤ (k : Int) := Int.natCast_nonneg _
      have hj1 : (k : Int) < (n : Int) := by omega
      go_wp2
      refine wp_region_tail 0 15 (by kernel_rfl) (by kernel_rfl) (fun _ _ _ _ h => h) ?_
      simp only [List.take_succ_cons, List.take_zero, List.drop_succ_cons, List.drop_zero]
      repeat (go_big_quiet_step (fail))
      refine wpQuiet_nil ?_
      intro w2 hw2; have h2 := later_below hw2; clear hw2
      have hc_w2 := bcell h2; have hf_w2 := bfree h2
      have hz_w2_0 : w.heap.size < w2.heap.size := by have hz_ := h2.size; (try simp at hz_); omega
      have HS := Lib.hid ((hs.out.below h2).seed (IntKind.u64.wrap (IntKind.u64.wrap (IntKind.u64.wrap (s * 1099511628211) + u.toNat) + 3)) (u64_ge _) (u64_lt _))
      have HB := Lib.hid ((hb.trans (h2.mono hb.size)).setCell (p := ⟨w.heap.size, 2, none⟩) (Nat.le_refl _) (.int .u64 (IntKind.u64.wrap (IntKind.u64.wrap (IntKind.u64.wrap (s * 1099511628211) + u.toNat) + 3))))
      clear hs
      go_wp2
      go_roundw
      case rel => exact ⟨k + 1, _, by omega, by go_num, HS, HB.out⟩
      case measure => simp [intOf]; omega
    · go_wp2
      go_ret
      exact ⟨rfl, ⟨_, _, _, _, _, _, hs.out⟩, hb⟩
/-- what the dice hand out: a number below n; the dice are dice still, and nothing else has changed -/
def BelowPost (p : Nat) (n : Int) (w : World) (e : Ending) (w' : World) : Prop := ∃ r : Int, e = .returned (.int .i64 r) ∧ 0 ≤ r ∧ r < n ∧ Dice w' p ∧ w.grownBy w' (some p)
theorem and24 (h : Int) (h0 : 0 ≤ h) (h1 : h < 18446744073709551616) : bits .and .u64 h 16777215 = h % 16777216 := by
  rw [u64_and h 16777215 h0 h1 (by omega) (by omega)]
  have e : (16777215 : Int).toNat = 2 ^ 24 - 1 := by decide
  rw [e, Nat.and_two_pow_sub_one_eq_mod]
  omega
set_option maxRecDepth 100000 in
set_option maxHeartbeats 4000000 in
theorem below_any (p : Nat) (n : Int) (w : World) (h : Dice w p) (hn : 1 ≤ n) (hn2 : n ≤ 4611686018427387904) :
    Calls Try.prog 33 #[.pointer (some ⟨p, 0, none⟩), .int .i64 n] w (BelowPost p n w) := by
  obtain ⟨A, N, c, bs, a, s, S⟩ := h
  have c0 := S.c0
  have c1 := S.c1
  have c2 := S.c2
  have f1 := S.f0 1
  have f2 := S.f0 2
  have s0 := S.s0
  have s1 := S.s1
  have hpl := S.lt
  have a0 := S.a0
  have a1 := S.a1
  have hNm := S.by_.2.cap
  have hNc := S.by_.2.le
  unfold maxLen at hNm
  go_enter Try.func33, Try.ntmps33
  have HS := Lib.hid (S.seed (IntKind.u64.wrap (IntKind.u64.wrap (s * 6364136223846793005) + 1442695040888963407)) (u64_ge _) (u64_lt _))
  have HG := Lib.hid (grown_set w p 2 (.int .u64 (IntKind.u64.wrap (IntKind.u64.wrap (s * 6364136223846793005) + 1442695040888963407))))
  go_upto_region 2 with fail
  generalize IntKind.u64.wrap (IntKind.u64.wrap (s * 6364136223846793005) + 1442695040888963407) = v at *
  have S1 := HS.out
  have G1 := HG.out
  clear c0 c1 c2 f1 f2 S HS HG s0 s1 hpl
  generalize w.setCell ⟨p, 2, none⟩ (.int .u64 v) = W at *
  have d0 := S1.c0
  have d1 := S1.c1
  have d2 := S1.c2
  have f1 := S1.f0 1
  have s0 := S1.s0
  have s1 := S1.s1
  have hpl := S1.lt
  have ha := and24 (v / 8589934592) (by omega) (by omega)
  have e0 : IntKind.i64.wrap (v / 8589934592 % 16777216) = v / 8589934592 % 16777216 := IntWalk.i64_in _ (by omega)
  have x0 : 0 ≤ v / 8589934592 % 16777216 := by omega
  have x1 : v / 8589934592 % 16777216 < 16777216 := by omega
  go_upto_region 3 with fail
  clear ha e0 s0 s1
  generalize v / 8589934592 % 16777216 = x at *
  by_cases ha : a < N
  · obtain ⟨k, rfl⟩ : ∃ k : Nat, a = k := ⟨a.toNat, by omega⟩
    have hk : k < N := by omega
    obtain ⟨b, off, rfl, hbl⟩ := S1.by_.at_ k hk
    obtain ⟨u, hu⟩ := S1.by_.el k hk
    have hu2 : u.toNat < 256 := u.toNat_lt
    have e1 : IntKind.i64.wrap (x + (u.toNat : Int)) = x + u.toNat := IntWalk.i64_in _ (by omega)
    have e2 : IntKind.i64.wrap ((k : Int) + 1) = (k : Int) + 1 := IntWalk.i64_in _ (by omega)
    have e3 : (x + (u.toNat : Int)).tmod n = (x + u.toNat) % n := Int.tmod_eq_emod_of_nonneg (by omega)
    refine wp_region_later (by kernel_rfl) (by kernel_rfl) ?_
    repeat (go_big_quiet_step (fail))
    refine wpQuiet_nil ?_
    intro w2 hw2; have h2 := later_below hw2; clear hw2
    have hc_w2 := bcell h2; have hf_w2 := bfree h2
    have hz_w2_0 : p < w2.heap.size := by have hz_ := h2.size; (try simp at hz_); omega
    have hz_w2_1 : b < w2.heap.size := by have hz_ := h2.size; (try simp at hz_); omega
    go_wp2_with fail
    refine wp_region_later (by kernel_rfl) (by kernel_rfl) ?_
    repeat (go_big_quiet_step (fail))
    refine wpQuiet_nil ?_
    intro w3 hw2; have h3 := later_below hw2; clear hw2
    have hc_w3 := bcell h3; have hf_w3 := bfree h3
    have hz_w3_0 : p < w3.heap.size := by have hz_ := h3.size; (try simp at hz_); omega
    have hz_w3_1 : b < w3.heap.size := by have hz_ := h3.size; (try simp at hz_); omega
    have S3 := (S1.below h2).below h3
    have HS4 := Lib.hid (S3.step ((k : Int) + 1) (by omega) (by omega))
    have HG4 := Lib.hid (grown_trans (grown_trans (grown_trans G1 (grown_below h2)) (grown_below h3)) (grown_set w3 p 1 (.int .i64 ((k : Int) + 1))))
    have k1 := S3.c1
    have g1 := S3.f0 1
    have kl := S3.lt
    clear S1 S3 G1
    have v0 : 0 ≤ (x + (u.toNat : Int)) % n := Int.emod_nonneg _ (by omega)
    have v1 : (x + (u.toNat : Int)) % n < n := Int.emod_lt_of_pos _ (by omega)
    go_wp2
    go_ret
    exact ⟨_, rfl, v0, v1, ⟨_, _, _, _, _, _, HS4.out⟩, HG4.out⟩
  · have e3 : x.tmod n = x % n := Int.tmod_eq_emod_of_nonneg (by omega)
    have v0 : 0 ≤ x % n := Int.emod_nonneg _ (by omega)
    have v1 : x % n < n := Int.emod_lt_of_pos _ (by omega)
    have ha2 : a = N := by omega
    refine wp_region_later (by kernel_rfl) (by kernel_rfl) ?_
    repeat (go_big_quiet_step (fail))
    refine wpQuiet_nil ?_
    intro w2 hw2; have h2 := later_below hw2; clear hw2
    have hc_w2 := bcell h2; have hf_w2 := bfree h2
    have hz_w2_0 : p < w2.heap.size := by have hz_ := h2.size; (try simp at hz_); omega
    have HS4 := Lib.hid (S1.below h2)
    have HG4 := Lib.hid (grown_trans G1 (grown_below h2))
    clear S1 G1
    go_wp2
    go_ret
    exact ⟨_, rfl, v0, v1, ⟨_, _, _, _, _, _, HS4.out⟩, HG4.out⟩
end Go.Proofs.Ytldikfikcnkgcaa
