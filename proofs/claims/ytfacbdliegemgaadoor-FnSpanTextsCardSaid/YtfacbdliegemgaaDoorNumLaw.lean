/- Numbers in decimal: plain law. -/
import Derived.Lib.ItoaNum
import Derived.Lib.ParseIntB
namespace Go.Proofs.YtfacbdliegemgaaDoor
open Go

def isDig (c : UInt8) : Bool := decide (48 ≤ c.toNat ∧ c.toNat ≤ 57)
def dval (l : List UInt8) : Nat := l.foldl (fun a c => a * 10 + (c.toNat - 48)) 0
theorem dval_snoc (l : List UInt8) (c : UInt8) : dval (l ++ [c]) = dval l * 10 + (c.toNat - 48) := by unfold dval; rw [List.foldl_append]; rfl
theorem dig_val {d : Nat} (h : d < 10) : (UInt8.ofNat (48 + d)).toNat = 48 + d := by rw [UInt8.toNat_ofNat']; omega
theorem dec_small {u : Nat} (h : u < 10) : Lib.decDigits u = [UInt8.ofNat (48 + u)] := by rw [Lib.decDigits, dif_pos h]
theorem dec_big {u : Nat} (h : ¬ u < 10) : Lib.decDigits u = Lib.decDigits (u / 10) ++ [UInt8.ofNat (48 + u % 10)] := by rw [Lib.decDigits, dif_neg h]
theorem dval_dec (u : Nat) : dval (Lib.decDigits u) = u := by
  induction u using Nat.strongRecOn with
  | _ u ih =>
    by_cases h : u < 10
    · rw [dec_small h]
      show 0 * 10 + ((UInt8.ofNat (48 + u)).toNat - 48) = u
      rw [dig_val h]; omega
    · rw [dec_big h, dval_snoc, ih (u / 10) (by omega), dig_val (by omega)]
      omega
theorem dec_all (u : Nat) : (Lib.decDigits u).all isDig = true := by
  induction u using Nat.strongRecOn with
  | _ u ih =>
    by_cases h : u < 10
    · rw [dec_small h]
      simp only [List.all_cons, List.all_nil, Bool.and_true]
      unfold isDig
      rw [dig_val h]
      exact decide_eq_true (by omega)
    · rw [dec_big h, List.all_append, ih (u / 10) (by omega)]
      simp only [List.all_cons, List.all_nil, Bool.and_true, Bool.true_and]
      unfold isDig
      rw [dig_val (by omega)]
      exact decide_eq_true (by omega)
theorem dec_pos (u : Nat) : 1 ≤ (Lib.decDigits u).length := by
  by_cases h : u < 10
  · rw [dec_small h]; simp
  · rw [dec_big h]; simp
theorem dec_le : ∀ (k u : Nat), u < 10 ^ (k + 1) → (Lib.decDigits u).length ≤ k + 1
  | 0, u, h => by rw [dec_small (by simpa using h)]; simp
  | k + 1, u, h => by
    by_cases h10 : u < 10
    · rw [dec_small h10]; simp
    · rw [dec_big h10, List.length_append]
      have := dec_le k (u / 10) (by rw [Nat.pow_succ] at h; omega)
      simp; omega
theorem dval_lt (l : List UInt8) (h : l.all isDig = true) : dval l < 10 ^ l.length := by
  have H : ∀ (l : List UInt8) (a : Nat), l.all isDig = true → l.foldl (fun a c => a * 10 + (c.toNat - 48)) a < (a + 1) * 10 ^ l.length := by
    intro l
    induction l with
    | nil => intro a _; simp
    | cons c r ih =>
      intro a h
      rw [List.all_cons, Bool.and_eq_true] at h
      rw [List.foldl_cons, List.length_cons, Nat.pow_succ]
      have h1 := ih (a * 10 + (c.toNat - 48)) h.2
      have hc := of_decide_eq_true h.1
      have h2 : (a * 10 + (c.toNat - 48) + 1) * 10 ^ r.length ≤ (a + 1) * (10 ^ r.length * 10) := by
        rw [Nat.mul_comm (10 ^ r.length) 10, ← Nat.mul_assoc]
        exact Nat.mul_le_mul_right _ (by omega)
      omega
  have := H l 0 h
  simpa [dval] using this
theorem dec_ne (u : Nat) (c : UInt8) (hc : isDig c = false) (r : List UInt8) : Lib.decDigits u ≠ c :: r := by
  intro e
  have := dec_all u
  rw [e, List.all_cons, hc] at this
  cases this
theorem itoa_neg {n : Int} (h : n < 0) : Lib.itoa n = 45 :: Lib.decDigits n.natAbs := by unfold Lib.itoa; rw [if_pos h]
theorem itoa_pos {n : Int} (h : ¬ n < 0) : Lib.itoa n = Lib.decDigits n.toNat := by unfold Lib.itoa; rw [if_neg h]
theorem minus_dig : isDig 45 = false := rfl
theorem itoa_inj {a b : Int} (h : Lib.itoa a = Lib.itoa b) : a = b := by
  by_cases ha : a < 0 <;> by_cases hb : b < 0
  · rw [itoa_neg ha, itoa_neg hb, List.cons.injEq] at h
    have := congrArg dval h.2
    rw [dval_dec, dval_dec] at this
    omega
  · rw [itoa_neg ha, itoa_pos hb] at h
    exact absurd h.symm (dec_ne _ _ minus_dig _)
  · rw [itoa_pos ha, itoa_neg hb] at h
    exact absurd h (dec_ne _ _ minus_dig _)
  · rw [itoa_pos ha, itoa_pos hb] at h
    have := congrArg dval h
    rw [dval_dec, dval_dec] at this
    omega

/-! ## the reference's reading -/
def vLen (l : List UInt8) : Bool := decide (1 ≤ l.length ∧ l.length ≤ 13) && l.all isDig
def vNum (l : List UInt8) : Int := if vLen l = true then (dval l : Nat) else 0
def vOk (l : List UInt8) : Bool := vLen l && decide (Lib.decDigits (dval l) = l)
def sNum (l : List UInt8) : Int := match l with | c :: r => if c = 45 then -vNum r else vNum l | [] => vNum l
def sOk (l : List UInt8) : Bool := match l with | c :: r => if c = 45 then vOk r && decide (0 < vNum r) else vOk l | [] => vOk l
theorem vLen_dec {u : Nat} (h : u < 10000000000000) : vLen (Lib.decDigits u) = true := by
  unfold vLen
  rw [dec_all, Bool.and_true]
  exact decide_eq_true ⟨dec_pos u, dec_le 12 u h⟩
theorem vOk_dec {u : Nat} (h : u < 10000000000000) : vOk (Lib.decDigits u) = true ∧ vNum (Lib.decDigits u) = u := by
  unfold vOk vNum
  rw [vLen_dec h, dval_dec]
  simp
theorem vOk_is {l : List UInt8} (h : vOk l = true) : vNum l = dval l ∧ Lib.decDigits (dval l) = l ∧ dval l < 10000000000000 := by
  unfold vOk at h
  rw [Bool.and_eq_true] at h
  have h1 := h.1
  unfold vLen at h1
  rw [Bool.and_eq_true] at h1
  have h2 := of_decide_eq_true h1.1
  have h3 := dval_lt l h1.2
  have h4 : (10 : Nat) ^ l.length ≤ 10 ^ 13 := Nat.pow_le_pow_right (by omega) h2.2
  refine ⟨by unfold vNum; rw [if_pos h.1], of_decide_eq_true h.2, ?_⟩
  have : (10 : Nat) ^ 13 = 10000000000000 := by decide
  omega
theorem sOk_itoa {n : Int} (h : -10000000000000 < n) (h2 : n < 10000000000000) : sOk (Lib.itoa n) = true ∧ sNum (Lib.itoa n) = n := by
  by_cases hn : n < 0
  · rw [itoa_neg hn]
    have := vOk_dec (u := n.natAbs) (by omega)
    unfold sOk sNum
    simp only [if_true, this.1, this.2, Bool.true_and]
    refine ⟨decide_eq_true (by omega), by omega⟩
  · rw [itoa_pos hn]
    have := vOk_dec (u := n.toNat) (by omega)
    unfold sOk sNum
    rcases hq : Lib.decDigits n.toNat with _ | ⟨c, r⟩
    · have := dec_pos n.toNat; rw [hq] at this; simp at this
    · have hc : c ≠ 45 := by rintro rfl; exact dec_ne _ _ minus_dig _ hq
      rw [hq] at this
      simp only [if_neg hc, this.1, this.2]
      exact ⟨trivial, by omega⟩
theorem sOk_is {l : List UInt8} (h : sOk l = true) : Lib.itoa (sNum l) = l ∧ -10000000000000 < sNum l ∧ sNum l < 10000000000000 := by
  rcases l with _ | ⟨c, r⟩
  · unfold sOk at h; simp [vOk, vLen] at h
  · unfold sOk at h
    unfold sNum
    by_cases hc : c = 45
    · simp only [if_pos hc] at h ⊢
      rw [Bool.and_eq_true] at h
      obtain ⟨h1, h2, h3⟩ := vOk_is h.1
      have h4 := of_decide_eq_true h.2
      rw [h1] at h4 ⊢
      rw [itoa_neg (by omega), hc, show (-((dval r : Nat) : Int)).natAbs = dval r by omega, h2]
      exact ⟨rfl, by omega, by omega⟩
    · simp only [if_neg hc] at h ⊢
      obtain ⟨h1, h2, h3⟩ := vOk_is h
      rw [h1, itoa_pos (by omega), Int.toNat_natCast, h2]
      exact ⟨rfl, by omega, by omega⟩

/-! ## the library's reading -/
theorem parseU {M : Nat} (hM : M ≤ 18446744073709551615) : ∀ (l : List UInt8) (a : Nat), l.all isDig = true → l.foldl (fun a c => a * 10 + (c.toNat - 48)) a ≤ M → Lib.parseUintM M a l = .ok (l.foldl (fun a c => a * 10 + (c.toNat - 48)) a)
  | [], a, _, _ => rfl
  | c :: r, a, h, hm => by
    rw [List.all_cons, Bool.and_eq_true] at h
    have hc := of_decide_eq_true h.1
    rw [List.foldl_cons] at hm ⊢
    have hmono : ∀ (l : List UInt8) (a : Nat), a ≤ l.foldl (fun a c => a * 10 + (c.toNat - 48)) a := by
      intro l
      induction l with
      | nil => intro a; exact Nat.le_refl _
      | cons c r ih => intro a; rw [List.foldl_cons]; have := ih (a * 10 + (c.toNat - 48)); omega
    have := hmono r (a * 10 + (c.toNat - 48))
    unfold Lib.parseUintM
    rw [if_pos hc, if_neg (by omega), if_neg (by omega)]
    exact parseU hM r _ h.2 hm
theorem parse_itoa {n : Int} (h : -9223372036854775808 ≤ n) (h2 : n ≤ 9223372036854775807) : Lib.parseIntB 64 (Lib.itoa n) = .ok n := by
  have hp : (2 : Nat) ^ (64 - 1) = 9223372036854775808 := by decide
  have hq : (2 : Nat) ^ 64 - 1 = 18446744073709551615 := by decide
  by_cases hn : n < 0
  · have hu : Lib.parseUintB 64 (Lib.decDigits n.natAbs) = .ok n.natAbs := by
      unfold Lib.parseUintB
      have := dec_pos n.natAbs
      rw [if_neg (by intro e; rw [e] at this; simp at this), hq]
      have h1 := parseU (M := 18446744073709551615) (Nat.le_refl _) (Lib.decDigits n.natAbs) 0 (dec_all _) (by have := dval_dec n.natAbs; unfold dval at this; omega)
      have h3 := dval_dec n.natAbs
      unfold dval at h3
      rw [h1, h3]
    rw [itoa_neg hn]
    unfold Lib.parseIntB
    have e : (45 : UInt8).toNat = 45 := rfl
    simp only [e, or_true, if_true, hu, hp]
    have g1 : ¬ (9223372036854775808 < n.natAbs) := by omega
    simp [g1]
    omega
  · have hu : Lib.parseUintB 64 (Lib.decDigits n.toNat) = .ok n.toNat := by
      unfold Lib.parseUintB
      have := dec_pos n.toNat
      rw [if_neg (by intro e; rw [e] at this; simp at this), hq]
      have h1 := parseU (M := 18446744073709551615) (Nat.le_refl _) (Lib.decDigits n.toNat) 0 (dec_all _) (by have := dval_dec n.toNat; unfold dval at this; omega)
      have h3 := dval_dec n.toNat
      unfold dval at h3
      rw [h1, h3]
    rw [itoa_pos hn]
    rcases hd : Lib.decDigits n.toNat with _ | ⟨c, r⟩
    · have := dec_pos n.toNat; rw [hd] at this; simp at this
    · have hc : isDig c = true := by have := dec_all n.toNat; rw [hd, List.all_cons, Bool.and_eq_true] at this; exact this.1
      have hc2 := of_decide_eq_true hc
      rw [hd] at hu
      unfold Lib.parseIntB
      have c1 : ¬ c.toNat = 45 := by omega
      have c2 : ¬ c.toNat = 43 := by omega
      have g1 : ¬ (9223372036854775808 ≤ n.toNat) := by omega
      simp only [c1, c2, or_self, if_false, hu, hp]
      simp [g1]
      omega
theorem parse_bd {l : List UInt8} {v : Int} (h : Lib.parseIntB 64 l = .ok v) : -9223372036854775808 ≤ v ∧ v ≤ 9223372036854775807 := by
  have hp : (2 : Nat) ^ (64 - 1) = 9223372036854775808 := by decide
  unfold Lib.parseIntB at h
  split at h
  · cases h
  · simp only [hp] at h
    split at h
    · cases h
    · cases h
    · split at h
      · cases h
      · split at h
        · cases h
        · rename_i h1 h2
          injection h with h
          subst h
          split <;> rename_i h3 <;> simp [h3] at h1 h2 <;> omega
def rOk (l : List UInt8) : Bool := match Lib.parseIntB 64 l with | .ok v => decide (Lib.itoa v = l) | _ => false
def rNum (l : List UInt8) : Int := match Lib.parseIntB 64 l with | .ok v => v | .range => Lib.intSat 64 l | _ => 0
theorem rOk_itoa {n : Int} (h : -9223372036854775808 ≤ n) (h2 : n ≤ 9223372036854775807) : rOk (Lib.itoa n) = true ∧ rNum (Lib.itoa n) = n := by
  unfold rOk rNum
  rw [parse_itoa h h2]
  simp
theorem rOk_is {l : List UInt8} (h : rOk l = true) : Lib.itoa (rNum l) = l := by
  unfold rOk at h
  unfold rNum
  split at h
  · rename_i v hv
    rw [hv]
    exact of_decide_eq_true h
  · cases h
end Go.Proofs.YtfacbdliegemgaaDoor
