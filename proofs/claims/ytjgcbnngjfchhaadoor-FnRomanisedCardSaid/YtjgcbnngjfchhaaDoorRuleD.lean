/- Romanise and RulesUsed. -/
import Derived.Test.YtjgcbnngjfchhaaDoorRuleC
namespace Go.Proofs.YtjgcbnngjfchhaaDoor
open Go.ChangeShapes Go.WideShapes Go.ChangeAt Go.RowKit

set_option maxRecDepth 100000 in
set_option maxHeartbeats 2000000 in
theorem romanOf_any (A B : Option Addr) (n c m d : Nat) (T : List Rl) (l : List Int) (w : World) (hx : Rules w A n c T) (hy : Ints w B m d l) (hm : m ≤ 1000000) (hr : ∀ r ∈ T, r.2.size ≤ 4) (hl : ∀ i ∈ l, ∃ q : Nat, i = q ∧ q < T.length) :
    Calls Tryd.prog 53 #[.slice A n c, .slice B m d] w fun e w' => e = .returned (.string (roman T l)) ∧ Below w.heap.size w w' := by
  have hcm := hx.cap.2
  have hnc := hx.cap.1
  have hdm := hy.2.cap
  have hmd := hy.2.le
  have HX := Lib.hid hx.1
  have HY := Lib.hid hy.1
  have HR := Lib.hid hr
  have HL := Lib.hid hl
  unfold maxLen at hcm hdm
  clear hr hl
  go_enter Tryd.func53, Tryd.ntmps53
  go_wp2
  go_loopw [5, 10] (fun o i wr => ∃ (k : Nat) (t : ByteArray), k ≤ m ∧ i = .int .i64 k ∧ o = .string t ∧ t.size ≤ 4 * k ∧ Hid (t = roman T (l.take k)) ∧ Below w.heap.size w wr) (fun _ i _ => m - (intOf i).toNat)
  case atStart => exact ⟨0, ⟨#[]⟩, Nat.zero_le _, rfl, rfl, Nat.zero_le _, by simp [Hid, roman], Below.refl _ _⟩
  case round =>
    obtain ⟨k, t, hk, rfl, rfl, hts, ht, hb⟩ := hrel
    by_cases hlt : k < m
    · obtain ⟨b2, off2, rfl, hbl2⟩ := hy.at_ k hlt
      obtain ⟨i, hi, c0⟩ := hy.el hb hbl2 k hlt
      obtain ⟨q, rfl, hqn⟩ := HL.out i (List.mem_of_getElem? hi.out)
      rw [← HX.out] at hqn
      obtain ⟨b, off, rfl, hbl⟩ := hx.at_ q hqn
      obtain ⟨B', m', d', xs, r, hT, c1, c2, _, hrz⟩ := hx.el hb q hqn
      have hr4 : r.size ≤ 4 := HR.out _ (List.mem_of_getElem? hT.out)
      have HT := Lib.hid (show t ++ r = roman T (l.take (k + 1)) by rw [roman_succ hi.out hT.out, ← ht.out])
      have hts2 : (t ++ r).size ≤ 4 * (k + 1) := by rw [ByteArray.size_append]; omega
      clear ht
      go_wp2
      go_roundw
      case rel => exact ⟨k + 1, t ++ r, by omega, by go_num, rfl, hts2, HT, hb⟩
      case measure => simp [intOf]; omega
    · have HT := Lib.hid (show t = roman T l by rw [ht.out, List.take_of_length_le (by have := HY.out; omega)])
      clear ht
      go_wp2
      go_ret
      exact ⟨by rw [← HT.out]; rfl, hb⟩
set_option maxRecDepth 100000 in
set_option maxHeartbeats 2000000 in
theorem l04Roman_any (A B : Option Addr) (n c m d : Nat) (T : List Rl) (s : List Int) (w : World) (hx : Rules w A n c T) (hy : Ints w B m d s) (hm : m ≤ 1000000) (hr : ∀ r ∈ T, r.2.size ≤ 4) :
    Calls Tryd.prog 36 #[.slice A n c, .slice B m d] w fun e w' => e = .returned (.tuple #[.string (roman T (usedList T s)), .bool (usedOk T s)]) ∧ Below w.heap.size w w' := by
  have hcm := hx.cap.2
  have hnc := hx.cap.1
  have HX := Lib.hid hx.1
  have HR := Lib.hid hr
  have hll := Nat.le_trans (usedList_len T s) (Nat.le_of_eq hy.1.symm)
  have HL := Lib.hid (usedList_in (T := T) (s := s))
  unfold maxLen at hcm
  clear hr
  have hu := l04Used_any A B n c m d T s w hx hy hm
  obtain ⟨l, hl⟩ : ∃ l, usedList T s = l := ⟨_, rfl⟩
  obtain ⟨ok, hok⟩ : ∃ ok, usedOk T s = ok := ⟨_, rfl⟩
  rw [hl, hok] at hu
  rw [hl] at hll HL ⊢
  rw [hok]
  clear hl hok
  go_enter Tryd.func36, Tryd.ntmps36
  go_wp2_with fail
  refine hu.mono ?_
  rintro e_ w1 ⟨v, rfl, hown, h1⟩
  obtain ⟨m2, hm2⟩ : ∃ m2, l.length = m2 := ⟨_, rfl⟩
  rw [hm2] at hown hll
  have HM := Lib.hid hm2
  clear hm2
  obtain ⟨B2, d2, rfl, hz⟩ := own_ints_ hown
  have hdm := hz.2.cap
  have hmd := hz.2.le
  have HZ := Lib.hid hz.1
  unfold maxLen at hdm
  clear hown hu
  go_wp2
  go_loopw [8, 9] (fun o i wr => ∃ (k : Nat) (t : ByteArray), k ≤ m2 ∧ i = .int .i64 k ∧ o = .string t ∧ t.size ≤ 4 * k ∧ Hid (t = roman T (l.take k)) ∧ Below w1.heap.size w1 wr) (fun _ i _ => m2 - (intOf i).toNat)
  case atStart => exact ⟨0, ⟨#[]⟩, Nat.zero_le _, rfl, rfl, Nat.zero_le _, by simp [Hid, roman], Below.refl _ _⟩
  case round =>
    obtain ⟨k, t, hk, rfl, rfl, hts, ht, hb⟩ := hrel
    by_cases hlt : k < m2
    · obtain ⟨b2, off2, rfl, hbl2⟩ := hz.at_ k hlt
      obtain ⟨i, hi, c0⟩ := hz.el hb hbl2 k hlt
      obtain ⟨q, rfl, hqn⟩ := HL.out i (List.mem_of_getElem? hi.out)
      rw [← HX.out] at hqn
      obtain ⟨b, off, rfl, hbl⟩ := hx.at_ q hqn
      obtain ⟨B', m', d', xs, r, hT, c1, c2, _, hrz⟩ := (hx.below h1).el hb q hqn
      have hr4 : r.size ≤ 4 := HR.out _ (List.mem_of_getElem? hT.out)
      have HT := Lib.hid (show t ++ r = roman T (l.take (k + 1)) by rw [roman_succ hi.out hT.out, ← ht.out])
      have hts2 : (t ++ r).size ≤ 4 * (k + 1) := by rw [ByteArray.size_append]; omega
      clear ht
      go_wp2
      go_roundw
      case rel => exact ⟨k + 1, t ++ r, by omega, by go_num, rfl, hts2, HT, hb⟩
      case measure => simp [intOf]; omega
    · have HT := Lib.hid (show t = roman T l by rw [ht.out, List.take_of_length_le (by have := HM.out; omega)])
      clear ht
      go_wp2
      go_ret2
      exact ⟨by rw [← HT.out]; rfl, next h1 hb⟩

def ucOk (T : List Rl) (s : List Int) : Bool := isTab T && sgB 12 s
def ucCode (T : List Rl) (s : List Int) : Int := if ucOk T s = true then 0 else 1
def ruList (T : List Rl) (s : List Int) : List Int := if ucOk T s = true then usedList T s else []
def ruCode (T : List Rl) (s : List Int) : Int := if ucOk T s = true then if usedOk T s = true then 0 else 4 else 1
theorem used_no {T : List Rl} {s : List Int} (h : usedOk T s = false) : usedList T s = [] := by
  unfold usedOk at h
  unfold usedList
  cases hq : used T s with
  | none => rfl
  | some l => rw [hq] at h; cases h
theorem ru_cases (T : List Rl) (s : List Int) :
    (Hid (ucCode T s = 1 ∧ ruList T s = [] ∧ ruCode T s = 1) ∧ (isTab T = false ∨ (isTab T = true ∧ sgB 12 s = false))) ∨
    (isTab T = true ∧ sgB 12 s = true ∧ usedOk T s = false ∧ Hid (ucCode T s = 0 ∧ ruList T s = [] ∧ ruCode T s = 4 ∧ usedList T s = [])) ∨
    (isTab T = true ∧ sgB 12 s = true ∧ usedOk T s = true ∧ Hid (ucCode T s = 0 ∧ ruList T s = usedList T s ∧ ruCode T s = 0)) := by
  unfold Hid ucCode ruList ruCode ucOk
  cases isTab T <;> cases sgB 12 s <;> cases h : usedOk T s <;> simp [h]
  exact used_no h
theorem ru_len (T : List Rl) (s : List Int) : (ruList T s).length ≤ 12 := by
  unfold ruList
  split
  · rename_i h
    unfold ucOk sgB at h
    simp at h
    have := usedList_len T s
    omega
  · simp
theorem tab_roman {T : List Rl} (h : isTab T = true) : ∀ r ∈ T, r.2.size ≤ 4 := by
  intro r hr
  obtain ⟨k, hk⟩ := List.getElem?_of_mem hr
  have := (isTab_at h hk).1
  exact (isRl_len (xs := r.1) (r := r.2) this).2.2
theorem sg_size {most : Int} {s : List Int} {m : Nat} (hn : m = s.length) (h : sgB most s = true) : (m : Int) ≤ most := by
  unfold sgB at h
  simp at h
  omega
theorem l04Code_any (A B : Option Addr) (n c m d : Nat) (T : List Rl) (s : List Int) (w : World) (hx : Rules w A n c T) (hy : Ints w B m d s) :
    Calls Tryd.prog 54 #[.slice A n c, .slice B m d] w fun e w' => e = .returned (.int .i64 (ucCode T s)) ∧ Below w.heap.size w w' := by
  cases ha : isTab T
  · have HF := Lib.hid (show ucCode T s = 1 by unfold ucCode ucOk; rw [ha]; rfl)
    go_enter Tryd.func54, Tryd.ntmps54
    go_wp2_with fail
    refine (isb (IsTable_spec A n c T _ hx) ha).mono ?_
    rintro e_ w1 ⟨rfl, h1⟩
    have hc_w1 := bcell h1; have hf_w1 := bfree h1
    go_wp2
    go_ret
    exact ⟨by rw [HF.out]; rfl, h1⟩
  · cases hw : sgB 12 s
    · have HF := Lib.hid (show ucCode T s = 1 by unfold ucCode ucOk; rw [ha, hw]; rfl)
      go_enter Tryd.func54, Tryd.ntmps54
      go_wp2_with fail
      refine (isb (IsTable_spec A n c T _ hx) ha).mono ?_
      rintro e_ w1 ⟨rfl, h1⟩
      have hc_w1 := bcell h1; have hf_w1 := bfree h1
      go_wp2_with fail
      refine (isb (l04Signs_any B m d s 12 _ (hy.below h1)) hw).mono ?_
      rintro e_ w2 ⟨rfl, h2⟩
      have hc_w2 := bcell h2; have hf_w2 := bfree h2
      go_wp2
      go_ret
      exact ⟨by rw [HF.out]; rfl, next h1 h2⟩
    · have HF := Lib.hid (show ucCode T s = 0 by unfold ucCode ucOk; rw [ha, hw]; rfl)
      go_enter Tryd.func54, Tryd.ntmps54
      go_wp2_with fail
      refine (isb (IsTable_spec A n c T _ hx) ha).mono ?_
      rintro e_ w1 ⟨rfl, h1⟩
      have hc_w1 := bcell h1; have hf_w1 := bfree h1
      go_wp2_with fail
      refine (isb (l04Signs_any B m d s 12 _ (hy.below h1)) hw).mono ?_
      rintro e_ w2 ⟨rfl, h2⟩
      have hc_w2 := bcell h2; have hf_w2 := bfree h2
      go_wp2
      go_ret
      exact ⟨by rw [HF.out]; rfl, next h1 h2⟩
theorem own_mono_ {w : World} {base base' : Nat} {e : TypeId} {size : Nat} {v : Value} {n : Nat} {xs : List Value} (h : w.ownsRow base e size v n xs) (hb : base' ≤ base) : w.ownsRow base' e size v n xs :=
  ⟨h.1, h.2.imp id fun ⟨g, cap, cur, a, b, r⟩ => ⟨g, cap, cur, a, Nat.le_trans hb b, r⟩⟩

set_option maxHeartbeats 1000000 in
theorem RulesUsed_spec (A B : Option Addr) (n c m d : Nat) (T : List Rl) (s : List Int) (w : World) (hx : Rules w A n c T) (hy : Ints w B m d s) :
    Calls Tryd.prog 27 #[.slice A n c, .slice B m d] w fun e w' => ∃ v, e = .returned (.tuple #[v, .int .i64 (ruCode T s)]) ∧ w'.ownsRow w.heap.size 2 1 v (ruList T s).length ((ruList T s).map (Value.int .i64)) ∧ Below w.heap.size w w' := by
  rcases ru_cases T s with ⟨HF, _⟩ | ⟨ha, hs, ho, HF⟩ | ⟨ha, hs, ho, HF⟩
  · go_enter Tryd.func27, Tryd.ntmps27
    go_wp2_with fail
    refine (isn (l04Code_any A B n c m d T s _ hx hy) HF.out.1).mono ?_
    rintro e_ w1 ⟨rfl, h1⟩
    have hc_w1 := bcell h1; have hf_w1 := bfree h1
    go_wp2
    go_ret2
    exact ⟨_, by rw [HF.out.2.2]; rfl, by rw [HF.out.2.1]; exact World.ownsRow_nil _ _ _ _, h1⟩
  · have hm := sg_size hy.1 hs
    go_enter Tryd.func27, Tryd.ntmps27
    go_wp2_with fail
    refine (isn (l04Code_any A B n c m d T s _ hx hy) HF.out.1).mono ?_
    rintro e_ w1 ⟨rfl, h1⟩
    have hc_w1 := bcell h1; have hf_w1 := bfree h1
    have hl := l04Used_any A B n c m d T s w1 (hx.below h1) (hy.below h1) (by omega)
    rw [ho] at hl
    clear ha hs ho
    go_wp2_with fail
    refine hl.mono ?_
    rintro e_ w2 ⟨v, rfl, hown, h2⟩
    clear hown hl
    go_wp2
    go_ret2
    exact ⟨_, by rw [HF.out.2.2.1]; rfl, by rw [HF.out.2.1]; exact World.ownsRow_nil _ _ _ _, next h1 h2⟩
  · have hm := sg_size hy.1 hs
    go_enter Tryd.func27, Tryd.ntmps27
    go_wp2_with fail
    refine (isn (l04Code_any A B n c m d T s _ hx hy) HF.out.1).mono ?_
    rintro e_ w1 ⟨rfl, h1⟩
    have hc_w1 := bcell h1; have hf_w1 := bfree h1
    have hl := l04Used_any A B n c m d T s w1 (hx.below h1) (hy.below h1) (by omega)
    rw [ho] at hl
    clear ha hs ho
    go_wp2_with fail
    refine hl.mono ?_
    rintro e_ w2 ⟨v, rfl, hown, h2⟩
    have HO := Lib.hid (own_mono_ hown h1.size)
    clear hown hl
    go_wp2
    go_ret2
    exact ⟨_, by rw [HF.out.2.2]; rfl, by rw [HF.out.2.1]; exact HO.out, next h1 h2⟩
set_option maxHeartbeats 1000000 in
theorem usedRules_any (A B : Option Addr) (n c m d : Nat) (T : List Rl) (s : List Int) (w : World) (hx : Rules w A n c T) (hy : Ints w B m d s) :
    Calls Tryd.prog 52 #[.slice A n c, .slice B m d] w fun e w' => ∃ v, e = .returned (.tuple #[v, .int .i64 (ruCode T s)]) ∧ w'.ownsRow w.heap.size 2 1 v (ruList T s).length ((ruList T s).map (Value.int .i64)) ∧ Below w.heap.size w w' := by
  rcases ru_cases T s with ⟨HF, ha | ⟨ha, hs⟩⟩ | ⟨ha, hs, ho, HF⟩ | ⟨ha, hs, ho, HF⟩
  · go_enter Tryd.func52, Tryd.ntmps52
    go_wp2_with fail
    refine (isb (IsTable_impl A n c T _ hx) ha).mono ?_
    rintro e_ w1 ⟨rfl, h1⟩
    have hc_w1 := bcell h1; have hf_w1 := bfree h1
    go_wp2
    go_ret2
    exact ⟨_, by rw [HF.out.2.2]; rfl, by rw [HF.out.2.1]; exact World.ownsRow_nil _ _ _ _, h1⟩
  · go_enter Tryd.func52, Tryd.ntmps52
    go_wp2_with fail
    refine (isb (IsTable_impl A n c T _ hx) ha).mono ?_
    rintro e_ w1 ⟨rfl, h1⟩
    have hc_w1 := bcell h1; have hf_w1 := bfree h1
    go_wp2_with fail
    refine (isb (areSigns_any B m d s 12 _ (hy.below h1)) hs).mono ?_
    rintro e_ w2 ⟨rfl, h2⟩
    have hc_w2 := bcell h2; have hf_w2 := bfree h2
    go_wp2
    go_ret2
    exact ⟨_, by rw [HF.out.2.2]; rfl, by rw [HF.out.2.1]; exact World.ownsRow_nil _ _ _ _, next h1 h2⟩
  · have hm := sg_size hy.1 hs
    go_enter Tryd.func52, Tryd.ntmps52
    go_wp2_with fail
    refine (isb (IsTable_impl A n c T _ hx) ha).mono ?_
    rintro e_ w1 ⟨rfl, h1⟩
    have hc_w1 := bcell h1; have hf_w1 := bfree h1
    go_wp2_with fail
    refine (isb (areSigns_any B m d s 12 _ (hy.below h1)) hs).mono ?_
    rintro e_ w2 ⟨rfl, h2⟩
    have hc_w2 := bcell h2; have hf_w2 := bfree h2
    have B2 := next h1 h2
    have hl := rulesUsed_any A B n c m d T s w2 (hx.below B2) (hy.below B2) (by omega)
    rw [ho] at hl
    clear ha hs ho
    go_wp2_with fail
    refine hl.mono ?_
    rintro e_ w3 ⟨v, rfl, hown, h3⟩
    clear hown hl
    go_wp2
    go_ret2
    exact ⟨_, by rw [HF.out.2.2.1]; rfl, by rw [HF.out.2.1]; exact World.ownsRow_nil _ _ _ _, next B2 h3⟩
  · have hm := sg_size hy.1 hs
    go_enter Tryd.func52, Tryd.ntmps52
    go_wp2_with fail
    refine (isb (IsTable_impl A n c T _ hx) ha).mono ?_
    rintro e_ w1 ⟨rfl, h1⟩
    have hc_w1 := bcell h1; have hf_w1 := bfree h1
    go_wp2_with fail
    refine (isb (areSigns_any B m d s 12 _ (hy.below h1)) hs).mono ?_
    rintro e_ w2 ⟨rfl, h2⟩
    have hc_w2 := bcell h2; have hf_w2 := bfree h2
    have B2 := next h1 h2
    have hl := rulesUsed_any A B n c m d T s w2 (hx.below B2) (hy.below B2) (by omega)
    rw [ho] at hl
    clear ha hs ho
    go_wp2_with fail
    refine hl.mono ?_
    rintro e_ w3 ⟨v, rfl, hown, h3⟩
    have HO := Lib.hid (own_mono_ hown B2.size)
    clear hown hl
    go_wp2
    go_ret2
    exact ⟨_, by rw [HF.out.2.2]; rfl, by rw [HF.out.2.1]; exact HO.out, next B2 h3⟩
theorem RulesUsed_impl (A B : Option Addr) (n c m d : Nat) (T : List Rl) (s : List Int) (w : World) (hx : Rules w A n c T) (hy : Ints w B m d s) :
    Calls Tryd.prog 26 #[.slice A n c, .slice B m d] w fun e w' => ∃ v, e = .returned (.tuple #[v, .int .i64 (ruCode T s)]) ∧ w'.ownsRow w.heap.size 2 1 v (ruList T s).length ((ruList T s).map (Value.int .i64)) ∧ Below w.heap.size w w' := by
  have hl := usedRules_any A B n c m d T s w hx hy
  go_enter Tryd.func26, Tryd.ntmps26
  go_wp2_with fail
  refine hl.mono ?_
  rintro e_ w1 ⟨v, rfl, hown, h1⟩
  clear hl
  go_wp2
  go_ret2
  exact ⟨_, rfl, hown, h1⟩
set_option maxHeartbeats 1000000 in
theorem Romanise_impl (A B : Option Addr) (n c m d : Nat) (T : List Rl) (s : List Int) (w : World) (hx : Rules w A n c T) (hy : Ints w B m d s) :
    Calls Tryd.prog 24 #[.slice A n c, .slice B m d] w fun e w' => e = .returned (.tuple #[.string (roman T (ruList T s)), .int .i64 (ruCode T s)]) ∧ Below w.heap.size w w' := by
  have hl := usedRules_any A B n c m d T s w hx hy
  have hin : (∀ i ∈ ruList T s, ∃ q : Nat, i = q ∧ q < T.length) ∧ (ruList T s).length ≤ 1000000 ∧ (ruList T s = [] ∨ ∀ r ∈ T, r.2.size ≤ 4) := by
    rcases ru_cases T s with ⟨HF, _⟩ | ⟨ha, hs, ho, HF⟩ | ⟨ha, hs, ho, HF⟩
    · rw [HF.out.2.1]; simp
    · rw [HF.out.2.1]; simp
    · rw [HF.out.2.1]
      have := usedList_len T s
      have := sg_size hy.1 hs
      have := hy.1
      exact ⟨usedList_in, by omega, .inr (tab_roman ha)⟩
  obtain ⟨h1, h2, h3⟩ := hin
  generalize ruList T s = l at *
  have hro : ∀ (B2 : Option Addr) (d2 : Nat) (w2 : World), Rules w2 A n c T → Ints w2 B2 l.length d2 l → Calls Tryd.prog 53 #[.slice A n c, .slice B2 l.length d2] w2 fun e w' => e = .returned (.string (roman T l)) ∧ Below w2.heap.size w2 w' := by
    intro B2 d2 w2 hx2 hy2
    rcases h3 with rfl | h3
    · have hdm := hy2.2.cap
      unfold maxLen at hdm
      go_enter Tryd.func53, Tryd.ntmps53
      go_wp2
      go_loopw [5, 10] (fun o i wr => i = .int .i64 0 ∧ o = .string ⟨#[]⟩ ∧ wr = w2) (fun _ i _ => 0)
      case atStart => exact ⟨rfl, rfl, rfl⟩
      case round =>
        obtain ⟨rfl, rfl, rfl⟩ := hrel
        go_wp2
        go_ret
        exact ⟨rfl, Below.refl _ _⟩
    · exact romanOf_any A B2 n c l.length d2 T l w2 hx2 hy2 h2 h3 h1
  go_enter Tryd.func24, Tryd.ntmps24
  go_wp2_with fail
  refine hl.mono ?_
  rintro e_ w1 ⟨v, rfl, hown, hb1⟩
  obtain ⟨B2, d2, rfl, hz⟩ := own_ints_ hown
  clear hl hown
  go_wp2_with fail
  refine (hro B2 d2 _ (hx.below hb1) hz).mono ?_
  rintro e_ w2 ⟨rfl, hb2⟩
  have hc_w2 := bcell hb2; have hf_w2 := bfree hb2
  go_wp2
  go_ret2
  exact ⟨rfl, next hb1 hb2⟩
theorem roman_nil (T : List Rl) : roman T [] = ⟨#[]⟩ := rfl
set_option maxHeartbeats 1000000 in
theorem Romanise_spec (A B : Option Addr) (n c m d : Nat) (T : List Rl) (s : List Int) (w : World) (hx : Rules w A n c T) (hy : Ints w B m d s) :
    Calls Tryd.prog 25 #[.slice A n c, .slice B m d] w fun e w' => e = .returned (.tuple #[.string (roman T (ruList T s)), .int .i64 (ruCode T s)]) ∧ Below w.heap.size w w' := by
  rcases ru_cases T s with ⟨HF, _⟩ | ⟨ha, hs, ho, HF⟩ | ⟨ha, hs, ho, HF⟩
  · go_enter Tryd.func25, Tryd.ntmps25
    go_wp2_with fail
    refine (isn (l04Code_any A B n c m d T s _ hx hy) HF.out.1).mono ?_
    rintro e_ w1 ⟨rfl, h1⟩
    have hc_w1 := bcell h1; have hf_w1 := bfree h1
    go_wp2
    go_ret2
    exact ⟨by rw [HF.out.2.2, HF.out.2.1, roman_nil]; rfl, h1⟩
  · have hm := sg_size hy.1 hs
    have hrm := tab_roman ha
    go_enter Tryd.func25, Tryd.ntmps25
    go_wp2_with fail
    refine (isn (l04Code_any A B n c m d T s _ hx hy) HF.out.1).mono ?_
    rintro e_ w1 ⟨rfl, h1⟩
    have hc_w1 := bcell h1; have hf_w1 := bfree h1
    have hl := l04Roman_any A B n c m d T s w1 (hx.below h1) (hy.below h1) (by omega) hrm
    rw [ho] at hl
    clear ha hs ho hrm
    go_wp2_with fail
    refine hl.mono ?_
    rintro e_ w2 ⟨rfl, h2⟩
    clear hl
    go_wp2
    go_ret2
    exact ⟨by rw [HF.out.2.2.1, HF.out.2.1, roman_nil]; rfl, next h1 h2⟩
  · have hm := sg_size hy.1 hs
    have hrm := tab_roman ha
    go_enter Tryd.func25, Tryd.ntmps25
    go_wp2_with fail
    refine (isn (l04Code_any A B n c m d T s _ hx hy) HF.out.1).mono ?_
    rintro e_ w1 ⟨rfl, h1⟩
    have hc_w1 := bcell h1; have hf_w1 := bfree h1
    have hl := l04Roman_any A B n c m d T s w1 (hx.below h1) (hy.below h1) (by omega) hrm
    rw [ho] at hl
    clear ha hs ho hrm
    go_wp2_with fail
    refine hl.mono ?_
    rintro e_ w2 ⟨rfl, h2⟩
    clear hl
    go_wp2
    go_ret2
    exact ⟨by rw [HF.out.2.2, HF.out.2.1]; rfl, next h1 h2⟩
end Go.Proofs.YtjgcbnngjfchhaaDoor
