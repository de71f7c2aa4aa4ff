/- Stable parsings. -/
import Derived.Test.YtfdnmffbfgnahaaDoorRuleF
namespace Go.Proofs.YtfdnmffbfgnahaaDoor
open Go.ChangeShapes Go.WideShapes Go.ChangeAt Go.RowKit

theorem text_some_ {s : ByteArray} (h : 0 < s.size) : s.toList.isEmpty = false := by
  rw [ByteArray.toList_eq, List.isEmpty_eq_false_iff]
  intro e
  have : s.data.toList.length = 0 := by rw [e]; rfl
  have h2 : s.size = s.data.toList.length := by rw [Array.length_toList]; rfl
  omega
theorem text_nil_ {s : ByteArray} (h : ¬ 0 < s.size) : s = ⟨#[]⟩ := by
  apply ByteArray.ext
  have : s.data.size = 0 := by have : s.size = s.data.size := rfl; omega
  exact Array.eq_empty_of_size_eq_zero this
def emp (T : List Rl) (i : Int) : Bool := decide ((T.getD i.toNat ([], ⟨#[]⟩)).2.size = 0)
theorem emp_is {T : List Rl} {q : Nat} {xs : List Int} {r : ByteArray} (h : T[q]? = some (xs, r)) : emp T (q : Int) = decide (r.size = 0) := by
  unfold emp
  rw [List.getD_eq_getElem?_getD, Int.toNat_natCast, h]
  rfl
def hasEmp (T : List Rl) (p : List Int) : Bool := p.any (emp T)
def stB (T : List Rl) (p s : List Int) : Bool := !hasEmp T p && decide (1 ≤ (s.length : Int) ∧ (s.length : Int) ≤ 12) && usedOk T s && decide (usedList T s = p)
def stOk (T : List Rl) (p : List Int) : Bool := decide (spCode T p = 0) && stB T p (sgnCat T p)
theorem any_no {T : List Rl} {p : List Int} {k : Nat} {i : Int} (h : Hid (p[k]? = some i)) (hp : (p.take k).any (emp T) = false) (he : emp T i = false) : (p.take (k + 1)).any (emp T) = false := by
  rw [List.take_add_one, h.out, List.any_append, hp]
  simp [he]
theorem any_yes {T : List Rl} {p : List Int} {k : Nat} {i : Int} (h : Hid (p[k]? = some i)) (he : emp T i = true) : hasEmp T p = true := by
  unfold hasEmp
  rw [List.any_eq_true]
  exact ⟨i, List.mem_of_getElem? h.out, he⟩

set_option maxRecDepth 100000 in
set_option maxHeartbeats 2000000 in
theorem l05Stable_any (A B C : Option Addr) (n c m d u v : Nat) (T : List Rl) (p s : List Int) (w : World) (hx : Rules w A n c T) (hy : Ints w B m d p) (hz : Ints w C u v s) (hl : ∀ i ∈ p, ∃ q : Nat, i = q ∧ q < T.length) (hu : u ≤ 1000000) :
    Calls Tryd.prog 65 #[.slice A n c, .slice B m d, .slice C u v] w fun e w' => e = .returned (.bool (stB T p s)) ∧ Below w.heap.size w w' := by
  have hcm := hx.cap.2
  have hnc := hx.cap.1
  have hdm := hy.2.cap
  have hmd := hy.2.le
  have hvm := hz.2.cap
  have huv := hz.2.le
  have HX := Lib.hid hx.1
  have HY := Lib.hid hy.1
  have HZ := Lib.hid hz.1
  have HL := Lib.hid hl
  unfold maxLen at hcm hdm hvm
  clear hl
  go_enter Tryd.func65, Tryd.ntmps65
  go_wp2
  go_loopw [7] (fun i wr => ∃ (k : Nat), k ≤ m ∧ i = .int .i64 k ∧ Hid ((p.take k).any (emp T) = false) ∧ Below w.heap.size w wr) (fun i _ => m - (intOf i).toNat)
  case atStart => exact ⟨0, Nat.zero_le _, rfl, by simp [Hid], Below.refl _ _⟩
  case round =>
    obtain ⟨k, hk, rfl, hup, hb⟩ := hrel
    by_cases hlt : k < m
    · obtain ⟨b2, off2, rfl, hbl2⟩ := hy.at_ k hlt
      obtain ⟨i, hi, c0⟩ := hy.el hb hbl2 k hlt
      obtain ⟨q, rfl, hqn⟩ := HL.out i (List.mem_of_getElem? hi.out)
      rw [← HX.out] at hqn
      obtain ⟨b, off, rfl, hbl⟩ := hx.at_ q hqn
      obtain ⟨B', m', d', xs, r, hT, c1, c2, _, hrz⟩ := hx.el hb q hqn
      by_cases h0 : 0 < r.size
      · have hne := text_some_ h0
        have HU := Lib.hid (any_no hi hup.out (by rw [emp_is hT.out]; exact decide_eq_false (by omega)))
        clear hup
        go_wp2
        go_roundw
        case rel => exact ⟨k + 1, by omega, by go_num, HU, hb⟩
        case measure => simp [intOf]; omega
      · have HF := Lib.hid (show stB T p s = false by unfold stB; rw [any_yes hi (by rw [emp_is hT.out]; exact decide_eq_true (by omega))]; rfl)
        obtain rfl := text_nil_ h0
        go_wp2
        go_ret
        exact ⟨by rw [HF.out]; rfl, hb⟩
    · have hE : hasEmp T p = false := by have := hup.out; rw [List.take_of_length_le (by have := HY.out; omega)] at this; exact this
      have hl := l04Used_any A C n c u v T s wr (hx.below hb) (hz.below hb) hu
      obtain ⟨l, hll⟩ : ∃ l, usedList T s = l := ⟨_, rfl⟩
      clear hup
      cases ho : usedOk T s
      · have HF := Lib.hid (show stB T p s = false by unfold stB; rw [ho]; simp)
        rw [ho, hll] at hl
        clear ho hE hll
        cases hr : decide (1 ≤ (u : Int) ∧ (u : Int) ≤ 12)
        all_goals
          go_wp2_with fail
          refine hl.mono ?_
          rintro e_ w2 ⟨v2, rfl, hown, h2⟩
          clear hl hown
          go_wp2_with fail
          refine (isb (l01In_any u 1 12 _) hr).mono ?_
          rintro e_ w3 ⟨rfl, h3⟩
          have hc_w3 := bcell h3; have hf_w3 := bfree h3
          go_wp2
          go_ret
          exact ⟨by rw [HF.out]; rfl, next (next hb h2) h3⟩
      · cases hr : decide (1 ≤ (u : Int) ∧ (u : Int) ≤ 12)
        · have HF := Lib.hid (show stB T p s = false by unfold stB; rw [← HZ.out, hr]; simp)
          rw [ho, hll] at hl
          clear ho hE hll
          go_wp2_with fail
          refine hl.mono ?_
          rintro e_ w2 ⟨v2, rfl, hown, h2⟩
          clear hl hown
          go_wp2_with fail
          refine (isb (l01In_any u 1 12 _) hr).mono ?_
          rintro e_ w3 ⟨rfl, h3⟩
          have hc_w3 := bcell h3; have hf_w3 := bfree h3
          go_wp2
          go_ret
          exact ⟨by rw [HF.out]; rfl, next (next hb h2) h3⟩
        · have HF := Lib.hid (show stB T p s = decide (l = p) by unfold stB; rw [← HZ.out, hr, ho, hE, hll]; simp)
          rw [ho, hll] at hl
          clear ho hE hll
          go_wp2_with fail
          refine hl.mono ?_
          rintro e_ w2 ⟨v2, rfl, hown, h2⟩
          obtain ⟨A2, c2, rfl, hx2⟩ := own_ints_ hown
          clear hl hown
          go_wp2_with fail
          refine (isb (l01In_any u 1 12 _) hr).mono ?_
          rintro e_ w3 ⟨rfl, h3⟩
          have hc_w3 := bcell h3; have hf_w3 := bfree h3
          go_wp2_with fail
          refine (l01Same_any A2 B l.length c2 m d l p _ (hx2.below h3) (((hy.below hb).below h2).below h3)).mono ?_
          rintro e_ w4 ⟨rfl, h4⟩
          have hc_w4 := bcell h4; have hf_w4 := bfree h4
          go_wp2
          go_ret
          exact ⟨by rw [HF.out]; rfl, next (next (next hb h2) h3) h4⟩

set_option maxHeartbeats 800000 in
theorem isStable1_any (A : Option Addr) (n c q p : Nat) (T : List Rl) (w : World) (hx : Rules w A n c T) (hq : q < n) (hp : w.cell? ⟨p, 0, none⟩ = some (.slice A n c)) (hpl : p < w.heap.size) :
    Calls Tryd.prog 91 #[.int .i64 q, .pointer (some ⟨p, 0, none⟩)] w fun e w' => e = .returned (.bool (emp T q)) ∧ Below w.heap.size w w' := by
  have hcm := hx.cap.2
  have hnc := hx.cap.1
  unfold maxLen at hcm
  obtain ⟨b, off, rfl, hbl⟩ := hx.at_ q hq
  obtain ⟨B', m', d', xs, r, hT, c1, c2, _, hrz⟩ := hx.el (Below.refl _ _) q hq
  by_cases h0 : 0 < r.size
  · have hne := text_some_ h0
    have HF := Lib.hid (show emp T q = false by rw [emp_is hT.out]; exact decide_eq_false (by omega))
    go_enter Tryd.func91, Tryd.ntmps91
    go_wp2
    go_ret
    exact ⟨by rw [HF.out]; rfl, Below.refl _ _⟩
  · have HF := Lib.hid (show emp T q = true by rw [emp_is hT.out]; exact decide_eq_true (by omega))
    obtain rfl := text_nil_ h0
    go_enter Tryd.func91, Tryd.ntmps91
    go_wp2
    go_ret
    exact ⟨by rw [HF.out]; rfl, Below.refl _ _⟩
def AnyAt (b : Bool) (w : World) (e : Ending) (w' : World) : Prop := ∃ q : Int, e = .returned (.int .i64 q) ∧ decide (0 ≤ q) = b ∧ Below w.heap.size w w'
set_option maxRecDepth 100000 in
set_option maxHeartbeats 1000000 in
theorem IndexFunc_emp (A B : Option Addr) (n c m d g : Nat) (T : List Rl) (p : List Int) (w : World) (hx : Rules w A n c T) (hy : Ints w B m d p) (hl : ∀ i ∈ p, ∃ q : Nat, i = q ∧ q < T.length) (hp : w.cell? ⟨g, 0, none⟩ = some (.slice A n c)) (hpl : g < w.heap.size) :
    Calls Tryd.prog 107 #[.slice B m d, .func (.func 91) #[] #[.pointer (some ⟨g, 0, none⟩)]] w (AnyAt (hasEmp T p) w) := by
  have hdm := hy.2.cap
  have hmd := hy.2.le
  have HX := Lib.hid hx.1
  have HY := Lib.hid hy.1
  have HL := Lib.hid hl
  unfold maxLen at hdm
  clear hl
  go_enter Tryd.func107, Tryd.ntmps107
  go_wp2
  go_loopw [8] (fun i wr => ∃ (k : Nat), k ≤ m ∧ i = .int .i64 k ∧ Hid ((p.take k).any (emp T) = false) ∧ Below w.heap.size w wr) (fun i _ => m - (intOf i).toNat)
  case atStart => exact ⟨0, Nat.zero_le _, rfl, by simp [Hid], Below.refl _ _⟩
  case round =>
    obtain ⟨k, hk, rfl, hup, hb⟩ := hrel
    by_cases hlt : k < m
    · obtain ⟨b2, off2, rfl, hbl2⟩ := hy.at_ k hlt
      obtain ⟨i, hi, c0⟩ := hy.el hb hbl2 k hlt
      obtain ⟨q, rfl, hqn⟩ := HL.out i (List.mem_of_getElem? hi.out)
      rw [← HX.out] at hqn
      have hc1 := isStable1_any A n c q g T wr (hx.below hb) hqn ((hb.cell (p := ⟨g, 0, none⟩) hpl).trans hp) (Nat.lt_of_lt_of_le hpl hb.size)
      cases he : emp T (q : Int)
      · have HU := Lib.hid (any_no hi hup.out he)
        rw [he] at hc1
        clear hup he
        go_wp2_with fail
        refine hc1.mono ?_
        rintro e_ w2 ⟨rfl, h2⟩
        clear hc1
        go_wp2
        go_roundw
        case rel => exact ⟨k + 1, by omega, by go_num, HU, next hb h2⟩
        case measure => simp [intOf]; omega
      · have HF := Lib.hid (any_yes hi he)
        rw [he] at hc1
        clear hup he
        go_wp2_with fail
        refine hc1.mono ?_
        rintro e_ w2 ⟨rfl, h2⟩
        clear hc1
        go_wp2
        go_ret
        exact ⟨k, rfl, by rw [HF.out]; exact decide_eq_true (by omega), next hb h2⟩
    · have HE := Lib.hid (show hasEmp T p = false by have := hup.out; rw [List.take_of_length_le (by have := HY.out; omega)] at this; exact this)
      clear hup
      go_wp2
      go_ret
      exact ⟨-1, rfl, by rw [HE.out]; rfl, hb⟩
theorem ContainsFunc_emp (A B : Option Addr) (n c m d g : Nat) (T : List Rl) (p : List Int) (w : World) (hx : Rules w A n c T) (hy : Ints w B m d p) (hl : ∀ i ∈ p, ∃ q : Nat, i = q ∧ q < T.length) (hp : w.cell? ⟨g, 0, none⟩ = some (.slice A n c)) (hpl : g < w.heap.size) :
    Calls Tryd.prog 90 #[.slice B m d, .func (.func 91) #[] #[.pointer (some ⟨g, 0, none⟩)]] w fun e w' => e = .returned (.bool (hasEmp T p)) ∧ Below w.heap.size w w' := by
  have hi := IndexFunc_emp A B n c m d g T p w hx hy hl hp hpl
  go_enter Tryd.func90, Tryd.ntmps90
  go_wp2_with fail
  refine hi.mono ?_
  rintro e_ w1 ⟨q, rfl, hq, h1⟩
  have HQ := Lib.hid hq
  clear hq hi
  go_wp2
  go_ret
  exact ⟨ret_bool (by rw [← HQ.out]), h1⟩
set_option maxRecDepth 100000 in
set_option maxHeartbeats 2000000 in
theorem isStable_any (A B : Option Addr) (n c m d : Nat) (T : List Rl) (p : List Int) (w : World) (hx : Rules w A n c T) (hy : Ints w B m d p) (hl : ∀ i ∈ p, ∃ q : Nat, i = q ∧ q < T.length) (hm : m ≤ 1000) (ht : isTab T = true) :
    Calls Tryd.prog 66 #[.slice A n c, .slice B m d] w fun e w' => e = .returned (.bool (stB T p (sgnCat T p))) ∧ Below w.heap.size w w' := by
  have hcm := hx.cap.2
  have hnc := hx.cap.1
  have hdm := hy.2.cap
  have hmd := hy.2.le
  have hsl := sgnCat_len ht p
  have hyl := hy.1
  have hs1 : 0 < m → 1 ≤ (sgnCat T p).length := by
    intro h0
    obtain ⟨i, hi⟩ : ∃ i, p[0]? = some i := ⟨_, List.getElem?_eq_getElem (by omega)⟩
    obtain ⟨q, rfl, hq⟩ := hl i (List.mem_of_getElem? hi)
    obtain ⟨⟨xs, r⟩, hT⟩ : ∃ x, T[q]? = some x := ⟨_, List.getElem?_eq_getElem hq⟩
    have h3 := sgnCat_succ (T := T) hi hT
    have h4 : (sgnCat T (p.take 1)).length ≤ (sgnCat T p).length := by
      conv => rhs; rw [← List.take_append_drop 1 p]
      unfold sgnCat
      rw [List.flatMap_append, List.length_append]
      omega
    rw [h3, List.length_append] at h4
    have := rl_len ht hT
    omega
  have hsn := fun W hW1 hW2 => signsOf_any A B n c m d T p W hW1 hW2 (by omega) hl ht
  have HY := Lib.hid hyl
  have HL := Lib.hid hl
  unfold maxLen at hcm hdm
  have hs0 : m = 0 → sgnCat T p = [] := by
    intro e
    have : p = [] := List.eq_nil_of_length_eq_zero (by omega)
    rw [this]; rfl
  obtain ⟨s, hs⟩ : ∃ s, sgnCat T p = s := ⟨_, rfl⟩
  rw [hs] at hsl hs1 hsn hs0 ⊢
  clear hs hl ht hyl
  obtain ⟨u, hul⟩ : ∃ u, s.length = u := ⟨_, rfl⟩
  have HU := Lib.hid hul
  rw [hul] at hsl hs1
  have hu : u ≤ 3000 := by have := HY.out; omega
  obtain ⟨l, hll⟩ : ∃ l, usedList T s = l := ⟨_, rfl⟩
  obtain ⟨ok, hok⟩ : ∃ ok, usedOk T s = ok := ⟨_, rfl⟩
  obtain ⟨em, hem⟩ : ∃ em, hasEmp T p = em := ⟨_, rfl⟩
  have HST : Hid (stB T p s = (!em && decide (1 ≤ (u : Int) ∧ (u : Int) ≤ 12) && ok && decide (l = p))) := by unfold Hid stB; rw [hll, hok, hem, hul]
  have hus := fun W C v hW1 hW2 => rulesUsed_any A C n c u v T s W hW1 hW2 (by omega)
  rw [hll, hok] at hus
  have hce := fun g W hW1 hW2 hp hpl => ContainsFunc_emp A B n c m d g T p W hW1 hW2 HL.out hp hpl
  rw [hem] at hce
  rw [hul] at hsn
  have hsl2 : s = [] → u = 0 := by intro e; rw [← hul, e]; rfl
  clear hll hok hem hul
  have hm0 : m = 0 → u = 0 := fun e => hsl2 (hs0 e)
  clear hs0 hsl2
  go_enter Tryd.func66, Tryd.ntmps66
  go_wp2_with fail
  refine (hsn _ (hx.below (one_box _ _)) (hy.below (one_box _ _))).mono ?_
  rintro e_ w1 ⟨v1, rfl, ho1, h1⟩
  obtain ⟨C, vc, rfl, hz⟩ := own_ints_ ho1
  clear hsn ho1
  have hc_w1 := bcell h1
  have hz1 : w.heap.size < w1.heap.size := by have := h1.size; simp at this; omega
  have B1 := next (one_box _ _) h1
  go_wp2_with fail
  refine (hus _ C vc (hx.below B1) hz).mono ?_
  rintro e_ w2 ⟨v2, rfl, ho2, h2⟩
  obtain ⟨D, vd, rfl, hz2⟩ := own_ints_ ho2
  clear hus ho2
  have hc_w2 := bcell h2
  have hz3 : w.heap.size < w2.heap.size := Nat.lt_of_lt_of_le hz1 h2.size
  have B2 := next B1 h2
  have hpc : w2.cell? ⟨w.heap.size, 0, none⟩ = some (.slice A n c) := by rw [hc_w2 _ _ hz1, hc_w1 _ _ (by simp)]; simp
  go_wp2_with fail
  refine (hce w.heap.size _ (hx.below B2) (hy.below B2) hpc hz3).mono ?_
  rintro e_ w3 ⟨rfl, h3⟩
  have B3 := next B2 h3
  clear hce hpc hc_w1 hc_w2
  have hvm := hz.2.cap
  have huv := hz.2.le
  have hlc := hz2.2.cap
  have hlv := hz2.2.le
  unfold maxLen at hvm hlc
  rcases Nat.eq_zero_or_pos m with h0 | h0
  · have hu0 := hm0 h0
    have HF := Lib.hid (show stB T p s = false by rw [HST.out, hu0]; simp)
    clear hm0 hs1
    subst h0
    go_wp2
    go_ret
    exact ⟨by rw [HF.out]; rfl, B3⟩
  · cases em
    case true =>
      have HF := Lib.hid (show stB T p s = false by rw [HST.out]; simp)
      go_wp2
      go_ret
      exact ⟨by rw [HF.out]; rfl, B3⟩
    have hu1 := hs1 h0
    clear hs1 hm0
    by_cases h12 : u ≤ 12
    · cases ok
      · have HF := Lib.hid (show stB T p s = false by rw [HST.out]; simp)
        go_wp2
        go_ret
        exact ⟨by rw [HF.out]; rfl, B3⟩
      · have HF := Lib.hid (show stB T p s = decide (l = p) by
          rw [HST.out]
          have : decide (1 ≤ (u : Int) ∧ (u : Int) ≤ 12) = true := decide_eq_true (by omega)
          rw [this]; simp)
        go_wp2_with fail
        refine (slEqual_any D B l.length vd m d l p _ (hz2.below h3) (hy.below B3)).mono ?_
        rintro e_ w4 ⟨rfl, h4⟩
        have hc_w4 := bcell h4; have hf_w4 := bfree h4
        go_wp2
        go_ret
        exact ⟨by rw [HF.out]; rfl, next B3 h4⟩
    · have HF := Lib.hid (show stB T p s = false by
        rw [HST.out]
        have : decide (1 ≤ (u : Int) ∧ (u : Int) ≤ 12) = false := decide_eq_false (by omega)
        rw [this]; simp)
      go_wp2
      go_ret
      exact ⟨by rw [HF.out]; rfl, B3⟩
theorem st_no {T : List Rl} {p : List Int} (h : spCode T p ≠ 0) : stOk T p = false := by unfold stOk; rw [decide_eq_false h]; rfl
theorem st_yes {T : List Rl} {p : List Int} (h : spCode T p = 0) : stOk T p = stB T p (sgnCat T p) := by unfold stOk; rw [h]; rfl
set_option maxHeartbeats 2000000 in
theorem IsStable_impl (A B : Option Addr) (n c m d : Nat) (T : List Rl) (p : List Int) (w : World) (hx : Rules w A n c T) (hy : Ints w B m d p) :
    Calls Tryd.prog 36 #[.slice A n c, .slice B m d] w fun e w' => e = .returned (.tuple #[.bool (stOk T p), .int .i64 (spCode T p)]) ∧ Below w.heap.size w w' := by
  have hpc := parsingCode_any A B n c m d T p w hx hy
  rcases sp_cases T p hx.1 hy.1 with ⟨ha, HF⟩ | ⟨ha, h48, HF⟩ | ⟨ha, h48, hp, HF⟩ | ⟨ha, h48, hp, HF⟩
  case inr.inr.inr =>
    have HIN := all_in hx.1 hp
    have HS := Lib.hid (st_yes HF.out.2)
    rw [HF.out.2] at hpc
    have hs := fun W h1 h2 => isStable_any A B n c m d T p W h1 h2 HIN (by omega) ha
    obtain ⟨b, hb⟩ : ∃ b, stB T p (sgnCat T p) = b := ⟨_, rfl⟩
    rw [hb] at hs
    have HB := Lib.hid hb
    clear hb ha hp HIN
    go_enter Tryd.func36, Tryd.ntmps36
    go_wp2_with fail
    refine hpc.mono ?_
    rintro e_ w1 ⟨rfl, h1⟩
    clear hpc
    go_wp2_with fail
    refine (hs _ (hx.below h1) (hy.below h1)).mono ?_
    rintro e_ w2 ⟨rfl, h2⟩
    clear hs
    go_wp2
    go_ret2
    exact ⟨by rw [HF.out.2, HS.out, HB.out]; rfl, next h1 h2⟩
  all_goals
    have HS := Lib.hid (st_no (T := T) (p := p) (by rw [HF.out.2]; decide))
    rw [HF.out.2] at hpc
    go_enter Tryd.func36, Tryd.ntmps36
    go_wp2_with fail
    refine hpc.mono ?_
    rintro e_ w1 ⟨rfl, h1⟩
    clear hpc
    go_wp2
    go_ret2
    exact ⟨by rw [HF.out.2, HS.out]; rfl, h1⟩
set_option maxHeartbeats 2000000 in
theorem IsStable_spec (A B : Option Addr) (n c m d : Nat) (T : List Rl) (p : List Int) (w : World) (hx : Rules w A n c T) (hy : Ints w B m d p) :
    Calls Tryd.prog 35 #[.slice A n c, .slice B m d] w fun e w' => e = .returned (.tuple #[.bool (stOk T p), .int .i64 (spCode T p)]) ∧ Below w.heap.size w w' := by
  have hpc := l05Signs_any A B n c m d T p w hx hy
  have hll := sp_len T p
  rcases sp_cases T p hx.1 hy.1 with ⟨ha, HF⟩ | ⟨ha, h48, HF⟩ | ⟨ha, h48, hp, HF⟩ | ⟨ha, h48, hp, HF⟩
  case inr.inr.inr =>
    have HIN := all_in hx.1 hp
    have HS := Lib.hid (st_yes HF.out.2)
    have hsl := sgnCat_len ha p
    have hyl := hy.1
    rw [HF.out.2, HF.out.1] at hpc
    obtain ⟨s, hs⟩ : ∃ s, sgnCat T p = s := ⟨_, rfl⟩
    rw [hs] at hpc hsl HS
    have hsl2 : s.length ≤ 1000000 := by omega
    clear hs ha hp hsl hyl hll
    go_enter Tryd.func35, Tryd.ntmps35
    go_wp2_with fail
    refine hpc.mono ?_
    rintro e_ w1 ⟨v, rfl, hown, h1⟩
    obtain ⟨C, vc, rfl, hz⟩ := own_ints_ hown
    clear hpc hown
    go_wp2_with fail
    refine (l05Stable_any A B C n c m d s.length vc T p s _ (hx.below h1) (hy.below h1) hz HIN hsl2).mono ?_
    rintro e_ w2 ⟨rfl, h2⟩
    have hc_w2 := bcell h2; have hf_w2 := bfree h2
    go_wp2
    go_ret2
    exact ⟨by rw [HF.out.2, HS.out]; rfl, next h1 h2⟩
  all_goals
    have HS := Lib.hid (st_no (T := T) (p := p) (by rw [HF.out.2]; decide))
    rw [HF.out.2] at hpc
    clear hll
    go_enter Tryd.func35, Tryd.ntmps35
    go_wp2_with fail
    refine hpc.mono ?_
    rintro e_ w1 ⟨v, rfl, hown, h1⟩
    clear hpc hown
    go_wp2
    go_ret2
    exact ⟨by rw [HF.out.2, HS.out]; rfl, h1⟩
end Go.Proofs.YtfdnmffbfgnahaaDoor
