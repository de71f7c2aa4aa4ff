/- The signs of rules, one behind the other; stable parsings. -/
import Derived.Test.YtfdnmffbfgnahaaDoorRuleE
namespace Go.Proofs.YtfdnmffbfgnahaaDoor
open Go.ChangeShapes Go.WideShapes Go.ChangeAt Go.RowKit

theorem ints_news {w : World} {b off n c : Nat} {xs : List Int} (h : Ints w (some ⟨b, off, none⟩) n c xs) (hn : 0 < n) : ∀ j u, (xs.map (Value.int .i64))[j]? = some u → w.cell? ((⟨b, off, none⟩ : Addr).add j) = some u := by
  obtain ⟨b', off', e, _, hc⟩ := h.2.at_ hn
  injection e with e; injection e with e1 e2
  subst e1; subst e2
  intro j u hu
  have h1 := hc j u hu
  unfold Addr.add
  split
  · rename_i h0; subst h0; exact h1
  · exact h1
theorem ints_one (xs : List Int) : ∀ u ∈ xs.map (Value.int .i64), u.oneCell' = true := by
  intro u hu
  obtain ⟨x, _, rfl⟩ := List.mem_map.1 hu
  rfl
/-- the signs of rules, one behind the other -/
def sgnCat (T : List Rl) (l : List Int) : List Int := l.flatMap fun i => (T.getD i.toNat ([], ⟨#[]⟩)).1
theorem sgnCat_succ {T : List Rl} {l : List Int} {k q : Nat} {xs : List Int} {r : ByteArray} (h : l[k]? = some (q : Int)) (hx : T[q]? = some (xs, r)) : sgnCat T (l.take (k + 1)) = sgnCat T (l.take k) ++ xs := by
  unfold sgnCat
  rw [List.take_add_one, h, List.flatMap_append]
  simp [List.getD_eq_getElem?_getD, hx]
def spBad (T : List Rl) (p : List Int) : Bool := decide (48 < p.length) || !p.all (inB 0 (T.length - 1))
def spCode (T : List Rl) (p : List Int) : Int := if isTab T = true then if spBad T p = true then 2 else 0 else 1
def spList (T : List Rl) (p : List Int) : List Int := if isTab T = true ∧ spBad T p = false then sgnCat T p else []
theorem sp_no {T : List Rl} (p : List Int) (h : isTab T = false) : Hid (spList T p = [] ∧ spCode T p = 1) := by
  unfold Hid spList spCode
  simp [h]
theorem sp_bad {T : List Rl} {p : List Int} (h : isTab T = true) (hb : spBad T p = true) : Hid (spList T p = [] ∧ spCode T p = 2) := by
  unfold Hid spList spCode
  simp [h, hb]
theorem sp_ok {T : List Rl} {p : List Int} (h : isTab T = true) (hb : spBad T p = false) : Hid (spList T p = sgnCat T p ∧ spCode T p = 0) := by
  unfold Hid spList spCode
  simp [h, hb]
theorem rl_len {T : List Rl} (h : isTab T = true) {q : Nat} {xs : List Int} {r : ByteArray} (hx : T[q]? = some (xs, r)) : 1 ≤ xs.length ∧ xs.length ≤ 3 := by
  have := isRl_len (isTab_at h hx).1
  omega
theorem lengthR_any (A : Option Addr) (n c : Nat) (w : World) (hn : n ≤ c) (hc : c ≤ 9223372036854775807) :
    Calls Tryd.prog 88 #[.slice A n c] w fun e w' => e = .returned (.int .i64 n) ∧ Below w.heap.size w w' := by
  go_enter Tryd.func88, Tryd.ntmps88
  go_wp2
  go_ret
  exact ⟨rfl, Below.refl _ _⟩

set_option maxRecDepth 100000 in
set_option maxHeartbeats 4000000 in
theorem l05Signs_any (A B : Option Addr) (n c m d : Nat) (T : List Rl) (p : List Int) (w : World) (hx : Rules w A n c T) (hy : Ints w B m d p) :
    Calls Tryd.prog 58 #[.slice A n c, .slice B m d] w fun e w' => ∃ v, e = .returned (.tuple #[v, .int .i64 (spCode T p)]) ∧ w'.ownsRow w.heap.size 2 1 v (spList T p).length ((spList T p).map (Value.int .i64)) ∧ Below w.heap.size w w' := by
  have hcm := hx.cap.2
  have hnc := hx.cap.1
  have hdm := hy.2.cap
  have hmd := hy.2.le
  have HX := Lib.hid hx.1
  have HY := Lib.hid hy.1
  unfold maxLen at hcm hdm
  cases ha : isTab T
  · have HF := sp_no p ha
    go_enter Tryd.func58, Tryd.ntmps58
    go_wp2_with fail
    refine (isb (IsTable_spec A n c T _ hx) ha).mono ?_
    rintro e_ w1 ⟨rfl, h1⟩
    have hc_w1 := bcell h1; have hf_w1 := bfree h1
    go_wp2
    go_ret2
    exact ⟨_, by rw [HF.out.2]; rfl, by rw [HF.out.1]; exact World.ownsRow_nil _ _ _ _, h1⟩
  · have HA := Lib.hid ha
    have hn30 : n ≤ 30 := by have := isTab_len ha; have := hx.1; omega
    by_cases h48 : 48 < m
    · have HF := sp_bad ha (show spBad T p = true by unfold spBad; rw [← HY.out]; simp [h48])
      go_enter Tryd.func58, Tryd.ntmps58
      go_wp2_with fail
      refine (isb (IsTable_spec A n c T _ hx) ha).mono ?_
      rintro e_ w1 ⟨rfl, h1⟩
      have hc_w1 := bcell h1; have hf_w1 := bfree h1
      go_wp2
      go_ret2
      exact ⟨_, by rw [HF.out.2]; rfl, by rw [HF.out.1]; exact World.ownsRow_nil _ _ _ _, h1⟩
    · obtain ⟨i0, hi, hz0, hz1, hz2⟩ := info_parts infoInt
      go_enter Tryd.func58, Tryd.ntmps58
      go_wp2_with fail
      refine (isb (IsTable_spec A n c T _ hx) ha).mono ?_
      rintro e_ w1 ⟨rfl, h1⟩
      have hc_w1 := bcell h1; have hf_w1 := bfree h1
      clear ha hc_w1 hf_w1
      have hz5 := h1.size
      go_wp2
      go_loopw [6, 7] (fun o i wr => ∃ (k : Nat) (P : List Int), k ≤ m ∧ i = .int .i64 k ∧ Hid ((p.take k).all (inB 0 ((n : Int) - 1)) = true) ∧ Hid (P = sgnCat T (p.take k)) ∧ P.length ≤ 3 * k ∧ Hid (wr.ownsRow w.heap.size 2 1 o P.length (P.map (Value.int .i64))) ∧ Below w.heap.size w wr) (fun _ i _ => m - (intOf i).toNat)
      case atStart => exact ⟨0, [], Nat.zero_le _, rfl, by simp [Hid], by simp [Hid, sgnCat], Nat.zero_le _, own_mono_ (World.ownsRow_lit w1 #[] 0 (Nat.le_refl _) (by unfold maxLen; omega) rfl) hz5, next h1 (one_box _ _)⟩
      case round =>
        clear h1 hz5
        obtain ⟨k, P, hk, rfl, hup, hP, hPl, hown, hb⟩ := hrel
        have hz3 := hb.size
        by_cases hlt : k < m
        · obtain ⟨b2, off2, rfl, hbl2⟩ := hy.at_ k hlt
          obtain ⟨i, hi2, c0⟩ := hy.el hb hbl2 k hlt
          cases hw : inB 0 ((n : Int) - 1) i
          · have HF := sp_bad HA.out (show spBad T p = true by unfold spBad; rw [← HX.out, all_not hi2 hw]; simp)
            go_wp2_with fail
            refine (isb (l01In_any i 0 ((n : Int) - 1) _) hw).mono ?_
            rintro e_ w2 ⟨rfl, h2⟩
            have hc_w2 := bcell h2; have hf_w2 := bfree h2
            go_wp2
            go_ret2
            exact ⟨_, by rw [HF.out.2]; rfl, by rw [HF.out.1]; exact World.ownsRow_nil _ _ _ _, next hb h2⟩
          have hi3 : 0 ≤ i ∧ i ≤ (n : Int) - 1 := by unfold inB at hw; exact of_decide_eq_true hw
          obtain ⟨q, rfl⟩ : ∃ q : Nat, i = q := ⟨i.toNat, by omega⟩
          have hqn : q < n := by omega
          have HU := Lib.hid (all_at hi2 hup.out hw)
          go_wp2_with fail
          refine (isb (l01In_any q 0 ((n : Int) - 1) _) hw).mono ?_
          rintro e_ w2 ⟨rfl, h2⟩
          have hc_w2 := bcell h2; have hf_w2 := bfree h2
          have hb2 := next hb h2
          have hown2 := own_below hown.out h2
          have hz4 := hb2.size
          obtain ⟨b, off, rfl, hbl⟩ := hx.at_ q hqn
          obtain ⟨B', m', d', xs, r, hT, c1, c2, hz, _⟩ := hx.el hb2 q hqn
          have hlx := rl_len HA.out hT.out
          have HLX := Lib.hid hz.1.symm
          have hm3 : 1 ≤ m' ∧ m' ≤ 3 := by have := hz.1; omega
          obtain ⟨b3, off3, rfl, _⟩ := hz.at_ 0 (by omega)
          have hnews := Lib.hid (ints_news hz (by omega))
          have HPX := Lib.hid (show P ++ xs = sgnCat T (p.take (k + 1)) by rw [sgnCat_succ hi2.out hT.out, ← hP.out])
          have c0' := cell_keep h2 c0
          clear hup hP hi3 hz hlx hc_w2 hf_w2
          go_wp2_with (at_builtin; refine wpList_append_own _ rfl _ _ 22 rfl w.heap.size 2 i0 (.int .i64 0) 1 8 Tryd.underlying22 hi hz0 hz1 hz2 rfl (by decide) _ _ _ rfl hown2 ⟨b3, off3, none⟩ m' d' (xs.map (Value.int .i64)) rfl ?c1 ?c2 ?c3 ?c4 ?c5 ?c6 ?_)
          case c1 => rw [List.length_map, HLX.out]; omega
          case c2 => exact hnews.out
          case c3 => exact ints_one xs
          case c4 => unfold maxLen; omega
          case c5 => omega
          case c6 => (try simp); (try omega)
          intro v4 w4 hown4 hgrow hrest
          have HO : Hid (w4.ownsRow w.heap.size 2 1 v4 (P ++ xs).length ((P ++ xs).map (Value.int .i64))) := by rw [List.length_append, List.map_append, HLX.out]; exact hown4
          have HB : Hid (Below w.heap.size w w4) := hb2.grown hgrow (by (try simp); omega) (fun z hz => (hown2.lt z hz).1)
          clear hown4 hgrow hrest
          go_wp2
          go_roundw
          case rel => exact ⟨k + 1, P ++ xs, by omega, by go_num, HU, HPX, by rw [List.length_append, HLX.out]; omega, HO, HB.out⟩
          case measure => simp [intOf]; omega
        · have HF := sp_ok HA.out (show spBad T p = false by
            unfold spBad
            rw [← HX.out, all_done HY.out (by omega) hup.out, ← HY.out]
            simp; omega)
          have HE := Lib.hid (show spList T p = P by rw [HF.out.1, hP.out, List.take_of_length_le (by have := HY.out; omega)])
          clear hup hP
          go_wp2
          go_ret2
          exact ⟨_, by rw [HF.out.2]; rfl, by rw [HE.out]; exact hown.out, hb⟩
set_option maxRecDepth 100000 in
set_option maxHeartbeats 4000000 in
theorem signsOf_any (A B : Option Addr) (n c m d : Nat) (T : List Rl) (p : List Int) (w : World) (hx : Rules w A n c T) (hy : Ints w B m d p) (hm : m ≤ 1000000) (hl : ∀ i ∈ p, ∃ q : Nat, i = q ∧ q < T.length) (ht : isTab T = true) :
    Calls Tryd.prog 60 #[.slice A n c, .slice B m d] w fun e w' => ∃ v, e = .returned v ∧ w'.ownsRow w.heap.size 2 1 v (sgnCat T p).length ((sgnCat T p).map (Value.int .i64)) ∧ Below w.heap.size w w' := by
  have hcm := hx.cap.2
  have hnc := hx.cap.1
  have hdm := hy.2.cap
  have hmd := hy.2.le
  have HX := Lib.hid hx.1
  have HY := Lib.hid hy.1
  have HL := Lib.hid hl
  have HA := Lib.hid ht
  unfold maxLen at hcm hdm
  clear hl ht
  obtain ⟨i0, hi, hz0, hz1, hz2⟩ := info_parts infoInt
  go_enter Tryd.func60, Tryd.ntmps60
  go_wp2
  go_loopw [5, 10] (fun o i wr => ∃ (k : Nat) (P : List Int), k ≤ m ∧ i = .int .i64 k ∧ Hid (P = sgnCat T (p.take k)) ∧ P.length ≤ 3 * k ∧ Hid (wr.ownsRow w.heap.size 2 1 o P.length (P.map (Value.int .i64))) ∧ Below w.heap.size w wr) (fun _ i _ => m - (intOf i).toNat)
  case atStart => exact ⟨0, [], Nat.zero_le _, rfl, by simp [Hid, sgnCat], Nat.zero_le _, World.ownsRow_nil _ _ _ _, Below.refl _ _⟩
  case round =>
    obtain ⟨k, P, hk, rfl, hP, hPl, hown, hb⟩ := hrel
    have hz3 := hb.size
    by_cases hlt : k < m
    · obtain ⟨b2, off2, rfl, hbl2⟩ := hy.at_ k hlt
      obtain ⟨i, hi2, c0⟩ := hy.el hb hbl2 k hlt
      obtain ⟨q, rfl, hqn⟩ := HL.out i (List.mem_of_getElem? hi2.out)
      rw [← HX.out] at hqn
      obtain ⟨b, off, rfl, hbl⟩ := hx.at_ q hqn
      obtain ⟨B', m', d', xs, r, hT, c1, c2, hz, _⟩ := hx.el hb q hqn
      have hlx := rl_len HA.out hT.out
      have HLX := Lib.hid hz.1.symm
      have hm3 : 1 ≤ m' ∧ m' ≤ 3 := by have := hz.1; omega
      obtain ⟨b3, off3, rfl, _⟩ := hz.at_ 0 (by omega)
      have hnews := Lib.hid (ints_news hz (by omega))
      have HPX := Lib.hid (show P ++ xs = sgnCat T (p.take (k + 1)) by rw [sgnCat_succ hi2.out hT.out, ← hP.out])
      have hown2 := hown.out
      clear hP hz hlx
      go_wp2_with (at_builtin; refine wpList_append_own _ rfl _ _ 22 rfl w.heap.size 2 i0 (.int .i64 0) 1 8 Tryd.underlying22 hi hz0 hz1 hz2 rfl (by decide) _ _ _ rfl hown2 ⟨b3, off3, none⟩ m' d' (xs.map (Value.int .i64)) rfl ?c1 ?c2 ?c3 ?c4 ?c5 ?c6 ?_)
      case c1 => rw [List.length_map, HLX.out]; omega
      case c2 => exact hnews.out
      case c3 => exact ints_one xs
      case c4 => unfold maxLen; omega
      case c5 => omega
      case c6 => (try simp); (try omega)
      intro v4 w4 hown4 hgrow hrest
      have HO : Hid (w4.ownsRow w.heap.size 2 1 v4 (P ++ xs).length ((P ++ xs).map (Value.int .i64))) := by rw [List.length_append, List.map_append, HLX.out]; exact hown4
      have HB : Hid (Below w.heap.size w w4) := hb.grown hgrow (by (try simp); omega) (fun z hz => (hown2.lt z hz).1)
      clear hown4 hgrow hrest
      go_wp2
      go_roundw
      case rel => exact ⟨k + 1, P ++ xs, by omega, by go_num, HPX, by rw [List.length_append, HLX.out]; omega, HO, HB.out⟩
      case measure => simp [intOf]; omega
    · have HE := Lib.hid (show sgnCat T p = P by rw [hP.out, List.take_of_length_le (by have := HY.out; omega)])
      clear hP
      go_wp2
      go_ret
      exact ⟨_, rfl, by rw [HE.out]; exact hown.out, hb⟩
theorem all_in {p : List Int} {n : Nat} {T : List Rl} (hn : n = T.length) (h : p.all (inB 0 ((n : Int) - 1)) = true) : ∀ i ∈ p, ∃ q : Nat, i = q ∧ q < T.length := by
  intro i hi
  have h1 := List.all_eq_true.1 h i hi
  unfold inB at h1
  have h2 := of_decide_eq_true h1
  exact ⟨i.toNat, by omega, by omega⟩
theorem sp_cases (T : List Rl) (p : List Int) {n m : Nat} (hn : n = T.length) (hm : m = p.length) :
    (isTab T = false ∧ Hid (spList T p = [] ∧ spCode T p = 1)) ∨ (isTab T = true ∧ 48 < m ∧ Hid (spList T p = [] ∧ spCode T p = 2)) ∨
    (isTab T = true ∧ ¬ 48 < m ∧ p.all (inB 0 ((n : Int) - 1)) = false ∧ Hid (spList T p = [] ∧ spCode T p = 2)) ∨
    (isTab T = true ∧ ¬ 48 < m ∧ p.all (inB 0 ((n : Int) - 1)) = true ∧ Hid (spList T p = sgnCat T p ∧ spCode T p = 0)) := by
  cases ha : isTab T
  · exact .inl ⟨rfl, sp_no p ha⟩
  · by_cases h48 : 48 < m
    · exact .inr (.inl ⟨rfl, h48, sp_bad ha (by unfold spBad; rw [← hm]; simp [h48])⟩)
    · cases hp : p.all (inB 0 ((n : Int) - 1))
      · exact .inr (.inr (.inl ⟨rfl, h48, rfl, sp_bad ha (by unfold spBad; rw [← hn, hp]; simp)⟩))
      · exact .inr (.inr (.inr ⟨rfl, h48, rfl, sp_ok ha (by unfold spBad; rw [← hn, hp, ← hm]; simp; omega)⟩))
set_option maxHeartbeats 1000000 in
theorem parsingCode_any (A B : Option Addr) (n c m d : Nat) (T : List Rl) (p : List Int) (w : World) (hx : Rules w A n c T) (hy : Ints w B m d p) :
    Calls Tryd.prog 59 #[.slice A n c, .slice B m d] w fun e w' => e = .returned (.int .i64 (spCode T p)) ∧ Below w.heap.size w w' := by
  have hcm := hx.cap.2
  have hnc := hx.cap.1
  have hdm := hy.2.cap
  have hmd := hy.2.le
  unfold maxLen at hcm hdm
  rcases sp_cases T p hx.1 hy.1 with ⟨ha, HF⟩ | ⟨ha, h48, HF⟩ | ⟨ha, h48, hp, HF⟩ | ⟨ha, h48, hp, HF⟩
  · go_enter Tryd.func59, Tryd.ntmps59
    go_wp2_with fail
    refine (isb (IsTable_impl A n c T _ hx) ha).mono ?_
    rintro e_ w1 ⟨rfl, h1⟩
    have hc_w1 := bcell h1; have hf_w1 := bfree h1
    go_wp2
    go_ret
    exact ⟨by rw [HF.out.2]; rfl, h1⟩
  · go_enter Tryd.func59, Tryd.ntmps59
    go_wp2_with fail
    refine (isb (IsTable_impl A n c T _ hx) ha).mono ?_
    rintro e_ w1 ⟨rfl, h1⟩
    have hc_w1 := bcell h1; have hf_w1 := bfree h1
    go_wp2
    go_ret
    exact ⟨by rw [HF.out.2]; rfl, h1⟩
  all_goals
    have hn30 : n ≤ 30 := by have := isTab_len ha; have := hx.1; omega
    go_enter Tryd.func59, Tryd.ntmps59
    go_wp2_with fail
    refine (isb (IsTable_impl A n c T _ hx) ha).mono ?_
    rintro e_ w1 ⟨rfl, h1⟩
    have hc_w1 := bcell h1; have hf_w1 := bfree h1
    go_wp2_with fail
    refine (lengthR_any A n c _ hnc hcm).mono ?_
    rintro e_ w2 ⟨rfl, h2⟩
    have hc_w2 := bcell h2; have hf_w2 := bfree h2
    go_wp2_with fail
    refine (isb (areWithin_any B m d p 0 ((n : Int) - 1) _ ((hy.below h1).below h2)) hp).mono ?_
    rintro e_ w3 ⟨rfl, h3⟩
    have hc_w3 := bcell h3; have hf_w3 := bfree h3
    go_wp2
    go_ret
    exact ⟨by rw [HF.out.2]; rfl, next (next h1 h2) h3⟩
set_option maxHeartbeats 1000000 in
theorem SignsOfParsing_spec (A B : Option Addr) (n c m d : Nat) (T : List Rl) (p : List Int) (w : World) (hx : Rules w A n c T) (hy : Ints w B m d p) :
    Calls Tryd.prog 30 #[.slice A n c, .slice B m d] w fun e w' => ∃ v, e = .returned (.tuple #[v, .int .i64 (spCode T p)]) ∧ w'.ownsRow w.heap.size 2 1 v (spList T p).length ((spList T p).map (Value.int .i64)) ∧ Below w.heap.size w w' := by
  have hl := l05Signs_any A B n c m d T p w hx hy
  go_enter Tryd.func30, Tryd.ntmps30
  go_wp2_with fail
  refine hl.mono ?_
  rintro e_ w1 ⟨v, rfl, hown, h1⟩
  clear hl
  go_wp2
  go_ret2
  exact ⟨_, rfl, hown, h1⟩
set_option maxHeartbeats 1000000 in
theorem SignsOfParsing_impl (A B : Option Addr) (n c m d : Nat) (T : List Rl) (p : List Int) (w : World) (hx : Rules w A n c T) (hy : Ints w B m d p) :
    Calls Tryd.prog 32 #[.slice A n c, .slice B m d] w fun e w' => ∃ v, e = .returned (.tuple #[v, .int .i64 (spCode T p)]) ∧ w'.ownsRow w.heap.size 2 1 v (spList T p).length ((spList T p).map (Value.int .i64)) ∧ Below w.heap.size w w' := by
  have hpc := parsingCode_any A B n c m d T p w hx hy
  rcases sp_cases T p hx.1 hy.1 with ⟨ha, HF⟩ | ⟨ha, h48, HF⟩ | ⟨ha, h48, hp, HF⟩ | ⟨ha, h48, hp, HF⟩
  all_goals rw [HF.out.2] at hpc
  case inr.inr.inr =>
    have HIN := all_in hx.1 hp
    go_enter Tryd.func32, Tryd.ntmps32
    go_wp2_with fail
    refine hpc.mono ?_
    rintro e_ w1 ⟨rfl, h1⟩
    have hl := signsOf_any A B n c m d T p w1 (hx.below h1) (hy.below h1) (by omega) HIN ha
    clear hpc ha hp HIN
    go_wp2_with fail
    refine hl.mono ?_
    rintro e_ w2 ⟨v, rfl, hown, h2⟩
    have HO := Lib.hid (own_mono_ hown h1.size)
    clear hl hown
    go_wp2
    go_ret2
    exact ⟨_, by rw [HF.out.2]; rfl, by rw [HF.out.1]; exact HO.out, next h1 h2⟩
  all_goals
    go_enter Tryd.func32, Tryd.ntmps32
    go_wp2_with fail
    refine hpc.mono ?_
    rintro e_ w1 ⟨rfl, h1⟩
    clear hpc
    go_wp2
    go_ret2
    exact ⟨_, by rw [HF.out.2]; rfl, by rw [HF.out.1]; exact World.ownsRow_nil _ _ _ _, h1⟩
theorem sgnCat_len {T : List Rl} (h : isTab T = true) (p : List Int) : (sgnCat T p).length ≤ 3 * p.length := by
  unfold sgnCat
  induction p with
  | nil => simp
  | cons i r ih =>
    rw [List.flatMap_cons, List.length_append, List.length_cons]
    have : (T.getD i.toNat ([], ⟨#[]⟩)).1.length ≤ 3 := by
      rw [List.getD_eq_getElem?_getD]
      cases hq : T[i.toNat]? with
      | none => simp
      | some x => exact (rl_len (xs := x.1) (r := x.2) h hq).2
    omega
theorem sp_len (T : List Rl) (p : List Int) : (spList T p).length ≤ 1048576 := by
  unfold spList
  split
  · rename_i h
    have := sgnCat_len h.1 p
    have h2 := h.2
    unfold spBad at h2
    simp at h2
    omega
  · simp
end Go.Proofs.YtfdnmffbfgnahaaDoor
