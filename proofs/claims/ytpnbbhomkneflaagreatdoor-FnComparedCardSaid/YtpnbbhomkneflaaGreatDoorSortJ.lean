/- A phrase found in a sorted list: the program's and the reference's FindPhrase. -/
import Derived.Test.YtpnbbhomkneflaaGreatDoorSortI
namespace Go.Proofs.YtpnbbhomkneflaaGreatDoor
open Go.ChangeShapes Go.WideShapes Go.ChangeAt Go.RowKit
theorem cmpP_zero {xs : List ByteArray} {ig : List Int} {a b : ByteArray} (h : cmpP xs ig a b = 0) : sps xs a = sps xs b := by
  unfold cmpP at h
  split at h
  · rw [onceP_nil] at h
    exact isCmpL.eq0 _ _ h
  · rename_i h0; exact absurd h h0
theorem cmpP_congr {xs : List ByteArray} {ig : List Int} {a b c : ByteArray} (h : sps xs a = sps xs b) : cmpP xs ig a c = cmpP xs ig b c := by
  unfold cmpP onceP
  rw [h]
theorem cmpP_le_lt {xs : List ByteArray} {ig : List Int} {a b c : ByteArray} (h1 : ¬ 0 < cmpP xs ig a b) (h2 : cmpP xs ig b c < 0) : cmpP xs ig a c < 0 := by
  by_cases h0 : cmpP xs ig a b = 0
  · rw [cmpP_congr (cmpP_zero h0)]; exact h2
  · exact cmpP_tr xs ig a b c (by omega) h2
theorem sorted_at {xs : List ByteArray} {ig : List Int} {ps : List ByteArray} (h : sortedP xs ig ps = true) {i : Nat} (h1 : 1 ≤ i) (h2 : i < ps.length) : ¬ 0 < cAt xs ig ps i := by
  unfold sortedP at h
  have := List.all_eq_true.1 h i (List.mem_range.2 h2)
  simp at this
  omega
/-- what lies before a phrase in a sorted list -/
def befB (xs : List ByteArray) (s t : ByteArray) : Bool := decide (cmpP xs [] t s < 0)
def bef (xs : List ByteArray) (ps : List ByteArray) (s : ByteArray) (i : Nat) : Prop := befB xs s (ps.getD i ⟨#[]⟩) = true
theorem bef_iff {xs : List ByteArray} {ps : List ByteArray} {s : ByteArray} {i : Nat} : bef xs ps s i ↔ cmpP xs [] (ps.getD i ⟨#[]⟩) s < 0 := by
  unfold bef befB
  exact decide_eq_true_iff
theorem bef_down {xs : List ByteArray} {ps : List ByteArray} {s : ByteArray} (h : sortedP xs [] ps = true) : ∀ {b : Nat}, b < ps.length → bef xs ps s b → ∀ a, a ≤ b → bef xs ps s a
  | 0, _, hb, a, ha => by obtain rfl : a = 0 := by omega
                          exact hb
  | b + 1, hl, hb, a, ha => by
    by_cases e : a = b + 1
    · rw [e]; exact hb
    · refine bef_down h (b := b) (by omega) ?_ a (by omega)
      have := sorted_at h (i := b + 1) (by omega) hl
      unfold cAt at this
      rw [Nat.add_sub_cancel] at this
      exact bef_iff.2 (cmpP_le_lt this (bef_iff.1 hb))
def fpIdx (xs : List ByteArray) (ps : List ByteArray) (s : ByteArray) : Nat := (ps.takeWhile (befB xs s)).length
theorem tw_len {α : Type} {p : α → Bool} {d : α} : ∀ (l : List α) (i : Nat), i ≤ l.length → (∀ t, t < i → p (l.getD t d) = true) → (i < l.length → p (l.getD i d) = false) → (l.takeWhile p).length = i
  | [], i, hi, _, _ => by simp at hi; simp [hi]
  | a :: r, 0, _, _, h2 => by
    have : p a = false := by simpa using h2 (by simp)
    simp [this]
  | a :: r, i + 1, hi, h1, h2 => by
    have ha : p a = true := by simpa using h1 0 (by omega)
    rw [List.takeWhile_cons_of_pos ha, List.length_cons, tw_len (d := d) r i (by simpa using hi) (fun t ht => by simpa using h1 (t + 1) (by omega)) (fun h => by simpa using h2 (by simpa using h))]
theorem fp_is {xs : List ByteArray} {ps : List ByteArray} {s : ByteArray} {i : Nat} (hi : i ≤ ps.length) (h1 : ∀ t, t < i → bef xs ps s t) (h2 : i < ps.length → ¬ bef xs ps s i) : fpIdx xs ps s = i := by
  unfold fpIdx
  refine tw_len (p := befB xs s) (d := (⟨#[]⟩ : ByteArray)) ps i hi (fun t ht => ?_) (fun h => ?_)
  · have := h1 t ht
    unfold bef at this
    exact this
  · have := h2 h
    unfold bef at this
    exact Bool.not_eq_true _ |>.mp this
theorem fp_le (xs : List ByteArray) (ps : List ByteArray) (s : ByteArray) : fpIdx xs ps s ≤ ps.length := by
  unfold fpIdx
  exact (List.takeWhile_sublist _).length_le
def fpCode (xs : List ByteArray) (ps : List ByteArray) (s : ByteArray) : Int := if nsCode xs [] (ps ++ [s]) = 0 then if 20 < ps.length then 3 else if sortedP xs [] ps = true then 0 else 5 else nsCode xs [] (ps ++ [s])
def fpVal (xs : List ByteArray) (ps : List ByteArray) (s : ByteArray) : Int := if fpCode xs ps s = 0 then fpIdx xs ps s else 0
theorem ns_swap (xs : List ByteArray) (ps : List ByteArray) (s : ByteArray) : nsCode xs [] (s :: ps) = nsCode xs [] (ps ++ [s]) := by
  have e1 : (s :: ps).all isPhrase = (ps ++ [s]).all isPhrase := by
    rw [List.all_append, List.all_cons, Bool.and_comm]; simp
  have e2 : (s :: ps).all (spAll xs) = (ps ++ [s]).all (spAll xs) := by
    rw [List.all_append, List.all_cons, Bool.and_comm]; simp
  unfold nsCode
  rw [e1, e2]
theorem fp_cases (xs : List ByteArray) (ps : List ByteArray) (s : ByteArray) :
    (nsCode xs [] (ps ++ [s]) ≠ 0 ∧ Hid (fpCode xs ps s = nsCode xs [] (ps ++ [s]) ∧ fpVal xs ps s = 0)) ∨
    (nsCode xs [] (ps ++ [s]) = 0 ∧ 20 < ps.length ∧ Hid (fpCode xs ps s = 3 ∧ fpVal xs ps s = 0)) ∨
    (nsCode xs [] (ps ++ [s]) = 0 ∧ ¬ 20 < ps.length ∧ sortedP xs [] ps = false ∧ Hid (fpCode xs ps s = 5 ∧ fpVal xs ps s = 0)) ∨
    (nsCode xs [] (ps ++ [s]) = 0 ∧ ¬ 20 < ps.length ∧ sortedP xs [] ps = true ∧ Hid (fpCode xs ps s = 0 ∧ fpVal xs ps s = fpIdx xs ps s)) := by
  unfold Hid fpVal fpCode
  by_cases h : nsCode xs [] (ps ++ [s]) = 0
  · by_cases h2 : 20 < ps.length
    · simp [h, h2]
    · cases h3 : sortedP xs [] ps <;> simp [h, h2]
  · simp [h]
theorem ns_last {xs : List ByteArray} {ps : List ByteArray} {s : ByteArray} (h : nsCode xs [] (ps ++ [s]) = 0) : isAlpha xs = true ∧ ps.all isPhrase = true ∧ ps.all (spAll xs) = true ∧ isPhrase s = true ∧ spAll xs s = true := by
  obtain ⟨a, b, c⟩ := ns_zero h
  simp only [List.all_append, List.all_cons, List.all_nil, Bool.and_true, Bool.and_eq_true] at b c
  exact ⟨a, b.1, c.1, b.2, c.2⟩
set_option maxRecDepth 100000 in
set_option maxHeartbeats 2000000 in
theorem cloneS_any (A : Option Addr) (n c : Nat) (xs : List ByteArray) (w : World) (hx : Strs w A n c xs) (hn : n ≤ 1048576) :
    Calls Tryz.prog 32 #[.slice A n c] w fun e w' => ∃ v, e = .returned v ∧ w'.ownsRow w.heap.size 9 1 v n (xs.map Value.string) ∧ Below w.heap.size w w' := by
  obtain ⟨i0, hi, hz0, hz1, hz2⟩ := info_parts infoStr
  have hcm := hx.2.1.cap
  have hnc := hx.2.1.le
  unfold maxLen at hcm
  have HL := Lib.hid hx.1
  have q22 : ∀ (w : World) (a : Option Addr) (n c n' c' : Nat), (binOp .eql 24 (.slice a n c) (.slice none n' c')).run Tryz.prog w = .ok (.bool a.isNone) w := fun w a n c n' c' => Lib.run_eql_slice_nil w _ _ a n c n' c' Tryz.underlying24
  cases A with
  | none =>
    have h0 : n = 0 := by
      rcases Nat.eq_zero_or_pos n with h | h
      · exact h
      · obtain ⟨_, _, e, _⟩ := hx.at_ 0 h; exact absurd e (by simp)
    have hxs : xs = [] := List.eq_nil_of_length_eq_zero (by rw [← HL.out]; exact h0)
    subst hxs
    subst h0
    go_enter Tryz.func32, Tryz.ntmps32
    go_wp2
    go_ret
    exact ⟨_, rfl, by first | exact World.ownsRow_nil _ _ _ _ | exact ⟨rfl, .inl ⟨rfl, rfl⟩⟩, Below.refl _ _⟩
  | some a =>
  have hnews : ∀ j u, (xs.map Value.string)[j]? = some u → w.cell? (a.add j) = some u := fun j u hu => by
    have h0 : 0 < n := by
      have := (List.getElem?_eq_some_iff.1 hu).1
      rw [HL.out]; simp at this; omega
    obtain ⟨b', off', e, _, hc⟩ := hx.2.1.at_ h0
    injection e with e
    subst e
    have e : (⟨b', off', none⟩ : Addr).add j = ⟨b', off' + j, none⟩ := by simp [Addr.add]
    rw [e]
    exact hc j u hu
  go_enter Tryz.func32, Tryz.ntmps32
  go_wp2_with (at_builtin; refine wpList_append_own _ rfl _ _ 24 rfl w.heap.size 9 i0 (.string ⟨#[]⟩) 1 16 Tryz.underlying24 hi hz0 hz1 hz2 rfl (by decide) _ _ _ rfl (World.ownsRow_made w #[] 0 (Nat.le_refl _) (Nat.zero_le _) rfl) a n c (xs.map Value.string) rfl ?c0 ?c1 ?c2 ?c3 ?c4 ?c5 ?_)
  case c0 => have := HL.out; simp; omega
  case c1 => exact fun j u hu => cell_keep (boxO w (.cells #[] 9)) (hnews j u hu)
  case c2 => intro u hu; obtain ⟨x, _, rfl⟩ := List.mem_map.1 hu; rfl
  case c3 => unfold maxLen; omega
  case c4 => omega
  case c5 => simp
  intro v4 w4 own4 grow4 _
  have HO := Lib.hid own4
  have HB := Lib.hid ((boxO w (.cells #[] 9)).grown grow4 (by simp) (fun k hk => by have e : w.heap.size = k := Option.some.inj hk; omega))
  clear own4 grow4
  go_wp2
  go_ret
  exact ⟨v4, rfl, HO.out, HB.out⟩
set_option maxRecDepth 100000 in
set_option maxHeartbeats 2000000 in
theorem BinarySearchFunc_any (A B C : Option Addr) (n c m d q f : Nat) (xs : List ByteArray) (ps : List ByteArray) (s : ByteArray) (w : World) (hx : Strs w A n c xs) (hy : Ints w B m d []) (hp : Strs w C q f ps) (ha : isAlpha xs = true) (hq : q ≤ 20) (hs : ∀ s ∈ ps, s.size ≤ 1048576) (hss : s.size ≤ 1048576) (hph : ps.all isPhrase = true) (hsp : ps.all (spAll xs) = true) (h1 : isPhrase s = true) (h2 : spAll xs s = true) (hsrt : sortedP xs [] ps = true) (hm : MaxCell w) :
    Calls Tryz.prog 34 #[.slice C q f, .string s, .func (.func 20) #[.agg #[.slice A n c, .slice B m d]] #[]] w fun e w' => ∃ b, e = .returned (.tuple #[.int .i64 (fpIdx xs ps s), .bool b]) ∧ Below w.heap.size w w' := by
  have hqm := hp.2.1.cap
  have hqf := hp.2.1.le
  unfold maxLen at hqm
  have HP := Lib.hid hp.1
  have HS := Lib.hid hs
  have HPH := Lib.hid (List.all_eq_true.1 hph)
  have HSP := Lib.hid (List.all_eq_true.1 hsp)
  have HD := Lib.hid (fun b hb hbf => bef_down (s := s) hsrt (b := b) hb hbf)
  have HC := Lib.hid (fun t W h1' h2' h3 e1 e2 e3 => compare_any A B n c m d xs [] t s W h1' h2' ha h3 e1 hss e2 h1 e3 h2)
  clear hs hph hsp hsrt h1 h2 ha
  go_enter Tryz.func34, Tryz.ntmps34
  go_wp2
  go_loopw [9, 10] (fun s9 s10 wr => ∃ lo hi : Nat, s9 = .int .i64 lo ∧ s10 = .int .i64 hi ∧ lo ≤ hi ∧ hi ≤ q ∧ Hid (∀ t, t < lo → bef xs ps s t) ∧ Hid (∀ t, hi ≤ t → t < q → ¬ bef xs ps s t) ∧ Below w.heap.size w wr) (fun s9 s10 _ => (intOf s10 - intOf s9).toNat)
  case atStart => exact ⟨0, q, rfl, rfl, Nat.zero_le _, Nat.le_refl _, fun t ht => absurd ht (Nat.not_lt_zero _), fun t a b => absurd b (by omega), Below.refl _ _⟩
  case round =>
    obtain ⟨lo, hi, rfl, rfl, hlh, hiq, hlo, hhi, hb⟩ := hrel
    by_cases hlt : lo < hi
    · obtain ⟨b, off, rfl, hbl⟩ := hp.at_ lo (by omega)
      obtain ⟨t, ht, c0, _⟩ := hp.el hb hbl ((lo + hi) / 2) (by omega)
      have HB := Lib.hid (show bef xs ps s ((lo + hi) / 2) ↔ cmpP xs [] t s < 0 by rw [bef_iff, List.getD_eq_getElem?_getD, ht.out]; rfl)
      obtain ⟨r, hr⟩ : ∃ r, cmpP xs [] t s = r := ⟨_, rfl⟩
      have hcc := isn_ (HC.out t wr (hx.below hb) (hy.below hb) (hm.below hb) (HS.out t (List.mem_of_getElem? ht.out)) (HPH.out t (List.mem_of_getElem? ht.out)) (HSP.out t (List.mem_of_getElem? ht.out))) hr
      rw [hr] at HB
      clear hr
      by_cases h0 : r < 0
      · have HL := Lib.hid (show ∀ u, u < (lo + hi) / 2 + 1 → bef xs ps s u from fun u hu => HD.out ((lo + hi) / 2) (by rw [← HP.out]; omega) (HB.out.2 h0) u (by omega))
        clear hlo
        go_wp2_with fail
        refine hcc.mono ?_
        rintro e_ w1 ⟨rfl, h1⟩
        clear hcc
        go_wp2
        go_roundw
        case rel => exact ⟨(lo + hi) / 2 + 1, hi, by rw [show ((lo : Int) + (hi : Int)) / 2 + 1 = (((lo + hi) / 2 + 1 : Nat) : Int) by omega], rfl, by omega, hiq, fun u hu => HL.out u hu, hhi, next hb h1⟩
        case measure => simp [intOf]; omega
      · have HH := Lib.hid (show ∀ u, (lo + hi) / 2 ≤ u → u < q → ¬ bef xs ps s u from fun u hu1 hu2 hbf => h0 (HB.out.1 (HD.out u (by rw [← HP.out]; exact hu2) hbf ((lo + hi) / 2) hu1)))
        clear hhi
        go_wp2_with fail
        refine hcc.mono ?_
        rintro e_ w1 ⟨rfl, h1⟩
        clear hcc
        go_wp2
        go_roundw
        case rel => exact ⟨lo, (lo + hi) / 2, rfl, by rw [show ((lo : Int) + (hi : Int)) / 2 = (((lo + hi) / 2 : Nat) : Int) by omega], by omega, by omega, hlo, fun u a b => HH.out u a b, next hb h1⟩
        case measure => simp [intOf]; omega
    · obtain rfl : hi = lo := by omega
      have HI := Lib.hid (show fpIdx xs ps s = hi from fp_is (by rw [← HP.out]; exact hiq) hlo.out (fun h => hhi.out hi (Nat.le_refl _) (by rw [HP.out]; exact h)))
      clear hlo hhi
      by_cases hn : hi < q
      · obtain ⟨b, off, rfl, hbl⟩ := hp.at_ hi hn
        obtain ⟨t, ht, c0, _⟩ := hp.el hb hbl hi hn
        obtain ⟨r, hr⟩ : ∃ r, cmpP xs [] t s = r := ⟨_, rfl⟩
        have hcc := isn_ (HC.out t wr (hx.below hb) (hy.below hb) (hm.below hb) (HS.out t (List.mem_of_getElem? ht.out)) (HPH.out t (List.mem_of_getElem? ht.out)) (HSP.out t (List.mem_of_getElem? ht.out))) hr
        clear hr
        go_wp2_with fail
        refine hcc.mono ?_
        rintro e_ w1 ⟨rfl, h1⟩
        clear hcc
        go_wp2
        all_goals
          go_ret2
          exact ⟨_, by rw [HI.out]; rfl, next hb h1⟩
      · go_wp2
        go_ret2
        exact ⟨_, by rw [HI.out]; rfl, hb⟩
end Go.Proofs.YtpnbbhomkneflaaGreatDoor
