/- Draws for comparing: words, phrases, a list with a phrase. -/
import Derived.Test.YtpnbbhomkneflaaGreatDoorDrawF
import Derived.Test.YtpnbbhomkneflaaGreatDoorDrawT
import Derived.Test.YtpnbbhomkneflaaGreatDoorSortO2
namespace Go.Proofs.YtpnbbhomkneflaaGreatDoor
open Go.ChangeShapes Go.WideShapes Go.ChangeAt Go.RowKit

theorem own_strs4 {w : World} {base : Nat} {e : TypeId} {v : Value} {xs : List ByteArray} {B : Nat} (h : w.ownsRow base e 1 v xs.length (xs.map Value.string)) (hs : ∀ x ∈ xs, x.size ≤ B) (hB : B ≤ 1000) :
    ∃ A c, v = .slice A xs.length c ∧ Strs w A xs.length c xs := own_strs h (fun x hx => by have := hs x hx; unfold maxLen; omega)
theorem strs_own4 {w : World} {base : Nat} {e : TypeId} {A : Option Addr} {n c : Nat} {xs : List ByteArray} {B : Nat} (h : w.ownsRow base e 1 (.slice A n c) n (xs.map Value.string)) (hn : n = xs.length) (hs : ∀ x ∈ xs, x.size ≤ B) (hB : B ≤ 1000) : Strs w A n c xs :=
  ⟨hn, Reads.of_own h, fun x hx => by have := hs x hx; unfold maxLen; omega⟩
/-- an alphabet and two texts -/
def CwPost (w : World) (e : Ending) (w' : World) : Prop := ∃ (A : Option Addr) (c : Nat) (xs : List ByteArray) (s t : ByteArray), e = .returned (.tuple #[.slice A xs.length c, .string s, .string t]) ∧ s.size ≤ 100 ∧ t.size ≤ 100 ∧ Strs w' A xs.length c xs ∧ Below w.heap.size w w'
set_option maxRecDepth 100000 in
set_option maxHeartbeats 2000000 in
theorem DrawCompareWords_any (A : Option Addr) (n c : Nat) (bs : List UInt8) (w : World) (hx : Bytes w A n c bs) : Calls Tryz.prog 8 #[.slice A n c] w (CwPost w) := by
  go_enter Tryz.func8, Tryz.ntmps8
  go_wp2_with fail
  refine (l01From_any A n c bs w hx).mono ?_
  rintro e_ w1 ⟨rfl, S1, b1⟩
  go_wp2_with fail
  refine (l06Letters_any _ _ S1).mono ?_
  rintro e_ w2 ⟨v, xs, rfl, hl, hz, O2, S2, g2⟩
  have B2 := below_srcP b1 g2 rfl
  obtain ⟨A2, c2, rfl, X2⟩ := own_strs4 O2 hz (by omega)
  clear O2
  go_wp2_with fail
  refine (l01DrawTwo_any A n c bs _ (hx.below B2)).mono ?_
  rintro e_ w3 ⟨s, t, rfl, hs, ht, h3⟩
  have X3 := Lib.hid (X2.below h3)
  have B3 := Lib.hid (next B2 h3)
  clear X2 B2 h3 g2 S2 b1 S1
  go_wp2
  go_ret3
  exact ⟨A2, c2, xs, s, t, rfl, by omega, by omega, X3.out, B3.out⟩
/-- an alphabet, two texts and ignored letters -/
def CpPost (w : World) (e : Ending) (w' : World) : Prop := ∃ (A B : Option Addr) (c d : Nat) (xs : List ByteArray) (s t : ByteArray) (ig : List Int), e = .returned (.tuple #[.slice A xs.length c, .string s, .string t, .slice B ig.length d]) ∧ s.size ≤ 100 ∧ t.size ≤ 100 ∧ Strs w' A xs.length c xs ∧ Ints w' B ig.length d ig ∧ Below w.heap.size w w'
set_option maxRecDepth 100000 in
set_option maxHeartbeats 4000000 in
theorem DrawComparePhrases_any (A : Option Addr) (n c : Nat) (bs : List UInt8) (w : World) (hx : Bytes w A n c bs) : Calls Tryz.prog 5 #[.slice A n c] w (CpPost w) := by
  go_enter Tryz.func5, Tryz.ntmps5
  go_wp2_with fail
  refine (l01From_any A n c bs w hx).mono ?_
  rintro e_ w1 ⟨rfl, S1, b1⟩
  have hp1 := S1.lt
  go_wp2_with fail
  refine (l06List_any A n c bs _ (hx.below b1)).mono ?_
  rintro e_ w2 ⟨v, g, c2, xs, ps, rfl, hl, hz, hpl, hpz, O2, P2, h2⟩
  have B2 := next b1 h2
  have S2 := S1.below h2
  obtain ⟨A2, c3, hv, X2⟩ := own_strs4 O2 hz (by omega)
  subst hv
  have hp2 : w.heap.size < w2.heap.size := S2.lt
  clear hx b1 h2 S1 X2
  go_wp2_with fail
  refine (l06Ignored_any w.heap.size _ _ _ _ S2 (by omega)).mono ?_
  rintro e_ w3 ⟨u, ig, rfl, hil, I3, S3, g3⟩
  obtain ⟨B3, d3, hu, J3⟩ := own_ints_ I3
  subst hu
  have O3 := own_srcP O2 g3 hp1
  have P3 := own_srcP P2 g3 hp1
  have BB3 := below_srcP B2 g3 rfl
  obtain ⟨A2', c3', hv, X3⟩ := own_strs4 O3 hz (by omega)
  injection hv with e1 _ e3
  subst e1; subst e3
  clear O2 P2 B2 S2 g3
  by_cases hlt : 1 < ps.length
  · have hlt2 : (1 : Int) < ps.length := by omega
    have p0 := P3.cellAt 0 (by omega)
    have p1 := P3.cellAt (ps.length - 1) (by omega)
    obtain ⟨s, hs⟩ : ∃ s, ps[0]? = some s := ⟨_, List.getElem?_eq_getElem (by omega)⟩
    obtain ⟨t, ht⟩ : ∃ t, ps[ps.length - 1]? = some t := ⟨_, List.getElem?_eq_getElem (by omega)⟩
    rw [List.getElem?_map, hs] at p0
    rw [List.getElem?_map, ht] at p1
    replace p0 : w3.cell? ⟨g, 0, none⟩ = some (.string s) := p0
    replace p1 : w3.cell? ⟨g, ps.length - 1, none⟩ = some (.string t) := p1
    have hsz := hpz s (List.mem_of_getElem? hs)
    have htz := hpz t (List.mem_of_getElem? ht)
    have hgl := (P3.lt g rfl).2
    obtain ⟨q, hq⟩ : ∃ q, ps.length = q + 1 := ⟨ps.length - 1, by omega⟩
    have HJ := Lib.hid J3
    have HX := Lib.hid X3
    have HB := Lib.hid BB3
    clear J3 X3 BB3 P3 I3 S3 O3 hs ht hpz hz hl hil
    generalize ps.length = L at *
    subst hq
    have e1 : IntKind.i64.wrap (((q + 1 : Nat) : Int) - 1) = (q : Int) := by rw [IntWalk.i64_in _ (by omega)]; omega
    have e2 : q + 1 - 1 = q := by omega
    rw [e2] at p1
    have hq0 : (0 : Int) ≤ (q : Int) := by omega
    have hq1 : (q : Int) < ((q + 1 : Nat) : Int) := by omega
    go_wp2_with fail
    refine wp_region_later (by kernel_rfl) (by kernel_rfl) ?_
    repeat (go_big_quiet_step (fail))
    refine wpQuiet_nil ?_
    intro w4 hw2; have h4 := later_below hw2; clear hw2
    have hc_w4 := bcell h4; have hf_w4 := bfree h4
    have hz_w4_0 : g < w4.heap.size := by have hz_ := h4.size; (try simp at hz_); omega
    have HJ4 := Lib.hid (HJ.out.below h4)
    have HX4 := Lib.hid (HX.out.below h4)
    have HB4 := Lib.hid (next HB.out h4)
    clear HJ HX HB h4
    go_wp2
    refine bodyPost_ret (v := .tuple #[.slice A2 xs.length c3, .string s, .string t, .slice B3 ig.length d3]) (by simp [results, Tryz.results5, go_sem]) rfl ⟨A2, B3, c3, d3, xs, s, t, ig, rfl, hsz, htz, HX4.out, HJ4.out, HB4.out⟩
  · have hlt2 : ¬ (1 : Int) < ps.length := by omega
    have HI := Lib.hid I3
    have HO := Lib.hid O3
    have HB := Lib.hid BB3
    clear J3 X3 P3 I3 O3 BB3
    go_wp2_with fail
    refine (l01DrawPhrase_any _ _ S3).mono ?_
    rintro e_ w4 ⟨s, rfl, hs, S4, g4⟩
    go_wp2_with fail
    refine (l01DrawPhrase_any _ _ S4).mono ?_
    rintro e_ w5 ⟨t, rfl, ht, S5, g5⟩
    have HJ5 := Lib.hid (own_ints (own_srcP (own_srcP HI.out g4 hp2) g5 hp2))
    have O5 := own_srcP (own_srcP HO.out g4 hp1) g5 hp1
    obtain ⟨A5, c5, hv5, X5⟩ := own_strs4 O5 hz (by omega)
    injection hv5 with e1 _ e3
    subst e1; subst e3
    have HX5 := Lib.hid X5
    have HB5 := Lib.hid (below_srcP (below_srcP HB.out g4 rfl) g5 rfl)
    clear HI HO HB O5 X5 g4 g5 S4 S5 S3
    go_wp2
    refine bodyPost_ret (v := .tuple #[.slice A2 xs.length c3, .string s, .string t, .slice B3 ig.length d3]) (by simp [results, Tryz.results5, go_sem]) rfl ⟨A2, B3, c3, d3, xs, s, t, ig, rfl, by omega, by omega, HX5.out, HJ5.out, HB5.out⟩
/-- an alphabet, a list and a text -/
def FpPost (w : World) (e : Ending) (w' : World) : Prop := ∃ (A : Option Addr) (g c d : Nat) (xs ps : List ByteArray) (s : ByteArray), e = .returned (.tuple #[.slice A xs.length c, .slice (some ⟨g, 0, none⟩) ps.length d, .string s]) ∧ s.size ≤ 100 ∧ ps.length ≤ 21 ∧ (∀ x ∈ ps, x.size ≤ 100) ∧ g < w'.heap.size ∧ Strs w' A xs.length c xs ∧ Strs w' (some ⟨g, 0, none⟩) ps.length d ps ∧ Below w.heap.size w w'
theorem spVal_all {xs : List ByteArray} {ig : List Int} {ps : List ByteArray} (h : ∀ x ∈ ps, x.size ≤ 100) : (∀ x ∈ spVal xs ig ps, x.size ≤ 100) ∧ (spVal xs ig ps).length ≤ ps.length := by
  unfold spVal
  split
  · exact ⟨fun x hx => h x (srt_mem (Nat.le_refl _) x hx), by rw [srt_len]; exact Nat.le_refl _⟩
  · exact ⟨fun x hx => (by cases hx), Nat.zero_le _⟩
set_option maxRecDepth 100000 in
set_option maxHeartbeats 8000000 in
theorem DrawFindPhrase_any (A : Option Addr) (n c : Nat) (bs : List UInt8) (w : World) (hx : Bytes w A n c bs) : Calls Tryz.prog 11 #[.slice A n c] w (FpPost w) := by
  go_enter Tryz.func11, Tryz.ntmps11
  go_wp2_with fail
  refine (l01From_any A n c bs w hx).mono ?_
  rintro e_ w1 ⟨rfl, S1, b1⟩
  have hp1 := S1.lt
  go_wp2_with fail
  refine (l06List_any A n c bs _ (hx.below b1)).mono ?_
  rintro e_ w2 ⟨v, g, c2, xs, ps, rfl, hl, hz, hpl, hpz, O2, P2, h2⟩
  have B2 := next b1 h2
  have S2 := S1.below h2
  obtain ⟨A2, c3, hv, X2⟩ := own_strs4 O2 hz (by omega)
  subst hv
  have hp2 : w.heap.size < w2.heap.size := S2.lt
  obtain ⟨A2', c2', hv', Q2⟩ := own_strs4 P2 hpz (by omega)
  injection hv' with e1 _ e3
  subst e1; subst e3
  have hgl := (P2.lt g rfl).2
  have hz12 := h2.size
  clear hx b1 h2 S1
  have HB := box1 w2 (.cells #[] 2)
  have hno : Ints (w2.alloc (.cells #[] 2)) (some ⟨w2.heap.size, 0, none⟩) 0 0 [] := ints_alloc w2 [] 2 (by unfold maxLen; simp)
  go_wp2_with fail
  refine (SortPhrases_spec A2 _ _ _ _ _ _ _ _ _ xs [] ps _ (X2.below HB) hno (Q2.below HB) (fun s hs => by have := hpz s hs; omega) (by simp; omega)).mono ?_
  rintro e_ w3 ⟨v3, rfl, V3, hv3, h3⟩
  have B3 := next (next B2 HB) h3
  have h23 := next HB h3
  have S3 := S2.below h23
  have O3 := own_below O2 h23
  have P3 := own_below P2 h23
  have hzs := spVal_all (xs := xs) (ig := []) hpz
  have V3' := own_base V3 (show w1.heap.size ≤ _ from Nat.le_trans hz12 HB.size)
  clear X2 Q2 O2 P2 B2 S2 V3 HB h3 h23 hno
  generalize hsp : spVal xs [] ps = sp at *
  generalize l6Code xs [] ps = cd at *
  clear hsp
  have hn2 : sp.length ≤ 21 := by have := hzs.2; omega
  by_cases hcd : cd = 0
  · obtain ⟨gs, cs, rfl⟩ := hv3 hcd
    subst hcd
    clear hv3
    go_wp2_with fail
    refine (l01Next_any _ 6 _ S3 (by omega)).mono ?_
    rintro e_ w4 ⟨r, rfl, r0, r1, S4, g4⟩
    have O4 := own_srcP O3 g4 hp1
    have B4 := below_srcP B3 g4 rfl
    by_cases hr : 0 < r
    · have P4 := own_srcP V3' g4 hp1
      have hz4 := hzs.1
      have hn4 := hn2
      clear O3 P3 V3' B3 S3 g4
      have HO := Lib.hid O4
      have HP := Lib.hid P4
      have HB := Lib.hid B4
      clear O4 P4 B4
      by_cases hl0 : 0 < sp.length
      · have d0 : (0 : Int) < ((sp.length : Nat) : Int) := by omega
        go_wp2_with fail
        refine (l01Next_any _ 2 _ S4 (by omega)).mono ?_
        rintro e_ w5 ⟨t, rfl, t0, t1, S5, g5⟩
        have O5 := own_srcP HO.out g5 hp1
        have P5 := own_srcP HP.out g5 hp1
        have B5 := below_srcP HB.out g5 rfl
        clear HO HP HB S4 g5
        by_cases ht : t = 0
        · subst ht
          have O5d := Lib.hid (own_below O5 (Below.refl _ _).drew)
          have P5d := Lib.hid (own_below P5 (Below.refl _ _).drew)
          have B5d := Lib.hid B5.drew
          have S5d := S5.below (Below.refl _ _).drew
          have hcP : ∀ (W : World) (_ : w5.drew.grownBy W (some w.heap.size)) (j : Nat), j < sp.length → ∃ s, sp[j]? = some s ∧ W.cell? ⟨gs, j, none⟩ = some (.string s) := fun W gW j hj => by
            have c := (own_srcP P5d.out gW hp1).cellAt j (by omega)
            obtain ⟨s, hs⟩ : ∃ s, sp[j]? = some s := ⟨_, List.getElem?_eq_getElem hj⟩
            rw [List.getElem?_map, hs] at c
            exact ⟨s, hs, c⟩
          have HCP := Lib.hid hcP
          have HG5 := Lib.hid (P5.lt gs rfl).2
          clear O5 P5 B5 hcP
          have hlm : ((sp.length : Nat) : Int) ≤ 4611686018427387904 := by omega
          go_wp2_with fail
          first
            | (go_region_with (first
                | (go_at_call 31; refine (l01Next_any w.heap.size sp.length _ S5d hlm).mono ?_; rintro e_ w6 ⟨y, rfl, y0, y1, S6, g6⟩; have hj : ∃ j : Nat, y = j := ⟨y.toNat, by omega⟩; obtain ⟨j, rfl⟩ := hj; have j3 : j < sp.length := (by omega); have j4 : (j : Int) < ((sp.length : Nat) : Int) := (by omega); have j5 : (0 : Int) ≤ (j : Int) := (by omega); have hc := HCP.out w6 g6 j j3; obtain ⟨s, hs, hc6⟩ := hc; have hg6 : gs < w6.heap.size := Nat.lt_of_lt_of_le HG5.out g6.size)))
            | fail
          all_goals
            have HQ6 := Lib.hid (strs_own4 (own_srcP P5d.out g6 hp1) rfl hz4 (by omega))
            have HX6 := Lib.hid (strs_own4 (own_srcP O5d.out g6 hp1) rfl hz (by omega))
            have HB6 := Lib.hid (below_srcP B5d.out g6 rfl)
            have hsz := hz4 s (List.mem_of_getElem? hs)
            clear P5d O5d B5d g6 HCP hs S6
            go_wp2
            go_ret3
            exact ⟨A2, gs, c3, cs, xs, sp, s, rfl, hsz, hn4, hz4, hg6, HX6.out, HQ6.out, HB6.out⟩
        · have d2 : (t == 0) = false := by simpa using ht
          have HO5 := Lib.hid O5
          have HP5 := Lib.hid P5
          have HB5 := Lib.hid B5
          clear O5 P5 B5
          go_wp2_with fail
          refine (l01DrawPhrase_any _ _ S5).mono ?_
          rintro e_ w6 ⟨s, rfl, hs, S6, g6⟩
          have P6 := own_srcP HP5.out g6 hp1
          have HQ6 := Lib.hid (strs_own4 P6 rfl hz4 (by omega))
          have HG6 := Lib.hid (P6.lt gs rfl).2
          have HX6 := Lib.hid (strs_own4 (own_srcP HO5.out g6 hp1) rfl hz (by omega))
          have HB6 := Lib.hid (below_srcP HB5.out g6 rfl)
          clear P6 HP5 HO5 HB5 g6 S6 S5
          go_wp2
          go_ret3
          exact ⟨A2, gs, c3, cs, xs, sp, s, rfl, by omega, hn4, hz4, HG6.out, HX6.out, HQ6.out, HB6.out⟩
      · have d0 : ¬ (0 : Int) < ((sp.length : Nat) : Int) := by omega
        have HL0 := Lib.hid hl0
        clear hl0
        go_wp2_with fail
        refine (l01DrawPhrase_any _ _ S4).mono ?_
        rintro e_ w6 ⟨s, rfl, hs, S6, g6⟩
        have P6 := own_srcP HP.out g6 hp1
        have HQ6 := Lib.hid (strs_own4 P6 rfl hz4 (by omega))
        have HG6 := Lib.hid (P6.lt gs rfl).2
        have HX6 := Lib.hid (strs_own4 (own_srcP HO.out g6 hp1) rfl hz (by omega))
        have HB6 := Lib.hid (below_srcP HB.out g6 rfl)
        clear P6 HP HO HB g6 S6 S4
        go_wp2
        go_ret3
        exact ⟨A2, gs, c3, cs, xs, sp, s, rfl, by omega, hn4, hz4, HG6.out, HX6.out, HQ6.out, HB6.out⟩
    · have P4 := own_srcP P3 g4 hp1
      have hz4 := hpz
      have hn4 := hpl
      clear O3 P3 V3' B3 S3 g4
      have HO := Lib.hid O4
      have HP := Lib.hid P4
      have HB := Lib.hid B4
      clear O4 P4 B4
      by_cases hl0 : 0 < ps.length
      · have d0 : (0 : Int) < ((ps.length : Nat) : Int) := by omega
        go_wp2_with fail
        refine (l01Next_any _ 2 _ S4 (by omega)).mono ?_
        rintro e_ w5 ⟨t, rfl, t0, t1, S5, g5⟩
        have O5 := own_srcP HO.out g5 hp1
        have P5 := own_srcP HP.out g5 hp1
        have B5 := below_srcP HB.out g5 rfl
        clear HO HP HB S4 g5
        by_cases ht : t = 0
        · subst ht
          have O5d := Lib.hid (own_below O5 (Below.refl _ _).drew)
          have P5d := Lib.hid (own_below P5 (Below.refl _ _).drew)
          have B5d := Lib.hid B5.drew
          have S5d := S5.below (Below.refl _ _).drew
          have hcP : ∀ (W : World) (_ : w5.drew.grownBy W (some w.heap.size)) (j : Nat), j < ps.length → ∃ s, ps[j]? = some s ∧ W.cell? ⟨g, j, none⟩ = some (.string s) := fun W gW j hj => by
            have c := (own_srcP P5d.out gW hp1).cellAt j (by omega)
            obtain ⟨s, hs⟩ : ∃ s, ps[j]? = some s := ⟨_, List.getElem?_eq_getElem hj⟩
            rw [List.getElem?_map, hs] at c
            exact ⟨s, hs, c⟩
          have HCP := Lib.hid hcP
          have HG5 := Lib.hid (P5.lt g rfl).2
          clear O5 P5 B5 hcP
          have hlm : ((ps.length : Nat) : Int) ≤ 4611686018427387904 := by omega
          go_wp2_with fail
          first
            | (go_region_with (first
                | (go_at_call 31; refine (l01Next_any w.heap.size ps.length _ S5d hlm).mono ?_; rintro e_ w6 ⟨y, rfl, y0, y1, S6, g6⟩; have hj : ∃ j : Nat, y = j := ⟨y.toNat, by omega⟩; obtain ⟨j, rfl⟩ := hj; have j3 : j < ps.length := (by omega); have j4 : (j : Int) < ((ps.length : Nat) : Int) := (by omega); have j5 : (0 : Int) ≤ (j : Int) := (by omega); have hc := HCP.out w6 g6 j j3; obtain ⟨s, hs, hc6⟩ := hc; have hg6 : g < w6.heap.size := Nat.lt_of_lt_of_le HG5.out g6.size)))
            | fail
          all_goals
            have HQ6 := Lib.hid (strs_own4 (own_srcP P5d.out g6 hp1) rfl hz4 (by omega))
            have HX6 := Lib.hid (strs_own4 (own_srcP O5d.out g6 hp1) rfl hz (by omega))
            have HB6 := Lib.hid (below_srcP B5d.out g6 rfl)
            have hsz := hz4 s (List.mem_of_getElem? hs)
            clear P5d O5d B5d g6 HCP hs S6
            go_wp2
            go_ret3
            exact ⟨A2, g, c3, c2, xs, ps, s, rfl, hsz, hn4, hz4, hg6, HX6.out, HQ6.out, HB6.out⟩
        · have d2 : (t == 0) = false := by simpa using ht
          have HO5 := Lib.hid O5
          have HP5 := Lib.hid P5
          have HB5 := Lib.hid B5
          clear O5 P5 B5
          go_wp2_with fail
          refine (l01DrawPhrase_any _ _ S5).mono ?_
          rintro e_ w6 ⟨s, rfl, hs, S6, g6⟩
          have P6 := own_srcP HP5.out g6 hp1
          have HQ6 := Lib.hid (strs_own4 P6 rfl hz4 (by omega))
          have HG6 := Lib.hid (P6.lt g rfl).2
          have HX6 := Lib.hid (strs_own4 (own_srcP HO5.out g6 hp1) rfl hz (by omega))
          have HB6 := Lib.hid (below_srcP HB5.out g6 rfl)
          clear P6 HP5 HO5 HB5 g6 S6 S5
          go_wp2
          go_ret3
          exact ⟨A2, g, c3, c2, xs, ps, s, rfl, by omega, hn4, hz4, HG6.out, HX6.out, HQ6.out, HB6.out⟩
      · have d0 : ¬ (0 : Int) < ((ps.length : Nat) : Int) := by omega
        have HL0 := Lib.hid hl0
        clear hl0
        go_wp2_with fail
        refine (l01DrawPhrase_any _ _ S4).mono ?_
        rintro e_ w6 ⟨s, rfl, hs, S6, g6⟩
        have P6 := own_srcP HP.out g6 hp1
        have HQ6 := Lib.hid (strs_own4 P6 rfl hz4 (by omega))
        have HG6 := Lib.hid (P6.lt g rfl).2
        have HX6 := Lib.hid (strs_own4 (own_srcP HO.out g6 hp1) rfl hz (by omega))
        have HB6 := Lib.hid (below_srcP HB.out g6 rfl)
        clear P6 HP HO HB g6 S6 S4
        go_wp2
        go_ret3
        exact ⟨A2, g, c3, c2, xs, ps, s, rfl, by omega, hn4, hz4, HG6.out, HX6.out, HQ6.out, HB6.out⟩
  · have hcd2 : (cd == 0) = false := by simpa using hcd
    have O4 := O3
    have P4 := P3
    have B4 := B3
    have S4 := S3
    have hz4 := hpz
    have hn4 := hpl
    clear O3 P3 V3' B3 S3 hv3
    have HO := Lib.hid O4
    have HP := Lib.hid P4
    have HB := Lib.hid B4
    clear O4 P4 B4
    by_cases hl0 : 0 < ps.length
    · have d0 : (0 : Int) < ((ps.length : Nat) : Int) := by omega
      go_wp2_with fail
      refine (l01Next_any _ 2 _ S4 (by omega)).mono ?_
      rintro e_ w5 ⟨t, rfl, t0, t1, S5, g5⟩
      have O5 := own_srcP HO.out g5 hp1
      have P5 := own_srcP HP.out g5 hp1
      have B5 := below_srcP HB.out g5 rfl
      clear HO HP HB S4 g5
      by_cases ht : t = 0
      · subst ht
        have O5d := Lib.hid (own_below O5 (Below.refl _ _).drew)
        have P5d := Lib.hid (own_below P5 (Below.refl _ _).drew)
        have B5d := Lib.hid B5.drew
        have S5d := S5.below (Below.refl _ _).drew
        have hcP : ∀ (W : World) (_ : w5.drew.grownBy W (some w.heap.size)) (j : Nat), j < ps.length → ∃ s, ps[j]? = some s ∧ W.cell? ⟨g, j, none⟩ = some (.string s) := fun W gW j hj => by
          have c := (own_srcP P5d.out gW hp1).cellAt j (by omega)
          obtain ⟨s, hs⟩ : ∃ s, ps[j]? = some s := ⟨_, List.getElem?_eq_getElem hj⟩
          rw [List.getElem?_map, hs] at c
          exact ⟨s, hs, c⟩
        have HCP := Lib.hid hcP
        have HG5 := Lib.hid (P5.lt g rfl).2
        clear O5 P5 B5 hcP
        have hlm : ((ps.length : Nat) : Int) ≤ 4611686018427387904 := by omega
        go_wp2_with fail
        first
          | (go_region_with (first
              | (go_at_call 31; refine (l01Next_any w.heap.size ps.length _ S5d hlm).mono ?_; rintro e_ w6 ⟨y, rfl, y0, y1, S6, g6⟩; have hj : ∃ j : Nat, y = j := ⟨y.toNat, by omega⟩; obtain ⟨j, rfl⟩ := hj; have j3 : j < ps.length := (by omega); have j4 : (j : Int) < ((ps.length : Nat) : Int) := (by omega); have j5 : (0 : Int) ≤ (j : Int) := (by omega); have hc := HCP.out w6 g6 j j3; obtain ⟨s, hs, hc6⟩ := hc; have hg6 : g < w6.heap.size := Nat.lt_of_lt_of_le HG5.out g6.size)))
          | fail
        all_goals
          have HQ6 := Lib.hid (strs_own4 (own_srcP P5d.out g6 hp1) rfl hz4 (by omega))
          have HX6 := Lib.hid (strs_own4 (own_srcP O5d.out g6 hp1) rfl hz (by omega))
          have HB6 := Lib.hid (below_srcP B5d.out g6 rfl)
          have hsz := hz4 s (List.mem_of_getElem? hs)
          clear P5d O5d B5d g6 HCP hs S6
          go_wp2
          go_ret3
          exact ⟨A2, g, c3, c2, xs, ps, s, rfl, hsz, hn4, hz4, hg6, HX6.out, HQ6.out, HB6.out⟩
      · have d2 : (t == 0) = false := by simpa using ht
        have HO5 := Lib.hid O5
        have HP5 := Lib.hid P5
        have HB5 := Lib.hid B5
        clear O5 P5 B5
        go_wp2_with fail
        refine (l01DrawPhrase_any _ _ S5).mono ?_
        rintro e_ w6 ⟨s, rfl, hs, S6, g6⟩
        have P6 := own_srcP HP5.out g6 hp1
        have HQ6 := Lib.hid (strs_own4 P6 rfl hz4 (by omega))
        have HG6 := Lib.hid (P6.lt g rfl).2
        have HX6 := Lib.hid (strs_own4 (own_srcP HO5.out g6 hp1) rfl hz (by omega))
        have HB6 := Lib.hid (below_srcP HB5.out g6 rfl)
        clear P6 HP5 HO5 HB5 g6 S6 S5
        go_wp2
        go_ret3
        exact ⟨A2, g, c3, c2, xs, ps, s, rfl, by omega, hn4, hz4, HG6.out, HX6.out, HQ6.out, HB6.out⟩
    · have d0 : ¬ (0 : Int) < ((ps.length : Nat) : Int) := by omega
      have HL0 := Lib.hid hl0
      clear hl0
      go_wp2_with fail
      refine (l01DrawPhrase_any _ _ S4).mono ?_
      rintro e_ w6 ⟨s, rfl, hs, S6, g6⟩
      have P6 := own_srcP HP.out g6 hp1
      have HQ6 := Lib.hid (strs_own4 P6 rfl hz4 (by omega))
      have HG6 := Lib.hid (P6.lt g rfl).2
      have HX6 := Lib.hid (strs_own4 (own_srcP HO.out g6 hp1) rfl hz (by omega))
      have HB6 := Lib.hid (below_srcP HB.out g6 rfl)
      clear P6 HP HO HB g6 S6 S4
      go_wp2
      go_ret3
      exact ⟨A2, g, c3, c2, xs, ps, s, rfl, by omega, hn4, hz4, HG6.out, HX6.out, HQ6.out, HB6.out⟩
end Go.Proofs.YtpnbbhomkneflaaGreatDoor
