/- Sorters: the program's spelled, arePhrases, newSorter. -/
import Derived.Test.YtnjeloggpbgloaaDoorLstA
import Derived.Test.YtnjeloggpbgloaaDoorSpellE
import Derived.Test.YtnjeloggpbgloaaDoorSplit
import Derived.Maps.AppendAt
namespace Go.Proofs.YtnjeloggpbgloaaDoor
open Go.ChangeShapes Go.WideShapes Go.ChangeAt Go.RowKit
theorem boxO (w : World) (x : Obj) : Below w.heap.size w (w.alloc x) := (Below.refl _ _).alloc (Nat.le_refl _) _
theorem nextO {B : Nat} {a w w' : World} (h : Below B a w) (hb : Below w.heap.size w w') (hB : B ≤ w.heap.size) : Below B a w' := h.trans (hb.mono hB)
theorem map_take_succ {α β : Type} {f : α → β} {xs : List α} {k : Nat} {x : α} (h : xs[k]? = some x) : (xs.take (k + 1)).map f = (xs.take k).map f ++ [f x] := by
  rw [List.take_add_one, h, List.map_append]
  rfl
set_option maxRecDepth 100000 in
set_option maxHeartbeats 2000000 in
theorem arePhrases_any (A : Option Addr) (n c : Nat) (ps : List ByteArray) (w : World) (hx : Strs w A n c ps) (hs : ∀ s ∈ ps, s.size ≤ 1048576) (hm : MaxCell w) :
    Calls Tryd.prog 22 #[.slice A n c] w fun e w' => e = .returned (.bool (ps.all isPhrase)) ∧ Below w.heap.size w w' := by
  have hcm := hx.2.1.cap
  have hnc := hx.2.1.le
  unfold maxLen at hcm
  have HN := Lib.hid hx.1
  have HS := Lib.hid hs
  clear hs
  go_enter Tryd.func22, Tryd.ntmps22
  go_wp2
  go_loopw [7] (fun i wr => ∃ k : Nat, k ≤ n ∧ i = .int .i64 k ∧ Hid ((ps.take k).all isPhrase = true) ∧ Below w.heap.size w wr) (fun i _ => n - (intOf i).toNat)
  case atStart => exact ⟨0, Nat.zero_le _, rfl, by simp [Hid], Below.refl _ _⟩
  case round =>
    obtain ⟨k, hk, rfl, hup, hb⟩ := hrel
    by_cases hlt : k < n
    · obtain ⟨b, off, rfl, hbl⟩ := hx.at_ k hlt
      obtain ⟨s, hs, c0, hsz⟩ := hx.el hb hbl k hlt
      have hs2 := HS.out s (List.mem_of_getElem? hs.out)
      cases hw : isPhrase s
      · go_wp2_with fail
        refine (isb (IsPhrase_impl s _ hs2 (hm.below hb)) hw).mono ?_
        rintro e_ w1 ⟨rfl, h1⟩
        have hc_w1 := bcell h1; have hf_w1 := bfree h1
        have HF := Lib.hid (all_not hs hw)
        go_wp2
        go_ret
        exact ⟨by rw [HF.out]; rfl, next hb h1⟩
      · go_wp2_with fail
        refine (isb (IsPhrase_impl s _ hs2 (hm.below hb)) hw).mono ?_
        rintro e_ w1 ⟨rfl, h1⟩
        have hc_w1 := bcell h1; have hf_w1 := bfree h1
        have HU := Lib.hid (all_at hs hup.out hw)
        clear hup
        go_wp2
        go_roundw
        case rel => exact ⟨k + 1, by omega, by go_num, HU, next hb h1⟩
        case measure => simp [intOf]; omega
    · have HF := Lib.hid (all_done HN.out (by omega) hup.out)
      go_wp2
      go_ret
      exact ⟨by rw [HF.out]; rfl, hb⟩
set_option maxRecDepth 100000 in
set_option maxHeartbeats 2000000 in
theorem spelled_any (A : Option Addr) (n c : Nat) (xs : List ByteArray) (s : ByteArray) (w : World) (hx : Strs w A n c xs) (hs : s.size ≤ 1048576) (ha : isAlpha xs = true) (hm : MaxCell w) :
    Calls Tryd.prog 13 #[.slice A n c, .string s] w fun e w' => ∃ A' n' c', e = .returned (.tuple #[.slice A' n' c', .bool (spAll xs s)]) ∧ (spAll xs s = true → Lists w' A' n' c' (sps xs s)) ∧ Below w.heap.size w w' := by
  have hmx := cut_max hs
  have hcs := cutS_size 32 s
  have hwo := wordsOf_any s w hs hm
  have X1 := strs_alloc w (cutS 32 s) 9 hmx.1 hmx.2
  have b1 := boxO w (.cells ((cutS 32 s).map Value.string).toArray 9)
  have HP := Lib.hid (show spAll xs s = (cutS 32 s).all (spellOk xs) ∧ sps xs s = (cutS 32 s).map (spellList xs) from ⟨rfl, rfl⟩)
  have hws : ∀ x ∈ cutS 32 s, x.size ≤ 1048576 := fun x hx => by have := cutS_each hx; omega
  have HWS := Lib.hid hws
  obtain ⟨i0, hi, hz0, hz1, hz2⟩ := info_parts infoSl
  generalize cutS 32 s = L at *
  clear hws hmx
  go_enter Tryd.func13, Tryd.ntmps13
  go_wp2_with fail
  refine hwo.mono ?_
  rintro e_ w1 ⟨rfl, rfl⟩
  generalize w.alloc (.cells (L.map Value.string).toArray 9) = w1 at *
  clear hwo
  go_wp2
  go_loopw [6, 14] (fun v i wr => ∃ (k : Nat) (us : List Value) (v1 : Value), k ≤ L.length ∧ i = .int .i64 k ∧ v1 = v ∧ Hid ((L.take k).all (spellOk xs) = true) ∧ Hid (OwnL wr w1.heap.size v1 k ((L.take k).map (spellList xs)) us) ∧ Below w1.heap.size w1 wr) (fun _ i _ => L.length - (intOf i).toNat)
  case atStart => exact ⟨0, [], _, Nat.zero_le _, rfl, rfl, by simp [Hid], OwnL.nil _ _, Below.refl _ _⟩
  case round =>
    obtain ⟨k, us, v1, hk, rfl, rfl, hup, hown, hb⟩ := hrel
    have hz3 := hb.size
    by_cases hlt : k < L.length
    · have hgl : w.heap.size < w1.heap.size := by obtain ⟨_, _, e, h⟩ := X1.at_ k hlt; injection e with e; injection e with e; rw [e]; exact h
      obtain ⟨t, ht, c0, htz⟩ := X1.el hb hgl k hlt
      rw [Nat.zero_add] at c0
      have htm := HWS.out t (List.mem_of_getElem? ht.out)
      have hsp := spell_any A n c xs t wr (hx.below (next b1 hb)) htm ha
      cases hw : spellOk xs t with
      | false =>
        rw [hw] at hsp
        have HF := Lib.hid (show spAll xs s = false by rw [HP.out.1]; exact all_not ht hw)
        clear hw
        go_wp2_with fail
        refine hsp.mono ?_
        rintro e_ w2 ⟨v, rfl, hu, h2⟩
        have HB2 := Lib.hid (next b1 (next hb h2))
        clear hsp hu h2
        go_wp2
        go_ret2
        exact ⟨_, _, _, by rw [HF.out]; rfl, by rw [HF.out]; simp, HB2.out⟩
      | true =>
        rw [hw] at hsp
        have HU := Lib.hid (all_at ht hup.out hw)
        clear hw hup
        go_wp2_with fail
        refine hsp.mono ?_
        rintro e_ w2 ⟨v, rfl, hu, h2⟩
        obtain ⟨Au, cu, rfl, xu⟩ := own_ints_ hu
        have hb2 := nextO hb h2 hz3
        have hrow2 := own_below hown.out.row h2
        have hz4 := hb2.size
        clear hsp xu
        go_wp2_with (at_builtin; refine wpList_append_own_at _ rfl _ _ 31 rfl w1.heap.size 30 i0 (.slice none 0 0) 1 24 Tryd.underlying31 hi hz0 hz1 hz2 rfl (by decide) _ _ _ rfl (hrow2.alloc _) ⟨w2.heap.size, 0, none⟩ 1 1 [.slice Au (spellList xs t).length cu] rfl rfl ?c1 ?c2 ?c3 ?c4 ?c5 ?_)
        case c1 => exact cell_one_new _ _ _
        case c2 => simp [Value.oneCell']
        case c3 => unfold maxLen; omega
        case c4 => omega
        case c5 => first | omega | (simp; omega)
        intro v4 w4 hown4 hgrow _ hlie
        have hb4 := h2.alloc h2.size (.cells #[.slice Au (spellList xs t).length cu] 30)
        have F := hown.out.snoc (u := .slice Au (spellList xs t).length cu) (xs := spellList xs t) hb4 (own_below hu (boxO w2 _)) hgrow (by simpa using hlie) hown4 hz3
        rw [← map_take_succ ht.out] at F
        have HO := Lib.hid F
        have HB4 := Lib.hid ((nextO hb hb4 hz3).grown hgrow (by have := hb4.size; simp at this; (first | omega | (simp; omega))) (fun q hq => (hrow2.lt q hq).1))
        clear F hown4 hgrow hlie hown hu hb4 h2 hrow2
        go_wp2
        go_roundw
        case rel => exact ⟨k + 1, _, _, by omega, by go_num, rfl, HU, HO, HB4.out⟩
        case measure => simp [intOf]; omega
    · obtain rfl : k = L.length := by omega
      have h1 := hup.out
      have h2 := hown.out
      rw [List.take_length] at h1 h2
      obtain ⟨A4, c4, rfl, hL⟩ := h2.lists
      have HF := Lib.hid (show spAll xs s = true by rw [HP.out.1]; exact h1)
      have HL := Lib.hid (show Lists wr A4 L.length c4 (sps xs s) by rw [HP.out.2]; exact hL)
      clear h1 h2 hup hown hL
      go_wp2
      go_ret2
      exact ⟨_, _, _, by rw [HF.out]; rfl, fun _ => HL.out, next b1 hb⟩
set_option maxRecDepth 100000 in
set_option maxHeartbeats 4000000 in
theorem newSorter_any (A B C : Option Addr) (n c m d q f : Nat) (xs : List ByteArray) (ig : List Int) (ps : List ByteArray) (w : World) (hx : Strs w A n c xs) (hy : Ints w B m d ig) (hp : Strs w C q f ps) (hs : ∀ s ∈ ps, s.size ≤ 1048576) (hm : MaxCell w) :
    Calls Tryd.prog 12 #[.slice A n c, .slice B m d, .slice C q f] w fun e w' => ∃ A' n' c' B' m' d', e = .returned (.tuple #[.agg #[.slice A' n' c', .slice B' m' d'], .int .i64 (nsCode xs ig ps)]) ∧ (nsCode xs ig ps = 0 → A' = A ∧ n' = n ∧ c' = c ∧ B' = B ∧ m' = m ∧ d' = d) ∧ Below w.heap.size w w' := by
  have hcm := hx.2.1.cap
  have hnc := hx.2.1.le
  have hqm := hp.2.1.cap
  have hqf := hp.2.1.le
  unfold maxLen at hcm hqm
  have HX := Lib.hid hx.1
  have HPL := Lib.hid hp.1
  have HS := Lib.hid hs
  clear hs
  have b0 := boxO w (.cells #[.slice none 0 0, .slice none 0 0] 35)
  have z0 : (w.alloc (.cells #[.slice none 0 0, .slice none 0 0] 35)).heap.size = w.heap.size + 1 := by simp
  rcases ns_cases xs ig ps with ⟨ha, HF⟩ | ⟨ha, hph, HF⟩ | ⟨ha, hph, hig, HF⟩ | hrest
  · go_enter Tryd.func12, Tryd.ntmps12
    go_wp2_with fail
    refine (isb (IsAlphabet_impl A n c xs _ (hx.below b0)) ha).mono ?_
    rintro e_ w1 ⟨rfl, h1⟩
    have hc_w1 := bcell h1; have hf_w1 := bfree h1
    have hz_w1_0 : w.heap.size < w1.heap.size := by have hz_ := h1.size; (try simp at hz_); omega
    go_wp2
    refine bodyPost_ret (v := .tuple #[.agg #[.slice none 0 0, .slice none 0 0], .int .i64 1]) (by simp [results, Tryd.results12, go_sem, hc_w1, hf_w1, hz_w1_0]) rfl ⟨_, _, _, _, _, _, by rw [HF.out], by rw [HF.out]; intro h; exact absurd h (by decide), ?_⟩
    first | exact next b0 h1 | exact ((next b0 h1).setCell (by simp) _).setCell (by simp) _ | exact (next b0 h1).setCell (by simp) _
  · go_enter Tryd.func12, Tryd.ntmps12
    go_wp2_with fail
    refine (isb (IsAlphabet_impl A n c xs _ (hx.below b0)) ha).mono ?_
    rintro e_ w1 ⟨rfl, h1⟩
    have hc_w1 := bcell h1; have hf_w1 := bfree h1
    have hz_w1_0 : w.heap.size < w1.heap.size := by have hz_ := h1.size; (try simp at hz_); omega
    go_wp2_with fail
    refine (isb (arePhrases_any C q f ps _ (hp.below (next b0 h1)) HS.out (hm.below (next b0 h1))) hph).mono ?_
    rintro e_ w2 ⟨rfl, h2⟩
    have hc_w2 := bcell h2; have hf_w2 := bfree h2
    have hz_w2_0 : w.heap.size < w2.heap.size := by have hz_ := h2.size; (try simp at hz_); omega
    go_wp2
    refine bodyPost_ret (v := .tuple #[.agg #[.slice none 0 0, .slice none 0 0], .int .i64 1]) (by simp [results, Tryd.results12, go_sem, hc_w1, hf_w1, hz_w1_0, hc_w2, hf_w2, hz_w2_0]) rfl ⟨_, _, _, _, _, _, by rw [HF.out], by rw [HF.out]; intro h; exact absurd h (by decide), ?_⟩
    first | exact next (next b0 h1) h2 | exact ((next (next b0 h1) h2).setCell (by simp) _).setCell (by simp) _ | exact (next (next b0 h1) h2).setCell (by simp) _
  · rw [← hx.1] at hig
    go_enter Tryd.func12, Tryd.ntmps12
    go_wp2_with fail
    refine (isb (IsAlphabet_impl A n c xs _ (hx.below b0)) ha).mono ?_
    rintro e_ w1 ⟨rfl, h1⟩
    have hc_w1 := bcell h1; have hf_w1 := bfree h1
    have hz_w1_0 : w.heap.size < w1.heap.size := by have hz_ := h1.size; (try simp at hz_); omega
    go_wp2_with fail
    refine (isb (arePhrases_any C q f ps _ (hp.below (next b0 h1)) HS.out (hm.below (next b0 h1))) hph).mono ?_
    rintro e_ w2 ⟨rfl, h2⟩
    have hc_w2 := bcell h2; have hf_w2 := bfree h2
    have hz_w2_0 : w.heap.size < w2.heap.size := by have hz_ := h2.size; (try simp at hz_); omega
    go_wp2_with fail
    refine (length_any A n c _ hnc hcm).mono ?_
    rintro e_ w3 ⟨rfl, h3⟩
    have hc_w3 := bcell h3; have hf_w3 := bfree h3
    have hz_w3_0 : w.heap.size < w3.heap.size := by have hz_ := h3.size; (try simp at hz_); omega
    go_wp2_with fail
    refine (isb (areWithin_any B m d ig 0 ((n : Int) - 1) _ (hy.below (next (next (next b0 h1) h2) h3))) hig).mono ?_
    rintro e_ w4 ⟨rfl, h4⟩
    have hc_w4 := bcell h4; have hf_w4 := bfree h4
    have hz_w4_0 : w.heap.size < w4.heap.size := by have hz_ := h4.size; (try simp at hz_); omega
    go_wp2
    refine bodyPost_ret (v := .tuple #[.agg #[.slice none 0 0, .slice none 0 0], .int .i64 2]) (by simp [results, Tryd.results12, go_sem, hc_w1, hf_w1, hz_w1_0, hc_w2, hf_w2, hz_w2_0, hc_w3, hf_w3, hz_w3_0, hc_w4, hf_w4, hz_w4_0]) rfl ⟨_, _, _, _, _, _, by rw [HF.out], by rw [HF.out]; intro h; exact absurd h (by decide), ?_⟩
    first | exact next (next (next (next b0 h1) h2) h3) h4 | exact ((next (next (next (next b0 h1) h2) h3) h4).setCell (by simp) _).setCell (by simp) _ | exact (next (next (next (next b0 h1) h2) h3) h4).setCell (by simp) _
  · have hh : isAlpha xs = true ∧ ps.all isPhrase = true ∧ ig.all (inB 0 ((xs.length : Int) - 1)) = true := by rcases hrest with ⟨a, b, c, _⟩ | ⟨a, b, c, _⟩ <;> exact ⟨a, b, c⟩
    obtain ⟨ha, hph, hig⟩ := hh
    rw [← hx.1] at hig
    have HALL := Lib.hid (show (ps.all (spAll xs) = false → nsCode xs ig ps = 4) ∧ (ps.all (spAll xs) = true → nsCode xs ig ps = 0) by
      rcases hrest with ⟨_, _, _, e, h⟩ | ⟨_, _, _, e, h⟩
      · exact ⟨fun _ => h.out, fun e' => absurd (e.symm.trans e') (by decide)⟩
      · exact ⟨fun e' => absurd (e.symm.trans e') (by decide), fun _ => h.out⟩)
    clear hrest
    go_enter Tryd.func12, Tryd.ntmps12
    go_wp2_with fail
    refine (isb (IsAlphabet_impl A n c xs _ (hx.below b0)) ha).mono ?_
    rintro e_ w1 ⟨rfl, h1⟩
    have hc_w1 := bcell h1; have hf_w1 := bfree h1
    have hz_w1_0 : w.heap.size < w1.heap.size := by have hz_ := h1.size; (try simp at hz_); omega
    go_wp2_with fail
    refine (isb (arePhrases_any C q f ps _ (hp.below (next b0 h1)) HS.out (hm.below (next b0 h1))) hph).mono ?_
    rintro e_ w2 ⟨rfl, h2⟩
    have hc_w2 := bcell h2; have hf_w2 := bfree h2
    have hz_w2_0 : w.heap.size < w2.heap.size := by have hz_ := h2.size; (try simp at hz_); omega
    go_wp2_with fail
    refine (length_any A n c _ hnc hcm).mono ?_
    rintro e_ w3 ⟨rfl, h3⟩
    have hc_w3 := bcell h3; have hf_w3 := bfree h3
    have hz_w3_0 : w.heap.size < w3.heap.size := by have hz_ := h3.size; (try simp at hz_); omega
    go_wp2_with fail
    refine (isb (areWithin_any B m d ig 0 ((n : Int) - 1) _ (hy.below (next (next (next b0 h1) h2) h3))) hig).mono ?_
    rintro e_ w4 ⟨rfl, h4⟩
    have hc_w4 := bcell h4; have hf_w4 := bfree h4
    have hz_w4_0 : w.heap.size < w4.heap.size := by have hz_ := h4.size; (try simp at hz_); omega
    have bb4 := next (next (next (next b0 h1) h2) h3) h4
    have hx4 := hx.below bb4
    have hp4 := hp.below bb4
    have hm4 := hm.below bb4
    have q0 := cell_keep h4 (cell_keep h3 (cell_keep h2 (cell_keep h1 (show (w.alloc (.cells #[.slice none 0 0, .slice none 0 0] 35)).cell? ⟨w.heap.size, 0, none⟩ = some (.slice none 0 0) by simp))))
    have q1 := cell_keep h4 (cell_keep h3 (cell_keep h2 (cell_keep h1 (show (w.alloc (.cells #[.slice none 0 0, .slice none 0 0] 35)).cell? ⟨w.heap.size, 1, none⟩ = some (.slice none 0 0) by simp))))
    have g0 : w4.frozen? ⟨w.heap.size, 0, none⟩ = false := by rw [hf_w4 _ _ hz_w3_0, hf_w3 _ _ hz_w2_0, hf_w2 _ _ hz_w1_0, hf_w1 _ _ (by simp)]; simp
    have g1 : w4.frozen? ⟨w.heap.size, 1, none⟩ = false := by rw [hf_w4 _ _ hz_w3_0, hf_w3 _ _ hz_w2_0, hf_w2 _ _ hz_w1_0, hf_w1 _ _ (by simp)]; simp
    have HA := Lib.hid ha
    clear hc_w1 hf_w1 hc_w2 hf_w2 hc_w3 hf_w3 hc_w4 hf_w4 hz_w1_0 hz_w2_0 hz_w3_0 h1 h2 h3 h4 ha hph hig b0 z0
    go_wp2
    go_loopw [32] (fun i wr => ∃ k : Nat, k ≤ q ∧ i = .int .i64 k ∧ Hid ((ps.take k).all (spAll xs) = true) ∧ Below w4.heap.size w4 wr) (fun i _ => q - (intOf i).toNat)
    case atStart => exact ⟨0, Nat.zero_le _, rfl, by simp [Hid], Below.refl _ _⟩
    case round =>
      obtain ⟨k, hk, rfl, hup, hb⟩ := hrel
      have y0 := cell_keep hb q0
      have y1 := cell_keep hb q1
      have e0 : wr.frozen? ⟨w.heap.size, 0, none⟩ = false := (bfree hb _ _ hz_w4_0).trans g0
      have e1 : wr.frozen? ⟨w.heap.size, 1, none⟩ = false := (bfree hb _ _ hz_w4_0).trans g1
      have hzr : w.heap.size < wr.heap.size := World.block_lt_of_cell? wr _ y0
      by_cases hlt : k < q
      · obtain ⟨b, off, rfl, hbl⟩ := hp4.at_ k hlt
        obtain ⟨s, hs, c0, hsz⟩ := hp4.el hb hbl k hlt
        have hs2 := HS.out s (List.mem_of_getElem? hs.out)
        have hsp := spelled_any A n c xs s wr (hx4.below hb) hs2 HA.out (hm4.below hb)
        cases hw : spAll xs s with
        | false =>
          rw [hw] at hsp
          have HF := Lib.hid (HALL.out.1 (all_not hs hw))
          clear hw
          go_wp2_with fail
          refine hsp.mono ?_
          rintro e_ w5 ⟨A5, n5, c5, rfl, _, h5⟩
          have x0 := cell_keep h5 y0
          have x1 := cell_keep h5 y1
          have f0 : w5.frozen? ⟨w.heap.size, 0, none⟩ = false := (bfree h5 _ _ hzr).trans e0
          have f1 : w5.frozen? ⟨w.heap.size, 1, none⟩ = false := (bfree h5 _ _ hzr).trans e1
          have HB5 := Lib.hid (next bb4 (next hb h5))
          clear hsp y0 y1 e0 e1 h5
          go_wp2
          refine bodyPost_ret (v := .tuple #[.agg #[.slice none 0 0, .slice none 0 0], .int .i64 4]) (by simp [results, Tryd.results12, go_sem, x0, x1, f0, f1]) rfl ⟨_, _, _, _, _, _, by rw [HF.out], by rw [HF.out]; intro h; exact absurd h (by decide), ?_⟩
          first | exact HB5.out | exact ((HB5.out).setCell (by simp) _).setCell (by simp) _ | exact (HB5.out).setCell (by simp) _
        | true =>
          rw [hw] at hsp
          have HU := Lib.hid (all_at hs hup.out hw)
          clear hw hup
          go_wp2_with fail
          refine hsp.mono ?_
          rintro e_ w5 ⟨A5, n5, c5, rfl, _, h5⟩
          have HB5 := Lib.hid (next hb h5)
          clear hsp y0 y1 e0 e1 h5
          go_wp2
          go_roundw
          case rel => exact ⟨k + 1, by omega, by go_num, HU, HB5.out⟩
          case measure => simp [intOf]; omega
      · have HF := Lib.hid (HALL.out.2 (all_done HPL.out (by omega) hup.out))
        clear hup
        go_wp2
        refine bodyPost_ret (v := .tuple #[.agg #[.slice A n c, .slice B m d], .int .i64 0]) (by simp [results, Tryd.results12, go_sem, y0, y1, e0, e1]) rfl ⟨_, _, _, _, _, _, by rw [HF.out], fun _ => ⟨rfl, rfl, rfl, rfl, rfl, rfl⟩, ?_⟩
        exact ((next bb4 hb).setCell (Nat.le_refl _) _).setCell (Nat.le_refl _) _
end Go.Proofs.YtnjeloggpbgloaaDoor
