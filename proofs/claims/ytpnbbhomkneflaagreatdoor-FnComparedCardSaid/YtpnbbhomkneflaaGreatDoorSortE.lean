/- Phrases compared: the program's less and compare. -/
import Derived.Test.YtpnbbhomkneflaaGreatDoorSortD
namespace Go.Proofs.YtpnbbhomkneflaaGreatDoor
open Go.ChangeShapes Go.WideShapes Go.ChangeAt Go.RowKit
set_option maxRecDepth 100000 in
set_option maxHeartbeats 2000000 in
theorem less_any (A B C : Option Addr) (n c m d q f : Nat) (ig : List Int) (L : List (List Int)) (w : World) (hy : Ints w B m d ig) (hl : Lists w C q f L) (hs : ∀ x ∈ L, x.length ≤ 1048576) (hq : q ≤ 1048577) :
    Calls Tryz.prog 47 #[.agg #[.slice A n c, .slice B m d], .slice C q f] w fun e w' => ∃ A' c', e = .returned (.slice A' q c') ∧ Lists w' A' q c' (L.map (keepI ig)) ∧ Below w.heap.size w w' := by
  have hcm := hl.cap.2
  have hnc := hl.cap.1
  unfold maxLen at hcm
  have HL := Lib.hid hl.1
  have HS := Lib.hid hs
  clear hs
  have b0 := boxO w (.cells #[.slice A n c, .slice B m d] 45)
  have y0 := hy.below b0
  have l0 := hl.below b0
  have p1 : (w.alloc (.cells #[.slice A n c, .slice B m d] 45)).cell? ⟨w.heap.size, 1, none⟩ = some (.slice B m d) := by simp
  obtain ⟨i0, hi, hz0, hz1, hz2⟩ := info_parts infoSl
  go_enter Tryz.func47, Tryz.ntmps47
  go_wp2
  generalize w.alloc (.cells #[.slice A n c, .slice B m d] 45) = w1 at *
  go_loopw [5, 10] (fun v i wr => ∃ (k : Nat) (us : List Value) (v1 : Value), k ≤ q ∧ i = .int .i64 k ∧ v1 = v ∧ Hid (OwnL wr w1.heap.size v1 k ((L.take k).map (keepI ig)) us) ∧ Below w1.heap.size w1 wr) (fun _ i _ => q - (intOf i).toNat)
  case atStart => exact ⟨0, [], _, Nat.zero_le _, rfl, rfl, by rw [List.take_zero]; exact OwnL.nil _ _, Below.refl _ _⟩
  case round =>
    obtain ⟨k, us, v1, hk, rfl, rfl, hown, hb⟩ := hrel
    have hz3 := hb.size
    by_cases hlt : k < q
    · obtain ⟨b, off, rfl, hbl⟩ := l0.at_ k hlt
      obtain ⟨Bk, mk, dk, x, hx1, c0, zk⟩ := l0.el hb k hlt
      have hxl := HS.out x (List.mem_of_getElem? hx1.out)
      have hmk : mk ≤ 1048576 := by have := zk.1; omega
      have hcl := clone_any Bk mk dk x wr zk hmk
      go_wp2_with fail
      refine hcl.mono ?_
      rintro e_ w2 ⟨v2, rfl, o2, h2⟩
      have hdf := DeleteFunc_ig v2 mk wr.heap.size w.heap.size m d B x ig wr w2 o2 h2 (Nat.le_refl _) h2.size (cell_keep hb p1) (y0.below hb)
      clear hcl o2
      go_wp2_with fail
      refine hdf.mono ?_
      rintro e_ w3 ⟨u, rfl, o3, h3⟩
      clear hdf
      obtain ⟨Au, cu, rfl, xu⟩ := own_ints_ o3
      have h23 : Below wr.heap.size wr w3 := h2.trans h3
      have hrow3 := own_below hown.out.row h23
      have hz4 := h23.size
      clear xu
      go_wp2_with (at_builtin; refine wpList_append_own_at _ rfl _ _ 75 rfl w1.heap.size 25 i0 (.slice none 0 0) 1 24 Tryz.underlying75 hi hz0 hz1 hz2 rfl (by decide) _ _ _ rfl (hrow3.alloc _) ⟨w3.heap.size, 0, none⟩ 1 1 [.slice Au (keepI ig x).length cu] rfl rfl ?c1 ?c2 ?c3 ?c4 ?c5 ?_)
      case c1 => exact cell_one_new _ _ _
      case c2 => simp [Value.oneCell']
      case c3 => unfold maxLen; omega
      case c4 => omega
      case c5 => first | omega | (simp; omega)
      intro v4 w4 hown4 hgrow _ hlie
      have hb4 := h23.alloc h23.size (.cells #[.slice Au (keepI ig x).length cu] 25)
      have F := hown.out.snoc (u := .slice Au (keepI ig x).length cu) (xs := keepI ig x) hb4 (own_below o3 (boxO w3 _)) hgrow (by simpa using hlie) hown4 hz3
      rw [← map_take_succ hx1.out] at F
      have HO := Lib.hid F
      have HB4 := Lib.hid ((nextO hb hb4 hz3).grown hgrow (by have := hb4.size; simp at this; (first | omega | (simp; omega))) (fun q hq => (hrow3.lt q hq).1))
      clear F hown4 hgrow hlie hown o3 hb4 h2 h3 h23 hrow3
      go_wp2
      go_roundw
      case rel => exact ⟨k + 1, _, _, by omega, by go_num, rfl, HO, HB4.out⟩
      case measure => simp [intOf]; omega
    · obtain rfl : k = q := by omega
      have h2 := hown.out
      rw [List.take_of_length_le (by have := HL.out; omega)] at h2
      obtain ⟨A4, c4, rfl, hL⟩ := h2.lists
      have HL := Lib.hid hL
      clear h2 hown hL
      go_wp2
      go_ret
      exact ⟨_, _, rfl, HL.out, next b0 hb⟩
theorem spell_lens (xs : List ByteArray) {s : ByteArray} (h : isPhrase s = true) : (sps xs s).length ≤ 8 ∧ ∀ l ∈ sps xs s, l.length ≤ 16 := by
  obtain ⟨h1, h2⟩ := phrase_words h
  unfold sps
  refine ⟨by rw [List.length_map]; exact h1, fun l hl => ?_⟩
  obtain ⟨t, ht, rfl⟩ := List.mem_map.1 hl
  have := spellList_len xs t
  have := h2 t ht
  omega
theorem phrase_size_ {s : ByteArray} (h : isPhrase s = true) (hs : s.size ≤ maxLen) : s.size ≤ maxLen := hs
theorem orI_two (a b : Int) : orI [a, b] = if a = 0 then b else a := by
  unfold orI
  by_cases h : a = 0
  · rw [if_pos h, if_pos h]
    unfold orI
    by_cases h2 : b = 0
    · rw [if_pos h2, h2]; rfl
    · rw [if_neg h2]
  · rw [if_neg h, if_neg h]
theorem ints_lit2 (w : World) (a b : Int) (t : TypeId) : Ints (w.alloc (.cells #[.int .i64 a, .int .i64 b] t)) (some ⟨w.heap.size, 0, none⟩) 2 2 [a, b] :=
  ⟨rfl, ⟨Nat.le_refl _, by unfold maxLen; omega, rfl, fun _ => ⟨w.heap.size, 0, rfl, by simp, fun j u hu => by
    rw [Nat.zero_add]
    match j, hu with
    | 0, hu => simp at hu; subst hu; go_simp
    | 1, hu => simp at hu; subst hu; go_simp
    | j + 2, hu => simp at hu⟩⟩⟩
set_option maxRecDepth 100000 in
set_option maxHeartbeats 4000000 in
theorem compare_any (A B : Option Addr) (n c m d : Nat) (xs : List ByteArray) (ig : List Int) (s t : ByteArray) (w : World) (hx : Strs w A n c xs) (hy : Ints w B m d ig) (ha : isAlpha xs = true) (hm : MaxCell w) (hs : s.size ≤ 1048576) (ht : t.size ≤ 1048576)
    (ps : isPhrase s = true) (pt : isPhrase t = true) (as_ : spAll xs s = true) (at_ : spAll xs t = true) :
    Calls Tryz.prog 20 #[.agg #[.slice A n c, .slice B m d], .string s, .string t] w fun e w' => e = .returned (.int .i64 (cmpP xs ig s t)) ∧ Below w.heap.size w w' := by
  have b0 := boxO w (.cells #[.slice A n c, .slice B m d] 45)
  have hx0 := hx.below b0
  have hy0 := hy.below b0
  have hm0 := hm.below b0
  have p0 : (w.alloc (.cells #[.slice A n c, .slice B m d] 45)).cell? ⟨w.heap.size, 0, none⟩ = some (.slice A n c) := by simp
  have p1 : (w.alloc (.cells #[.slice A n c, .slice B m d] 45)).cell? ⟨w.heap.size, 1, none⟩ = some (.slice B m d) := by simp
  obtain ⟨ls1, ls2⟩ := spell_lens xs ps
  obtain ⟨lt1, lt2⟩ := spell_lens xs pt
  have HF := Lib.hid (show cmpP xs ig s t = orI [cmpL ((sps xs s).map (keepI ig)) ((sps xs t).map (keepI ig)), cmpL (sps xs s) (sps xs t)] by
    rw [orI_two]; unfold cmpP; rw [onceP_nil]; rfl)
  have hp1 := spelled_any A n c xs s _ hx0 hs ha hm0
  rw [as_] at hp1
  have HPT := Lib.hid (fun W h1 h2 => spelled_any A n c xs t W h1 ht ha h2)
  have HAT := Lib.hid at_
  clear ps pt as_ at_ ha
  go_enter Tryz.func20, Tryz.ntmps20
  go_wp2_with fail
  refine hp1.mono ?_
  rintro e_ w1 ⟨A1, n1, c1, rfl, hL1, h1⟩
  have hL1 := hL1 trivial
  have q0 := cell_keep h1 p0
  have q1 := cell_keep h1 p1
  have hq2 := HPT.out w1 (hx0.below h1) (hm0.below h1)
  rw [HAT.out] at hq2
  have HB1 := Lib.hid (next b0 h1)
  have hy1 := hy0.below h1
  clear hp1 p0 p1 h1 b0 hx0 hy0 hm0 HPT
  go_wp2_with fail
  refine hq2.mono ?_
  rintro e_ w2 ⟨A2, n2, c2, rfl, hL2, h2⟩
  have hL2 := hL2 trivial
  have r0 := cell_keep h2 q0
  have r1 := cell_keep h2 q1
  have hL1 := hL1.below h2
  have hy2 := hy1.below h2
  have HB2 := Lib.hid (next HB1.out h2)
  clear hq2 q0 q1 h2 hy1 HB1 HAT
  generalize sps xs s = L1 at *
  generalize sps xs t = L2 at *
  have HN1 := Lib.hid hL1.1
  have HN2 := Lib.hid hL2.1
  have n1b : n1 ≤ 1048577 := by have := HN1.out; omega
  have n2b : n2 ≤ 1048577 := by have := HN2.out; omega
  have HM1 := Lib.hid (show ∀ x ∈ L1, x.length ≤ 1048576 from fun x hx => by have := ls2 x hx; omega)
  have HM2 := Lib.hid (show ∀ x ∈ L2, x.length ≤ 1048576 from fun x hx => by have := lt2 x hx; omega)
  clear ls2 lt2
  have HD : Below w2.heap.size w2 w2.drew := (Below.refl _ _).drew
  have d0 := cell_keep HD r0
  have d1 := cell_keep HD r1
  have dL1 := hL1.below HD
  have dL2 := hL2.below HD
  have dy := hy2.below HD
  go_wp2_with fail
  (go_region_law (first
    | (go_simp; go_at_call 47; refine (less_any A B A1 n c m d n1 c1 ig L1 _ dy dL1 HM1.out n1b).mono ?_; rintro e_ w3 ⟨A3, c3, rfl, K3, h3⟩; have t0 := cell_keep h3 d0; have t1 := cell_keep h3 d1; have tL1 := dL1.below h3; have tL2 := dL2.below h3; have ty := dy.below h3; clear dL1 dL2 dy)
    | (go_simp; go_at_call 47; refine (less_any A B A2 n c m d n2 c2 ig L2 _ ty tL2 HM2.out n2b).mono ?_; rintro e_ w4 ⟨A4, c4, rfl, K4, h4⟩; have K3' := K3.below h4; have uL1 := tL1.below h4; have uL2 := tL2.below h4; clear tL1 tL2 ty K3)
    | (go_simp; go_at_call 46; refine (compareSpellings_any A3 A4 n1 c3 n2 c4 _ _ _ K3' K4).mono ?_; rintro e_ w5 ⟨rfl, h5⟩; have vL1 := uL1.below h5; have vL2 := uL2.below h5; clear uL1 uL2 K3' K4)
    | (go_simp; go_at_call 46; refine (compareSpellings_any A1 A2 n1 c1 n2 c2 _ _ _ vL1 vL2).mono ?_; rintro e_ w6 ⟨rfl, h6⟩; clear vL1 vL2)
    | (go_simp; go_at_call 45; refine (cmpOr_any _ 2 2 _ _ (ints_lit2 w6 _ _ _)).mono ?_; rintro e_ w7 ⟨rfl, h7⟩)))
  all_goals
    have HB7 := Lib.hid (next (next (next (next (next (next (next HB2.out HD) h3) h4) h5) h6) (boxO w6 _)) h7)
    clear h3 h4 h5 h6 h7 t0 t1
    go_wp2
    go_ret
    exact ⟨by rw [HF.out]; rfl, HB7.out⟩
end Go.Proofs.YtpnbbhomkneflaaGreatDoor
