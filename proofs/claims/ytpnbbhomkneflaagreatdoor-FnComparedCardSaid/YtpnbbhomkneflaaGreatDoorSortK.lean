/- FindPhrase: the program's and the reference's. -/
import Derived.Test.YtpnbbhomkneflaaGreatDoorSortJ
namespace Go.Proofs.YtpnbbhomkneflaaGreatDoor
open Go.ChangeShapes Go.WideShapes Go.ChangeAt Go.RowKit
theorem ints_none_ {w : World} : Ints w none 0 0 [] := ⟨rfl, ⟨Nat.le_refl _, Nat.zero_le _, rfl, fun h => absurd h (Nat.not_lt_zero _)⟩⟩
theorem ns_vals (xs : List ByteArray) (ig : List Int) (ps : List ByteArray) : nsCode xs ig ps = 0 ∨ nsCode xs ig ps = 1 ∨ nsCode xs ig ps = 2 ∨ nsCode xs ig ps = 4 := by
  rcases ns_cases xs ig ps with ⟨_, e⟩ | ⟨_, _, e⟩ | ⟨_, _, _, e⟩ | ⟨_, _, _, _, e⟩ | ⟨_, _, _, _, e⟩ <;> rw [e.out] <;> simp
set_option maxRecDepth 100000 in
set_option maxHeartbeats 4000000 in
theorem FindPhrase_impl (A C : Option Addr) (n c q f : Nat) (xs : List ByteArray) (ps : List ByteArray) (s : ByteArray) (w : World) (hx : Strs w A n c xs) (hp : Strs w C q f ps) (hq : q ≤ 1048576) (hs : ∀ s ∈ ps, s.size ≤ 1048576) (hss : s.size ≤ 1048576) (hm : MaxCell w) :
    Calls Tryz.prog 12 #[.slice A n c, .slice C q f, .string s] w fun e w' => e = .returned (.tuple #[.int .i64 (fpVal xs ps s), .int .i64 (fpCode xs ps s)]) ∧ Below w.heap.size w w' := by
  obtain ⟨i0, hi, hz0, hz1, hz2⟩ := info_parts infoStr
  have hqm := hp.2.1.cap
  have hqf := hp.2.1.le
  unfold maxLen at hqm
  have HP := Lib.hid hp.1
  have hcl := cloneS_any C q f ps w hp hq
  have HFP := Lib.hid (fp_cases xs ps s)
  have hall : ∀ t ∈ ps ++ [s], t.size ≤ 1048576 := fun t ht => by
    rcases List.mem_append.1 ht with h | h
    · exact hs t h
    · rw [List.mem_singleton.1 h]; exact hss
  have HALL := Lib.hid hall
  have HSS := Lib.hid (And.intro hs hss)
  clear hall hs
  go_enter Tryz.func12, Tryz.ntmps12
  go_wp2_with fail
  refine hcl.mono ?_
  rintro e_ w1 ⟨v1, rfl, o1, h1⟩
  clear hcl
  have hz1_ := h1.size
  go_wp2_with (at_builtin; refine wpList_append_own _ rfl _ _ 24 rfl w.heap.size 9 i0 (.string ⟨#[]⟩) 1 16 Tryz.underlying24 hi hz0 hz1 hz2 rfl (by decide) _ _ _ rfl (o1.alloc _) ⟨w1.heap.size, 0, none⟩ 1 1 [.string s] rfl rfl ?c1 ?c2 ?c3 ?c4 ?c5 ?_)
  case c1 => exact cell_one_new _ _ _
  case c2 => simp [Value.oneCell']
  case c3 => unfold maxLen; omega
  case c4 => omega
  case c5 => first | omega | (simp; omega)
  intro v2 w2 o2 g2 _
  have hb2 : Below w.heap.size w w2 := (h1.alloc h1.size _).grown g2 (by first | omega | (simp; omega)) (fun z hz => (o1.lt z hz).1)
  have o3 : w2.ownsRow w.heap.size 9 1 v2 (ps ++ [s]).length ((ps ++ [s]).map Value.string) := by rw [List.length_append, List.map_append, ← HP.out]; exact o2
  obtain ⟨A2, c2, rfl, x2⟩ := own_strs o3 (fun x hx => by have := HALL.out x hx; unfold maxLen; omega)
  have hns := newSorter_any A none A2 n c 0 0 (ps ++ [s]).length c2 xs [] (ps ++ [s]) w2 (hx.below hb2) ints_none_ x2 HALL.out (hm.below hb2)
  have HLN := Lib.hid (show (ps ++ [s]).length = q + 1 by rw [List.length_append, ← HP.out]; rfl)
  rw [HLN.out] at hns ⊢
  clear o1 o2 o3 g2 h1 x2
  rcases HFP.out with ⟨h0, HF⟩ | ⟨h0, h20, HF⟩ | ⟨h0, h20, hsr, HF⟩ | ⟨h0, h20, hsr, HF⟩
  · obtain ⟨k, hk⟩ : ∃ k, nsCode xs [] (ps ++ [s]) = k := ⟨_, rfl⟩
    rw [hk] at hns h0 HF
    have hne : (k != 0) = true := by rw [bne_iff_ne]; exact h0
    clear hk HFP
    go_wp2_with fail
    refine hns.mono ?_
    rintro e_ w3 ⟨A', n', c', B', m', d', rfl, _, h3⟩
    have HB := Lib.hid (next hb2 (next h3 (boxO w3 (.cells #[.slice A' n' c', .slice B' m' d'] 45))))
    clear hns h3 hb2
    go_wp2
    go_ret2
    exact ⟨by rw [HF.out.1, HF.out.2]; rfl, HB.out⟩
  all_goals
    obtain ⟨ha, hph, hsp, h1s, h2s⟩ := ns_last h0
    rw [h0] at hns
    clear h0 HFP
    go_wp2_with fail
    refine hns.mono ?_
    rintro e_ w3 ⟨A', n', c', B', m', d', rfl, hv, h3⟩
    obtain ⟨rfl, rfl, rfl, rfl, rfl, rfl⟩ := hv trivial
    have hB := next hb2 (next h3 (boxO w3 (.cells #[.slice A' n' c', .slice none 0 0] 45)))
    have z0 : (w3.alloc (.cells #[.slice A' n' c', .slice none 0 0] 45)).cell? ⟨w3.heap.size, 0, none⟩ = some (.slice A' n' c') := by simp
    have z1 : (w3.alloc (.cells #[.slice A' n' c', .slice none 0 0] 45)).cell? ⟨w3.heap.size, 1, none⟩ = some (.slice none 0 0) := by simp
    have HB := Lib.hid hB
    clear hns h3 hb2 hv
  · have h20' : 20 < q := by rw [HP.out]; exact h20
    clear hB
    go_wp2
    go_ret2
    exact ⟨by rw [HF.out.1, HF.out.2]; rfl, HB.out⟩
  · have h20' : ¬ 20 < q := by rw [HP.out]; exact h20
    have hiss := IsSortedFunc_any A' none C n' c' 0 0 q f xs [] ps _ (hx.below hB) ints_none_ (hp.below hB) ha HSS.out.1 hph hsp (hm.below hB)
    rw [hsr] at hiss
    clear hB ha hph hsp h1s h2s hsr h20
    go_wp2_with fail
    refine hiss.mono ?_
    rintro e_ w4 ⟨rfl, h4⟩
    have HB4 := Lib.hid (next HB.out h4)
    clear hiss h4
    go_wp2
    go_ret2
    exact ⟨by rw [HF.out.1, HF.out.2]; rfl, HB4.out⟩
  · have h20' : ¬ 20 < q := by rw [HP.out]; exact h20
    have hiss := IsSortedFunc_any A' none C n' c' 0 0 q f xs [] ps _ (hx.below hB) ints_none_ (hp.below hB) ha HSS.out.1 hph hsp (hm.below hB)
    have HBS := Lib.hid (fun W g1 g2 g3 => BinarySearchFunc_any A' none C n' c' 0 0 q f xs ps s W g1 ints_none_ g2 ha (by omega) HSS.out.1 HSS.out.2 hph hsp h1s h2s hsr g3)
    rw [hsr] at hiss
    clear hB ha hph hsp h1s h2s hsr h20
    go_wp2_with fail
    refine hiss.mono ?_
    rintro e_ w4 ⟨rfl, h4⟩
    have y0 := cell_keep h4 z0
    have y1 := cell_keep h4 z1
    have HB4 := Lib.hid (next HB.out h4)
    clear hiss h4
    have hbs := HBS.out w4 (hx.below HB4.out) (hp.below HB4.out) (hm.below HB4.out)
    go_wp2_with fail
    refine hbs.mono ?_
    rintro e_ w5 ⟨bb, rfl, h5⟩
    have HB5 := Lib.hid (next HB4.out h5)
    clear hbs h5
    go_wp2
    go_ret2
    exact ⟨by rw [HF.out.1, HF.out.2]; rfl, HB5.out⟩
set_option maxRecDepth 100000 in
set_option maxHeartbeats 4000000 in
theorem FindPhrase_spec (A : Option Addr) (bC oC n c q f : Nat) (xs : List ByteArray) (ps : List ByteArray) (s : ByteArray) (w : World) (hx : Strs w A n c xs) (hp : Strs w (some ⟨bC, oC, none⟩) q f ps) (hq : q ≤ 1048576) (hs : ∀ s ∈ ps, s.size ≤ 1048576) (hss : s.size ≤ 1048576) :
    Calls Tryz.prog 13 #[.slice A n c, .slice (some ⟨bC, oC, none⟩) q f, .string s] w fun e w' => e = .returned (.tuple #[.int .i64 (fpVal xs ps s), .int .i64 (fpCode xs ps s)]) ∧ Below w.heap.size w w' := by
  obtain ⟨i0, hi, hz0, hz1, hz2⟩ := info_parts infoStr
  have hqm := hp.2.1.cap
  have hqf := hp.2.1.le
  unfold maxLen at hqm
  have HP := Lib.hid hp.1
  have HFP := Lib.hid (fp_cases xs ps s)
  have hall : ∀ t ∈ s :: ps, t.size ≤ 1048576 := fun t ht => by
    rcases List.mem_cons.1 ht with h | h
    · rw [h]; exact hss
    · exact hs t h
  have HALL := Lib.hid hall
  have HSS := Lib.hid (And.intro hs hss)
  have hnews : ∀ j u, (ps.map Value.string)[j]? = some u → w.cell? ((⟨bC, oC, none⟩ : Addr).add j) = some u := fun j u hu => by
    have h0 : 0 < q := by
      have := (List.getElem?_eq_some_iff.1 hu).1
      rw [HP.out]; simp at this; omega
    obtain ⟨b', off', e, _, hc⟩ := hp.2.1.at_ h0
    injection e with e
    injection e with e1 e2
    subst e1; subst e2
    have e : (⟨bC, oC, none⟩ : Addr).add j = ⟨bC, oC + j, none⟩ := by simp [Addr.add]
    rw [e]
    exact hc j u hu
  clear hall hs
  have b0 := boxO w (.cells #[.string s] 9)
  go_enter Tryz.func13, Tryz.ntmps13
  go_wp2_with (at_builtin; refine wpList_append_own _ rfl _ _ 24 rfl w.heap.size 9 i0 (.string ⟨#[]⟩) 1 16 Tryz.underlying24 hi hz0 hz1 hz2 rfl (by decide) _ _ _ rfl (World.ownsRow_lit (base := w.heap.size) (e := 9) (size := 1) w #[.string s] 1 (Nat.le_refl _) (by unfold maxLen; omega) rfl) ⟨bC, oC, none⟩ q f (ps.map Value.string) rfl ?c0 ?c1 ?c2 ?c3 ?c4 ?c5 ?_)
  case c0 => have := HP.out; simp; omega
  case c1 => exact fun j u hu => cell_keep b0 (hnews j u hu)
  case c2 => intro u hu; obtain ⟨x, _, rfl⟩ := List.mem_map.1 hu; rfl
  case c3 => unfold maxLen; omega
  case c4 => omega
  case c5 => simp
  intro v2 w2 o2 g2 _
  have hb2 : Below w.heap.size w w2 := b0.grown g2 (by simp) (fun k hk => by have e : w.heap.size = k := Option.some.inj hk; omega)
  have o3 : w2.ownsRow w.heap.size 9 1 v2 (s :: ps).length ((s :: ps).map Value.string) := by
    have : (s :: ps).length = 1 + q := by rw [List.length_cons, ← HP.out]; omega
    rw [this]; exact o2
  obtain ⟨A2, c2, rfl, x2⟩ := own_strs o3 (fun x hx => by have := HALL.out x hx; unfold maxLen; omega)
  have HLN := Lib.hid (show (s :: ps).length = q + 1 by rw [List.length_cons, ← HP.out])
  have e1q : q + 1 = 1 + q := by omega
  rw [HLN.out, e1q] at x2 ⊢
  have bI := boxO w2 (.cells #[] 2)
  have hco := l06Code_any A (some ⟨w2.heap.size, 0, none⟩) A2 n c 0 0 (1 + q) c2 xs [] (s :: ps) _ ((hx.below hb2).below bI) (ints_lit0 w2 _) (x2.below bI) HALL.out
  have hB2 := Lib.hid (next hb2 bI)
  clear o2 o3 g2 hnews b0 x2 hb2 bI e1q
  rcases HFP.out with ⟨h0, HF⟩ | ⟨h0, h20, HF⟩ | ⟨h0, h20, hsr, HF⟩ | ⟨h0, h20, hsr, HF⟩
  · have hv := ns_vals xs [] (ps ++ [s])
    obtain ⟨k, hk⟩ : ∃ k, nsCode xs [] (ps ++ [s]) = k := ⟨_, rfl⟩
    have e6 : l6Code xs [] (s :: ps) = k := l6_bad (by rw [ns_swap]; exact hk) (by rw [← hk]; exact h0)
    rw [hk] at h0 HF hv
    rw [e6] at hco
    have hne : (k != 0) = true := by rw [bne_iff_ne]; exact h0
    have hn3 : (k == 3) = false := beq_eq_false_iff_ne.2 (by omega)
    have hn0 : (k == 0) = false := beq_eq_false_iff_ne.2 h0
    clear hk HFP e6 hv
    go_wp2_with fail
    refine hco.mono ?_
    rintro e_ w3 ⟨rfl, h3⟩
    have HB := Lib.hid (next hB2.out h3)
    clear hco h3
    go_wp2
    go_ret2
    exact ⟨by rw [HF.out.1, HF.out.2]; rfl, HB.out⟩
  · have e6 : l6Code xs [] (s :: ps) = 3 := by unfold l6Code; rw [ns_swap, h0, if_pos rfl, if_pos (by simp; omega)]
    rw [e6] at hco
    have h20' : ¬ q ≤ 20 := by rw [HP.out]; omega
    clear HFP e6 h0
    go_wp2_with fail
    refine hco.mono ?_
    rintro e_ w3 ⟨rfl, h3⟩
    have HB := Lib.hid (next hB2.out h3)
    clear hco h3
    go_wp2
    go_ret2
    exact ⟨by rw [HF.out.1, HF.out.2]; rfl, HB.out⟩
  all_goals
    obtain ⟨ha, hph, hsp, h1s, h2s⟩ := ns_last h0
    have h20' : q ≤ 20 := by rw [HP.out]; omega
    have HSO := Lib.hid (fun (W : World) g1 g2 g3 => l06Sorted_any A (some ⟨W.heap.size, 0, none⟩) (some ⟨bC, oC, none⟩) n c 0 0 q f xs [] ps (W.alloc (.cells #[] 2)) g1 g2 g3 ha HSS.out.1 hph)
    rw [hsr] at HSO
    have e6 : l6Code xs [] (s :: ps) = 3 ∨ l6Code xs [] (s :: ps) = 0 := by
      unfold l6Code; rw [ns_swap, h0, if_pos rfl]
      split
      · exact .inl rfl
      · exact .inr rfl
    clear HFP h0 h20
  · rcases e6 with e6 | e6
    all_goals
      rw [e6] at hco
      clear e6
      go_wp2_with fail
      refine hco.mono ?_
      rintro e_ w3 ⟨rfl, h3⟩
      have hb3 := next hB2.out h3
      have hB3 := next hb3 (boxO w3 (.cells #[] 2))
      have hso := HSO.out w3 (hx.below hB3) (ints_lit0 w3 _) (hp.below hB3)
      clear hco h3 hb3 ha hph hsp h1s h2s hsr
      go_wp2_with fail
      refine hso.mono ?_
      rintro e_ w4 ⟨rfl, h4⟩
      have HB4 := Lib.hid (next hB3 h4)
      clear hso h4 hB3
      go_wp2
      go_ret2
      exact ⟨by rw [HF.out.1, HF.out.2]; rfl, HB4.out⟩
  · have HC := Lib.hid (fun (t : ByteArray) (W : World) g1 g2 e1 e2 => l06Compare_any A (some ⟨W.heap.size, 0, none⟩) n c 0 0 xs [] t s (W.alloc (.cells #[] 2)) g1 g2 ha e1 HSS.out.2 e2 h1s)
    have HPH := Lib.hid (List.all_eq_true.1 hph)
    rcases e6 with e6 | e6
    all_goals
      rw [e6] at hco
      clear e6
      go_wp2_with fail
      refine hco.mono ?_
      rintro e_ w3 ⟨rfl, h3⟩
      have hb3 := next hB2.out h3
      have hB3 := next hb3 (boxO w3 (.cells #[] 2))
      have hso := HSO.out w3 (hx.below hB3) (ints_lit0 w3 _) (hp.below hB3)
      clear hco h3 hb3 ha hph hsp h1s h2s hsr
      go_wp2_with fail
      refine hso.mono ?_
      rintro e_ w4 ⟨rfl, h4⟩
      have hb4 := next hB3 h4
      clear hso h4 hB3
      go_wp2
      go_loopw [9] (fun i wr => ∃ k : Nat, k ≤ q ∧ i = .int .i64 k ∧ Hid (∀ t, t < k → bef xs ps s t) ∧ Below w.heap.size w wr) (fun i _ => q - (intOf i).toNat)
      case atStart => exact ⟨0, Nat.zero_le _, rfl, fun t ht => absurd ht (Nat.not_lt_zero _), hb4⟩
      case round =>
        clear hb4
        obtain ⟨k, hk, rfl, hup, hb⟩ := hrel
        by_cases hlt : k < q
        · obtain ⟨t, ht, c0, _⟩ := hp.el hb (by obtain ⟨_, _, e, h⟩ := hp.at_ k hlt; injection e with e; injection e with e; rw [e]; exact h) k hlt
          have hB := next hb (boxO wr (.cells #[] 2))
          have HBI := Lib.hid (show bef xs ps s k ↔ cmpP xs [] t s < 0 by rw [bef_iff, List.getD_eq_getElem?_getD, ht.out]; rfl)
          obtain ⟨r, hr⟩ : ∃ r, cmpP xs [] t s = r := ⟨_, rfl⟩
          have hcc := isn_ (HC.out t wr (hx.below hB) (ints_lit0 wr _) (HSS.out.1 t (List.mem_of_getElem? ht.out)) (HPH.out t (List.mem_of_getElem? ht.out))) hr
          rw [hr] at HBI
          clear hr
          by_cases h0 : r < 0
          · have HU := Lib.hid (show ∀ u, u < k + 1 → bef xs ps s u from fun u hu => by
              by_cases e : u = k
              · rw [e]; exact HBI.out.2 h0
              · exact hup.out u (by omega))
            clear hup
            go_wp2_with fail
            refine hcc.mono ?_
            rintro e_ w5 ⟨rfl, h5⟩
            have HB5 := Lib.hid (next hB h5)
            clear hcc h5 hB
            go_wp2
            go_roundw
            case rel => exact ⟨k + 1, by omega, by go_num, fun u hu => HU.out u hu, HB5.out⟩
            case measure => simp [intOf]; omega
          · have HI := Lib.hid (show fpIdx xs ps s = k from fp_is (by rw [← HP.out]; exact hk) hup.out (fun _ h => h0 (HBI.out.1 h)))
            clear hup
            go_wp2_with fail
            refine hcc.mono ?_
            rintro e_ w5 ⟨rfl, h5⟩
            have HB5 := Lib.hid (next hB h5)
            clear hcc h5 hB
            go_wp2
            go_ret2
            exact ⟨by rw [HF.out.1, HF.out.2, HI.out]; rfl, HB5.out⟩
        · have HI := Lib.hid (show fpIdx xs ps s = k from fp_is (by rw [← HP.out]; exact hk) hup.out (fun h => absurd h (by rw [← HP.out]; exact hlt)))
          clear hup
          go_wp2
          go_ret2
          exact ⟨by rw [HF.out.1, HF.out.2, HI.out]; rfl, hb⟩
end Go.Proofs.YtpnbbhomkneflaaGreatDoor
