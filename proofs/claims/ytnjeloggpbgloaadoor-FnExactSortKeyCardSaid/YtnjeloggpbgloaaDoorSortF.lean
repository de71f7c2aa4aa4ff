/- Phrases compared: the reference's. -/
import Derived.Test.YtnjeloggpbgloaaDoorSortE
namespace Go.Proofs.YtnjeloggpbgloaaDoor
open Go.ChangeShapes Go.WideShapes Go.ChangeAt Go.RowKit
set_option maxHeartbeats 800000 in
theorem l01Has_any (A : Option Addr) (n c : Nat) (xs : List Int) (y : Int) (w : World) (hx : Ints w A n c xs) :
    Calls Tryd.prog 20 #[.slice A n c, .int .i64 y] w fun e w' => e = .returned (.bool (hasG xs y)) ∧ Below w.heap.size w w' := by
  have hcm := hx.2.cap
  have hnc := hx.2.le
  unfold maxLen at hcm
  have HX := Lib.hid hx.1
  go_enter Tryd.func20, Tryd.ntmps20
  go_wp2
  go_loopw [5] (fun i wr => ∃ k : Nat, k ≤ n ∧ i = .int .i64 k ∧ Hid (hasG (xs.take k) y = false) ∧ Below w.heap.size w wr) (fun i _ => n - (intOf i).toNat)
  case atStart => exact ⟨0, Nat.zero_le _, rfl, by simp [Hid, hasG], Below.refl _ _⟩
  case round =>
    obtain ⟨k, hk, rfl, hup, hb⟩ := hrel
    by_cases hlt : k < n
    · obtain ⟨b, off, rfl, hbl⟩ := hx.at_ k hlt
      obtain ⟨x, hx1, c0⟩ := hx.el hb hbl k hlt
      by_cases he : x = y
      · have HF := Lib.hid (show hasG xs y = true from hasG_eq (by rw [← he]; exact hx1.out))
        have hne : (x == y) = true := by rw [he]; simp
        clear hup
        go_wp2
        go_ret
        exact ⟨by rw [HF.out]; rfl, hb⟩
      · have HU := Lib.hid (hasG_succ hx1.out he hup.out)
        have hne : (x == y) = false := by rw [beq_eq_false_iff_ne]; exact he
        clear hup
        go_wp2
        go_roundw
        case rel => exact ⟨k + 1, by omega, by go_num, HU, hb⟩
        case measure => simp [intOf]; omega
    · have HF := Lib.hid (show hasG xs y = false by have := hup.out; rwa [List.take_of_length_le (by have := HX.out; omega)] at this)
      clear hup
      go_wp2
      go_ret
      exact ⟨by rw [HF.out]; rfl, hb⟩
def l6Code (xs : List ByteArray) (ig : List Int) (ps : List ByteArray) : Int := if nsCode xs ig ps = 0 then if 20 < ps.length then 3 else 0 else nsCode xs ig ps
theorem l6_bad {xs : List ByteArray} {ig : List Int} {ps : List ByteArray} {q : Int} (h : nsCode xs ig ps = q) (hq : q ≠ 0) : l6Code xs ig ps = q := by unfold l6Code; rw [h, if_neg hq]
set_option maxRecDepth 100000 in
set_option maxHeartbeats 4000000 in
theorem l06Code_any (A B C : Option Addr) (n c m d q f : Nat) (xs : List ByteArray) (ig : List Int) (ps : List ByteArray) (w : World) (hx : Strs w A n c xs) (hy : Ints w B m d ig) (hp : Strs w C q f ps) (hs : ∀ s ∈ ps, s.size ≤ 1048576) :
    Calls Tryd.prog 9 #[.slice A n c, .slice C q f, .slice B m d] w fun e w' => e = .returned (.int .i64 (l6Code xs ig ps)) ∧ Below w.heap.size w w' := by
  have hcm := hx.2.1.cap
  have hnc := hx.2.1.le
  have hdm := hy.2.cap
  have hmd := hy.2.le
  have hqm := hp.2.1.cap
  have hqf := hp.2.1.le
  unfold maxLen at hcm hqm hdm
  have HX := Lib.hid hx.1
  have HY := Lib.hid hy.1
  have HP := Lib.hid hp.1
  have HS := Lib.hid hs
  clear hs
  cases ha : isAlpha xs with
  | false =>
    have HF := Lib.hid (show l6Code xs ig ps = 1 from l6_bad (by unfold nsCode; rw [ha]; simp) (by decide))
    go_enter Tryd.func9, Tryd.ntmps9
    go_wp2_with fail
    refine (isb (IsAlphabet_spec A n c xs _ hx) ha).mono ?_
    rintro e_ w1 ⟨rfl, h1⟩
    have hc_w1 := bcell h1; have hf_w1 := bfree h1
    go_wp2
    go_ret
    exact ⟨by rw [HF.out]; rfl, h1⟩
  | true =>
  have HA := Lib.hid ha
  go_enter Tryd.func9, Tryd.ntmps9
  go_wp2_with fail
  refine (isb (IsAlphabet_spec A n c xs _ hx) ha).mono ?_
  rintro e_ w1 ⟨rfl, h1⟩
  have hc_w1 := bcell h1; have hf_w1 := bfree h1
  clear ha hc_w1 hf_w1
  go_wp2
  go_loopw [7] (fun i wr => ∃ k : Nat, k ≤ q ∧ i = .int .i64 k ∧ Hid ((ps.take k).all isPhrase = true) ∧ Below w.heap.size w wr) (fun i _ => q - (intOf i).toNat)
  case atStart => exact ⟨0, Nat.zero_le _, rfl, by simp [Hid], h1⟩
  case round =>
    clear h1
    obtain ⟨k, hk, rfl, hup, hb⟩ := hrel
    by_cases hlt : k < q
    · obtain ⟨b, off, rfl, hbl⟩ := hp.at_ k hlt
      obtain ⟨s, hs, c0, hsz⟩ := hp.el hb hbl k hlt
      have hs2 := HS.out s (List.mem_of_getElem? hs.out)
      cases hw : isPhrase s
      · go_wp2_with fail
        refine (isb (IsPhrase_spec s _ hs2) hw).mono ?_
        rintro e_ w2 ⟨rfl, h2⟩
        have hc_w2 := bcell h2; have hf_w2 := bfree h2
        have HF := Lib.hid (show l6Code xs ig ps = 1 from l6_bad (by unfold nsCode; rw [all_not hs hw]; simp) (by decide))
        go_wp2
        go_ret
        exact ⟨by rw [HF.out]; rfl, next hb h2⟩
      · go_wp2_with fail
        refine (isb (IsPhrase_spec s _ hs2) hw).mono ?_
        rintro e_ w2 ⟨rfl, h2⟩
        have hc_w2 := bcell h2; have hf_w2 := bfree h2
        have HU := Lib.hid (all_at hs hup.out hw)
        clear hup
        go_wp2
        go_roundw
        case rel => exact ⟨k + 1, by omega, by go_num, HU, next hb h2⟩
        case measure => simp [intOf]; omega
    · have HPH := Lib.hid (all_done HP.out (by omega) hup.out)
      clear hup
      rename World => wo
      go_wp2
      go_loopw [8] (fun i wr => ∃ k : Nat, k ≤ m ∧ i = .int .i64 k ∧ Hid ((ig.take k).all (inB 0 ((n : Int) - 1)) = true) ∧ Below w.heap.size w wr) (fun i _ => m - (intOf i).toNat)
      case atStart => exact ⟨0, Nat.zero_le _, rfl, by simp [Hid], hb⟩
      case round =>
        clear hb
        obtain ⟨k2, hk2, rfl, hup, hb⟩ := hrel
        by_cases hlt2 : k2 < m
        · obtain ⟨b, off, rfl, hbl⟩ := hy.at_ k2 hlt2
          obtain ⟨i, hi, c0⟩ := hy.el hb hbl k2 hlt2
          cases hw : inB 0 ((n : Int) - 1) i
          · go_wp2_with fail
            refine (isb (l01In_any i 0 ((n : Int) - 1) _) hw).mono ?_
            rintro e_ w2 ⟨rfl, h2⟩
            have hc_w2 := bcell h2; have hf_w2 := bfree h2
            have HF := Lib.hid (show l6Code xs ig ps = 2 from l6_bad (by unfold nsCode; rw [HA.out, HPH.out, ← HX.out, all_not hi hw]; simp) (by decide))
            go_wp2
            go_ret
            exact ⟨by rw [HF.out]; rfl, next hb h2⟩
          · go_wp2_with fail
            refine (isb (l01In_any i 0 ((n : Int) - 1) _) hw).mono ?_
            rintro e_ w2 ⟨rfl, h2⟩
            have hc_w2 := bcell h2; have hf_w2 := bfree h2
            have HU := Lib.hid (all_at hi hup.out hw)
            clear hup
            go_wp2
            go_roundw
            case rel => exact ⟨k2 + 1, by omega, by go_num, HU, next hb h2⟩
            case measure => simp [intOf]; omega
        · have HIG := Lib.hid (all_done HY.out (by omega) hup.out)
          clear hup
          have HNS := Lib.hid (show nsCode xs ig ps = if ps.all (spAll xs) = true then 0 else 4 by unfold nsCode; rw [HA.out, HPH.out, ← HX.out, HIG.out]; simp)
          rename World => wp
          go_wp2
          go_loopw [9] (fun i wr => ∃ k : Nat, k ≤ q ∧ i = .int .i64 k ∧ Hid ((ps.take k).all (spAll xs) = true) ∧ Below w.heap.size w wr) (fun i _ => q - (intOf i).toNat)
          case atStart => exact ⟨0, Nat.zero_le _, rfl, by simp [Hid], hb⟩
          case round =>
            clear hb
            obtain ⟨k3, hk3, rfl, hup, hb⟩ := hrel
            by_cases hlt3 : k3 < q
            · obtain ⟨b, off, rfl, hbl⟩ := hp.at_ k3 hlt3
              obtain ⟨s, hs, c0, hsz⟩ := hp.el hb hbl k3 hlt3
              have hs2 := HS.out s (List.mem_of_getElem? hs.out)
              have hph := List.all_eq_true.1 HPH.out s (List.mem_of_getElem? hs.out)
              have hlp := l01Phrase_any s wr hs2
              rw [hph] at hlp
              have HSP := Lib.hid (show spAll xs s = (cutS 32 s).all (spellOk xs) from rfl)
              have hmx := cut_max hs2
              have hws : ∀ x ∈ cutS 32 s, x.size ≤ 1048576 := fun x hx => by have := cutS_each hx; omega
              have HWS := Lib.hid hws
              generalize cutS 32 s = L at *
              clear hws
              rename World => wq
              go_wp2_with fail
              refine hlp.mono ?_
              rintro e_ w2 ⟨v, rfl, hown, h2⟩
              replace hown := hown trivial
              obtain ⟨A2, c2, rfl, x2⟩ := own_strs hown hmx.2
              have hnc2 := x2.2.1.le
              have hcm2 := x2.2.1.cap
              unfold maxLen at hcm2
              have hb2 := next hb h2
              clear hlp hown hmx h2
              go_wp2
              go_loopw [12] (fun i wr => ∃ k : Nat, k ≤ L.length ∧ i = .int .i64 k ∧ Hid ((L.take k).all (spellOk xs) = true) ∧ Below w2.heap.size w2 wr) (fun i _ => L.length - (intOf i).toNat)
              case atStart => exact ⟨0, Nat.zero_le _, rfl, by simp [Hid], Below.refl _ _⟩
              case round =>
                obtain ⟨k4, hk4, rfl, hup4, hb4⟩ := hrel
                by_cases hlt4 : k4 < L.length
                · obtain ⟨b4, off4, rfl, hbl4⟩ := x2.at_ k4 hlt4
                  obtain ⟨t, ht, d0, htz⟩ := x2.el hb4 hbl4 k4 hlt4
                  have ht2 := HWS.out t (List.mem_of_getElem? ht.out)
                  have hsp := l03Spell_any A n c xs t wr (hx.below (next hb2 hb4)) ht2 HA.out
                  cases hw : spellOk xs t with
                  | false =>
                    rw [hw] at hsp
                    have HF := Lib.hid (show l6Code xs ig ps = 4 from l6_bad (by rw [HNS.out, all_not hs (show spAll xs s = false by rw [HSP.out]; exact all_not ht hw)]; rfl) (by decide))
                    clear hw
                    go_wp2_with fail
                    refine hsp.mono ?_
                    rintro e_ w5 ⟨v5, rfl, _, h5⟩
                    have HB5 := Lib.hid (next (next hb2 hb4) h5)
                    clear hsp h5
                    go_wp2
                    go_ret
                    exact ⟨by rw [HF.out]; rfl, HB5.out⟩
                  | true =>
                    rw [hw] at hsp
                    have HU4 := Lib.hid (all_at ht hup4.out hw)
                    clear hw hup4
                    go_wp2_with fail
                    refine hsp.mono ?_
                    rintro e_ w5 ⟨v5, rfl, _, h5⟩
                    have HB5 := Lib.hid (next hb4 h5)
                    clear hsp h5
                    go_wp2
                    go_roundw
                    case rel => exact ⟨k4 + 1, by omega, by go_num, HU4, HB5.out⟩
                    case measure => simp [intOf]; omega
                · have HU := Lib.hid (all_at hs hup.out (show spAll xs s = true by rw [HSP.out]; exact all_done rfl (by omega) hup4.out))
                  have HB5 := Lib.hid (next hb2 hb4)
                  clear hup hup4
                  go_wp2
                  go_roundw
                  case rel => exact ⟨k3 + 1, by omega, by go_num, HU, HB5.out⟩
                  case measure => simp [intOf]; omega
            · have HALL := Lib.hid (all_done HP.out (by omega) hup.out)
              have HQ := Lib.hid (show l6Code xs ig ps = if 20 < q then 3 else 0 by unfold l6Code; rw [HNS.out, HALL.out, ← HP.out]; simp)
              clear hup
              by_cases h20 : 20 < q
              · have HF := Lib.hid (show l6Code xs ig ps = 3 by rw [HQ.out, if_pos h20])
                go_wp2
                go_ret
                exact ⟨by rw [HF.out]; rfl, hb⟩
              · have HF := Lib.hid (show l6Code xs ig ps = 0 by rw [HQ.out, if_neg h20])
                go_wp2
                go_ret
                exact ⟨by rw [HF.out]; rfl, hb⟩
end Go.Proofs.YtnjeloggpbgloaaDoor
