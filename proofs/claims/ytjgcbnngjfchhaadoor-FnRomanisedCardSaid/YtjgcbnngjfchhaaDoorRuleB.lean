/- The rules used: what the functions compute. -/
import Derived.Test.YtjgcbnngjfchhaaDoorRuleA
namespace Go.Proofs.YtjgcbnngjfchhaaDoor
open Go.ChangeShapes Go.WideShapes Go.ChangeAt Go.RowKit

def lenOf : Value → Nat
  | .slice _ n _ => n
  | _ => 0
theorem ints_none {w : World} {A : Option Addr} {c : Nat} {xs : List Int} (hc : c ≤ maxLen) (h : xs = []) : Ints w A 0 c xs := by
  subst h
  exact ⟨rfl, Nat.zero_le _, hc, rfl, fun h => absurd h (by omega)⟩
theorem ints_end {w : World} {A : Option Addr} {n : Nat} {xs : List Int} (hn : n = 0) (h : xs = []) : Ints w A n 0 xs := by
  subst hn
  exact ints_none (by unfold maxLen; omega) h
theorem best_is {T : List Rl} {s : List Int} {n m : Nat} (hn : n = s.length) (hm : m = min 3 n) : best T s = bestTo T s m := by unfold best; rw [hm, hn]
theorem bestTo_yes {T : List Rl} {s : List Int} {m : Nat} {q : Int} (h : fndR T (s.take (m + 1)) = q) (hq : 0 ≤ q) : bestTo T s (m + 1) = q := by
  conv => lhs; unfold bestTo
  rw [h, if_pos hq]
theorem bestTo_no {T : List Rl} {s : List Int} {m : Nat} {q : Int} (h : fndR T (s.take (m + 1)) = q) (hq : ¬ 0 ≤ q) : bestTo T s (m + 1) = bestTo T s m := by
  conv => lhs; unfold bestTo
  rw [h, if_neg hq]

set_option maxRecDepth 100000 in
set_option maxHeartbeats 4000000 in
theorem l04Used_any (A B : Option Addr) (n c m d : Nat) (T : List Rl) (s0 : List Int) (w : World) (hx : Rules w A n c T) (hy : Ints w B m d s0) (hm : m ≤ 1000000) :
    Calls Tryd.prog 55 #[.slice A n c, .slice B m d] w fun e w' => ∃ v, e = .returned (.tuple #[v, .bool (usedOk T s0)]) ∧ w'.ownsRow w.heap.size 2 1 v (usedList T s0).length ((usedList T s0).map (Value.int .i64)) ∧ Below w.heap.size w w' := by
  have hcm := hx.cap.2
  have hnc := hx.cap.1
  have HX := Lib.hid hx.1
  have HS := Lib.hid hy.1
  unfold maxLen at hcm
  obtain ⟨i0, hi, hz0, hz1, hz2⟩ := info_parts infoInt
  go_enter Tryd.func55, Tryd.ntmps55
  go_wp2
  go_loopw [1, 6] (fun sg rv wr => ∃ (f j : Nat) (P : List Int) (B' : Option Addr) (m' d' : Nat), sg = .slice B' m' d' ∧ Ints w B' m' d' (s0.drop j) ∧ Hid (Usd T s0 f j P) ∧ P.length ≤ j ∧ j + m' = m ∧ Hid (wr.ownsRow w.heap.size 2 1 rv P.length (P.map (Value.int .i64))) ∧ Below w.heap.size w wr) (fun sg _ _ => lenOf sg)
  case atStart => exact ⟨s0.length, 0, [], B, m, d, rfl, by simpa using hy, usd_start T s0, by simp, by omega, World.ownsRow_lit w #[] 0 (Nat.le_refl _) (by unfold maxLen; omega) rfl, one_box _ _⟩
  case round =>
    obtain ⟨f, j, P, B', m', d', rfl, hzw, hsp, hPl, hjm, hown, hb⟩ := hrel
    have hz := hzw.below hb
    have hz3 := hb.size
    have hdm := hz.2.cap
    have hmd := hz.2.le
    have HZ := Lib.hid hz.1
    unfold maxLen at hdm
    by_cases h0 : 0 < m'
    · obtain ⟨cur, hcur⟩ : ∃ cur, s0.drop j = cur := ⟨_, rfl⟩
      rw [hcur] at hz HZ hzw
      obtain ⟨b', off', rfl, hbl'⟩ := hzw.at_ 0 h0
      have HC := Lib.hid hcur
      clear hcur
      go_wp2
      go_loopw [7, 8] (fun bv nv wq => ∃ (q : Nat) (a : Int), nv = .int .i64 ((q + 1 : Nat) : Int) ∧ bv = .int .i64 a ∧ q ≤ 3 ∧ q ≤ m' ∧ -1 ≤ a ∧ Hid (bestTo T cur q = a) ∧ Below wr.heap.size wr wq) (fun _ nv _ => (4 - intOf nv).toNat)
      case atStart => exact ⟨0, -1, rfl, rfl, by omega, by omega, by omega, rfl, Below.refl _ _⟩
      case round =>
        obtain ⟨q, a, rfl, rfl, hq3, hqm, ha1, hba, hb2⟩ := hrel
        have hbv := next hb hb2
        have hzv := hz.below hb2
        have hxv := hx.below hbv
        by_cases hgo : q < 3 ∧ q < m'
        · obtain ⟨hg1, hg2⟩ := hgo
          obtain ⟨k, hk⟩ : ∃ k : Int, fndR T (cur.take (q + 1)) = k := ⟨_, rfl⟩
          have hkm : -1 ≤ k := by rw [← hk]; exact fndR_min _ _
          have hfn := isn (l04Find_any A (some ⟨b', off', none⟩) n c (q + 1) d' T (cur.take (q + 1)) wr hxv (hzv.take (q + 1) (by omega))) hk
          by_cases hk0 : 0 ≤ k
          · have HB := Lib.hid (bestTo_yes hk hk0)
            clear hba hk
            go_wp2_with fail
            refine hfn.mono ?_
            rintro e_ w3 ⟨rfl, h3⟩
            clear hfn
            go_wp2
            go_roundw
            case rel => exact ⟨q + 1, k, by go_num, rfl, by omega, by omega, hkm, HB, next hb2 h3⟩
            case measure => simp [intOf]; omega
          · have HB := Lib.hid ((bestTo_no hk hk0).trans hba.out)
            clear hba hk
            go_wp2_with fail
            refine hfn.mono ?_
            rintro e_ w3 ⟨rfl, h3⟩
            clear hfn
            go_wp2
            go_roundw
            case rel => exact ⟨q + 1, a, by go_num, rfl, by omega, by omega, ha1, HB, next hb2 h3⟩
            case measure => simp [intOf]; omega
        · have hbe := (best_is HZ.out (m := q) (by omega)).trans hba.out
          have hqm2 : q = min 3 m' := by omega
          by_cases hneg : a < 0
          · have hsn := usd_fail hsp.out (by have := HS.out; omega) (by rw [HC.out, hbe]; exact hneg)
            have HF := Lib.hid (show usedOk T s0 = false ∧ usedList T s0 = [] by unfold usedOk usedList; rw [hsn]; exact ⟨rfl, rfl⟩)
            clear hsn hbe hba hsp hqm2
            rcases Nat.lt_or_ge q 3 with hq | hq
            all_goals
              go_wp2
              go_ret2
              exact ⟨_, by rw [HF.out.1]; rfl, by rw [HF.out.2]; exact World.ownsRow_nil _ _ _ _, hbv⟩
          · obtain ⟨p, rfl⟩ : ∃ p : Nat, a = p := ⟨a.toNat, by omega⟩
            obtain ⟨k, r, hk1, hkq, hTp⟩ := bestTo_get hba.out
            have hpn : p < n := by have := (List.getElem?_eq_some_iff.1 hTp).1; have := HX.out; omega
            have HTP := Lib.hid hTp
            have hlk : (cur.take k).length = k := by rw [List.length_take, ← HZ.out]; omega
            have HS2 := Lib.hid (usd_next (k := k) hsp.out (by have := HS.out; omega) (by rw [HC.out]; exact hbe) hTp hlk hk1 (by have := HS.out; omega))
            have HLK := Lib.hid hlk
            clear hbe hba hsp hTp hlk hqm2
            have hown1 := own_below hown.out hb2
            have hz4 := hbv.size
            rcases Nat.lt_or_ge q 3 with hq | hq
            all_goals
              go_wp2_with (at_builtin; refine wpList_append_own _ rfl _ _ 24 rfl w.heap.size 2 i0 (.int .i64 0) 1 8 Tryd.underlying24 hi hz0 hz1 hz2 rfl (by decide) _ _ _ rfl (hown1.alloc _) ⟨wr.heap.size, 0, none⟩ 1 1 [.int .i64 p] rfl rfl ?c1 ?c2 ?c3 ?c4 ?c5 ?_)
              case c2 => simp [Value.oneCell']
              case c3 => unfold maxLen; omega
              case c4 => omega
              case c5 => (try simp); (try omega)
              intro v4 w4 hown4 hgrow hrest
              have HO : Hid (w4.ownsRow w.heap.size 2 1 v4 (P ++ [(p : Int)]).length ((P ++ [(p : Int)]).map (Value.int .i64))) := by rw [List.length_append, List.map_append]; exact hown4
              have HB : Hid (Below w.heap.size w w4) := (hbv.alloc hz4 _).grown hgrow (by simp; omega) (fun z hz => (hown1.lt z hz).1)
              obtain ⟨b, off, rfl, hbl⟩ := hx.at_ p hpn
              obtain ⟨B2, m2, d2, xs2, r2, hT2, c0, c1, hy2, _⟩ := hx.el HB.out p hpn
              obtain rfl : m2 = k := by
                have h5 := hT2.out
                rw [HTP.out] at h5
                have h6 := (Prod.mk.inj (Option.some.inj h5)).1
                rw [hy2.1, ← h6, HLK.out]
              clear hown4 hgrow hown1 hrest hy2
              by_cases hdk : d' = m2
              · go_wp2
                go_roundw
                case rel => exact ⟨f - 1, j + m2, P ++ [(p : Int)], _, m' - m2, _, rfl, ints_end (by omega) (List.drop_of_length_le (by have := HS.out; omega)), HS2.out, by rw [List.length_append]; simp; omega, by omega, HO, HB.out⟩
                case measure => simp [lenOf]; omega
              · go_wp2
                go_roundw
                case rel => exact ⟨f - 1, j + m2, P ++ [(p : Int)], _, m' - m2, _, rfl, by rw [← List.drop_drop, HC.out]; exact hzw.drop m2 (by omega), HS2.out, by rw [List.length_append]; simp; omega, by omega, HO, HB.out⟩
                case measure => simp [lenOf]; omega
    · have hE := usd_end hsp.out (by have := HS.out; omega)
      have HF := Lib.hid (show usedOk T s0 = true ∧ usedList T s0 = P by unfold usedOk usedList; rw [hE]; exact ⟨rfl, rfl⟩)
      clear hE hsp
      go_wp2
      go_ret2
      exact ⟨_, by rw [HF.out.1]; rfl, by rw [HF.out.2]; exact hown.out, hb⟩
end Go.Proofs.YtjgcbnngjfchhaaDoor
