/- Draws of tables, rarely other lists, and of signs. -/
import Derived.Test.YtjgcbnngjfchhaaDoorDrawV
namespace Go.Proofs.YtjgcbnngjfchhaaDoor
open Go.ChangeShapes Go.WideShapes Go.ChangeAt Go.RowKit

theorem Rules.drop {w : World} {b off n c : Nat} {T : List Rl} (h : Rules w (some ⟨b, off, none⟩) n c T) (j : Nat) (hj : j ≤ n) : Rules w (some ⟨b, off + j * 2, none⟩) (n - j) (c - j) (T.drop j) := by
  obtain ⟨h1, cs, h2, h3⟩ := h
  refine ⟨by rw [List.length_drop, ← h1], cs.drop (j * 2), ⟨by have := h2.le; omega, by have := h2.cap; omega, by rw [List.length_drop, h2.len]; omega, fun hn => ?_⟩, fun i hi => ?_⟩
  · obtain ⟨b', off', e, hlt, hc⟩ := h2.at_ (by omega)
    injection e with e; injection e with e1 e2
    subst e1; subst e2
    refine ⟨b, off + j * 2, rfl, hlt, fun i u hu => ?_⟩
    rw [Nat.add_assoc]
    refine hc (j * 2 + i) u ?_
    rw [List.getElem?_drop] at hu
    exact hu
  · obtain ⟨B, m, d, xs, r, a1, a2, a3, a4, a5⟩ := h3 (j + i) (by omega)
    exact ⟨B, m, d, xs, r, by rw [List.getElem?_drop]; exact a1, by rw [List.getElem?_drop, show j * 2 + i * 2 = (j + i) * 2 by omega]; exact a2, by rw [List.getElem?_drop, show j * 2 + (i * 2 + 1) = (j + i) * 2 + 1 by omega]; exact a3, a4, a5⟩
theorem OwnR.fit {w : World} {base top n m : Nat} {v : Value} {T : List Rl} {vs : List Value} (h : OwnR w base top v n T vs) (ht : top ≤ m) : OwnR w base m v n T vs :=
  ⟨h.len, h.vlen, h.row, h.sg, fun i u k h1 h2 => ⟨Nat.lt_of_lt_of_le (h.lo i u k h1 h2).1 ht, (h.lo i u k h1 h2).2⟩, fun k hk => Nat.lt_of_lt_of_le (h.vlo k hk) ht, h.apart⟩
theorem cell_two_at {w : World} {a b : Value} {e : TypeId} {k : Nat} (hk : w.heap.size = k) : ∀ j u, [a, b][j]? = some u → (w.alloc (.cells #[a, b] e)).cell? ((⟨k, 0, none⟩ : Addr).add j) = some u := by
  subst hk
  exact cell_two_new _ _ _ _
/-- what a draw of a table returns: rules that can be read, also when the source has gone on -/
def TabPost (p : Nat) (w : World) (e : Ending) (w' : World) : Prop := ∃ (b off n c : Nat) (T : List Rl), e = .returned (.slice (some ⟨b, off, none⟩) n c) ∧ n ≤ 40 ∧ ShortR T ∧ (∀ W : World, Zone 0 w.heap.size w' W → Rules W (some ⟨b, off, none⟩) n c T) ∧ Src w' p ∧ w.grownBy w' (some p)
theorem tab_own {p : Nat} {w w' : World} {g c : Nat} {T : List Rl} {vs : List Value} {top : Nat} (h : OwnR w' w.heap.size top (.slice (some ⟨g, 0, none⟩) T.length c) T.length T vs) (_ : p < w.heap.size) : ∀ W : World, Zone 0 w.heap.size w' W → Rules W (some ⟨g, 0, none⟩) T.length c T :=
  fun _ hz => OwnRules.reads ⟨vs, h.zone hz (.inl (Nat.le_refl _))⟩
set_option maxRecDepth 100000 in
set_option maxHeartbeats 8000000 in
theorem l04Draw_any (p : Nat) (w : World) (h : Src w p) : Calls Tryd.prog 50 #[.pointer (some ⟨p, 0, none⟩)] w (TabPost p w) := by
  have hp := h.lt
  obtain ⟨i0, hi, hz0, hz1, hz2⟩ := info_parts infoRule
  go_enter Tryd.func50, Tryd.ntmps50
  go_wp2_with fail
  refine (l04Good_any p _ h).mono ?_
  rintro e_ w1 ⟨g, c, T, vs, rfl, hT5, hT8, hTs, O1, S1, g1⟩
  go_wp2_with fail
  refine (l01Next_any p 24 _ S1 (by omega)).mono ?_
  rintro e_ w2 ⟨r, rfl, r0, r1, S2, g2⟩
  have O2 := (O1.grownP g2 hp).fit g2.size
  have G2 := grown_trans g1 g2
  have hww2 := G2.size
  clear O1 S1 g1 g2 h
  by_cases hr0 : r = 0
  · subst hr0
    go_wp2_with fail
    refine (l04DrawRule_any p _ S2).mono ?_
    rintro e_ w3 ⟨u, rs, x, rfl, hx, U3, S3, g3⟩
    have b3 := box1 w3 (.cells #[u, .string x] 39)
    have O3 := (O2.grownP g3 hp).below b3
    have U4 := own_below U3 b3
    have S4 := S3.below b3
    have hsz3 := g3.size
    have G4 := grown_trans (grown_trans G2 g3) (grown_below b3)
    obtain ⟨Au, cu, rfl, _⟩ := own_ints_ U3
    clear U3 S3 S2
    go_wp2_with (at_builtin; refine wpList_append_own_at _ rfl _ _ 27 rfl w.heap.size 39 i0 (.agg #[.slice none 0 0, .string ⟨#[]⟩]) 2 40 Tryd.underlying27 hi hz0 hz1 hz2 rfl (by decide) _ _ _ rfl O3.row ⟨w3.heap.size, 0, none⟩ 1 1 [.slice Au rs.length cu, .string x] rfl rfl ?c1 ?c2 ?c3 ?c4 ?c5 ?_)
    case c1 => exact cell_two_new _ _ _ _
    case c2 => simp [Value.oneCell']
    case c3 => unfold maxLen; omega
    case c4 => omega
    case c5 => simp; omega
    intro v5 w5 own5 grow5 _ hlie
    obtain ⟨g5, c5, hv5⟩ := own_shape2 own5 (by omega)
    subst hv5
    have O5 := O3.snocT (r := (rs, x)) U4 (show x.size ≤ maxLen by unfold maxLen; omega) grow5 (hlie.imp id (fun e => by rw [e]; simp)) own5 (by omega) (by simp; omega)
    have el : T.length + 1 = (T ++ [(rs, x)]).length := by simp
    rw [el] at O5
    have HO := Lib.hid (tab_own (p := p) O5 hp)
    have HS := Lib.hid (S4.grownP grow5 (fun z hz => by have := (O3.row.lt z hz).1; omega))
    have HG := Lib.hid (grown_own G4 grow5 (fun z hz => (O3.row.lt z hz).1))
    have HT := Lib.hid (show ShortR (T ++ [(rs, x)]) from hTs.snoc hx)
    rw [← el] at HO
    clear own5 grow5 hlie O3 O2 U4 S4 G2 G4 O5 b3 g3
    go_wp2
    go_ret
    exact ⟨g5, 0, T.length + 1, c5, T ++ [(rs, x)], rfl, by omega, HT.out, HO.out, HS.out, HG.out⟩
  · have d0 : (r == 0) = false := by simpa using hr0
    by_cases hr1 : r = 1
    · subst hr1
      go_wp2_with fail
      refine (l01Next_any p 5 _ S2 (by omega)).mono ?_
      rintro e_ w3 ⟨q, rfl, q0, q1, S3, g3⟩
      obtain ⟨j, rfl⟩ : ∃ j : Nat, q = j := ⟨q.toNat, by omega⟩
      have O3 := O2.grownP g3 hp
      have HR := Lib.hid (fun (W : World) (hW : Zone 0 w.heap.size w3 W) => (tab_own (p := p) O3 hp W hW).drop j (by omega))
      have hcap := (OwnRules.reads ⟨vs, O3⟩).cap
      have hcm := hcap.2
      have hnc := hcap.1
      unfold maxLen at hcm
      have hj1 : (j : Int) ≤ ((T.length : Nat) : Int) := by omega
      have hj2 : (j : Int) ≤ (c : Int) := by omega
      have hj3 : ¬ c = j := by omega
      have hj4 : (0 : Int) ≤ (j : Int) := by omega
      have HG := Lib.hid (grown_trans G2 g3)
      have HS := Lib.hid S3
      have HT := Lib.hid (show ShortR (T.drop j) from fun x hx => hTs x (List.mem_of_mem_drop hx))
      clear O2 O3 S2 S3 G2 g3 hcap
      go_wp2
      go_ret
      refine ⟨g, j * 2, T.length - j, c - j, T.drop j, ?_, by omega, HT.out, fun W hW => ?_, HS.out, HG.out⟩
      · first | rfl | simp
      · have := HR.out W hW
        rw [Nat.zero_add] at this
        exact this
    · have d1 : (r == 1) = false := by simpa using hr1
      by_cases hr2 : r = 2
      · subst hr2
        have HO := Lib.hid O2
        have HS := Lib.hid S2
        have HG := Lib.hid G2
        have HT := Lib.hid (show T.length ≤ 31 ∧ ShortR T from ⟨by omega, hTs⟩)
        clear O2 S2 G2
        go_wp2
        rename World => wo
        go_loopw [3, 4] (fun rv i wr => ∃ (k g c : Nat) (T : List Rl) (vs : List Value), k ≤ 100 ∧ i = .int .i64 k ∧ rv = .slice (some ⟨g, 0, none⟩) T.length c ∧ Hid (T.length ≤ 31 ∧ ShortR T) ∧ Hid (Src wr p) ∧ Hid (OwnR wr w.heap.size wr.heap.size (.slice (some ⟨g, 0, none⟩) T.length c) T.length T vs) ∧ Hid (w.grownBy wr (some p))) (fun _ i _ => 101 - (intOf i).toNat)
        case atStart => exact ⟨0, g, c, T, vs, by omega, rfl, rfl, HT, HS, HO, HG⟩
        case round =>
          clear HS HO HG HT hT5 hT8 hTs hww2
          obtain ⟨k, g, c, T, vs, hk, rfl, rfl, hT, hS, hO, hG⟩ := hrel
          have hT31 := hT.out.1
          go_wp2_with fail
          refine (l01Next_any p 2 _ hS.out (by omega)).mono ?_
          rintro e_ w3 ⟨b, rfl, b0, b1, S3, g3⟩
          have e1 : IntKind.i64.wrap (30 + b) = 30 + b := IntWalk.i64_in _ (by omega)
          have O3 := (hO.out.grownP g3 hp).fit g3.size
          have G3 := grown_trans hG.out g3
          have hww3 := G3.size
          clear hO hS hG g3
          by_cases hlt : (T.length : Int) < 30 + b
          · by_cases hk100 : k < 100
            · have hk2 : (k : Int) < 100 := by omega
              have ek : IntKind.i64.wrap ((k : Int) + 1) = ((k + 1 : Nat) : Int) := by rw [IntWalk.i64_in _ (by omega)]; omega
              obtain ⟨a1, ha1⟩ : ∃ a1 : Int, (k : Int).tmod 20 = a1 := ⟨_, rfl⟩
              obtain ⟨a2, ha2⟩ : ∃ a2 : Int, (k : Int) / 20 = a2 := ⟨_, rfl⟩
              have b3 := box1 w3 (.cells #[.int .i64 9, .int .i64 a1, .int .i64 a2] 2)
              have U1 : (w3.alloc (.cells #[.int .i64 9, .int .i64 a1, .int .i64 a2] 2)).ownsRow w3.heap.size 2 1 (.slice (some ⟨w3.heap.size, 0, none⟩) 3 3) 3 ([9, a1, a2].map (Value.int .i64)) := World.ownsRow_lit (base := w3.heap.size) (e := 2) (size := 1) w3 #[.int .i64 9, .int .i64 a1, .int .i64 a2] 3 (Nat.le_refl _) (by unfold maxLen; omega) rfl
              have hs3 : (w3.alloc (.cells #[.int .i64 9, .int .i64 a1, .int .i64 a2] 2)).heap.size = w3.heap.size + 1 := by simp
              have b4 := box1 (w3.alloc (.cells #[.int .i64 9, .int .i64 a1, .int .i64 a2] 2)) (.cells #[.slice (some ⟨w3.heap.size, 0, none⟩) 3 3, .string ⟨#[]⟩] 39)
              have O4 := (O3.below b3).below b4
              have U4 := own_below U1 b4
              have S4 := (S3.below b3).below b4
              have G4 := grown_trans (grown_trans G3 (grown_below b3)) (grown_below b4)
              clear U1 O3 S3 G3
              trace "app"
              go_wp2_with (at_builtin; refine wpList_append_own_at _ rfl _ _ 27 rfl w.heap.size 39 i0 (.agg #[.slice none 0 0, .string ⟨#[]⟩]) 2 40 Tryd.underlying27 hi hz0 hz1 hz2 rfl (by decide) _ _ _ rfl O4.row _ 1 1 [.slice (some ⟨w3.heap.size, 0, none⟩) 3 3, .string ⟨#[]⟩] rfl rfl ?c1 ?c2 ?c3 ?c4 ?c5 ?_)
              case c1 => first | exact cell_two_new _ _ _ _ | exact cell_two_at (by simp)
              case c2 => simp [Value.oneCell']
              case c3 => unfold maxLen; omega
              case c4 => omega
              case c5 => simp; omega
              intro v5 w5 own5 grow5 _ hlie
              obtain ⟨g5, c5, hv5⟩ := own_shape2 own5 (by omega)
              subst hv5
              have O5 := O4.snocT (r := ([9, a1, a2], ⟨#[]⟩)) U4 (show (⟨#[]⟩ : ByteArray).size ≤ maxLen by decide) grow5 (hlie.imp id (fun e => by rw [e]; simp)) own5 (by omega) (by simp; omega)
              have el : T.length + 1 = (T ++ [(([9, a1, a2], ⟨#[]⟩) : Rl)]).length := by simp
              rw [el] at O5
              have HO := Lib.hid O5
              have HS := Lib.hid (S4.grownP grow5 (fun z hz => by have := (O4.row.lt z hz).1; omega))
              have HG := Lib.hid (grown_own G4 grow5 (fun z hz => (O4.row.lt z hz).1))
              have HT := Lib.hid (show (T ++ [(([9, a1, a2], ⟨#[]⟩) : Rl)]).length ≤ 31 ∧ ShortR (T ++ [(([9, a1, a2], ⟨#[]⟩) : Rl)]) from ⟨by simp; omega, hT.out.2.snoc (by show (⟨#[]⟩ : ByteArray).size ≤ 10; decide)⟩)
              clear own5 grow5 hlie O4 U4 S4 G4 O5 b3 b4
              go_wp2
              go_roundw
              case rel => exact ⟨k + 1, g5, c5, _, _, by omega, by first | rfl | exact congrArg _ ek | go_num, (by rw [← el]), HT, HS, HO, HG⟩
              case measure => simp [intOf]; omega
            · obtain rfl : k = 100 := by omega
              have HO := Lib.hid O3
              have HS := Lib.hid S3
              have HG := Lib.hid G3
              clear O3 S3 G3
              go_wp2
              go_ret
              exact ⟨g, 0, T.length, c, T, rfl, by omega, hT.out.2, tab_own (p := p) HO.out hp, HS.out, HG.out⟩
          · have HO := Lib.hid O3
            have HS := Lib.hid S3
            have HG := Lib.hid G3
            clear O3 S3 G3
            go_wp2
            go_ret
            exact ⟨g, 0, T.length, c, T, rfl, by omega, hT.out.2, tab_own (p := p) HO.out hp, HS.out, HG.out⟩
      · have d2 : (r == 2) = false := by simpa using hr2
        have HO := Lib.hid O2
        have HS := Lib.hid S2
        have HG := Lib.hid G2
        clear O2 S2 G2
        go_wp2
        go_ret
        exact ⟨g, 0, T.length, c, T, rfl, by omega, hTs, tab_own (p := p) HO.out hp, HS.out, HG.out⟩
end Go.Proofs.YtjgcbnngjfchhaaDoor
