/- Draws of alphabets, rarely other lists. -/
import Derived.Test.YtpnbbhomkneflaaGreatDoorMrgA
namespace Go.Proofs.YtpnbbhomkneflaaGreatDoor
open Go.ChangeShapes Go.WideShapes Go.ChangeAt Go.RowKit

theorem own_none {w : World} {base : Nat} {e : TypeId} {g c n : Nat} {xs : List Value} (h : w.ownsRow base e 1 (.slice (some ⟨g, 0, none⟩) n c) n xs) : w.ownsRow base e 1 (.slice (some ⟨g, 0, none⟩) 0 c) 0 [] := by
  rcases h.2 with ⟨hv, _⟩ | ⟨g', cap, cur, hv, hb, hh, _, hm, hs, _⟩
  · cases hv
  · injection hv with e1 _ e3
    injection e1 with e1
    injection e1 with e1 _
    subst e1; subst e3
    exact ⟨by simp, .inr ⟨g, c, cur, rfl, hb, hh, Nat.zero_le _, hm, hs, by simp⟩⟩
theorem own_at {w : World} {base : Nat} {e : TypeId} {v : Value} {n : Nat} {xs : List Value} (h : w.ownsRow base e 1 v n xs) (h0 : 0 < n) : ∃ g c, v = .slice (some ⟨g, 0, none⟩) n c := by
  rcases h.2 with ⟨hv, hn⟩ | ⟨g, cap, cur, hv, _⟩
  · omega
  · exact ⟨g, cap, hv⟩
theorem lit4 (j : Nat) (h : j < 4) : ∃ x : ByteArray, ([Value.string ⟨#[]⟩, Value.string ⟨#[97, 98, 99, 100]⟩, Value.string ⟨#[65]⟩, Value.string ⟨#[122, 122, 122]⟩] : List Value)[j]'h = .string x ∧ x.size ≤ 4 := by
  match j, h with
  | 0, _ => exact ⟨_, rfl, by decide⟩
  | 1, _ => exact ⟨_, rfl, by decide⟩
  | 2, _ => exact ⟨_, rfl, by decide⟩
  | 3, _ => exact ⟨_, rfl, by decide⟩
set_option maxRecDepth 100000 in
set_option maxHeartbeats 4000000 in
theorem l03Draw_any (p : Nat) (w : World) (h : Src w p) : Calls Tryz.prog 52 #[.pointer (some ⟨p, 0, none⟩)] w (AlphaPost 60 p w) := by
  have hp := h.lt
  obtain ⟨i0, hi, hz0, hz1, hz2⟩ := info_parts infoStr
  go_enter Tryz.func52, Tryz.ntmps52
  go_wp2_with fail
  refine (l03Good_any p _ h).mono ?_
  rintro e_ w1 ⟨v, xs, rfl, hl0, hl1, hz, O1, S1, g1⟩
  obtain ⟨g, c, rfl⟩ := own_at O1 hl0
  have hgw := (O1.lt g rfl).1
  have hpg : p < g := by omega
  go_wp2_with fail
  refine (l01Next_any p 24 _ S1 (by omega)).mono ?_
  rintro e_ w2 ⟨r, rfl, r0, r1, S2, g2⟩
  have O2 := own_srcP O1 g2 hp
  have G2 := grown_trans g1 g2
  have hglt := (O2.lt g rfl).2
  have hsz : ∀ x ∈ xs, x.size ≤ maxLen := fun x hx => by have := hz x hx; unfold maxLen; omega
  have X2 := own_strs O2 hsz
  obtain ⟨A', c', hv', X2⟩ := X2
  injection hv' with e1 _ e3
  subst e1; subst e3
  have hcm := X2.2.1.cap
  have hnc := X2.2.1.le
  unfold maxLen at hcm
  obtain ⟨y, hy, hy0, _⟩ := X2.el (Below.refl _ _) hglt 0 hl0
  have hy4 := hz y (List.mem_of_getElem? hy.out)
  rw [Nat.add_zero] at hy0
  clear O1 S1 g1 g2 h
  have hl2 : (0 : Int) < xs.length := by omega
  by_cases hr0 : r = 0
  · subst hr0
    go_wp2_with (at_builtin; refine wpList_append_own _ rfl _ _ 24 rfl w.heap.size 9 i0 (.string ⟨#[]⟩) 1 16 Tryz.underlying24 hi hz0 hz1 hz2 rfl (by decide) _ _ _ rfl (O2.alloc _) ⟨w2.heap.size, 0, none⟩ 1 1 [.string y] rfl rfl ?c1 ?c2 ?c3 ?c4 ?c5 ?_)
    case c1 => exact cell_one_new _ _ _
    case c2 => simp [Value.oneCell']
    case c3 => unfold maxLen; omega
    case c4 => omega
    case c5 => have := S2.lt; have := G2.size; simp; omega
    intro v4 w4 own4 grow4 _
    have HO := Lib.hid (show w4.ownsRow w.heap.size 9 1 v4 (xs ++ [y]).length ((xs ++ [y]).map Value.string) by simpa using own4)
    have S4 := (S2.below (box1 w2 (.cells #[.string y] 9))).grownP grow4 (fun z hz => by have := (O2.lt z hz).1; omega)
    have G4 := grown_own (grown_trans G2 (grown_below (box1 w2 (.cells #[.string y] 9)))) grow4 (fun z hz => (O2.lt z hz).1)
    clear own4 grow4
    go_wp2
    go_ret
    exact ⟨v4, xs ++ [y], rfl, by simp; omega, fun x hx => by
      rcases List.mem_append.1 hx with h | h
      · exact hz x h
      · rw [List.mem_singleton.1 h]; exact hy4, HO.out, S4, G4⟩
  · have d0 : (r == 0) = false := by simpa using hr0
    by_cases hr1 : r = 1
    · subst hr1
      go_wp2_with fail
      have P0 := parts_alloc w2 [⟨#[]⟩, ⟨#[97, 98, 99, 100]⟩, ⟨#[65]⟩, ⟨#[122, 122, 122]⟩] 9 4 (by decide)
      replace P0 : Parts _ w2.heap.size 4 4 := P0
      have HB := box1 w2 (.cells ([⟨#[]⟩, ⟨#[97, 98, 99, 100]⟩, ⟨#[65]⟩, ⟨#[122, 122, 122]⟩].map Value.string).toArray 9)
      have hp2 := S2.lt
      refine (l01Next_any p 4 _ (S2.below HB) (by omega)).mono ?_
      rintro e_ w3 ⟨k, rfl, k0, k1, S3, g3⟩
      have P3 := P0.grown g3 (by omega)
      have G3 := grown_trans (grown_trans G2 (grown_below HB)) g3
      have O3 := own_srcP (own_below O2 HB) g3 hp
      obtain ⟨j, rfl⟩ : ∃ j : Nat, k = j := ⟨k.toNat, by omega⟩
      obtain ⟨x, hx, hx4⟩ := P3 j (by omega)
      have j1 : (j : Int) < 4 := by omega
      have d0 := O3.cellAt 0 (by omega)
      have f0 := O3.frozenAt 0
      rw [List.getElem?_eq_getElem (by simp; omega)] at d0
      have HO := Lib.hid (O3.stored 0 (.string x)).1
      have S4 := S3.grownP (grown_set w3 g 0 (.string x)) (fun k hk => by injection hk with hk; omega)
      have G4 := grown_own G3 (grown_set w3 g 0 (.string x)) (fun k hk => by injection hk with hk; omega)
      clear P3 P0 HB O3 g3
      go_wp2
      go_ret
      refine ⟨_, xs.set 0 x, rfl, by simp; omega, fun z hz' => ?_, ?_, S4, G4⟩
      · rcases List.mem_or_eq_of_mem_set hz' with h | h
        · exact hz z h
        · rw [h]; exact hx4
      · rw [List.length_set, List.map_set]
        exact HO.out
    · have d1 : (r == 1) = false := by simpa using hr1
      by_cases hr2 : r = 2
      · subst hr2
        have O4 := Lib.hid (own_none O2)
        go_wp2
        go_ret
        exact ⟨_, [], rfl, by simp, by simp, O4.out, S2, G2⟩
      · have d2 : (r == 2) = false := by simpa using hr2
        by_cases hr3 : r = 3
        · subst hr3
          have HS := Lib.hid S2
          have HO := Lib.hid O2
          have HG := Lib.hid G2
          clear S2 G2 X2
          go_wp2
          go_loopw [3, 4] (fun rv i wr => ∃ (k : Nat) (B : Option Addr) (d : Nat) (ys : List ByteArray), k ≤ 26 ∧ i = .int .i64 k ∧ rv = .slice B ys.length d ∧ Hid (ys.length ≤ 26 + k ∧ ∀ x ∈ ys, x.size ≤ 4) ∧ Hid (Src wr p) ∧ Hid (wr.ownsRow w.heap.size 9 1 (.slice B ys.length d) ys.length (ys.map Value.string)) ∧ Hid (w.grownBy wr (some p))) (fun _ i _ => 26 - (intOf i).toNat)
          case atStart => exact ⟨0, some ⟨g, 0, none⟩, c, xs, by omega, rfl, rfl, Lib.hid ⟨by omega, hz⟩, HS, HO, HG⟩
          case round =>
            clear HS HO HG O2 hy hy0
            obtain ⟨k, B, d, ys, hk, rfl, rfl, hlen, hS, hO, hG⟩ := hrel
            have hle := hlen.out
            go_wp2_with fail
            refine (l01Next_any p 2 _ hS.out (by omega)).mono ?_
            rintro e_ w3 ⟨b, rfl, b0, b1, S3, g3⟩
            have O3 := own_srcP hO.out g3 hp
            have G3 := Lib.hid (grown_trans hG.out g3)
            have e1 : IntKind.i64.wrap (40 + b) = 40 + b := IntWalk.i64_in _ (by omega)
            have hp3 := S3.lt
            have hpp := G3.out.size
            clear hO hG hS g3
            by_cases hlt : (ys.length : Int) < 40 + b
            · by_cases hk26 : k < 26
              · have hk2 : (k : Int) < 26 := by omega
                have e2 : IntKind.i64.wrap ((k : Int) + 1) = ((k + 1 : Nat) : Int) := by rw [IntWalk.i64_in _ (by omega)]; omega
                have hk3 : ((k + 1 : Nat) : Int) ≤ 26 := by omega
                go_wp2_with (at_builtin; refine wpList_append_own _ rfl _ _ 24 rfl w.heap.size 9 i0 (.string ⟨#[]⟩) 1 16 Tryz.underlying24 hi hz0 hz1 hz2 rfl (by decide) _ _ _ rfl (O3.alloc _) ⟨w3.heap.size, 0, none⟩ 1 1 [.string (⟨#[113]⟩ ++ letters26.extract k (k + 1))] rfl rfl ?c1 ?c2 ?c3 ?c4 ?c5 ?_)
                case c1 => exact cell_one_new _ _ _
                case c2 => simp [Value.oneCell']
                case c3 => unfold maxLen; omega
                case c4 => omega
                case c5 => simp; omega
                intro v4 w4 own4 grow4 _
                have hxs : (⟨#[113]⟩ ++ letters26.extract k (k + 1) : ByteArray).size ≤ 4 := by
                  rw [ByteArray.size_append, ByteArray.size_extract]
                  have : (⟨#[113]⟩ : ByteArray).size = 1 := rfl
                  omega
                replace grow4 : (w3.alloc (.cells #[.string (⟨#[113]⟩ ++ letters26.extract k (k + 1))] 9)).grownBy w4 (Value.slice B ys.length d).ownBlock := grow4
                generalize (⟨#[113]⟩ ++ letters26.extract k (k + 1) : ByteArray) = x at *
                have HO0 : w4.ownsRow w.heap.size 9 1 v4 (ys ++ [x]).length ((ys ++ [x]).map Value.string) := by simpa using own4
                have HS := Lib.hid ((S3.below (box1 w3 (.cells #[.string x] 9))).grownP grow4 (fun z hz => by have := (O3.lt z hz).1; omega))
                have HG := Lib.hid (grown_own (grown_trans G3.out (grown_below (box1 w3 (.cells #[.string x] 9)))) grow4 (fun z hz => (O3.lt z hz).1))
                have HL := Lib.hid (show (ys ++ [x]).length ≤ 26 + (k + 1) ∧ ∀ z ∈ ys ++ [x], z.size ≤ 4 from ⟨by simp; omega, fun z hz' => by
                  rcases List.mem_append.1 hz' with h | h
                  · exact hle.2 z h
                  · rw [List.mem_singleton.1 h]; exact hxs⟩)
                obtain ⟨A6, c6, rfl, _⟩ := own_strs HO0 (fun z hz' => by have := HL.out.2 z hz'; unfold maxLen; omega)
                have HO := Lib.hid HO0
                clear own4 grow4 O3 G3 S3 HO0
                go_wp2
                go_roundw
                case rel => exact ⟨k + 1, A6, c6, ys ++ [x], by omega, by first | rfl | go_num, rfl, HL, HS, HO, HG⟩
                case measure => simp [intOf]; omega
              · obtain rfl : k = 26 := by omega
                go_wp2
                go_ret
                exact ⟨_, ys, rfl, by omega, hle.2, O3, S3, G3.out⟩
            · go_wp2
              go_ret
              exact ⟨_, ys, rfl, by omega, hle.2, O3, S3, G3.out⟩
        · have d3 : (r == 3) = false := by simpa using hr3
          go_wp2
          go_ret
          exact ⟨_, xs, rfl, by omega, hz, O2, S2, G2⟩
end Go.Proofs.YtpnbbhomkneflaaGreatDoor
