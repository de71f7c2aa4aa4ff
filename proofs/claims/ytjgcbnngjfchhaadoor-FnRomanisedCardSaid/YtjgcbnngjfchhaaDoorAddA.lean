/- AddRule: the reference's. -/
import Derived.Test.YtjgcbnngjfchhaaDoorUseC
import Derived.Test.YtjgcbnngjfchhaaDoorAddLaw
import Derived.Test.YtjgcbnngjfchhaaDoorMarkT
namespace Go.Proofs.YtjgcbnngjfchhaaDoor
open Go.ChangeShapes Go.WideShapes Go.ChangeAt Go.RowKit
theorem OwnR.mono {w : World} {base base' top : Nat} {v : Value} {n : Nat} {T : List Rl} {vs : List Value} (h : OwnR w base top v n T vs) (hb : base' ≤ base) : OwnR w base' top v n T vs :=
  ⟨h.len, h.vlen, own_mono' h.row hb, fun i u r h1 h2 => ⟨own_mono' (h.sg i u r h1 h2).1 hb, (h.sg i u r h1 h2).2⟩, h.lo, h.vlo, h.apart⟩
theorem OwnR.lit (w : World) (t : TypeId) : OwnR (w.alloc (.cells #[] 39)) w.heap.size (w.alloc (.cells #[] 39)).heap.size (.slice (some ⟨w.heap.size, 0, none⟩) 0 0) 0 [] [] :=
  ⟨rfl, rfl, World.ownsRow_lit w #[] 0 (Nat.le_refl _) (by unfold maxLen; omega) rfl, fun i u r h => by simp at h, fun i u k h => by simp at h, fun k h => by have e : w.heap.size = k := Option.some.inj h; simp; omega, fun i j u u' k h => by simp at h⟩
set_option maxRecDepth 100000 in
set_option maxHeartbeats 1000000 in
theorem l01Own_any (b off n c : Nat) (xs : List Int) (w : World) (hx : Ints w (some ⟨b, off, none⟩) n c xs) (hn : n ≤ 1048576) :
    Calls Tryd.prog 42 #[.slice (some ⟨b, off, none⟩) n c] w fun e w' => ∃ v, e = .returned v ∧ w'.ownsRow w.heap.size 2 1 v n (xs.map (Value.int .i64)) ∧ Below w.heap.size w w' := by
  obtain ⟨i0, hi, hz0, hz1, hz2⟩ := info_parts infoInt
  have hcm := hx.2.cap
  have hnc := hx.2.le
  unfold maxLen at hcm
  have HL := Lib.hid hx.1
  have hnews : ∀ j u, (xs.map (Value.int .i64))[j]? = some u → w.cell? ((⟨b, off, none⟩ : Addr).add j) = some u := fun j u hu => by
    have h0 : 0 < n := by
      have := (List.getElem?_eq_some_iff.1 hu).1
      rw [HL.out]; simp at this; omega
    exact ints_news hx h0 j u hu
  go_enter Tryd.func42, Tryd.ntmps42
  go_wp2_with (at_builtin; refine wpList_append_own _ rfl _ _ 24 rfl w.heap.size 2 i0 (.int .i64 0) 1 8 Tryd.underlying24 hi hz0 hz1 hz2 rfl (by decide) _ _ _ rfl (World.ownsRow_lit (base := w.heap.size) (e := 2) (size := 1) w #[] 0 (Nat.le_refl _) (by unfold maxLen; omega) rfl) ⟨b, off, none⟩ n c (xs.map (Value.int .i64)) rfl ?c0 ?c1 ?c2 ?c3 ?c4 ?c5 ?_)
  case c0 => have := HL.out; simp; omega
  case c1 => exact fun j u hu => cell_keep (one_box w (.cells #[] 2)) (hnews j u hu)
  case c2 => intro u hu; obtain ⟨x, _, rfl⟩ := List.mem_map.1 hu; rfl
  case c3 => unfold maxLen; omega
  case c4 => omega
  case c5 => simp
  intro v4 w4 own4 grow4 _
  have HO : Hid (w4.ownsRow w.heap.size 2 1 v4 n (xs.map (Value.int .i64))) := by simpa [Hid] using own4
  have HB := Lib.hid ((one_box w (.cells #[] 2)).grown grow4 (by simp) (fun k hk => by have e : w.heap.size = k := Option.some.inj hk; omega))
  clear own4 grow4
  go_wp2
  go_ret
  exact ⟨v4, rfl, HO.out, HB.out⟩
set_option maxRecDepth 100000 in
set_option maxHeartbeats 2000000 in
theorem l04Own_any (A : Option Addr) (n c : Nat) (T : List Rl) (w : World) (hx : Rules w A n c T) (hn : n ≤ 1048576) (hs : ∀ (k : Nat) xs r, T[k]? = some (xs, r) → 1 ≤ xs.length ∧ xs.length ≤ 1048576) :
    Calls Tryd.prog 43 #[.slice A n c] w fun e w' => ∃ v, e = .returned v ∧ OwnRules w' w.heap.size w'.heap.size v n T ∧ Below w.heap.size w w' := by
  have hcm := hx.cap.2
  have hnc := hx.cap.1
  have HX := Lib.hid hx.1
  unfold maxLen at hcm
  obtain ⟨i0, hi, hz0, hz1, hz2⟩ := info_parts infoRule
  go_enter Tryd.func43, Tryd.ntmps43
  go_wp2
  go_loopw [3, 4] (fun v i wr => ∃ (k : Nat) (vs : List Value), k ≤ n ∧ i = .int .i64 k ∧ Hid (OwnR wr w.heap.size wr.heap.size v k (T.take k) vs) ∧ Below w.heap.size w wr) (fun _ i _ => n - (intOf i).toNat)
  case atStart => exact ⟨0, [], Nat.zero_le _, rfl, by rw [List.take_zero]; exact OwnR.lit w 0, one_box _ _⟩
  case round =>
    obtain ⟨k, vs, hk, rfl, hown, hb⟩ := hrel
    by_cases hlt : k < n
    · obtain ⟨b, off, rfl, hbl⟩ := hx.at_ k hlt
      obtain ⟨B', m', d', xs, r, hTk, c0, c1, hz, hrz⟩ := hx.el hb k hlt
      have hsk := hs k xs r hTk.out
      have hm' : m' ≤ 1048576 := by have := hz.1; omega
      obtain ⟨b3, off3, rfl, hb3⟩ := hz.at_ 0 (by have := hz.1; omega)
      have hbw : b < wr.heap.size := Nat.lt_of_lt_of_le hbl hb.size
      have hv := hown.out.row
      have HB : Below wr.heap.size wr wr.drew := (Below.refl _ _).drew
      have NB := own_below hv HB
      have hcl := l01Own_any b3 off3 m' d' xs _ (hz.below HB) hm'
      have zc : wr.drew.cell? ⟨b, off + k * 2 + 1, none⟩ = some (.string r) := c1
      have zc0 : wr.drew.cell? ⟨b, off + k * 2, none⟩ = some (.slice (some ⟨b3, off3, none⟩) m' d') := c0
      go_wp2_with fail
      (go_region_law (first
        | (refine step_own_in rfl _ _ 27 rfl w.heap.size 39 i0 (.agg #[.slice none 0 0, .string ⟨#[]⟩]) 2 40 Tryd.underlying27 hi hz0 hz1 hz2 rfl (by decide) _ _ _ rfl (N5.alloc _) ⟨w5.heap.size, 0, none⟩ 1 1 [.slice Au m' cu, .string r] rfl rfl (cell_two_new _ _ _ _) (by simp [Value.oneCell']) (by unfold maxLen; omega) (by omega) (by simp; omega) ?_; intro v6 w6 own6 grow6 hlie)
        | (go_simp; go_at_call 42; refine hcl.mono ?_; rintro e_ w5 ⟨u, rfl, hu, h5⟩; have hu' := own_ints_ hu; obtain ⟨Au, cu, rfl, xu⟩ := hu'; have N5 := own_below NB h5; have hz5 := (show w.heap.size ≤ w5.heap.size from Nat.le_trans hb.size (Nat.le_trans HB.size h5.size)); have z1 := cell_keep h5 zc)))
      all_goals
        have HB5 := (next HB h5).alloc (Nat.le_trans HB.size h5.size) (.cells #[.slice Au m' cu, .string r] 39)
        have F := hown.out.snoc (u := .slice Au m' cu) (r := (xs, r)) HB5 (own_mono' (own_below (by rw [← hz.1]; exact hu) (box1C w5 _)) HB.size) hrz grow6 hlie own6 hb.size
        rw [← take_rl hTk.out] at F
        have HO := Lib.hid F
        have HB6 := Lib.hid ((next hb HB5).grown grow6 (Nat.le_trans hb.size HB5.size) (fun q hq => (hv.lt q hq).1))
        clear F HB5 own6 grow6 hlie hu N5 z1 h5 hown
        go_wp2
        go_roundw
        case rel => exact ⟨k + 1, _, by omega, by go_num, HO, HB6.out⟩
        case measure => simp [intOf]; omega
    · obtain rfl : k = n := by omega
      have HF := hown.out
      rw [List.take_of_length_le (by have := HX.out; omega)] at HF
      have HF := Lib.hid HF
      clear hown
      go_wp2
      go_ret
      exact ⟨_, rfl, ⟨_, HF.out⟩, hb⟩
/-- a row of rules of the call's own, whose signs lie anywhere -/
structure RowR (w : World) (base : Nat) (v : Value) (n : Nat) (T : List Rl) (cs : List Value) : Prop where
  row : w.ownsRow base 39 2 v n cs
  len : n = T.length
  at_ : ∀ i, i < n → ∃ B m d xs r, T[i]? = some (xs, r) ∧ cs[i * 2]? = some (.slice B m d) ∧ cs[i * 2 + 1]? = some (.string r) ∧ Ints w B m d xs ∧ r.size ≤ maxLen
theorem RowR.rules {w : World} {base n : Nat} {v : Value} {T : List Rl} {cs : List Value} (h : RowR w base v n T cs) : ∃ A c, v = .slice A n c ∧ Rules w A n c T := by
  rcases h.row.2 with ⟨hv, h0⟩ | ⟨g, cap, cur, hv, _⟩
  · refine ⟨none, 0, by rw [hv, h0], h.len, cs, Reads.of_own (by have := h.row; rw [hv] at this; rw [h0] at this ⊢; exact this), h.at_⟩
  · exact ⟨_, _, hv, h.len, cs, Reads.of_own (by have := h.row; rw [hv] at this; exact this), h.at_⟩
theorem RowR.below {w w' : World} {base n : Nat} {v : Value} {T : List Rl} {cs : List Value} (h : RowR w base v n T cs) (hb : Below w.heap.size w w') : RowR w' base v n T cs :=
  ⟨own_below h.row hb, h.len, fun i hi => by
    obtain ⟨B, m, d, xs, r, a, b, c, e, f⟩ := h.at_ i hi
    exact ⟨B, m, d, xs, r, a, b, c, e.below hb, f⟩⟩
end Go.Proofs.YtjgcbnngjfchhaaDoor
