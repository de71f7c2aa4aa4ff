/- Draws of tables of rules. -/
import Derived.Test.YtjgcbnngjfchhaaDoorDrawR
import Derived.Test.YtjgcbnngjfchhaaDoorAddB
namespace Go.Proofs.YtjgcbnngjfchhaaDoor
open Go.ChangeShapes Go.WideShapes Go.ChangeAt Go.RowKit

theorem OwnR.grownP {w w' : World} {p base top n : Nat} {v : Value} {T : List Rl} {vs : List Value} (h : OwnR w base top v n T vs) (hg : w.grownBy w' (some p)) (hp : p < base) : OwnR w' base top v n T vs :=
  ⟨h.len, h.vlen, own_srcP h.row hg hp, fun i u r h1 h2 => ⟨own_srcP (h.sg i u r h1 h2).1 hg hp, (h.sg i u r h1 h2).2⟩, h.lo, h.vlo, h.apart⟩
theorem OwnR.snocT {w2 w3 : World} {base top n : Nat} {v v3 u : Value} {T : List Rl} {vs : List Value} {r : Rl} (h : OwnR w2 base top v n T vs)
    (hu : w2.ownsRow top 2 1 u r.1.length (r.1.map (Value.int .i64))) (hz : r.2.size ≤ maxLen) (hg : w2.grownBy w3 v.ownBlock) (hat : v3.ownBlock = v.ownBlock ∨ v3.ownBlock = some w2.heap.size)
    (hrow : w3.ownsRow base 39 2 v3 (n + 1) (rcells vs T ++ [u, .string r.2])) (hbase : base ≤ top) (htop : top ≤ w2.heap.size) : OwnR w3 base w3.heap.size v3 (n + 1) (T ++ [r]) (vs ++ [u]) := by
  have hs3 : w2.heap.size ≤ w3.heap.size := hg.size
  have at_ : ∀ (i : Nat) x, (vs ++ [u])[i]? = some x → (i < n ∧ vs[i]? = some x) ∨ (i = n ∧ x = u) := fun i x hi => by
    rcases Nat.lt_or_ge i vs.length with h1 | h1
    · rw [List.getElem?_append_left h1] at hi; exact .inl ⟨by rw [← h.vlen]; exact h1, hi⟩
    · rw [List.getElem?_append_right h1] at hi
      have h2 := (List.getElem?_eq_some_iff.1 hi).1
      simp at h2
      have h3 : i = vs.length := by omega
      subst h3
      simp at hi
      exact .inr ⟨h.vlen, hi.symm⟩
  have ublk : ∀ k, u.ownBlock = some k → top ≤ k ∧ k < w2.heap.size := fun k hk => hu.lt k hk
  have vblk : ∀ k, v.ownBlock = some k → k < top := h.vlo
  refine ⟨by simp [h.len], by simp [h.vlen], ?_, fun i x q h1 h2 => ?_, fun i x k h1 h2 => ?_, fun k hk => (hrow.lt k hk).2, fun i j x y k h1 h2 h3 h4 => ?_⟩
  · rw [rcells_snoc _ _ (by rw [h.vlen, h.len])]; exact hrow
  · rcases at_ i x h1 with ⟨hi, g1⟩ | ⟨e1, e2⟩
    · rw [List.getElem?_append_left (by rw [h.len]; exact hi)] at h2
      obtain ⟨a1, a2⟩ := h.sg i x q g1 h2
      exact ⟨own_far a1 hg (fun k hk e => (h.lo i x k g1 hk).2 e), a2⟩
    · subst e1; subst e2
      rw [List.getElem?_append_right (by rw [h.len]; exact Nat.le_refl _), h.len] at h2
      simp at h2
      subst h2
      exact ⟨own_mono' (own_far hu hg (fun k hk e => by have := ublk k hk; have := vblk k e; omega)) hbase, hz⟩
  · rcases at_ i x h1 with ⟨hi, g1⟩ | ⟨e1, e2⟩
    · have h5 := h.lo i x k g1 h2
      refine ⟨by omega, fun e => ?_⟩
      rcases hat with hat | hat
      · rw [hat] at e; exact h5.2 e
      · rw [hat] at e; injection e with e; omega
    · subst e2
      have h5 := ublk k h2
      refine ⟨by omega, fun e => ?_⟩
      rcases hat with hat | hat
      · rw [hat] at e; have := vblk k e; omega
      · rw [hat] at e; injection e with e; omega
  · rcases at_ i x h1 with ⟨hi, g1⟩ | ⟨e1, e2⟩
    · rcases at_ j y h2 with ⟨hj, g2⟩ | ⟨e3, e4⟩
      · exact h.apart i j x y k g1 g2 h3 h4
      · have := (h.lo i x k g1 h3).1
        rw [e4] at h4
        have := ublk k h4
        omega
    · rcases at_ j y h2 with ⟨hj, g2⟩ | ⟨e3, e4⟩
      · have := (h.lo j y k g2 h4).1
        rw [e2] at h3
        have := ublk k h3
        omega
      · omega
theorem own_shape2 {w : World} {base n : Nat} {e : TypeId} {size : Nat} {v : Value} {xs : List Value} (h : w.ownsRow base e size v n xs) (h0 : 0 < n) : ∃ g cap, v = .slice (some ⟨g, 0, none⟩) n cap := by
  rcases h.2 with ⟨_, hn⟩ | ⟨g, cap, cur, hv, _⟩
  · omega
  · exact ⟨g, cap, hv⟩
/-- texts that are not long -/
def ShortR (T : List Rl) : Prop := ∀ x ∈ T, x.2.size ≤ 10
theorem ShortR.snoc {T : List Rl} {r : Rl} (h : ShortR T) (hr : r.2.size ≤ 10) : ShortR (T ++ [r]) := fun x hx => by
  rcases List.mem_append.1 hx with e | e
  · exact h x e
  · rw [List.mem_singleton.1 e]; exact hr
theorem ar_short {T : List Rl} {xs : List Int} {r : ByteArray} (h : arCode T xs r = 0) (hs : ShortR T) (hr : r.size ≤ 10) : ShortR (arList T xs r) ∧ T.length ≤ (arList T xs r).length ∧ (arList T xs r).length ≤ T.length + 1 := by
  rcases ar_cases T xs r with ⟨_, h1⟩ | ⟨_, _, h1⟩ | ⟨_, _, q, r0, _, hq, _, h1⟩ | ⟨_, _, _, _, _, h1⟩ | ⟨_, _, _, _, _, h1⟩
  · have := h1.out.2; omega
  · have := h1.out.2; omega
  · rw [h1.out.1]
    refine ⟨fun x hx => ?_, by simp, by simp⟩
    rcases List.mem_or_eq_of_mem_set hx with e | e
    · exact hs x e
    · rw [e]; exact hr
  · have := h1.out.2; omega
  · rw [h1.out.1]
    exact ⟨hs.snoc hr, by simp, by simp⟩
def lenR : Value → Nat
  | .slice _ n _ => n
  | _ => 0
/-- what a draw of a table with rules for single signs returns -/
def GoodPost (p : Nat) (w : World) (e : Ending) (w' : World) : Prop := ∃ (g c : Nat) (T : List Rl) (vs : List Value), e = .returned (.slice (some ⟨g, 0, none⟩) T.length c) ∧ 5 ≤ T.length ∧ T.length ≤ 8 ∧ ShortR T ∧ OwnR w' w.heap.size w'.heap.size (.slice (some ⟨g, 0, none⟩) T.length c) T.length T vs ∧ Src w' p ∧ w.grownBy w' (some p)
set_option maxRecDepth 100000 in
set_option maxHeartbeats 8000000 in
theorem l04Good_any (p : Nat) (w : World) (h : Src w p) : Calls Tryd.prog 68 #[.pointer (some ⟨p, 0, none⟩)] w (GoodPost p w) := by
  have hp := h.lt
  obtain ⟨i0, hi, hz0, hz1, hz2⟩ := info_parts infoRule
  go_enter Tryd.func68, Tryd.ntmps68
  go_wp2
  have b0 := box1 w (.cells #[] 39)
  have b1 := box1 (w.alloc (.cells #[] 39)) (.cells #[.string ⟨#[97]⟩, .string ⟨#[98]⟩, .string ⟨#[115]⟩, .string ⟨#[104]⟩, .string ⟨#[115, 104]⟩, .string ⟨#[97, 98]⟩, .string ⟨#[99]⟩, .string ⟨#[]⟩] 9)
  have P0 : Parts ((w.alloc (.cells #[] 39)).alloc (.cells #[.string ⟨#[97]⟩, .string ⟨#[98]⟩, .string ⟨#[115]⟩, .string ⟨#[104]⟩, .string ⟨#[115, 104]⟩, .string ⟨#[97, 98]⟩, .string ⟨#[99]⟩, .string ⟨#[]⟩] 9)) (w.heap.size + 1) 8 2 := by
    have := parts_alloc (w.alloc (.cells #[] 39)) [⟨#[97]⟩, ⟨#[98]⟩, ⟨#[115]⟩, ⟨#[104]⟩, ⟨#[115, 104]⟩, ⟨#[97, 98]⟩, ⟨#[99]⟩, ⟨#[]⟩] 9 2 (by decide)
    rw [show (w.alloc (.cells #[] 39)).heap.size = w.heap.size + 1 by simp] at this
    exact this
  have O0 : OwnR ((w.alloc (.cells #[] 39)).alloc (.cells #[.string ⟨#[97]⟩, .string ⟨#[98]⟩, .string ⟨#[115]⟩, .string ⟨#[104]⟩, .string ⟨#[115, 104]⟩, .string ⟨#[97, 98]⟩, .string ⟨#[99]⟩, .string ⟨#[]⟩] 9)) w.heap.size ((w.alloc (.cells #[] 39)).alloc (.cells #[.string ⟨#[97]⟩, .string ⟨#[98]⟩, .string ⟨#[115]⟩, .string ⟨#[104]⟩, .string ⟨#[115, 104]⟩, .string ⟨#[97, 98]⟩, .string ⟨#[99]⟩, .string ⟨#[]⟩] 9)).heap.size (.slice (some ⟨w.heap.size, 0, none⟩) 0 0) 0 [] [] := by
    have h0 := (OwnR.lit w 39).below b1
    exact ⟨h0.len, h0.vlen, h0.row, h0.sg, fun i u k h1 h2 => ⟨Nat.lt_of_lt_of_le (h0.lo i u k h1 h2).1 b1.size, (h0.lo i u k h1 h2).2⟩, fun k hk => Nat.lt_of_lt_of_le (h0.vlo k hk) b1.size, h0.apart⟩
  have HS := Lib.hid (And.intro ((h.below b0).below b1) P0)
  have HO := Lib.hid (And.intro O0 (show (Value.slice (some ⟨w.heap.size, 0, none⟩) 0 0).ownBlock ≠ some (w.heap.size + 1) from fun e => by have e : w.heap.size = w.heap.size + 1 := Option.some.inj e; omega))
  have HG := Lib.hid (And.intro (grown_trans (grown_below b0 (row := some p)) (grown_below b1)) (show w.heap.size + 1 < ((w.alloc (.cells #[] 39)).alloc (.cells #[.string ⟨#[97]⟩, .string ⟨#[98]⟩, .string ⟨#[115]⟩, .string ⟨#[104]⟩, .string ⟨#[115, 104]⟩, .string ⟨#[97, 98]⟩, .string ⟨#[99]⟩, .string ⟨#[]⟩] 9)).heap.size by simp))
  clear b0 b1 P0 O0 h
  go_loopw [3, 5] (fun rv i wr => ∃ (k g c : Nat) (T : List Rl) (vs : List Value), k ≤ 5 ∧ i = .int .i64 k ∧ rv = .slice (some ⟨g, 0, none⟩) k c ∧ Hid (T.length = k ∧ ShortR T) ∧ Hid (Src wr p ∧ Parts wr (w.heap.size + 1) 8 2) ∧ Hid (OwnR wr w.heap.size wr.heap.size (.slice (some ⟨g, 0, none⟩) k c) k T vs ∧ (Value.slice (some ⟨g, 0, none⟩) k c).ownBlock ≠ some (w.heap.size + 1)) ∧ Hid (w.grownBy wr (some p) ∧ w.heap.size + 1 < wr.heap.size)) (fun _ i _ => 5 - (intOf i).toNat)
  case atStart => exact ⟨0, w.heap.size, 0, [], [], by omega, rfl, rfl, Lib.hid ⟨rfl, fun x hx => by cases hx⟩, HS, HO, HG⟩
  case round =>
    clear HS HO HG
    obtain ⟨k, g, c, T, vs, hk, rfl, rfl, hT, hS, hO, hG⟩ := hrel
    by_cases hlt : k < 5
    · have hj0 : (k : Int) < 5 := by omega
      have ek : IntKind.i64.wrap ((k : Int) + 1) = ((k + 1 : Nat) : Int) := by rw [IntWalk.i64_in _ (by omega)]; omega
      have bs_ := box1 wr (.cells #[.int .i64 k] 2)
      have U1 : (wr.alloc (.cells #[.int .i64 k] 2)).ownsRow wr.heap.size 2 1 (.slice (some ⟨wr.heap.size, 0, none⟩) 1 1) 1 ([(k : Int)].map (Value.int .i64)) := World.ownsRow_lit (base := wr.heap.size) (e := 2) (size := 1) wr #[.int .i64 k] 1 (Nat.le_refl _) (by unfold maxLen; omega) rfl
      go_wp2_with fail
      refine (l01Next_any p 8 _ (hS.out.1.below bs_) (by omega)).mono ?_
      rintro e_ w2 ⟨r, rfl, r0, r1, S2, g2⟩
      obtain ⟨j, rfl⟩ : ∃ j : Nat, r = j := ⟨r.toNat, by omega⟩
      have hwz := hG.out.2
      have hww := hG.out.1.size
      obtain ⟨x, hx, hx2⟩ := ((hS.out.2.below bs_).grown g2 (by omega)) j (by omega)
      have j1 : (j : Int) < 8 := by omega
      have O2 := (hO.out.1.below bs_).grownP g2 hp
      have U2 := own_srcP U1 g2 (by omega)
      have P2 := Lib.hid ((hS.out.2.below bs_).grown g2 (by omega))
      have G2 := Lib.hid (grown_trans (grown_trans hG.out.1 (grown_below bs_)) g2)
      have hz2' : wr.heap.size < w2.heap.size := by have := g2.size; simp at this; omega
      have hob := hO.out.2
      clear U1 hS hO hG g2
      have b2 := box1 w2 (.cells #[.slice (some ⟨wr.heap.size, 0, none⟩) 1 1, .string x] 39)
      have O3 := O2.below b2
      have U3 := own_below U2 b2
      go_wp2_with (at_builtin; refine wpList_append_own_at _ rfl _ _ 27 rfl w.heap.size 39 i0 (.agg #[.slice none 0 0, .string ⟨#[]⟩]) 2 40 Tryd.underlying27 hi hz0 hz1 hz2 rfl (by decide) _ _ _ rfl O3.row ⟨w2.heap.size, 0, none⟩ 1 1 [.slice (some ⟨wr.heap.size, 0, none⟩) 1 1, .string x] rfl rfl ?c1 ?c2 ?c3 ?c4 ?c5 ?_)
      case c1 => exact cell_two_new _ _ _ _
      case c2 => simp [Value.oneCell']
      case c3 => unfold maxLen; omega
      case c4 => omega
      case c5 => simp; omega
      intro v4 w4 own4 grow4 _ hlie
      obtain ⟨g4, c4, hv4⟩ := own_shape2 own4 (by omega)
      subst hv4
      have HO := Lib.hid (And.intro (O3.snocT (r := ([(k : Int)], x)) U3 (show x.size ≤ maxLen by unfold maxLen; omega) grow4 (hlie.imp id (fun e => by rw [e]; simp)) own4 (by omega) (by simp; omega)) (show (Value.slice (some ⟨g4, 0, none⟩) (k + 1) c4).ownBlock ≠ some (w.heap.size + 1) by
        rcases hlie with e | e
        · rw [e]; exact hob
        · rw [e]; simp; omega))
      have HS := Lib.hid (And.intro ((S2.below b2).grownP grow4 (fun z hz => by have := (O3.row.lt z hz).1; omega)) (show Parts w4 (w.heap.size + 1) 8 2 from fun a ha => by
        obtain ⟨y, hy, hy2⟩ := (P2.out.below b2) a ha
        exact ⟨y, grown_cell grow4 hy (by simpa using hob), hy2⟩))
      have HG := Lib.hid (And.intro (grown_own (grown_trans G2.out (grown_below b2)) grow4 (fun z hz => (O3.row.lt z hz).1)) (show w.heap.size + 1 < w4.heap.size by have := grow4.size; simp at this; omega))
      have HT := Lib.hid (show (T ++ [([(k : Int)], x)]).length = k + 1 ∧ ShortR (T ++ [([(k : Int)], x)]) from ⟨by simp [hT.out.1], hT.out.2.snoc (by show x.size ≤ 10; omega)⟩)
      clear own4 grow4 hlie O3 U3 O2 U2 P2 G2 S2 hob b2 bs_
      go_wp2
      go_roundw
      case rel => exact ⟨k + 1, g4, c4, _, _, by omega, by first | rfl | exact congrArg _ ek | go_num, rfl, HT, HS, HO, HG⟩
      case measure => simp [intOf]; omega
    · obtain rfl : k = 5 := by omega
      have hTl := hT.out.1
      have O1 := hO.out.1
      have hG1 := hG.out.1
      go_wp2_with fail
      refine (l01Next_any p 4 _ hS.out.1 (by omega)).mono ?_
      rintro e_ w2 ⟨m, rfl, m0, m1, S2, g2⟩
      have O2 := O1.grownP g2 hp
      obtain ⟨q, rfl⟩ : ∃ q : Nat, m = q := ⟨m.toNat, by omega⟩
      have hq3 : q ≤ 3 := by omega
      have HO := Lib.hid (show OwnR w2 w.heap.size w2.heap.size (.slice (some ⟨g, 0, none⟩) T.length c) T.length T vs from by rw [hTl]; exact ⟨O2.len, O2.vlen, O2.row, O2.sg, fun i u k h1 h2 => ⟨Nat.lt_of_lt_of_le (O2.lo i u k h1 h2).1 g2.size, (O2.lo i u k h1 h2).2⟩, fun k hk => Nat.lt_of_lt_of_le (O2.vlo k hk) g2.size, O2.apart⟩)
      have HS := Lib.hid S2
      have HG := Lib.hid (grown_trans hG1 g2)
      have HTT := Lib.hid (show 5 ≤ T.length ∧ T.length + q ≤ 8 ∧ ShortR T from ⟨by omega, by omega, hT.out.2⟩)
      clear O1 O2 hG1 g2 S2 hO hG hS m0 m1 hk hlt
      go_wp2
      rename World => wo
      go_loopw [3, 6] (fun rv i wr => ∃ (k g c : Nat) (T : List Rl) (vs : List Value), i = .int .i64 k ∧ rv = .slice (some ⟨g, 0, none⟩) T.length c ∧ Hid (5 ≤ T.length ∧ T.length + k ≤ 8 ∧ ShortR T) ∧ Hid (Src wr p) ∧ Hid (OwnR wr w.heap.size wr.heap.size (.slice (some ⟨g, 0, none⟩) T.length c) T.length T vs) ∧ Hid (w.grownBy wr (some p))) (fun _ i _ => (intOf i).toNat)
      case atStart => exact ⟨q, g, c, T, vs, rfl, by rw [hTl], HTT, HS, HO, HG⟩
      case round =>
        clear HS HO HG HTT hT hTl
        obtain ⟨k, g, c, T, vs, rfl, rfl, hT, hS, hO, hG⟩ := hrel
        obtain ⟨ht5, ht8, hts⟩ := hT.out
        by_cases hlt : 0 < k
        · have hj0 : (0 : Int) < (k : Int) := by omega
          have ek : IntKind.i64.wrap ((k : Int) - 1) = ((k - 1 : Nat) : Int) := by rw [IntWalk.i64_in _ (by omega)]; omega
          go_wp2_with fail
          refine (l04DrawRule_any p _ hS.out).mono ?_
          rintro e_ w3 ⟨u, rs, x, rfl, hx, U3, S3, g3⟩
          have O3 := hO.out.grownP g3 hp
          have hww := hG.out.size
          have G3 := Lib.hid (grown_trans hG.out g3)
          obtain ⟨Au, cu, rfl, xu⟩ := own_ints_ U3
          have R3 := OwnRules.reads ⟨vs, O3⟩
          have hsz3 := g3.size
          clear hG hS g3
          go_wp2_with fail
          refine (AddRule_spec _ _ _ _ _ _ _ T rs x _ R3 xu (by unfold maxLen; omega)).mono ?_
          rintro e_ w4 ⟨v4, rfl, ⟨vs4, O4⟩, h4⟩
          have HS := Lib.hid (S3.below h4)
          have HG := Lib.hid (grown_trans G3.out (grown_below h4))
          have hz34 := h4.size
          by_cases hcd : arCode T rs x = 0
          · obtain ⟨a1, a2, a3⟩ := ar_short hcd hts hx
            obtain ⟨g4, c4, hv4⟩ := own_shape2 O4.row (by omega)
            subst hv4
            have HO := Lib.hid (O4.mono (show w.heap.size ≤ w3.heap.size by omega))
            have HT := Lib.hid (show 5 ≤ (arList T rs x).length ∧ (arList T rs x).length + (k - 1) ≤ 8 ∧ ShortR (arList T rs x) from ⟨by omega, by omega, a1⟩)
            rw [hcd]
            clear O4 h4 S3 O3 R3 xu U3 hO hT a1 a2 a3 hcd hz34 hsz3 ht5 ht8
            generalize arList T rs x = T4 at *
            go_wp2
            go_roundw
            case rel => exact ⟨k - 1, g4, c4, T4, vs4, by first | rfl | exact congrArg _ ek | go_num, rfl, HT, HS, HO, HG⟩
            case measure => simp [intOf]; omega
          · have hcd2 : (arCode T rs x == 0) = false := by simpa using hcd
            have HO := Lib.hid (O3.below h4)
            have HO2 := Lib.hid (show OwnR w4 w.heap.size w4.heap.size (.slice (some ⟨g, 0, none⟩) T.length c) T.length T vs from ⟨HO.out.len, HO.out.vlen, HO.out.row, HO.out.sg, fun i u k h1 h2 => ⟨by have := (HO.out.lo i u k h1 h2).1; omega, (HO.out.lo i u k h1 h2).2⟩, fun k hk => by have := HO.out.vlo k hk; omega, HO.out.apart⟩)
            have HT := Lib.hid (show 5 ≤ T.length ∧ T.length + (k - 1) ≤ 8 ∧ ShortR T from ⟨by omega, by omega, hts⟩)
            clear O4 h4 S3 O3 R3 xu U3 hO HO hcd hz34 hsz3 hT
            generalize arCode T rs x = cd at *
            generalize arList T rs x = T4 at *
            go_wp2
            go_roundw
            case rel => exact ⟨k - 1, g, c, T, vs, by first | rfl | exact congrArg _ ek | go_num, rfl, HT, HS, HO2, HG⟩
            case measure => simp [intOf]; omega
        · obtain rfl : k = 0 := by omega
          go_wp2
          go_ret
          exact ⟨g, c, T, vs, rfl, ht5, by omega, hts, hO.out, hS.out, hG.out⟩
end Go.Proofs.YtjgcbnngjfchhaaDoor
